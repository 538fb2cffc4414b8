/-
  Part 21 of what the law leans on.
-/
import Derived.Test.YtiojjokfeknhcaaGreatSB6
import Derived.Test.YtiojjokfeknhcaaGreatSB14
import Derived.Test.YtiojjokfeknhcaaGreatSB15
import Derived.Test.YtiojjokfeknhcaaGreatSB20
set_option maxRecDepth 100000
set_option maxHeartbeats 16000000
set_option linter.unusedVariables false
set_option linter.unusedSimpArgs false
set_option linter.unusedSectionVars false
namespace Go.Proofs.YtiojjokfeknhcaaGreat
open Go.RowKit Go.Sort
theorem jobs_cells {w : World} {A : Option Addr} {n cp : Nat} {J : List Jb} {base : Nat} (h : w.ownsRow base 50 4 (.slice A n cp) n (jobsV J)) (hn : n = J.length) {k : Nat} {j : Jb} (hj : J[k]? = some j) :
    ∃ g, A = some ⟨g, 0, none⟩ ∧ base ≤ g ∧ g < w.heap.size ∧ w.cell? ⟨g, k * 4, none⟩ = some (.int .i64 j.kind) ∧ w.cell? ⟨g, k * 4 + 1, none⟩ = some (.int .u64 (j.blob : Int)) ∧ w.cell? ⟨g, k * 4 + 2, none⟩ = some (.int .i64 j.pool) ∧ w.cell? ⟨g, k * 4 + 3, none⟩ = some (.int .i64 j.vol) := by
  have hk : k < J.length := (List.getElem?_eq_some_iff.1 hj).1
  obtain ⟨g, c, e, hb, hl, _⟩ := own_some h (by omega)
  injection e with e1 e2 e3
  subst e1
  have hS : Sln w (.slice (some ⟨g, 0, none⟩) n cp) 4 (J.map Jb.cells) := Sln.of_own h (fun r hr => by obtain ⟨s, _, rfl⟩ := List.mem_map.1 hr; rfl) (by rw [List.length_map, hn])
  have hg : (J.map Jb.cells)[k]? = some j.cells := by rw [List.getElem?_map, hj]; rfl
  have hc := sln_get hS hg
  have h0 := hc 0 _ rfl
  have h1 := hc 1 _ rfl
  have h2 := hc 2 _ rfl
  have h3 := hc 3 _ rfl
  simp only [Nat.zero_add, Nat.add_zero] at h0 h1 h2 h3
  exact ⟨g, rfl, hb, hl, h0, h1, h2, h3⟩
end Go.Proofs.YtiojjokfeknhcaaGreat
namespace Go.Proofs.YtiojjokfeknhcaaGreat
open Go.ChangeShapes Go.WideShapes Go.ChangeAt Go.RowKit
theorem spots_of_trod {H : Type} {enc : TypeId × Value → H} {W : World} {k : Nat} {v : Value} {y : DataW H × List MemPlace}
    (hf : DataW.trod enc Tryz.prog W 0 (fun _ => true) true k 23 [v] = some y) :
    ∃ l : List Spot, (Sln W v 2 (l.map Spot.cells) ∧ ∃ A c, v = .slice A (l.map Spot.cells).length c ∧ (l.map Spot.cells).length ≤ c ∧ c ≤ maxLen ∧ (A = none → c = 0)) ∧ (∀ x ∈ l, x.Ok) ∧ l.length ≤ maxLen := by
  rcases Go.Deep.open_slice Tryz.underlying23 hf with ⟨hcs, _⟩ | ⟨a, len, cap, m, n, D, Pl, hcs, _, hl, hm, hmm, _, hx⟩
  · simp only [List.cons.injEq, and_true] at hcs
    rw [hcs]
    exact ⟨[], ⟨⟨none, 0, rfl, fun h => absurd rfl h⟩, none, 0, rfl, Nat.le_refl _, Nat.zero_le _, fun _ => rfl⟩, by simp, Nat.zero_le _⟩
  · simp only [List.cons.injEq, and_true] at hcs
    rw [hcs]
    have hlm : len ≤ m := by rw [hmm]; split <;> omega
    have each : ∀ i, i < len → ∃ x : Spot, (∀ (j : Nat) (u : Value), x.cells[j]? = some u → W.cell? (a.add (i * 2 + j)) = some u) ∧ x.Ok := fun i hi => by
      obtain ⟨cs', h1, h2⟩ := hx i (by omega)
      rw [show Tryz.prog.cellsOf 55 = 2 by kernel_rfl] at h1
      obtain ⟨_, hlen, hcell⟩ := World.cells?_some h1
      obtain ⟨x, rfl, hok⟩ := one_spot h2
      refine ⟨x, fun j u hj => ?_, hok⟩
      have hj7 : j < 2 := by
        have := (List.getElem?_eq_some_iff.1 hj).1
        exact this
      have := hcell j hj7
      rw [Go.Deep.add_add] at this
      rw [this, hj]
    haveI : Inhabited Spot := ⟨⟨false, 0⟩⟩
    obtain ⟨f, hfx⟩ := Go.Deep.choose_lt each
    refine ⟨(List.range len).map f, ⟨⟨some a, cap, by simp, fun hne => ?_⟩, some a, cap, by simp, by simp; omega, by omega, fun h => by cases h⟩, ?_, by simp; omega⟩
    · have hpos : 0 < len := by
        rcases Nat.eq_zero_or_pos len with h0 | h0
        · subst h0; exact absurd rfl hne
        · exact h0
      obtain ⟨b, off, spot⟩ := a
      have hspot : spot = none := by
        have := (hfx 0 hpos).1 0 _ rfl
        simpa [Addr.add] using World.cell?_spot this
      subst hspot
      refine ⟨b, off, rfl, fun i row hi j u hj => ?_⟩
      rw [List.map_map, List.getElem?_map] at hi
      by_cases hlt : i < len
      · rw [List.getElem?_range hlt] at hi
        simp only [Option.map_some, Option.some.injEq, Function.comp_apply] at hi
        subst hi
        have := (hfx i hlt).1 j u hj
        rw [Go.WideShapes.add_plain] at this
        rw [Nat.add_assoc]
        exact this
      · rw [List.getElem?_eq_none (by simpa using hlt)] at hi
        cases hi
    · intro x hx
      obtain ⟨i, hi, rfl⟩ := List.mem_map.1 hx
      exact (hfx i (List.mem_range.1 hi)).2
theorem bools_of_trod {H : Type} {enc : TypeId × Value → H} {W : World} {k : Nat} {v : Value} {y : DataW H × List MemPlace}
    (hf : DataW.trod enc Tryz.prog W 0 (fun _ => true) true k 25 [v] = some y) : ∃ l : List Bool, SlC W v (l.map Value.bool) := by
  suffices h : ∃ l : List Bool, Sl W v (l.map Value.bool) ∧ ∃ A c, v = .slice A l.length c ∧ l.length ≤ c ∧ c ≤ maxLen by
    obtain ⟨l, h1, h2⟩ := h
    exact ⟨l, h1, by rw [List.length_map]; exact h2⟩
  rcases Go.Deep.open_slice Tryz.underlying25 hf with ⟨hcs, _⟩ | ⟨a, len, cap, m, n, D, Pl, hcs, _, hl, hm, hmm, _, hx⟩
  · simp only [List.cons.injEq, and_true] at hcs
    rw [hcs]
    exact ⟨[], Sl.nil _ _, _, _, rfl, Nat.le_refl _, Nat.zero_le _⟩
  · simp only [List.cons.injEq, and_true] at hcs
    rw [hcs]
    have hlm : len ≤ m := by rw [hmm]; split <;> omega
    have each : ∀ i, i < len → ∃ x : Bool, W.cell? (a.add i) = some (.bool x) := fun i hi => by
      obtain ⟨cs', h1, h2⟩ := hx i (by omega)
      rw [show Tryz.prog.cellsOf 4 = 1 by kernel_rfl] at h1
      obtain ⟨_, hlen, hcell⟩ := World.cells?_some h1
      obtain ⟨x, e0, _⟩ := DataW.trod_bool Tryz.underlying4 h2
      have := hcell 0 (by omega)
      rw [Go.Deep.add_add, Nat.mul_one, Nat.add_zero] at this
      exact ⟨x, by rw [this, e0]; rfl⟩
    obtain ⟨f, hfx⟩ := Go.Deep.choose_lt each
    refine ⟨(List.range len).map f, ⟨some a, cap, by simp, fun hne => ?_⟩, some a, cap, by simp, by simp; omega, by omega⟩
    have hpos : 0 < len := by
      rcases Nat.eq_zero_or_pos len with h0 | h0
      · subst h0; exact absurd rfl hne
      · exact h0
    obtain ⟨b, off, spot⟩ := a
    have hspot : spot = none := by
      have := hfx 0 hpos
      simpa [Addr.add] using World.cell?_spot this
    subst hspot
    refine ⟨b, off, rfl, fun i u hi => ?_⟩
    rw [List.map_map, List.getElem?_map] at hi
    by_cases hlt : i < len
    · rw [List.getElem?_range hlt] at hi
      simp only [Option.map_some, Option.some.injEq, Function.comp_apply] at hi
      subst hi
      have := hfx i hlt
      rw [Go.WideShapes.add_plain] at this
      exact this
    · rw [List.getElem?_eq_none (by simpa using hlt)] at hi
      cases hi
theorem open_world {H : Type} {enc : TypeId × Value → H} {W : World} {r : Reach} {b0 : Nat} {v : Value} {d : DataW H} {p : List MemPlace}
    (hv : Value.okWide Tryz.prog W r b0 27 v) (h : DataW.Trod enc Tryz.prog W 0 (fun _ => true) true 27 v d p) :
    ∃ (dv vv iv ldv lvv : Value) (dl vl : List Spot) (il : List Int) (ldl lvl : List Bool) (cp kp pc rs : Int), v = .agg #[dv, vv, iv, ldv, lvv, .int .i64 cp, .int .i64 kp, .int .i64 pc, .int .i64 rs] ∧ SlnC W dv 2 (dl.map Spot.cells) ∧ SlnC W vv 2 (vl.map Spot.cells) ∧ SlC W iv (il.map (Value.int .i64)) ∧ SlC W ldv (ldl.map Value.bool) ∧ SlC W lvv (lvl.map Value.bool) := by
  obtain ⟨cs, rfl, hsz⟩ := okWide_struct Tryz.underlying27 hv
  obtain ⟨fuel, hf0⟩ := h
  obtain ⟨xs, k, _, hx, hl, hxl, hf⟩ := DataW.trod_struct Tryz.underlying27 hf0
  rw [show Tryz.prog.cellsOf 27 = 9 by kernel_rfl] at hl
  obtain ⟨l⟩ := cs
  have hl' : l.length = 9 := hl
  match l, hl' with
  | [v0, v1, v2, v3, v4, v5, v6, v7, v8], _ =>
    have get : ∀ i : Nat, i < 9 → ∃ y, xs[i]? = some y := fun i hi => ⟨xs[i]'(by rw [hxl]; exact hi), List.getElem?_eq_getElem _⟩
    obtain ⟨y0, g0⟩ := get 0 (by omega)
    obtain ⟨y1, g1⟩ := get 1 (by omega)
    obtain ⟨y2, g2⟩ := get 2 (by omega)
    obtain ⟨y3, g3⟩ := get 3 (by omega)
    obtain ⟨y4, g4⟩ := get 4 (by omega)
    obtain ⟨y5, g5⟩ := get 5 (by omega)
    obtain ⟨y6, g6⟩ := get 6 (by omega)
    obtain ⟨y7, g7⟩ := get 7 (by omega)
    obtain ⟨y8, g8⟩ := get 8 (by omega)
    generalize hfs : (#[_, _, _, _, _, _, _, _, _] : Array Field) = fs at hf hxl
    have key : ∀ (i t o : Nat), (∃ f, fs[i]? = some f ∧ f.type = t ∧ f.offset = o) → Tryz.prog.cellsOf t = 1 → DataW.trod enc Tryz.prog W 0 (fun _ => true) true k t (([v0, v1, v2, v3, v4, v5, v6, v7, v8].drop o).take 1) = xs[i]? := by
      rintro i t o ⟨f, hi, rfl, rfl⟩ hc
      rw [← hc]
      exact hf i f hi
    subst hfs
    have f0 : DataW.trod enc Tryz.prog W 0 (fun _ => true) true k 23 [v0] = some y0 := (key 0 23 0 ⟨_, rfl, rfl, rfl⟩ (by kernel_rfl)).trans g0
    have f1 : DataW.trod enc Tryz.prog W 0 (fun _ => true) true k 23 [v1] = some y1 := (key 1 23 1 ⟨_, rfl, rfl, rfl⟩ (by kernel_rfl)).trans g1
    have f2 : DataW.trod enc Tryz.prog W 0 (fun _ => true) true k 24 [v2] = some y2 := (key 2 24 2 ⟨_, rfl, rfl, rfl⟩ (by kernel_rfl)).trans g2
    have f3 : DataW.trod enc Tryz.prog W 0 (fun _ => true) true k 25 [v3] = some y3 := (key 3 25 3 ⟨_, rfl, rfl, rfl⟩ (by kernel_rfl)).trans g3
    have f4 : DataW.trod enc Tryz.prog W 0 (fun _ => true) true k 25 [v4] = some y4 := (key 4 25 4 ⟨_, rfl, rfl, rfl⟩ (by kernel_rfl)).trans g4
    have f5 : DataW.trod enc Tryz.prog W 0 (fun _ => true) true k 3 [v5] = some y5 := (key 5 3 5 ⟨_, rfl, rfl, rfl⟩ (by kernel_rfl)).trans g5
    have f6 : DataW.trod enc Tryz.prog W 0 (fun _ => true) true k 3 [v6] = some y6 := (key 6 3 6 ⟨_, rfl, rfl, rfl⟩ (by kernel_rfl)).trans g6
    have f7 : DataW.trod enc Tryz.prog W 0 (fun _ => true) true k 3 [v7] = some y7 := (key 7 3 7 ⟨_, rfl, rfl, rfl⟩ (by kernel_rfl)).trans g7
    have f8 : DataW.trod enc Tryz.prog W 0 (fun _ => true) true k 3 [v8] = some y8 := (key 8 3 8 ⟨_, rfl, rfl, rfl⟩ (by kernel_rfl)).trans g8
    obtain ⟨l0, h0, _⟩ := spots_of_trod f0
    obtain ⟨l1, h1, _⟩ := spots_of_trod f1
    obtain ⟨l2, h2, _⟩ := i64s_of_trod Tryz.underlying24 Tryz.underlying3 (by kernel_rfl) f2
    obtain ⟨l3, h3⟩ := bools_of_trod f3
    obtain ⟨l4, h4⟩ := bools_of_trod f4
    obtain ⟨a5, e5, _, w5⟩ := DataW.trod_int Tryz.underlying3 f5
    obtain ⟨a6, e6, _, w6⟩ := DataW.trod_int Tryz.underlying3 f6
    obtain ⟨a7, e7, _, w7⟩ := DataW.trod_int Tryz.underlying3 f7
    obtain ⟨a8, e8, _, w8⟩ := DataW.trod_int Tryz.underlying3 f8
    simp only [List.cons.injEq, and_true] at e5 e6 e7 e8
    subst e5 e6 e7 e8
    exact ⟨v0, v1, v2, v3, v4, l0, l1, l2, l3, l4, a5, a6, a7, a8, rfl, h0, h1, h2, h3, h4⟩
end Go.Proofs.YtiojjokfeknhcaaGreat
namespace Go.Proofs.YtiojjokfeknhcaaGreat
open Go.RowKit Go.Sort
theorem run_cut0 {P : Program} {t e : TypeId} {i : TypeInfo} {A : Option Addr} {n c : Nat} (ht : P.underlying t = some (.slice e)) (hi : P.info? e = some i) (w : World) :
    (Instr.sliceAt t (.slice A n c) none (some (.int .i64 0)) (some (.int .i64 0))).run P w = .ok (.slice A 0 0) w := by
  simp [Instr.sliceAt, Instr.slice, Instr.sliceBounds, Instr.sliceBound, asIntOf, run_underlying ht, sizeOf, typeInfo, hi, Result.andThen]
section
variable {P : Program} {o : Oper} {a : Act}
theorem run_append_cut {w : World} {e : TypeId} {size : Nat} (A : Option Addr) {vx : Value} {rows : List (List Value)} (hS : Sln w vx size rows) (hrs : ∀ r ∈ rows, r.length = size) (hone : ∀ r ∈ rows, r.all Value.oneCell' = true) {z : Value} {bytes : Nat}
    (t : TypeId) (ht : P.underlying t = some (.slice e)) (hinfo : (P.info? e).map (fun i => (i.zero, i.size, i.bytes)) = some (some z, size, bytes)) (hzs : z.cells.size = size) (hsz : 0 < size) (hby : bytes ≤ 128) (hn : rows.length < 1000000000000)
    (s x : Operand) (ho : o.op = .call { callee := .builtin .append, args := #[s, x], argTypes := #[t, t] }) (hs : a.eval s = .slice A 0 0) (hx : a.eval x = vx) :
    ∃ v' w', (execOp a.eval o).run P w = .ok (.value v') w' ∧ Ext w w' ∧ ((rows = [] ∧ v' = .slice A 0 0) ∨ w'.ownsRow w.heap.size e size v' rows.length rows.flatten) := by
  obtain ⟨i, hi, h0, h1, h2⟩ := info_parts hinfo
  have hby2 : (0 + rows.length) * bytes ≤ 140737488355328 := by
    have : (0 + rows.length) * bytes ≤ 1000000000000 * 128 := Nat.mul_le_mul (by omega) hby
    omega
  have fin : ∀ v' w', (Builtin.append_ #[t, t] o.type #[.slice A 0 0, vx]).run P w = .ok v' w' → (execOp a.eval o).run P w = .ok (.value v') w' := fun v' w' hrun => by
    unfold execOp
    simp only [ho, resolve, invoke, builtin, Sem.run_bind, Sem.run_pure, Result.andThen_ok, List.map_toArray, List.map_cons, List.map_nil, hs, hx, hrun]
  obtain ⟨X, c, rfl, hc⟩ := hS
  cases rows with
  | nil =>
    refine ⟨.slice A 0 0, w, fin _ _ ?_, Ext.refl w, .inl ⟨rfl, rfl⟩⟩
    cases A <;> cases X <;> simp [Builtin.append_, run_underlying ht, sizeOf, typeInfo, hi, Builtin.lenOf, Builtin.firstCells, storeCells, loadCells, loadCellsFrom]
  | cons r rs =>
    obtain ⟨b, o', rfl, hcc⟩ := hc (by simp)
    have hnews : ∀ j u, (r :: rs).flatten[j]? = some u → w.cell? ((⟨b, o', none⟩ : Addr).add j) = some u := fun j u hu => by
      obtain ⟨i', r', k, e1, e2, e3⟩ := flat_of hrs hu
      have := hcc i' r' e1 k u e2
      rw [Go.WideShapes.add_plain, e3, ← Nat.add_assoc]
      exact this
    have hfl : (r :: rs).flatten.length = (r :: rs).length * size := flat_len hrs
    obtain ⟨v', w', hrun, h3, h4, _⟩ := run_append_own (P := P) (w := w) w.heap.size t o.type e i z size bytes ht hi h0 h1 h2 hzs hsz (.slice none 0 0) 0 [] ⟨by simp, .inl ⟨rfl, rfl⟩⟩ ⟨b, o', none⟩ (r :: rs).length c (r :: rs).flatten hfl hnews (fun u hu => by
      obtain ⟨r', hr', hu'⟩ := List.mem_flatten.1 hu
      exact List.all_eq_true.1 (hone r' hr') u hu') (by unfold maxLen; omega) hby2 (Nat.le_refl _)
    rw [Nat.zero_add, List.nil_append] at h3
    have hE : Ext w w' := (Chg.of_grown h4).mono fun k _ h => by cases h
    refine ⟨v', w', fin _ _ ?_, hE, .inr h3⟩
    cases A with
    | none => exact hrun
    | some b' =>
      have hpos : 0 < (r :: rs).length := by simp
      have hl48 : (r :: rs).length * i.bytes ≤ 281474976710656 := by rw [h2]; rw [Nat.zero_add] at hby2; omega
      have e1 := run_append_nil (P := P) w t o.type e i z ht hi h0 ⟨b, o', none⟩ (r :: rs).length c (r :: rs).flatten (by rw [h1]; exact hfl) hnews hpos (by omega) hl48
      have e2 := run_append_grow (P := P) w t o.type e i z ht hi h0 b' 0 0 [] (by simp) (by simp) ⟨b, o', none⟩ (r :: rs).length c (r :: rs).flatten (by rw [h1]; exact hfl) hnews (by omega) (by omega) (by rw [Nat.zero_add, nextslicecap_zero hpos]; exact hl48)
      rw [e2]
      rw [e1] at hrun
      rw [← hrun]
      simp
theorem ex_append_cut {K : Value → World → Prop} {w : World} {e : TypeId} {size : Nat} (A : Option Addr) {vx : Value} {rows : List (List Value)} (hS : Sln w vx size rows) (hrs : ∀ r ∈ rows, r.length = size) (hone : ∀ r ∈ rows, r.all Value.oneCell' = true) {z : Value} {bytes : Nat}
    (t : TypeId) (ht : P.underlying t = some (.slice e)) (hinfo : (P.info? e).map (fun i => (i.zero, i.size, i.bytes)) = some (some z, size, bytes)) (hzs : z.cells.size = size) (hsz : 0 < size) (hby : bytes ≤ 128) (hn : rows.length < 1000000000000)
    (s x : Operand) (ho : o.op = .call { callee := .builtin .append, args := #[s, x], argTypes := #[t, t] }) (hs : a.eval s = .slice A 0 0) (hx : a.eval x = vx)
    (h : ∀ v' w', Ext w w' → ((rows = [] ∧ v' = .slice A 0 0) ∨ w'.ownsRow w.heap.size e size v' rows.length rows.flatten) → K v' w') :
    ∃ v' w', (execOp a.eval o).run P w = .ok (.value v') w' ∧ K v' w' := by
  obtain ⟨v', w', h1, h2, h3⟩ := run_append_cut A hS hrs hone t ht hinfo hzs hsz hby hn s x ho hs hx
  exact ⟨v', w', h1, h v' w' h2 h3⟩
end
def down (s : Spot) : Spot := ⟨false, s.free⟩
def downTo (l : List Spot) (k : Nat) : List Spot := (l.take k).map down ++ l.drop k
theorem downTo_all (l : List Spot) : downTo l l.length = l.map down := by
  unfold downTo
  rw [List.take_length, List.drop_length, List.append_nil]
theorem downTo_at {l : List Spot} {k : Nat} {s : Spot} (h : l[k]? = some s) : (downTo l k)[k]? = some s := by
  have hk : k < l.length := (List.getElem?_eq_some_iff.1 h).1
  unfold downTo
  rw [List.getElem?_append_right (by simp; omega)]
  simp only [List.length_map, List.length_take, Nat.min_eq_left (Nat.le_of_lt hk), Nat.sub_self, List.getElem?_drop, Nat.add_zero]
  exact h
theorem downTo_set {l : List Spot} {k : Nat} {s : Spot} (h : l[k]? = some s) : (downTo l k).set k (down s) = downTo l (k + 1) := by
  have hk : k < l.length := (List.getElem?_eq_some_iff.1 h).1
  have hd : l.drop k = s :: l.drop (k + 1) := by
    rw [List.drop_eq_getElem_cons hk]
    congr 1
    exact (List.getElem?_eq_some_iff.1 h).2
  unfold downTo
  rw [hd, List.take_add_one, h, List.set_append_right _ _ (by simp; omega)]
  simp only [List.length_map, List.length_take, Nat.min_eq_left (Nat.le_of_lt hk), Nat.sub_self, List.set_cons_zero, List.map_append, Option.toList_some, List.map_cons, List.map_nil, List.append_assoc, List.cons_append, List.nil_append]
theorem down_rows {l : List Spot} {k : Nat} {s : Spot} (h : l[k]? = some s) : (((downTo l k).map Spot.cells).flatten).set (k * 2) (.bool false) = ((downTo l (k + 1)).map Spot.cells).flatten := by
  have h1 : ((downTo l k).map Spot.cells)[k]? = some s.cells := by rw [List.getElem?_map, downTo_at h]; rfl
  have := flat_set (rows := (downTo l k).map Spot.cells) (size := 2) (fun r hr => by obtain ⟨x, _, rfl⟩ := List.mem_map.1 hr; rfl) (i := k) (k := 0) (.bool false) h1 (by decide)
  rw [Nat.add_zero] at this
  rw [this, ← downTo_set h, List.map_set]
  rfl
theorem down_cell {l : List Spot} {k : Nat} {s : Spot} (h : l[k]? = some s) : (((downTo l k).map Spot.cells).flatten)[k * 2]? = some (.bool s.up) := by
  have h1 : ((downTo l k).map Spot.cells)[k]? = some s.cells := by rw [List.getElem?_map, downTo_at h]; rfl
  have := flat_get (rows := (downTo l k).map Spot.cells) (size := 2) (fun r hr => by obtain ⟨x, _, rfl⟩ := List.mem_map.1 hr; rfl) (i := k) (j := 0) (x := .bool s.up) h1 rfl
  rwa [Nat.add_zero] at this
theorem down_up (l : List Spot) (i : Nat) : (spotAt (l.map down) i).up = false := by
  unfold spotAt
  rw [List.getD_eq_getElem?_getD, List.getElem?_map]
  cases l[i]? <;> rfl
def Wd.downs (W : Wd) : Wd := { W with disks := W.disks.map down, vols := W.vols.map down }
theorem Wd.downs_ok {W : Wd} (h : W.Ok) : W.downs.Ok where
  d := by show (W.disks.map down).length ≤ 6; rw [List.length_map]; exact h.d
  v := by show (W.vols.map down).length ≤ 12; rw [List.length_map]; exact h.v
  i := h.i
  ir := h.ir
  ld := h.ld
  lv := h.lv
  c := h.c
  k := h.k
theorem pspot_info : (Tryz.prog.info? 55).map (fun i => (i.zero, i.size, i.bytes)) = some (some (.agg #[.bool false, .int .i64 0]), 2, 16) := by kernel_rfl
def CutRes (w : World) (base : Nat) (v : Value) (l : List Spot) : Prop := (l = [] ∧ ∃ A, v = .slice A 0 0) ∨ w.ownsRow base 55 2 v l.length ((l.map Spot.cells).flatten)
theorem CutRes.sl {w : World} {base : Nat} {v : Value} {l : List Spot} (h : CutRes w base v l) : ∃ A c, v = .slice A l.length c := by
  rcases h with ⟨rfl, A, rfl⟩ | h
  · exact ⟨A, 0, rfl⟩
  · exact own_slc h
theorem CutRes.sln {w : World} {base : Nat} {v : Value} {l : List Spot} (h : CutRes w base v l) : Sln w v 2 (l.map Spot.cells) := by
  rcases h with ⟨rfl, A, rfl⟩ | h
  · exact ⟨A, 0, rfl, fun hn => absurd rfl hn⟩
  · exact Sln.of_own h (fun r hr => by obtain ⟨s, _, rfl⟩ := List.mem_map.1 hr; rfl) (by simp)
theorem CutRes.ext {w w' : World} {base : Nat} {v : Value} {l : List Spot} (h : CutRes w base v l) (hE : Ext w w') : CutRes w' base v l := h.imp id fun h => own_e h hE
theorem CutRes.keep {w w' : World} {base g : Nat} {t : TypeId} {cs : Array Value} {v : Value} {l : List Spot} (h : CutRes w base v l) (hA : At w g t cs) (ht : 55 ≠ t) (hC : Chg (· = g) w w') : CutRes w' base v l := h.imp id fun h => own_keep h hC fun _ hk e => own_apart' h hA ht _ hk e
structure GAp (W : World) (x off : Nat) (l : List Spot) (γ : Nat → Value) (L : Nat → Bool) (w : World) : Prop where
  ext : L 5 = false → Ext W w
  app : L 5 = true → L 7 = false → Ext W w ∧ CutRes w W.heap.size (γ 0) l
  fin : L 7 = true → ∃ w1, Ext W w1 ∧ CutRes w1 W.heap.size (γ 0) l ∧ w = w1.setCell ⟨x, off, none⟩ (γ 0)
theorem GAp.keep {W : World} {x off : Nat} {l : List Spot} {j : Nat} (h5 : 5 ≠ j) (h7 : 7 ≠ j) : ∀ γ L w, GAp W x off l γ L w → L j = false → GAp W x off l γ (fun i => i == j || L i) w := fun γ L w h _ => by
  have e5 : (5 == j) = false := by simpa using h5
  have e7 : (7 == j) = false := by simpa using h7
  exact ⟨fun hh => h.ext (by simpa [e5] using hh), fun hh h2 => h.app (by simpa [e5] using hh) (by simpa [e7] using h2), fun hh => h.fin (by simpa [e7] using hh)⟩
end Go.Proofs.YtiojjokfeknhcaaGreat
