/-
  Regions that draw their order: operations that make a new value (append, a new slice); parts of a slice.
-/
import Derived.Test.YtchnejfdompfpaaRegG
import Derived.Test.YtchnejfdompfpaaAppRow
namespace Go.Proofs.Ytchnejfdompfpaa
open Go.RowKit

section
variable {P : Program} {ops : Array Oper} {Q : Exit → Act → World → Prop} {a0 : Act} {sp : List Sg} {G : (Nat → Value) → (Nat → Bool) → World → Prop} {j : Nat} {o : Oper}
theorem sg_new {k : Nat} (ho : ops[j]? = some o) (hg : o.guard = none) (hs : sp.getD j .any = .g k) (hk : ((List.range sp.length).all fun d => d == j || !(sp.getD d .any).isG k) = true)
    (h : ∀ γ L v a w, StIn ops a0 sp G j γ L v a w → ∃ x w', (execOp a.eval o).run P w = .ok (.value x) w' ∧ G (upd γ k x) (fun i => i == j || L i) w') : StepAt P ops Q a0 (sgφ sp) G j := by
  intro γ L v a w hdown hLj hneed hGw hφ hval h0
  obtain ⟨x, w', hrun, hG'⟩ := h γ L v a w (StIn.mk' hdown hLj hneed hGw hφ hval h0)
  refine wpOp_value ho hg hrun ⟨x, upd γ k x, rfl, ?_, fun d hd _ hh => sgφ_upd hk hd hh, hG'⟩
  unfold sgφ
  rw [hs]
  simp [upd]
theorem sg_g {k : Nat} (ho : ops[j]? = some o) (hg : o.guard = none) (hs : sp.getD j .any = .g k) (hG : ∀ γ L w, G γ L w → L j = false → G γ (fun i => i == j || L i) w)
    (h : ∀ γ L v a w, StIn ops a0 sp G j γ L v a w → (execOp a.eval o).run P w = .ok (.value (γ k)) w) : StepAt P ops Q a0 (sgφ sp) G j := by
  intro γ L v a w hdown hLj hneed hGw hφ hval h0
  refine wpOp_value ho hg (h γ L v a w (StIn.mk' hdown hLj hneed hGw hφ hval h0)) ⟨γ k, γ, rfl, ?_, fun d _ _ hh => hh, hG γ L w hGw hLj⟩
  unfold sgφ
  rw [hs]
theorem sg_callv' {x : Value} {f : FuncId} (ho : ops[j]? = some o) (hg : o.guard = none) (hs : sp.getD j .any = .val x)
    (h : ∀ γ L v a w, StIn ops a0 sp G j γ L v a w → ∃ args, (execOp a.eval o).run P w = .ok (.enter f args) w ∧ Calls P f args w fun r w' => r = .returned x ∧ G γ (fun i => i == j || L i) w') : StepAt P ops Q a0 (sgφ sp) G j := by
  intro γ L v a w hdown hLj hneed hGw hφ hval h0
  obtain ⟨args, hrun, hcall⟩ := h γ L v a w (StIn.mk' hdown hLj hneed hGw hφ hval h0)
  refine wpOp_calls ho hg hrun (hcall.mono ?_)
  rintro r w' ⟨rfl, hG'⟩
  refine ⟨x, rfl, x, γ, rfl, ?_, fun d _ _ hh => hh, hG'⟩
  unfold sgφ
  rw [hs]
theorem run_append_sln {a : Act} {w : World} {base : Nat} {e : TypeId} {size : Nat} {v : Value} {n : Nat} {xs : List Value} (hown : w.ownsRow base e size v n xs) {vx : Value} {rows : List (List Value)} (hS : Sln w vx size rows)
    (hrs : ∀ r ∈ rows, r.length = size) (hone : ∀ r ∈ rows, r.all Value.oneCell' = true) {z : Value} {bytes : Nat}
    (t : TypeId) (ht : P.underlying t = some (.slice e)) (hinfo : (P.info? e).map (fun i => (i.zero, i.size, i.bytes)) = some (some z, size, bytes))
    (hzs : z.cells.size = size) (hsz : 0 < size) (hby : bytes ≤ 128) (hn : n + rows.length < 1000000000000) (hbase : base ≤ w.heap.size)
    (s x : Operand) (ho : o.op = .call { callee := .builtin .append, args := #[s, x], argTypes := #[t, t] }) (hs : a.eval s = v) (hx : a.eval x = vx) :
    ∃ v' w', (execOp a.eval o).run P w = .ok (.value v') w' ∧ w'.ownsRow base e size v' (n + rows.length) (xs ++ rows.flatten) ∧ Chg (fun k => some k = v.ownBlock) w w' := by
  obtain ⟨i, hi, h0, h1, h2⟩ : ∃ i, P.info? e = some i ∧ i.zero = some z ∧ i.size = size ∧ i.bytes = bytes := by
    cases hp : P.info? e with
    | none => rw [hp] at hinfo; cases hinfo
    | some i =>
      rw [hp] at hinfo
      simp only [Option.map_some, Option.some.injEq, Prod.mk.injEq] at hinfo
      exact ⟨i, rfl, hinfo.1, hinfo.2.1, hinfo.2.2⟩
  have hby2 : (n + rows.length) * bytes ≤ 140737488355328 := by
    have : (n + rows.length) * bytes ≤ 1000000000000 * 128 := Nat.mul_le_mul (by omega) hby
    omega
  obtain ⟨A, c, rfl, hc⟩ := hS
  have fin : ∀ v' w', (Builtin.append_ #[t, t] o.type #[v, .slice A rows.length c]).run P w = .ok v' w' → (execOp a.eval o).run P w = .ok (.value v') w' := fun v' w' hrun => by
    unfold execOp
    simp only [ho, resolve, invoke, builtin, Sem.run_bind, Sem.run_pure, Result.andThen_ok, List.map_toArray, List.map_cons, List.map_nil, hs, hx, hrun]
  cases rows with
  | nil =>
    cases A with
    | none =>
      have hrun : (Builtin.append_ #[t, t] o.type #[v, .slice none 0 c]).run P w = .ok v w := by
        rcases hown.2 with ⟨rfl, rfl⟩ | ⟨g, cap, cur, rfl, _, _, hnc, _⟩
        · simp [Builtin.append_, run_underlying ht, sizeOf, typeInfo, hi, Builtin.lenOf, Builtin.firstCells]
        · simp [Builtin.append_, run_underlying ht, sizeOf, typeInfo, hi, Builtin.lenOf, Builtin.firstCells, hnc, storeCells]
      exact ⟨v, w, fin _ _ hrun, by simpa using hown, Chg.refl _ _⟩
    | some ad =>
      obtain ⟨v', w', hrun, h3, h4, _⟩ := run_append_own (P := P) (w := w) base t o.type e i z size bytes ht hi h0 h1 h2 hzs hsz v n xs hown ad 0 c [] (by simp) (fun j u hu => by simp at hu) (fun u hu => by cases hu) (by unfold maxLen; simp at hn; omega) (by simpa using hby2) hbase
      exact ⟨v', w', fin _ _ hrun, by simpa using h3, Chg.of_grown h4⟩
  | cons r rs =>
    obtain ⟨b, o', rfl, hcc⟩ := hc (by simp)
    obtain ⟨v', w', hrun, h3, h4, _⟩ := run_append_own (P := P) (w := w) base t o.type e i z size bytes ht hi h0 h1 h2 hzs hsz v n xs hown ⟨b, o', none⟩ (r :: rs).length c (r :: rs).flatten (flat_len hrs) (fun j u hu => by
      obtain ⟨i', r', k, e1, e2, e3⟩ := flat_of hrs hu
      have := hcc i' r' e1 k u e2
      rw [Go.WideShapes.add_plain, e3, ← Nat.add_assoc]
      exact this) (fun u hu => by
      obtain ⟨r', hr', hu'⟩ := List.mem_flatten.1 hu
      exact List.all_eq_true.1 (hone r' hr') u hu') (by unfold maxLen; omega) hby2 hbase
    exact ⟨v', w', fin _ _ hrun, h3, Chg.of_grown h4⟩

theorem ex_append {K : Value → World → Prop} {a : Act} {w : World} {base : Nat} {e : TypeId} {size : Nat} {v : Value} {n : Nat} {xs : List Value} (hown : w.ownsRow base e size v n xs) {vx : Value} {rows : List (List Value)} (hS : Sln w vx size rows)
    (hrs : ∀ r ∈ rows, r.length = size) (hone : ∀ r ∈ rows, r.all Value.oneCell' = true) {z : Value} {bytes : Nat}
    (t : TypeId) (ht : P.underlying t = some (.slice e)) (hinfo : (P.info? e).map (fun i => (i.zero, i.size, i.bytes)) = some (some z, size, bytes))
    (hzs : z.cells.size = size) (hsz : 0 < size) (hby : bytes ≤ 128) (hn : n + rows.length < 1000000000000) (hbase : base ≤ w.heap.size)
    (s x : Operand) (ho : o.op = .call { callee := .builtin .append, args := #[s, x], argTypes := #[t, t] }) (hs : a.eval s = v) (hx : a.eval x = vx)
    (h : ∀ v' w', w'.ownsRow base e size v' (n + rows.length) (xs ++ rows.flatten) → Chg (fun k => some k = v.ownBlock) w w' → K v' w') :
    ∃ v' w', (execOp a.eval o).run P w = .ok (.value v') w' ∧ K v' w' := by
  obtain ⟨v', w', h1, h2, h3⟩ := run_append_sln hown hS hrs hone t ht hinfo hzs hsz hby hn hbase s x ho hs hx
  exact ⟨v', w', h1, h v' w' h2 h3⟩
/-- the value of l[m:] -/
def loV (A : Option Addr) (n c m size : Nat) : Value := .slice (if c = m then A else A.map (·.add (m * size))) (n - m) (c - m)
theorem run_lo {t e : TypeId} {i : TypeInfo} {A : Option Addr} {n c m size : Nat} (ht : P.underlying t = some (.slice e)) (hi : P.info? e = some i) (hs : i.size = size) (hm : m ≤ n) (w : World) :
    (Instr.sliceAt t (.slice A n c) (some (.int .i64 (m : Int))) none none).run P w = .ok (loV A n c m size) w := by
  have h1 : (m : Int) ≤ (n : Int) := by omega
  subst hs
  simp [Instr.sliceAt, Instr.slice, Instr.sliceBounds, Instr.sliceBound, asIntOf, run_underlying ht, sizeOf, typeInfo, hi, Result.andThen, loV, hm]
theorem run_hi {t e : TypeId} {i : TypeInfo} {A : Option Addr} {n c m : Nat} (ht : P.underlying t = some (.slice e)) (hi : P.info? e = some i) (hm : m ≤ c) (w : World) :
    (Instr.sliceAt t (.slice A n c) none (some (.int .i64 (m : Int))) none).run P w = .ok (.slice A m c) w := by
  have h1 : (m : Int) ≤ (c : Int) := by omega
  have h2 : (if c = 0 then A else A.map (·.add 0)) = A := by
    split
    · rfl
    · cases A with
      | none => rfl
      | some a => simp [Addr.add]
  simp [Instr.sliceAt, Instr.slice, Instr.sliceBounds, Instr.sliceBound, asIntOf, run_underlying ht, sizeOf, typeInfo, hi, Result.andThen, hm]
  intro hc
  rw [if_neg hc] at h2
  exact h2
theorem Sln.lo {w : World} {A : Option Addr} {n c m size : Nat} {rows : List (List Value)} (h : Sln w (.slice A n c) size rows) (hnc : n ≤ c) : Sln w (loV A n c m size) size (rows.drop m) := by
  obtain ⟨A', c', hv, hx⟩ := h
  simp only [Value.slice.injEq] at hv
  obtain ⟨rfl, rfl, rfl⟩ := hv
  refine ⟨_, _, by rw [List.length_drop]; rfl, fun hn => ?_⟩
  have hlt : m < rows.length := by
    rcases Nat.lt_or_ge m rows.length with h | h
    · exact h
    · exact absurd (List.drop_of_length_le h) hn
  obtain ⟨b, o, rfl, hc⟩ := hx (fun e => by rw [e] at hlt; simp at hlt)
  refine ⟨b, o + m * size, by rw [if_neg (by omega)]; show some (Addr.add ⟨b, o, none⟩ (m * size)) = _; rw [Go.WideShapes.add_plain], fun i row hi j x hj => ?_⟩
  rw [List.getElem?_drop] at hi
  have := hc (m + i) row hi j x hj
  rw [show o + m * size + i * size + j = o + (m + i) * size + j by rw [Nat.add_mul]; omega]
  exact this
/-- what a new slice and two appends leave -/
def GApp (W : World) (e : TypeId) (size j0 j1 j2 n1 n2 : Nat) (xs ys : List Value) (γ : Nat → Value) (L : Nat → Bool) (w : World) : Prop :=
  if L j2 = true then w.ownsRow W.heap.size e size (γ 2) (n1 + n2) (xs ++ ys) ∧ Ext W w else if L j1 = true then w.ownsRow W.heap.size e size (γ 1) n1 xs ∧ Ext W w
  else if L j0 = true then w.ownsRow W.heap.size e size (γ 0) 0 [] ∧ Ext W w else Ext W w
theorem GApp.keep {W : World} {e : TypeId} {size j0 j1 j2 n1 n2 j : Nat} {xs ys : List Value} (h0 : j0 ≠ j) (h1 : j1 ≠ j) (h2 : j2 ≠ j) : ∀ γ L w, GApp W e size j0 j1 j2 n1 n2 xs ys γ L w → L j = false → GApp W e size j0 j1 j2 n1 n2 xs ys γ (fun i => i == j || L i) w := by
  intro γ L w h _
  unfold GApp at *
  have e0 : (j0 == j) = false := by simp [h0]
  have e1 : (j1 == j) = false := by simp [h1]
  have e2 : (j2 == j) = false := by simp [h2]
  simpa [e0, e1, e2] using h
theorem GApp.ext {W : World} {e : TypeId} {size j0 j1 j2 n1 n2 : Nat} {xs ys : List Value} {γ : Nat → Value} {L : Nat → Bool} {w : World} (h : GApp W e size j0 j1 j2 n1 n2 xs ys γ L w) : Ext W w := by
  unfold GApp at h
  split at h
  · exact h.2
  · split at h
    · exact h.2
    · split at h
      · exact h.2
      · exact h
end
end Go.Proofs.Ytchnejfdompfpaa
