/-
  append of one row that was just made.
-/
import Derived.Test.YtchnejfdompfpaaRows_
import Derived.Test.YtchnejfdompfpaaInfo
namespace Go.Proofs.Ytchnejfdompfpaa
open Go.RowKit

section
variable {P : Program} {ops : Array Oper} {rest : List Oper} {o : Oper} {a : Act} {Q : Exit → Act → World → Prop}
theorem wpList_append_row (w0 : World) {base : Nat} {e : TypeId} {size : Nat} {v : Value} {n : Nat} {xs : List Value} (hown : w0.ownsRow base e size v n xs) {T : TypeId} {cs : Array Value} {z : Value} {bytes : Nat}
    (t : TypeId) (ht : P.underlying t = some (.slice e)) (hinfo : (P.info? e).map (fun i => (i.zero, i.size, i.bytes)) = some (some z, size, bytes)) (hone : cs.toList.all Value.oneCell' = true)
    (hzs : z.cells.size = size) (hsz : 0 < size) (hby : bytes ≤ 128) (hcs : cs.size = size) (hn : n < 1000000000000) (hbase : base ≤ w0.heap.size)
    (hgd : o.guard = none) (s x : Operand) (ho : o.op = .call { callee := .builtin .append, args := #[s, x], argTypes := #[t, t] }) (hs : a.eval s = v) (hx : a.eval x = .slice (some ⟨w0.heap.size, 0, none⟩) 1 1)
    (h : ∀ v' w', w'.ownsRow base e size v' (n + 1) (xs ++ cs.toList) → Chg (fun k => some k = v.ownBlock) w0 w' → wpList P ops Q rest (a.put o.dst v') w') :
    wpList P ops Q (o :: rest) a (w0.alloc (.cells cs T)) := by
  obtain ⟨i, hi, h0, h1, h2⟩ : ∃ i, P.info? e = some i ∧ i.zero = some z ∧ i.size = size ∧ i.bytes = bytes := by
    cases hp : P.info? e with
    | none => rw [hp] at hinfo; cases hinfo
    | some i =>
      rw [hp] at hinfo
      simp only [Option.map_some, Option.some.injEq, Prod.mk.injEq] at hinfo
      exact ⟨i, rfl, hinfo.1, hinfo.2.1, hinfo.2.2⟩
  have hA := At.new w0 T cs
  refine wpList_append_own _ hgd s x t ho base e i z size bytes ht hi h0 h1 h2 hzs hsz v n xs hs (hown.alloc _) ⟨w0.heap.size, 0, none⟩ 1 1 cs.toList hx (by simp [hcs]) (fun j u hu => ?_) (fun u hu => List.all_eq_true.1 hone u hu) (by unfold maxLen; omega) ?_ ?_ (fun v' w' h3 h4 _ => h v' w' h3 ?_)
  · have hq := hA.cell j
    rw [Go.WideShapes.add_plain, Nat.zero_add, hq]
    simpa using hu
  · have : (n + 1) * bytes ≤ 1000000000000 * 128 := Nat.mul_le_mul (by omega) hby
    omega
  · have := ((Ext.refl w0).alloc (.cells cs T)).size
    omega
  · exact ((Ext.refl w0).alloc (.cells cs T)).chg_trans (Chg.of_grown h4)
theorem wpList_append_row2 (w0 : World) {base : Nat} {e : TypeId} {size : Nat} {v : Value} {n : Nat} {xs : List Value} (hown : w0.ownsRow base e size v n xs) {T : TypeId} {cs : Array Value} {z : Value} {bytes : Nat}
    (t : TypeId) (ht : P.underlying t = some (.slice e)) (hinfo : (P.info? e).map (fun i => (i.zero, i.size, i.bytes)) = some (some z, size, bytes)) (hone : cs.toList.all Value.oneCell' = true)
    (hzs : z.cells.size = size) (hsz : 0 < size) (hby : bytes ≤ 128) (hcs : cs.size = size) (hn : n < 1000000000000) (hbase : base ≤ w0.heap.size)
    (hgd : o.guard = none) (s x : Operand) (ho : o.op = .call { callee := .builtin .append, args := #[s, x], argTypes := #[t, t] }) (hs : a.eval s = v) (hx : a.eval x = .slice (some ⟨w0.heap.size, 0, none⟩) 1 1)
    (h : ∀ v' w', w'.ownsRow base e size v' (n + 1) (xs ++ cs.toList) → Chg (fun k => some k = v.ownBlock) w0 w' → (v'.ownBlock = v.ownBlock ∨ v'.ownBlock = some (w0.heap.size + 1)) → wpList P ops Q rest (a.put o.dst v') w') :
    wpList P ops Q (o :: rest) a (w0.alloc (.cells cs T)) := by
  obtain ⟨i, hi, h0, h1, h2⟩ : ∃ i, P.info? e = some i ∧ i.zero = some z ∧ i.size = size ∧ i.bytes = bytes := by
    cases hp : P.info? e with
    | none => rw [hp] at hinfo; cases hinfo
    | some i =>
      rw [hp] at hinfo
      simp only [Option.map_some, Option.some.injEq, Prod.mk.injEq] at hinfo
      exact ⟨i, rfl, hinfo.1, hinfo.2.1, hinfo.2.2⟩
  have hA := At.new w0 T cs
  refine wpList_append_own_at _ hgd s x t ho base e i z size bytes ht hi h0 h1 h2 hzs hsz v n xs hs (hown.alloc _) ⟨w0.heap.size, 0, none⟩ 1 1 cs.toList hx (by simp [hcs]) (fun j u hu => ?_) (fun u hu => List.all_eq_true.1 hone u hu) (by unfold maxLen; omega) ?_ ?_ (fun v' w' h3 h4 _ h5 => h v' w' h3 ?_ (by simpa using h5))
  · have hq := hA.cell j
    rw [Go.WideShapes.add_plain, Nat.zero_add, hq]
    simpa using hu
  · have : (n + 1) * bytes ≤ 1000000000000 * 128 := Nat.mul_le_mul (by omega) hby
    omega
  · have := ((Ext.refl w0).alloc (.cells cs T)).size
    omega
  · exact ((Ext.refl w0).alloc (.cells cs T)).chg_trans (Chg.of_grown h4)
end
theorem flat_of : ∀ {rows : List (List Value)} {size : Nat} (_ : ∀ r ∈ rows, r.length = size) {j : Nat} {u : Value}, rows.flatten[j]? = some u → ∃ i r k, rows[i]? = some r ∧ r[k]? = some u ∧ j = i * size + k
  | [], _, _, j, u, h => by simp at h
  | r :: rs, size, hl, j, u, h => by
    have hr := hl r (List.mem_cons_self ..)
    rw [List.flatten_cons] at h
    by_cases hj : j < r.length
    · rw [List.getElem?_append_left hj] at h
      exact ⟨0, r, j, rfl, h, by omega⟩
    · rw [List.getElem?_append_right (by omega)] at h
      obtain ⟨i, r', k, h1, h2, h3⟩ := flat_of (fun r hr => hl r (List.mem_cons_of_mem _ hr)) h
      exact ⟨i + 1, r', k, by rw [List.getElem?_cons_succ]; exact h1, h2, by rw [Nat.add_mul]; omega⟩
theorem flat_len : ∀ {rows : List (List Value)} {size : Nat} (_ : ∀ r ∈ rows, r.length = size), rows.flatten.length = rows.length * size
  | [], _, _ => by simp
  | r :: rs, size, hl => by
    rw [List.flatten_cons, List.length_append, flat_len (fun r hr => hl r (List.mem_cons_of_mem _ hr)), hl r (List.mem_cons_self ..), List.length_cons, Nat.add_mul]; omega
theorem Sl.sln {w : World} {v : Value} {xs : List Value} (h : Sl w v xs) : Sln w v 1 (xs.map fun x => [x]) := by
  obtain ⟨A, c, hv, hx⟩ := h
  refine ⟨A, c, by rw [hv, List.length_map], fun hn => ?_⟩
  obtain ⟨b, o, hA, hc⟩ := hx (fun e => hn (by rw [e]; rfl))
  refine ⟨b, o, hA, fun i row hi j x hj => ?_⟩
  rw [List.getElem?_map] at hi
  obtain ⟨y, hy, rfl⟩ := Option.map_eq_some_iff.1 hi
  cases j with
  | zero => cases hj; rw [Nat.mul_one, Nat.add_zero]; exact hc i _ hy
  | succ j => simp at hj
theorem flat_ones (xs : List Value) : (xs.map fun x => [x]).flatten = xs := by
  induction xs with
  | nil => rfl
  | cons x xs ih => rw [List.map_cons, List.flatten_cons, ih]; rfl
section
variable {P : Program} {ops : Array Oper} {rest : List Oper} {o : Oper} {a : Act} {Q : Exit → Act → World → Prop}
theorem wpList_append_sln {w : World} {base : Nat} {e : TypeId} {size : Nat} {v : Value} {n : Nat} {xs : List Value} (hown : w.ownsRow base e size v n xs) {vx : Value} {rows : List (List Value)} (hS : Sln w vx size rows)
    (hrs : ∀ r ∈ rows, r.length = size) (hone : ∀ r ∈ rows, r.all Value.oneCell' = true) {z : Value} {bytes : Nat}
    (t : TypeId) (ht : P.underlying t = some (.slice e)) (hinfo : (P.info? e).map (fun i => (i.zero, i.size, i.bytes)) = some (some z, size, bytes))
    (hzs : z.cells.size = size) (hsz : 0 < size) (hby : bytes ≤ 128) (hn : n + rows.length < 1000000000000) (hbase : base ≤ w.heap.size)
    (hgd : o.guard = none) (s x : Operand) (ho : o.op = .call { callee := .builtin .append, args := #[s, x], argTypes := #[t, t] }) (hs : a.eval s = v) (hx : a.eval x = vx)
    (h : ∀ v' w', w'.ownsRow base e size v' (n + rows.length) (xs ++ rows.flatten) → Chg (fun k => some k = v.ownBlock) w w' → wpList P ops Q rest (a.put o.dst v') w') :
    wpList P ops Q (o :: rest) a w := by
  obtain ⟨i, hi, h0, h1, h2⟩ : ∃ i, P.info? e = some i ∧ i.zero = some z ∧ i.size = size ∧ i.bytes = bytes := by
    cases hp : P.info? e with
    | none => rw [hp] at hinfo; cases hinfo
    | some i =>
      rw [hp] at hinfo
      simp only [Option.map_some, Option.some.injEq, Prod.mk.injEq] at hinfo
      exact ⟨i, rfl, hinfo.1, hinfo.2.1, hinfo.2.2⟩
  have hby2 : (n + rows.length) * bytes ≤ 140737488355328 := by
    have : (n + rows.length) * bytes ≤ 1000000000000 * 128 := Nat.mul_le_mul (by omega) hby
    omega
  obtain ⟨A, c, rfl, hc⟩ := hS
  cases rows with
  | nil =>
    cases A with
    | none =>
      refine wpList_plain hgd fun K hK => ?_
      have hrun : (Builtin.append_ #[t, t] o.type #[v, .slice none 0 c]).run P w = .ok v w := by
        rcases hown.2 with ⟨rfl, rfl⟩ | ⟨g, cap, cur, rfl, _, _, hnc, _⟩
        · simp [Builtin.append_, run_underlying ht, sizeOf, typeInfo, hi, Builtin.lenOf, Builtin.firstCells]
        · simp [Builtin.append_, run_underlying ht, sizeOf, typeInfo, hi, Builtin.lenOf, Builtin.firstCells, hnc, storeCells]
      unfold Oper.wp
      simp [execOp, ho, resolve, invoke, builtin, hs, hx, hrun, Result.andThen]
      exact hK _ _ (h _ _ (by simpa using hown) (Chg.refl _ _))
    | some ad =>
      exact wpList_append_own _ hgd s x t ho base e i z size bytes ht hi h0 h1 h2 hzs hsz v n xs hs hown ad 0 c [] hx (by simp) (fun j u hu => by simp at hu) (fun u hu => by cases hu) (by unfold maxLen; simp at hn; omega) (by simpa using hby2) hbase (fun v' w' h3 h4 _ => h v' w' (by simpa using h3) (Chg.of_grown h4))
  | cons r rs =>
    obtain ⟨b, o', rfl, hcc⟩ := hc (by simp)
    refine wpList_append_own _ hgd s x t ho base e i z size bytes ht hi h0 h1 h2 hzs hsz v n xs hs hown ⟨b, o', none⟩ (r :: rs).length c (r :: rs).flatten hx (flat_len hrs) (fun j u hu => ?_) (fun u hu => ?_) (by unfold maxLen; omega) hby2 hbase (fun v' w' h3 h4 _ => h v' w' h3 (Chg.of_grown h4))
    · obtain ⟨i', r', k, e1, e2, e3⟩ := flat_of hrs hu
      have := hcc i' r' e1 k u e2
      rw [Go.WideShapes.add_plain, e3, ← Nat.add_assoc]
      exact this
    · obtain ⟨r', hr', hu'⟩ := List.mem_flatten.1 hu
      exact List.all_eq_true.1 (hone r' hr') u hu'
end
/-- what grew reaches no old block -/
theorem Chg.own_ext {w w' w0 : World} {base : Nat} {e : TypeId} {size : Nat} {v : Value} {n : Nat} {xs : List Value} (hE : Ext w0 w) (h : Chg (fun k => some k = v.ownBlock) w w') (hown : w.ownsRow base e size v n xs) (hb : w0.heap.size ≤ base) : Ext w0 w' :=
  Chg.mono (hE.chg_trans h) fun j hj h => by have := own_ge hown j h; omega
end Go.Proofs.Ytchnejfdompfpaa
