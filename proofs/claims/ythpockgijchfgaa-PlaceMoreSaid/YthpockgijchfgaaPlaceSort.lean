/-
  Layer 15, plain: the sort by insertion that is stable.
-/
import Derived.Test.YthpockgijchfgaaPlacePlain
namespace Go.Proofs.Ythpockgijchfgaa

section
variable {l : List Spot}
theorem ahead_trans {a b c : Nat} (h : Ahead l a b) (h' : Ahead l b c) : Ahead l a c := by
  unfold Ahead at *; omega
/-- where x stands among what is sorted -/
def insAt (S : List Nat) (x : Nat) (rest : List Nat) (j : Nat) : List Nat := S.take j ++ x :: (S.drop j ++ rest)
theorem insAt_len {S rest : List Nat} {x j : Nat} (hj : j ≤ S.length) : (insAt S x rest j).length = S.length + rest.length + 1 := by
  unfold insAt; simp; omega
theorem insAt_x {S rest : List Nat} {x j : Nat} (hj : j ≤ S.length) : (insAt S x rest j)[j]? = some x := by
  unfold insAt
  rw [List.getElem?_append_right (by simp; omega), List.length_take, Nat.min_eq_left hj, Nat.sub_self]; rfl
theorem insAt_ahead {S rest : List Nat} {x j : Nat} (hj : j < S.length) : (insAt S x rest (j + 1))[j]? = some S[j] := by
  unfold insAt
  rw [List.getElem?_append_left (by simp; omega), List.getElem?_take, if_pos (by omega), List.getElem?_eq_getElem hj]
theorem insAt_swap {S rest : List Nat} {x j : Nat} (hj : j < S.length) : ((insAt S x rest (j + 1)).set (j + 1) S[j]).set j x = insAt S x rest j := by
  apply List.ext_getElem?
  intro i
  have hl : (insAt S x rest (j + 1)).length = S.length + rest.length + 1 := insAt_len (by omega)
  rw [List.getElem?_set, List.getElem?_set]
  simp only [List.length_set, hl]
  unfold insAt
  by_cases h1 : j = i
  · subst h1
    rw [if_pos rfl, if_pos (by omega), List.getElem?_append_right (by simp; omega), List.length_take, Nat.min_eq_left (by omega), Nat.sub_self]; rfl
  · rw [if_neg h1]
    by_cases h2 : j + 1 = i
    · subst h2
      rw [if_pos rfl, if_pos (by omega), List.getElem?_append_right (by simp; omega), List.length_take, Nat.min_eq_left (by omega), show j + 1 - j = 1 by omega, List.getElem?_cons_succ, List.getElem?_append_left (by simp; omega), List.getElem?_drop, Nat.add_zero, List.getElem?_eq_getElem hj]
    · rw [if_neg h2]
      by_cases h3 : i < j
      · rw [List.getElem?_append_left (by simp; omega), List.getElem?_append_left (by simp; omega), List.getElem?_take, List.getElem?_take, if_pos (by omega), if_pos h3]
      · rw [List.getElem?_append_right (by simp; omega), List.getElem?_append_right (by simp; omega), List.length_take, List.length_take, Nat.min_eq_left (by omega), Nat.min_eq_left (by omega)]
        obtain ⟨k, rfl⟩ : ∃ k, i = j + 2 + k := ⟨i - (j + 2), by omega⟩
        rw [show j + 2 + k - (j + 1) = k + 1 by omega, show j + 2 + k - j = k + 1 + 1 by omega, List.getElem?_cons_succ, List.getElem?_cons_succ]
        rw [List.drop_eq_getElem_cons hj, List.cons_append, List.getElem?_cons_succ]
theorem insAt_perm {S rest : List Nat} {x j : Nat} : (insAt S x [] j).Perm (S ++ [x]) := by
  unfold insAt
  rw [List.append_nil]
  have : (S.take j ++ x :: S.drop j).Perm (x :: (S.take j ++ S.drop j)) := List.perm_middle
  rw [List.take_append_drop] at this
  exact this.trans (List.perm_append_comm (l₁ := [x]) (l₂ := S))
theorem insAt_rest {S rest : List Nat} {x j : Nat} : insAt S x rest j = insAt S x [] j ++ rest := by unfold insAt; simp
theorem insAt_top {S rest : List Nat} {x : Nat} : insAt S x rest S.length = S ++ x :: rest := by unfold insAt; simp
/-- x is in its place -/
theorem insAt_sorted {S : List Nat} {x j : Nat} (hS : S.Pairwise (Ahead l)) (hx : ∀ y ∈ S, y < x) (hj : j ≤ S.length) (h1 : ∀ y ∈ S.drop j, (spotAt l y).free < (spotAt l x).free)
    (h2 : ∀ k, j = k + 1 → ∀ y, S[k]? = some y → ¬ (spotAt l y).free < (spotAt l x).free) : (insAt S x [] j).Pairwise (Ahead l) := by
  unfold insAt
  rw [List.append_nil]
  have hS' := hS
  rw [← List.take_append_drop j S, List.pairwise_append] at hS'
  obtain ⟨p1, p2, p3⟩ := hS'
  have hd : ∀ y ∈ S.drop j, Ahead l x y := fun y hy => .inl (h1 y hy)
  have ht : ∀ y ∈ S.take j, Ahead l y x := by
    cases j with
    | zero => intro y hy; simp at hy
    | succ k =>
      have hk : k < S.length := by omega
      have hlast := h2 k rfl S[k] (List.getElem?_eq_getElem hk)
      have hb : S[k] < x := hx _ (List.getElem_mem hk)
      have hA : Ahead l S[k] x := by unfold Ahead; omega
      intro y hy
      obtain ⟨i, hi⟩ := List.mem_iff_getElem?.1 hy
      rw [List.getElem?_take] at hi
      split at hi
      · rename_i hik
        by_cases e : i = k
        · subst e
          rw [List.getElem?_eq_getElem hk, Option.some.injEq] at hi
          rw [← hi]; exact hA
        · have hi' : i < S.length := by omega
          rw [List.getElem?_eq_getElem hi', Option.some.injEq] at hi
          rw [← hi]
          exact ahead_trans (List.pairwise_iff_getElem.1 hS i k hi' hk (by omega)) hA
      · cases hi
  refine List.pairwise_append.2 ⟨p1, List.pairwise_cons.2 ⟨hd, p2⟩, fun a ha b hb => ?_⟩
  rcases List.mem_cons.1 hb with rfl | hb
  · exact ht a ha
  · exact p3 a ha b hb
end
end Go.Proofs.Ythpockgijchfgaa
