/-
  A cell of a row of one's own is stored.
-/
import Derived.Test.YtchnejfdompfpaaAppRow
namespace Go.Proofs.Ytchnejfdompfpaa
open Go.RowKit

theorem own_set {w : World} {base : Nat} {e : TypeId} {size : Nat} {g n cap : Nat} {xs : List Value} (h : w.ownsRow base e size (.slice (some ⟨g, 0, none⟩) n cap) n xs) {j : Nat} (hj : j < n * size) (u : Value) :
    (w.setCell ⟨g, j, none⟩ u).ownsRow base e size (.slice (some ⟨g, 0, none⟩) n cap) n (xs.set j u) := by
  obtain ⟨h1, h2⟩ := h
  refine ⟨by rw [List.length_set]; exact h1, ?_⟩
  rcases h2 with ⟨h2, _⟩ | ⟨g', cap', cur, h2, h3, h4, h5, h6, h7, h8⟩
  · cases h2
  · simp only [Value.slice.injEq, Option.some.injEq, Addr.mk.injEq, and_true, true_and] at h2
    obtain ⟨rfl, rfl⟩ := h2
    have hA : At w g e cur := h4
    have hS := hA.set j u
    refine .inr ⟨g, cap, cur.setIfInBounds j u, rfl, h3, hS, h5, h6, by rw [Array.size_setIfInBounds]; exact h7, ?_⟩
    rw [Array.toList_setIfInBounds, ← h8]
    apply List.ext_getElem?
    intro i
    simp only [List.getElem?_take, List.getElem?_set, List.length_take]
    by_cases hi : i < n * size
    · rw [if_pos hi]
      by_cases hij : j = i
      · subst hij
        rw [if_pos rfl, if_pos rfl]
        have hcs : n * size ≤ cap * size := Nat.mul_le_mul_right _ h5
        have h9 : j < cur.toList.length := by rw [Array.length_toList, h7]; omega
        rw [if_pos h9, if_pos (by omega)]
      · rw [if_neg hij, if_neg hij, if_pos hi]
    · rw [if_neg hi]
      by_cases hij : j = i
      · omega
      · rw [if_neg hij, if_neg hi]
theorem flat_set : ∀ {rows : List (List Value)} {size : Nat} (_ : ∀ r ∈ rows, r.length = size) {i k : Nat} {r : List Value} (u : Value), rows[i]? = some r → k < size → rows.flatten.set (i * size + k) u = (rows.set i (r.set k u)).flatten
  | [], _, _, i, k, r, u, h, _ => by simp at h
  | x :: rs, size, hl, 0, k, r, u, h, hk => by
    simp only [List.getElem?_cons_zero, Option.some.injEq] at h
    subst h
    have hx := hl x (List.mem_cons_self ..)
    rw [Nat.zero_mul, Nat.zero_add, List.flatten_cons, List.set_append_left _ _ (by omega)]
    rfl
  | x :: rs, size, hl, i + 1, k, r, u, h, hk => by
    have hx := hl x (List.mem_cons_self ..)
    rw [List.getElem?_cons_succ] at h
    rw [List.flatten_cons, List.set_append_right _ _ (by rw [hx, Nat.add_mul]; omega), hx, show (i + 1) * size + k - size = i * size + k by rw [Nat.add_mul]; omega, flat_set (fun r hr => hl r (List.mem_cons_of_mem _ hr)) u h hk]
    rfl
theorem own_fz {w : World} {base : Nat} {e : TypeId} {size g n cap : Nat} {xs : List Value} (h : w.ownsRow base e size (.slice (some ⟨g, 0, none⟩) n cap) n xs) (i : Nat) : w.frozen? ⟨g, i, none⟩ = false ∧ g < w.heap.size := by
  rcases h.2 with ⟨h2, _⟩ | ⟨g', cap', cur, h2, h3, h4, _⟩
  · cases h2
  · simp only [Value.slice.injEq, Option.some.injEq, Addr.mk.injEq, and_true, true_and] at h2
    obtain ⟨rfl, rfl⟩ := h2
    have hA : At w g e cur := h4
    exact ⟨hA.frozen i, hA.lt⟩
theorem own_some {w : World} {base : Nat} {e : TypeId} {size : Nat} {v : Value} {n : Nat} {xs : List Value} (h : w.ownsRow base e size v n xs) (hn : 0 < n) : ∃ g c, v = .slice (some ⟨g, 0, none⟩) n c ∧ base ≤ g ∧ g < w.heap.size ∧ n ≤ c ∧ c ≤ maxLen ∧ ∀ i, w.frozen? ⟨g, i, none⟩ = false := by
  rcases h.2 with ⟨_, h0⟩ | ⟨g, cap, cur, rfl, h3, h4, h5, h6, _⟩
  · omega
  · have hA : At w g e cur := h4
    exact ⟨g, cap, rfl, h3, hA.lt, h5, h6, fun i => hA.frozen i⟩
end Go.Proofs.Ytchnejfdompfpaa
