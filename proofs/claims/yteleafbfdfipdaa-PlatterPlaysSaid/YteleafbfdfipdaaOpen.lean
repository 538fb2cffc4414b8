/-
  Arguments that are slices of integers or of texts, opened as lists.
-/
import Derived.Test.YteleafbfdfipdaaKeys
import Derived.ProofKit
import Derived.OpenShut
import Derived.SliceStrings
namespace Go.Proofs.Yteleafbfdfipdaa
open Go.ChangeShapes Go.WideShapes Go.ChangeAt Go.RowKit

section
variable {H : Type} {enc : TypeId × Value → H} {P : Program} {W : World}

theorem sl_block {v : Value} {xs : List Value} (h : Sl W v xs) : ∀ b o n c, v = .slice (some ⟨b, o, none⟩) n c → xs ≠ [] → b < W.heap.size := by
  rintro b o n c rfl hne
  obtain ⟨A, c', hv, hx⟩ := h
  obtain ⟨b', o', rfl, hc⟩ := hx hne
  injection hv with hv1
  injection hv1 with hv1
  injection hv1 with hb ho
  subst hb ho
  cases xs with
  | nil => exact absurd rfl hne
  | cons y r => exact cell_lt (hc 0 y rfl)

theorem open_i64s {t e : TypeId} {r : Reach} {b0 : Nat} {v : Value} {d : DataW H} {p : List MemPlace} (ht : P.underlying t = some (.slice e)) (he : P.underlying e = some (.int .i64)) (hc : P.cellsOf e = 1)
    (hv : Value.okWide P W r b0 t v) (h : DataW.Trod enc P W 0 (fun _ => true) true t v d p) :
    ∃ zs : List Int, Sl W v (zs.map (Value.int .i64)) ∧ (∀ x ∈ zs, -9223372036854775808 ≤ x ∧ x ≤ 9223372036854775807) ∧ zs.length ≤ maxLen := by
  obtain ⟨a0, len0, cap0, rfl⟩ := okWide_slice ht hv
  obtain ⟨fuel, hf⟩ := h
  rcases open_ints ht he hc hf with ⟨hcs, _⟩ | ⟨a, len, cap, zs, hcs, _, hl, hm, hz, _, hcell, hwz⟩
  · simp only [Value.cells, List.cons.injEq, and_true] at hcs
    rw [hcs]
    exact ⟨[], Sl.nil _ _, by simp, Nat.zero_le _⟩
  · simp only [Value.cells, List.cons.injEq, and_true] at hcs
    rw [hcs]
    simp only [if_true] at hz
    have hll : (zs.take len).length = len := by rw [List.length_take]; omega
    refine ⟨zs.take len, ⟨some a, cap, by rw [List.length_map, hll], fun hne => ?_⟩, fun x hx => bounds_i64 (hwz x (List.mem_of_mem_take hx)), by omega⟩
    have hpos : 0 < zs.length := by
      rcases Nat.eq_zero_or_pos zs.length with h0 | h0
      · exact absurd (by rw [List.eq_nil_of_length_eq_zero h0]; simp) hne
      · exact h0
    obtain ⟨b, off, rfl, hat⟩ := ints_at hcell hpos
    refine ⟨b, off, rfl, fun i x hi => ?_⟩
    rw [List.getElem?_map, List.getElem?_take] at hi
    split at hi
    · rename_i hlt
      have := hat i (by omega)
      rw [this]
      have hg : zs[i]? = some (zs.getD i 0) := by
        rw [List.getD_eq_getElem?_getD, List.getElem?_eq_getElem (by omega)]; rfl
      rw [hg] at hi
      simpa using hi
    · simp at hi

theorem open_texts {t e : TypeId} {r : Reach} {b0 : Nat} {v : Value} {d : DataW H} {p : List MemPlace} (ht : P.underlying t = some (.slice e)) (he : P.underlying e = some .string) (hc : P.cellsOf e = 1)
    (hv : Value.okWide P W r b0 t v) (h : DataW.Trod enc P W 0 (fun _ => true) true t v d p) :
    ∃ ss : List ByteArray, Sl W v (ss.map Value.string) ∧ (∀ s ∈ ss, s.size ≤ maxLen) ∧ ss.length ≤ maxLen := by
  obtain ⟨a0, len0, cap0, rfl⟩ := okWide_slice ht hv
  obtain ⟨fuel, hf⟩ := h
  rcases open_strings ht he hc hf with ⟨hcs, _⟩ | ⟨a, len, cap, ss, hcs, _, hl, hm, hz, _, hcell, hwz⟩
  · simp only [Value.cells, List.cons.injEq, and_true] at hcs
    rw [hcs]
    exact ⟨[], Sl.nil _ _, by simp, Nat.zero_le _⟩
  · simp only [Value.cells, List.cons.injEq, and_true] at hcs
    rw [hcs]
    simp only [if_true] at hz
    have hll : (ss.take len).length = len := by rw [List.length_take]; omega
    refine ⟨ss.take len, ⟨some a, cap, by rw [List.length_map, hll], fun hne => ?_⟩, fun x hx => hwz x (List.mem_of_mem_take hx), by omega⟩
    have hpos : 0 < ss.length := by
      rcases Nat.eq_zero_or_pos ss.length with h0 | h0
      · exact absurd (by rw [List.eq_nil_of_length_eq_zero h0]; simp) hne
      · exact h0
    obtain ⟨b, off, spot⟩ := a
    have hspot : spot = none := by simpa [Addr.add] using World.cell?_spot (hcell 0 hpos)
    subst hspot
    refine ⟨b, off, rfl, fun i x hi => ?_⟩
    rw [List.getElem?_map, List.getElem?_take] at hi
    split at hi
    · rename_i hlt
      have := hcell i (by omega)
      rw [← Go.WideShapes.add_plain, this]
      have hg : ss[i]? = some (ss.getD i ByteArray.empty) := by
        rw [List.getD_eq_getElem?_getD, List.getElem?_eq_getElem (by omega)]; rfl
      rw [hg] at hi
      simpa using hi
    · simp at hi
end
end Go.Proofs.Yteleafbfdfipdaa
