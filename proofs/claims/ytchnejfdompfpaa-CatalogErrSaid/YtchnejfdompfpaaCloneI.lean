/-
  slices.Clone of integers.
-/
import Derived.Test.YtchnejfdompfpaaLay
import Derived.Test.YtchnejfdompfpaaSlices
namespace Go.Proofs.Ytchnejfdompfpaa
open Go.RowKit Go.Sort

theorem clone_any (w : World) (v : Value) (hl : List Int) (hH : Sl w v (hl.map (Value.int .i64))) (hb : hl.length ≤ 17592186043904) :
    Calls Try.prog 40 #[v] w fun e w' => ∃ v', e = .returned v' ∧ w'.ownsRow w.heap.size 3 1 v' hl.length (hl.map (Value.int .i64)) ∧ Ext w w' := by
  obtain ⟨A, c, rfl, hx⟩ := hH
  rw [List.length_map]
  by_cases hne : hl = []
  · subst hne
    cases A with
    | none =>
      refine (Try.slices_Clone_int_nil _ _ _).mono ?_
      rintro e w' ⟨rfl, rfl⟩
      exact ⟨_, rfl, ⟨rfl, .inl ⟨rfl, rfl⟩⟩, Ext.refl _⟩
    | some a =>
      refine (Try.slices_Clone_int_zero a c w).mono ?_
      rintro e w' ⟨v', rfl, h1, _, h2⟩
      exact ⟨_, rfl, h1, Ext.of_below h2⟩
  · obtain ⟨b, o, rfl, hc⟩ := hx (by simpa using hne)
    refine (Try.slices_Clone_int b o hl.length c hl w (Nat.le_refl _) (by omega) (fun j hj => ?_)).mono ?_
    · exact hc j _ (by rw [List.getElem?_map, List.getElem?_eq_getElem hj, List.getD_eq_getElem?_getD, List.getElem?_eq_getElem hj]; rfl)
    · rintro e w' ⟨v', rfl, h1, _, h2⟩
      rw [List.take_length] at h1
      exact ⟨_, rfl, h1, Ext.of_below h2⟩
end Go.Proofs.Ytchnejfdompfpaa
