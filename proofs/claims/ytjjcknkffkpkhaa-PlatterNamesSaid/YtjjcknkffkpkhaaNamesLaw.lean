/-
  PlatterNames answers true for every input: a file that is synced with others by their names is as safe as one that is synced with all. No condition.
-/
import Derived.Test.YtjjcknkffkpkhaaPost
import Derived.Test.YtjjcknkffkpkhaaNames
namespace Go.Proofs.Ytjjcknkffkpkhaa.platterNames
open Go.ChangeShapes Go.WideShapes Go.ChangeAt Go.RowKit
open Go.ChangeMaps (open_string shut_string)

set_option maxRecDepth 100000 in
theorem lifted (os : Os) (started : os.Started) (H : Type) (enc : TypeId × Value → H) :
    ReturnsInHanded {} Try.checked os 5 .any (Rows.platterNamesSpec.pre6 enc Try.prog Try.f5 Rows.platterNamesRow.domain false) (Rows.platterNamesSpec.post enc Try.prog Try.f5 false true false false) := by
  refine returnsInHanded_of_change (C := Try.checked) own started (by kernel_rfl) Try.func5
    (ChangeSpec.witness6 (enc := enc) (C := Try.checked) false ⟨#[], #[.slice none 0 0, .slice none 0 0, .slice none 0 0], []⟩ 8 (by kernel_rfl) (by kernel_rfl) (by kernel_rfl) (by kernel_rfl)) ?_
  intro W base args ds gs before hval0 hW _ _
  have hval : ∀ (j : Nat) t v, Try.f5.params[j]? = some t → args[j]? = some v → Value.okWide Try.prog W .any base t v := hval0
  have hW' := hW
  obtain ⟨p, q, hA0, hV, rfl, _, _⟩ := hW
  have hA : DataW.TrodAll enc Try.prog W 0 (fun _ => true) true Try.f5.params.toList args.toList ds p := hA0
  rw [Try.params5] at hA hval
  obtain ⟨v0, vs0, d0, ds0, p0, q0, hargs, rfl, rfl, h0, r0⟩ := trodAll_cons hA
  obtain ⟨v1, vs1, d1, ds1, p1, q1, rfl, rfl, rfl, h1, r1⟩ := trodAll_cons r0
  obtain ⟨v2, vs2, d2, ds2, p2, q2, rfl, rfl, rfl, h2, r2⟩ := trodAll_cons r1
  obtain ⟨rfl, rfl, rfl⟩ := trodAll_nil r2
  obtain rfl : args = #[v0, v1, v2] := by cases args; simp_all
  obtain ⟨rfl, rfl⟩ := trodVars_none hV
  clear hA0 hval0
  obtain ⟨n0, hS0, hr0, hl0⟩ := open_texts Try.underlying34 Try.underlying9 (by kernel_rfl) (hval 0 34 v0 rfl rfl) h0
  obtain ⟨n1, hS1, hr1, hl1⟩ := open_texts Try.underlying34 Try.underlying9 (by kernel_rfl) (hval 1 34 v1 rfl rfl) h1
  obtain ⟨ch, hS, hr, hcl⟩ := open_i64s Try.underlying30 Try.underlying3 (by kernel_rfl) (hval 2 30 v2 rfl rfl) h2
  refine (names_any v0 v1 n0 n1 v2 ch W hS0 hS1 hr0 hr1 hl0 hl1 hS hr hcl).mono fun e W' ⟨he, hg⟩ => ?_
  subst he
  exact ⟨_, rfl, law_post (T := 4) hW' rfl rfl rfl Try.underlying4 (by kernel_rfl) (by kernel_rfl) (Ext.below hg)⟩

theorem proved : Rows.PlatterNamesSaid :=
  OpenClaim.holds_of_wide 5 Try.f5 rfl rfl rfl rfl rfl rfl rfl ⟨rfl, rfl, rfl, rfl, rfl⟩ rfl rfl rfl rfl rfl (by kernel_rfl) Try.func5 (by kernel_rfl)
    (of_decide_eq_true (by kernel_rfl)) (by unfold Func.isWrapper; first | (rw [if_pos (by decide +kernel)]; kernel_rfl) | (rw [if_neg (by decide +kernel)]; exact ⟨rfl, rfl⟩))
    (fun os started H enc _ => lifted os started H enc)
end Go.Proofs.Ytjjcknkffkpkhaa.platterNames
