/-
  Layer 18, plain: what the search finds is whether the history may be.
-/
import Derived.Test.YtlodaffiamegpaaHistAl
import Derived.Test.YtlodaffiamegpaaHistTab
namespace Go.Proofs.Ytlodaffiamegpaa

section
variable {ops : List HOp} {ns : List ByteArray} {vals : List (List Nat)} {put : List Nat}
/-- whatever stands was put -/
def Stood (ops : List HOp) (σ : HSt) : Prop := ∀ n v, σ n = some v → ∃ p ∈ ops, p.kind = 1 ∧ p.name = n ∧ p.value = v
theorem Stood.eff {σ : HSt} {x : HOp} (h : Stood ops σ) (hx : x ∈ ops) : Stood ops (x.eff σ) := by
  intro n v hn
  unfold HOp.eff at hn
  by_cases h1 : x.kind = 1
  · rw [if_pos h1] at hn
    unfold hset at hn
    by_cases e : n = x.name
    · rw [if_pos e] at hn
      exact ⟨x, hx, h1, e.symm, Option.some.inj hn⟩
    · rw [if_neg e] at hn; exact h n v hn
  · rw [if_neg h1] at hn
    by_cases h3 : x.kind = 3
    · rw [if_pos h3] at hn
      unfold hset at hn
      by_cases e : n = x.name
      · rw [if_pos e] at hn; cases hn
      · rw [if_neg e] at hn; exact h n v hn
    · rw [if_neg h3] at hn; exact h n v hn
theorem legal_mem : ∀ {s : List HOp} {σ : HSt} {x : HOp}, Legal s σ → Stood ops σ → (∀ y ∈ s, y ∈ ops) → x ∈ s → ∃ τ, x.ok τ ∧ Stood ops τ
  | y :: s, σ, x, hl, hi, hs, hx => by
    rcases List.mem_cons.1 hx with rfl | hx
    · exact ⟨σ, hl.1, hi⟩
    · exact legal_mem hl.2 (hi.eff (hs y (List.mem_cons_self ..))) (fun z hz => hs z (List.mem_cons_of_mem _ hz)) hx
theorem op_mem {x : HOp} (h : x ∈ ops) : ∃ i, i < ops.length ∧ opAt ops i = x := by
  obtain ⟨i, hi, e⟩ := List.getElem_of_mem h
  exact ⟨i, hi, opAt_of (by rw [List.getElem?_eq_getElem hi, e])⟩
theorem poss_of_lin (hVO : ValsOk ops ns ops.length vals put) (hns : ∀ n, hasL ns n = true ↔ ∃ p ∈ ops, p.kind = 1 ∧ p.name = n) (hl : Lin ops hnone) : ∀ i, i < ops.length → (opAt ops i).ans = true → Poss (tabOf ops ns vals put) (opAt ops i) := by
  intro i hi ha
  have hx : opAt ops i ∈ ops := List.mem_of_getElem? (opAt_get hi)
  generalize opAt ops i = x at *
  obtain ⟨s, r, h1, h2, h3, h4⟩ := hl
  have hm : x ∈ s ++ r := h1.mem_iff.1 hx
  have hxs : x ∈ s := by
    rcases List.mem_append.1 hm with h | h
    · exact h
    · rw [h2 x h] at ha; cases ha
  obtain ⟨τ, hok, hst⟩ := legal_mem (ops := ops) h4 (fun n v h => by cases h) (fun y hy => h1.mem_iff.2 (List.mem_append_left _ hy)) hxs
  have hh : ∀ n, τ n ≠ none → hasL ns n = true := fun n hn => by
    cases hq : τ n with
    | none => exact absurd hq hn
    | some v =>
      obtain ⟨p, hp, hp1, hp2, _⟩ := hst n v hq
      exact (hns n).2 ⟨p, hp, hp1, hp2⟩
  rcases hok with h | h
  · rw [h] at ha; cases ha
  · unfold Poss
    show _ ∨ (_ ∧ (_ ∨ _ ∧ hasL ns x.name = true)) ∨ (_ ∧ _ ∧ _ ∧ ∀ n ∈ x.names, hasL ns n = true) ∨ (_ ∧ (_ ∨ _ ∧ hasL ns x.name = true ∧ x.got ∈ vals.getD (ixOf ns x.name) []))
    rcases h with h | ⟨hk, h⟩ | ⟨hk, h⟩ | ⟨hk, he, hp, hn⟩
    · exact .inl h
    · refine .inr (.inr (.inr ⟨hk, ?_⟩))
      rcases h with ⟨v, hv, he, hg⟩ | ⟨_, he⟩
      · refine .inr ⟨he, hh _ (by rw [hv]; simp), ?_⟩
        obtain ⟨p, hp, hp1, hp2, hp3⟩ := hst _ _ hv
        obtain ⟨j, hj, hjp⟩ := op_mem hp
        obtain ⟨q1, q2, q3, q4⟩ := hVO.puts j hj (by rw [hjp]; exact hp1)
        rw [hjp, hp2] at q3 q4
        have hgot : gotB ops p = true := gt_gotB.2 ⟨x, hx, hk, ha, he, hp2.symm, by rw [hg, hp3]⟩
        have hal : alikeV ops p = x.got := by unfold alikeV; rw [if_pos hgot, hp3, hg]
        rw [hal] at q4
        have hlt : put.getD j 0 - 1 < (vals.getD (ixOf ns x.name) []).length := by omega
        refine List.mem_of_getElem? (i := put.getD j 0 - 1) ?_
        rw [List.getElem?_eq_getElem hlt, ← q4]
        congr 1
        rw [List.getD_eq_getElem?_getD (l := vals.getD (ixOf ns x.name) []), List.getElem?_eq_getElem hlt]
        rfl
      · exact .inl he
    · refine .inr (.inl ⟨hk, ?_⟩)
      rcases h with ⟨hn, he⟩ | ⟨_, he⟩
      · exact .inr ⟨he, hh _ hn⟩
      · exact .inl he
    · exact .inr (.inr (.inl ⟨hk, he, hp, fun n h => hh n ((hn n).1 h)⟩))
theorem stσ_zero (T : HTab) (n : Nat) : stσ T (List.replicate n 0) = hnone := by
  funext m
  unfold stσ hnone
  have : (List.replicate n 0).getD (ixOf T.names m) 0 = 0 := by
    rw [List.getD_eq_getElem?_getD, List.getElem?_replicate]
    split <;> rfl
  rw [this]
  simp
theorem can_zero (T : HTab) (n : Nat) : CanN ops T 0 (List.replicate n 0) ↔ Lin ops hnone := by
  unfold CanN
  rw [stσ_zero, lin_al, ← can_lin]
  have e : bitD 0 = fun _ => false := by funext k; unfold bitD; simp
  rw [e]
end
end Go.Proofs.Ytlodaffiamegpaa
