/-
  Layer 18, plain: values that no call got may be taken for each other.
-/
import Derived.Test.YtlodaffiamegpaaHistDo
namespace Go.Proofs.Ytlodaffiamegpaa

/-- some call got v at n -/
def Gt (ops : List HOp) (n : ByteArray) (v : Nat) : Prop := ∃ x ∈ ops, (x.kind = 2 ∨ x.kind = 5) ∧ x.ans = true ∧ x.err = 0 ∧ x.name = n ∧ x.got = v
theorem gt_gotB {ops : List HOp} {p : HOp} : gotB ops p = true ↔ Gt ops p.name p.value := by
  unfold gotB Gt
  rw [List.any_eq_true]
  constructor
  · rintro ⟨x, hx, h⟩
    unfold getsB at h
    simp only [Bool.and_eq_true, Bool.or_eq_true, beq_iff_eq, decide_eq_true_eq] at h
    obtain ⟨⟨⟨⟨h1, h2⟩, h3⟩, h4⟩, h5⟩ := h
    exact ⟨x, hx, h1, h2, h3, h4, h5⟩
  · rintro ⟨x, hx, h1, h2, h3, h4, h5⟩
    refine ⟨x, hx, ?_⟩
    unfold getsB
    simp only [Bool.and_eq_true, Bool.or_eq_true, beq_iff_eq, decide_eq_true_eq]
    exact ⟨⟨⟨⟨h1, h2⟩, h3⟩, h4⟩, h5⟩
/-- no difference that a call could tell -/
def SameFor (ops : List HOp) (σ τ : HSt) : Prop := ∀ n, (σ n = none ↔ τ n = none) ∧ ∀ v, Gt ops n v → (σ n = some v ↔ τ n = some v)
section
variable {ops : List HOp} {σ τ : HSt} {x : HOp}
theorem SameFor.refl (σ : HSt) : SameFor ops σ σ := fun _ => ⟨Iff.rfl, fun _ _ => Iff.rfl⟩
theorem SameFor.ne (h : SameFor ops σ τ) (n : ByteArray) : σ n ≠ none ↔ τ n ≠ none := not_congr (h n).1
theorem SameFor.ok (h : SameFor ops σ τ) (hx : x ∈ ops) : x.ok σ ↔ (alOp ops x).ok τ := by
  unfold HOp.ok
  rw [alOp_ans]
  cases ha : x.ans
  · simp
  · simp only [Bool.true_eq_false, false_or]
    unfold HOp.tells
    rw [alOp_kind, alOp_err, alOp_got, alOp_name, alOp_names]
    have h2 : (x.kind = 2 ∨ x.kind = 5) → (((∃ v, σ x.name = some v ∧ x.err = 0 ∧ x.got = v) ∨ (σ x.name = none ∧ x.err = 5)) ↔ ((∃ v, τ x.name = some v ∧ x.err = 0 ∧ x.got = v) ∨ (τ x.name = none ∧ x.err = 5))) := fun hk => by
      rw [(h x.name).1]
      refine or_congr ?_ Iff.rfl
      constructor
      · rintro ⟨v, h1, h2, h3⟩
        exact ⟨v, ((h x.name).2 v ⟨x, hx, hk, ha, h2, rfl, h3⟩).1 h1, h2, h3⟩
      · rintro ⟨v, h1, h2, h3⟩
        exact ⟨v, ((h x.name).2 v ⟨x, hx, hk, ha, h2, rfl, h3⟩).2 h1, h2, h3⟩
    refine or_congr Iff.rfl (or_congr ?_ (or_congr ?_ ?_))
    · exact ⟨fun hh => ⟨hh.1, (h2 hh.1).1 hh.2⟩, fun hh => ⟨hh.1, (h2 hh.1).2 hh.2⟩⟩
    · rw [h.ne x.name, (h x.name).1]
    · refine and_congr Iff.rfl (and_congr Iff.rfl (and_congr Iff.rfl (forall_congr' fun n => ?_)))
      rw [h.ne n]
theorem alikeV_cases (ops : List HOp) (p : HOp) : (alikeV ops p = p.value) ∨ (¬ Gt ops p.name p.value ∧ ¬ Gt ops p.name (alikeV ops p)) := by
  unfold alikeV
  cases hg : gotB ops p
  · rw [if_neg (by simp)]
    cases hf : ops.find? (alikeP ops p) with
    | none => exact .inl rfl
    | some y =>
      refine .inr ⟨fun h => ?_, fun h => ?_⟩
      · rw [gt_gotB.2 h] at hg; cases hg
      · have hy := List.find?_some hf
        unfold alikeP at hy
        simp only [Bool.and_eq_true, decide_eq_true_eq, Bool.not_eq_true'] at hy
        have h' : Gt ops y.name y.value := by rw [hy.1.2]; exact h
        have h3 := hy.2
        rw [gt_gotB.2 h'] at h3; cases h3
  · rw [if_pos rfl]; exact .inl rfl
theorem SameFor.eff (h : SameFor ops σ τ) : SameFor ops (x.eff σ) ((alOp ops x).eff τ) := by
  unfold HOp.eff
  rw [alOp_kind, alOp_name]
  by_cases h1 : x.kind = 1
  · rw [if_pos h1, if_pos h1]
    have hv : (alOp ops x).value = alikeV ops x := by unfold alOp; rw [if_pos h1]
    rw [hv]
    intro n
    unfold hset
    by_cases e : n = x.name
    · rw [if_pos e, if_pos e]
      refine ⟨by simp, fun v hv => ?_⟩
      rcases alikeV_cases ops x with hc | ⟨hc1, hc2⟩
      · rw [hc]
      · subst e
        constructor
        · intro hh; rw [Option.some.inj hh] at hc1; exact absurd hv hc1
        · intro hh; rw [Option.some.inj hh] at hc2; exact absurd hv hc2
    · rw [if_neg e, if_neg e]; exact h n
  · rw [if_neg h1, if_neg h1]
    by_cases h3 : x.kind = 3
    · rw [if_pos h3, if_pos h3]
      intro n
      unfold hset
      by_cases e : n = x.name
      · rw [if_pos e, if_pos e]; exact ⟨Iff.rfl, fun _ _ => Iff.rfl⟩
      · rw [if_neg e, if_neg e]; exact h n
    · rw [if_neg h3, if_neg h3]; exact h
theorem legal_al : ∀ {s : List HOp} {σ τ : HSt}, SameFor ops σ τ → (∀ x ∈ s, x ∈ ops) → (Legal s σ ↔ Legal (s.map (alOp ops)) τ)
  | [], _, _, _, _ => Iff.rfl
  | x :: _s, _σ, _τ, h, hs => and_congr (h.ok (hs x (List.mem_cons_self ..))) (legal_al h.eff fun y hy => hs y (List.mem_cons_of_mem _ hy))
theorem way_al (is : List Nat) (D : Nat → Bool) : Way ops D σ is ↔ Way (al ops) D σ is := by
  have key : (∀ i ∈ is, i < ops.length) → (Legal (is.map (opAt ops)) σ ↔ Legal (is.map (opAt (al ops))) σ) := fun hl => by
    have e : is.map (opAt (al ops)) = (is.map (opAt ops)).map (alOp ops) := by
      rw [List.map_map]
      exact List.map_congr_left fun i hi => al_at (hl i hi)
    rw [e]
    refine legal_al (SameFor.refl σ) fun x hx => ?_
    obtain ⟨i, hi, rfl⟩ := List.mem_map.1 hx
    exact List.mem_of_getElem? (opAt_get (hl i hi))
  have hpre : ∀ i j, i < ops.length → j < ops.length → (Pre (opAt (al ops) j) (opAt (al ops) i) ↔ Pre (opAt ops j) (opAt ops i)) := fun i j hi hj => by
    unfold Pre
    rw [al_at hi, al_at hj, alOp_ans, alOp_fin, alOp_start]
  constructor
  · intro h
    have hl : ∀ i ∈ is, i < ops.length := fun i hi => (h.lt i hi).1
    refine ⟨h.nd, fun i hi => by rw [al_len]; exact h.lt i hi, fun k hk ha => ?_, ?_, (key hl).1 h.leg⟩
    · rw [al_len] at hk
      rw [al_at hk, alOp_ans] at ha
      exact h.all k hk ha
    · exact h.tim.imp_of_mem fun {i j} hi hj hp => by rw [hpre i j (hl i hi) (hl j hj)]; exact hp
  · intro h
    have hl : ∀ i ∈ is, i < ops.length := fun i hi => by have := (h.lt i hi).1; rwa [al_len] at this
    refine ⟨h.nd, fun i hi => ⟨hl i hi, (h.lt i hi).2⟩, fun k hk ha => ?_, ?_, (key hl).2 h.leg⟩
    · exact h.all k (by rw [al_len]; exact hk) (by rw [al_at hk, alOp_ans]; exact ha)
    · exact h.tim.imp_of_mem fun {i j} hi hj hp => by rw [← hpre i j (hl i hi) (hl j hj)]; exact hp
theorem lin_al : Lin ops σ ↔ Lin (al ops) σ := by
  rw [← can_lin, ← can_lin]
  exact exists_congr fun is => way_al is _
end
end Go.Proofs.Ytlodaffiamegpaa
