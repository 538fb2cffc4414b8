/-
  Layer 18, plain: ways through a history: sets of calls that are done, what may come next.
-/
import Derived.Test.YtlodaffiamegpaaHistRef
namespace Go.Proofs.Ytlodaffiamegpaa

theorem perm_map_lift {α β : Type} (f : α → β) : ∀ {l : List α} {t : List β}, (l.map f).Perm t → ∃ l', l.Perm l' ∧ l'.map f = t
  | [], t, h => ⟨[], List.Perm.refl _, by have := h.length_eq; exact (List.eq_nil_of_length_eq_zero (by simpa using this.symm)).symm⟩
  | a :: l, t, h => by
    have hm : f a ∈ t := h.mem_iff.1 (by simp)
    obtain ⟨t1, t2, rfl⟩ := List.append_of_mem hm
    have h2 : (l.map f).Perm (t1 ++ t2) := by
      have : (f a :: l.map f).Perm (f a :: (t1 ++ t2)) := h.trans List.perm_middle
      exact this.cons_inv
    obtain ⟨l', hp, he⟩ := perm_map_lift f h2
    obtain ⟨l1, l2, rfl, rfl, rfl⟩ := List.map_eq_append_iff.1 he
    exact ⟨l1 ++ a :: l2, (hp.cons a).trans List.perm_middle.symm, by simp⟩

def opAt (ops : List HOp) (i : Nat) : HOp := ops.getD i ⟨0, ByteArray.empty, 0, 0, 0, 0, 0, []⟩
theorem opAt_of {ops : List HOp} {i : Nat} {x : HOp} (h : ops[i]? = some x) : opAt ops i = x := by
  unfold opAt; rw [List.getD_eq_getElem?_getD, h]; rfl
theorem opAt_get {ops : List HOp} {i : Nat} (h : i < ops.length) : ops[i]? = some (opAt ops i) := by
  unfold opAt; rw [List.getD_eq_getElem?_getD, List.getElem?_eq_getElem h]; rfl

structure Way (ops : List HOp) (D : Nat → Bool) (σ : HSt) (is : List Nat) : Prop where
  nd : is.Nodup
  lt : ∀ i ∈ is, i < ops.length ∧ D i = false
  all : ∀ k, k < ops.length → (opAt ops k).ans = true → D k = true ∨ k ∈ is
  tim : is.Pairwise fun i j => ¬ Pre (opAt ops j) (opAt ops i)
  leg : Legal (is.map (opAt ops)) σ
def Can (ops : List HOp) (D : Nat → Bool) (σ : HSt) : Prop := ∃ is, Way ops D σ is
def Ready (ops : List HOp) (D : Nat → Bool) (i : Nat) : Prop := D i = false ∧ ∀ k, k < ops.length → Pre (opAt ops k) (opAt ops i) → D k = true
def dput (D : Nat → Bool) (i : Nat) : Nat → Bool := fun k => decide (k = i) || D k
theorem dput_self (D : Nat → Bool) (i : Nat) : dput D i i = true := by simp [dput]
theorem dput_ne {D : Nat → Bool} {i k : Nat} (h : k ≠ i) : dput D i k = D k := by simp [dput, h]
/-- a call that changes nothing wherever it is told so -/
def Still (x : HOp) : Prop := ∀ τ, x.ok τ → x.eff τ = τ

theorem legal_still : ∀ {s t : List HOp} {x : HOp} {σ : HSt}, Still x → Legal (s ++ x :: t) σ → Legal (s ++ t) σ
  | [], t, x, σ, hx, h => by
    have := h.2
    rw [hx _ h.1] at this
    exact this
  | y :: s, t, x, σ, hx, h => ⟨h.1, legal_still hx h.2⟩

section
variable {ops : List HOp} {D : Nat → Bool} {σ : HSt}
theorem Way.head {i : Nat} {is : List Nat} (hw : ∀ x ∈ ops, Wide x) (h : Way ops D σ (i :: is)) : Ready ops D i := by
  have hi := h.lt i (List.mem_cons_self ..)
  refine ⟨hi.2, fun k hk hp => ?_⟩
  rcases h.all k hk hp.1 with h' | h'
  · exact h'
  · rcases List.mem_cons.1 h' with rfl | h'
    · have := hw (opAt ops k) (List.mem_of_getElem? (opAt_get hk)) hp.1
      have := hp.2; omega
    · exact absurd hp ((List.pairwise_cons.1 h.tim).1 k h')
theorem Way.tail {i : Nat} {is : List Nat} (h : Way ops D σ (i :: is)) : Way ops (dput D i) ((opAt ops i).eff σ) is where
  nd := (List.nodup_cons.1 h.nd).2
  lt := fun j hj => by
    have h1 := h.lt j (List.mem_cons_of_mem _ hj)
    exact ⟨h1.1, by rw [dput_ne (by rintro rfl; exact (List.nodup_cons.1 h.nd).1 hj)]; exact h1.2⟩
  all := fun k hk ha => by
    by_cases e : k = i
    · subst e; exact .inl (dput_self _ _)
    · rw [dput_ne e]
      rcases h.all k hk ha with h' | h'
      · exact .inl h'
      · rcases List.mem_cons.1 h' with h' | h'
        · exact absurd h' e
        · exact .inr h'
  tim := (List.pairwise_cons.1 h.tim).2
  leg := h.leg.2
theorem Way.cons {i : Nat} {is : List Nat} (hi : i < ops.length) (hr : Ready ops D i) (hok : (opAt ops i).ok σ) (h : Way ops (dput D i) ((opAt ops i).eff σ) is) : Way ops D σ (i :: is) where
  nd := List.nodup_cons.2 ⟨(fun hm => by have := (h.lt i hm).2; rw [dput_self] at this; cases this), h.nd⟩
  lt := fun j hj => by
    rcases List.mem_cons.1 hj with rfl | hj
    · exact ⟨hi, hr.1⟩
    · have h1 := h.lt j hj
      refine ⟨h1.1, ?_⟩
      have h2 := h1.2
      unfold dput at h2
      exact (Bool.or_eq_false_iff.1 h2).2
  all := fun k hk ha => by
    rcases h.all k hk ha with h' | h'
    · by_cases e : k = i
      · exact .inr (e ▸ List.mem_cons_self ..)
      · rw [dput_ne e] at h'; exact .inl h'
    · exact .inr (List.mem_cons_of_mem _ h')
  tim := List.pairwise_cons.2 ⟨(fun j hj hp => by
    have h1 := h.lt j hj
    have h2 := hr.2 j h1.1 hp
    have h3 := h1.2
    unfold dput at h3
    rw [h2, Bool.or_true] at h3; cases h3), h.tim⟩
  leg := ⟨hok, h.leg⟩
theorem Way.drop {i : Nat} {a b : List Nat} (hs : Still (opAt ops i)) (h : Way ops D σ (a ++ i :: b)) : Way ops (dput D i) σ (a ++ b) where
  nd := List.Nodup.sublist (List.Sublist.append (List.Sublist.refl _) (List.sublist_cons_self _ _)) h.nd
  lt := fun j hj => by
    have hj' : j ∈ a ++ i :: b := (List.Sublist.append (List.Sublist.refl a) (List.sublist_cons_self i b)).subset hj
    have h1 := h.lt j hj'
    refine ⟨h1.1, ?_⟩
    rw [dput_ne]
    · exact h1.2
    · rintro rfl
      have := h.nd
      rw [List.perm_middle.nodup_iff, List.nodup_cons] at this
      exact this.1 hj
  all := fun k hk ha => by
    by_cases e : k = i
    · subst e; exact .inl (dput_self _ _)
    · rw [dput_ne e]
      rcases h.all k hk ha with h' | h'
      · exact .inl h'
      · refine .inr ?_
        rcases List.mem_append.1 h' with h' | h'
        · exact List.mem_append_left _ h'
        · rcases List.mem_cons.1 h' with h' | h'
          · exact absurd h' e
          · exact List.mem_append_right _ h'
  tim := List.Pairwise.sublist (List.Sublist.append (List.Sublist.refl _) (List.sublist_cons_self _ _)) h.tim
  leg := by
    have := h.leg
    rw [List.map_append, List.map_cons] at this
    rw [List.map_append]
    exact legal_still hs this
/-- what changes nothing, and is right now, may come at once -/
theorem can_quiet {i : Nat} (hi : i < ops.length) (hr : Ready ops D i) (hok : (opAt ops i).ok σ) (hs : Still (opAt ops i)) : Can ops D σ ↔ Can ops (dput D i) σ := by
  constructor
  · rintro ⟨is, h⟩
    by_cases hm : i ∈ is
    · obtain ⟨a, b, rfl⟩ := List.append_of_mem hm
      exact ⟨a ++ b, h.drop hs⟩
    · refine ⟨is, ⟨h.nd, fun j hj => ?_, fun k hk ha => ?_, h.tim, h.leg⟩⟩
      · have h1 := h.lt j hj
        exact ⟨h1.1, by rw [dput_ne (by rintro rfl; exact hm hj)]; exact h1.2⟩
      · by_cases e : k = i
        · subst e; exact .inl (dput_self _ _)
        · rw [dput_ne e]; exact h.all k hk ha
  · rintro ⟨is, h⟩
    refine ⟨i :: is, Way.cons hi hr hok ?_⟩
    rw [hs σ hok]; exact h
/-- nothing is left that was answered -/
theorem can_over (h : ∀ k, k < ops.length → (opAt ops k).ans = true → D k = true) : Can ops D σ :=
  ⟨[], List.Pairwise.nil, (fun _ h => by cases h), fun k hk ha => .inl (h k hk ha), List.Pairwise.nil, trivial⟩
/-- a call that may be next, and changes something -/
def Acts (x : HOp) (σ : HSt) : Prop := x.ok σ ∧ (x.kind = 1 ∨ x.kind = 3 ∧ σ x.name ≠ none)
theorem can_next {i : Nat} (hi : i < ops.length) (hr : Ready ops D i) (hok : (opAt ops i).ok σ) (h : Can ops (dput D i) ((opAt ops i).eff σ)) : Can ops D σ := by
  obtain ⟨is, h⟩ := h
  exact ⟨i :: is, Way.cons hi hr hok h⟩
theorem can_branch (hw : ∀ x ∈ ops, Wide x) (hk : ∀ i, i < ops.length → (opAt ops i).kind = 1 ∨ (opAt ops i).kind = 3 ∨ ((opAt ops i).reads ∧ (opAt ops i).ans = true))
    (hq : ∀ i, i < ops.length → Ready ops D i → (opAt ops i).ans = true → (opAt ops i).ok σ → ¬ ((opAt ops i).reads ∨ (opAt ops i).kind = 3 ∧ σ (opAt ops i).name = none))
    (ho : ¬ ∀ k, k < ops.length → (opAt ops k).ans = true → D k = true) (h : Can ops D σ) :
    ∃ i, i < ops.length ∧ Ready ops D i ∧ Acts (opAt ops i) σ ∧ Can ops (dput D i) ((opAt ops i).eff σ) := by
  obtain ⟨is, h⟩ := h
  induction is with
  | nil => exact absurd (fun k hk ha => (h.all k hk ha).resolve_right (fun h => by cases h)) ho
  | cons i is ih =>
    have hi := (h.lt i (List.mem_cons_self ..)).1
    have hr := h.head hw
    have hok : (opAt ops i).ok σ := h.leg.1
    by_cases hnone : (opAt ops i).kind = 3 ∧ σ (opAt ops i).name = none
    · by_cases ha : (opAt ops i).ans = true
      · exact absurd (.inr hnone) (hq i hi hr ha hok)
      · -- it changes nothing, and needn't be
        have heff : (opAt ops i).eff σ = σ := by
          unfold HOp.eff hset
          rw [if_neg (by rw [hnone.1]; decide), if_pos hnone.1]
          funext k
          split
          · rename_i e; rw [e]; exact hnone.2.symm
          · rfl
        refine ih ⟨(List.nodup_cons.1 h.nd).2, fun j hj => h.lt j (List.mem_cons_of_mem _ hj), fun k hk hka => ?_, (List.pairwise_cons.1 h.tim).2, ?_⟩
        · rcases h.all k hk hka with h' | h'
          · exact .inl h'
          · rcases List.mem_cons.1 h' with rfl | h'
            · exact absurd hka ha
            · exact .inr h'
        · have := h.leg.2
          rw [heff] at this
          exact this
    · refine ⟨i, hi, hr, ⟨hok, ?_⟩, _, h.tail⟩
      rcases hk i hi with h1 | h1 | h1
      · exact .inl h1
      · exact .inr ⟨h1, fun h2 => hnone ⟨h1, h2⟩⟩
      · exact absurd (.inl h1.1) (hq i hi hr h1.2 hok)
end

/-! ### from the beginning -/
theorem range_ops (ops : List HOp) : (List.range ops.length).map (opAt ops) = ops := by
  apply List.ext_getElem?
  intro i
  rw [List.getElem?_map]
  by_cases h : i < ops.length
  · rw [List.getElem?_range h, opAt_get h]; rfl
  · rw [List.getElem?_eq_none (by simpa using h), List.getElem?_eq_none (by omega)]; rfl
theorem can_lin {ops : List HOp} {σ : HSt} : Can ops (fun _ => false) σ ↔ Lin ops σ := by
  constructor
  · rintro ⟨is, h⟩
    have hp : (List.range ops.length).Perm (is ++ (List.range ops.length).filter fun k => !decide (k ∈ is)) := by
      refine (List.perm_ext_iff_of_nodup List.nodup_range ?_).2 fun k => ?_
      · rw [List.nodup_append]
        refine ⟨h.nd, List.Nodup.sublist List.filter_sublist List.nodup_range, fun a ha b hb e => ?_⟩
        subst e
        have := (List.mem_filter.1 hb).2
        simp [ha] at this
      · simp only [List.mem_range, List.mem_append, List.mem_filter, Bool.not_eq_true', decide_eq_false_iff_not]
        constructor
        · intro hk
          by_cases hm : k ∈ is
          · exact .inl hm
          · exact .inr ⟨hk, hm⟩
        · rintro (hm | hm)
          · exact (h.lt k hm).1
          · exact hm.1
    refine ⟨is.map (opAt ops), ((List.range ops.length).filter fun k => !decide (k ∈ is)).map (opAt ops), ?_, ?_, List.pairwise_map.2 h.tim, h.leg⟩
    · rw [← List.map_append]
      have := hp.map (opAt ops)
      rwa [range_ops] at this
    · intro x hx
      obtain ⟨k, hk, rfl⟩ := List.mem_map.1 hx
      have hk' := List.mem_filter.1 hk
      have hlt : k < ops.length := by simpa using hk'.1
      have hni : k ∉ is := by simpa using hk'.2
      cases ha : (opAt ops k).ans with
      | false => rfl
      | true =>
        rcases h.all k hlt ha with h' | h'
        · cases h'
        · exact absurd h' hni
  · rintro ⟨s, r, h1, h2, h3, h4⟩
    rw [← range_ops ops] at h1
    obtain ⟨l', hp, he⟩ := perm_map_lift _ h1
    obtain ⟨is, rs, rfl, rfl, rfl⟩ := List.map_eq_append_iff.1 he
    have hnd : (is ++ rs).Nodup := hp.nodup_iff.1 List.nodup_range
    refine ⟨is, (List.nodup_append.1 hnd).1, fun i hi => ⟨by simpa using hp.mem_iff.2 (List.mem_append_left _ hi), rfl⟩, fun k hk ha => ?_, List.pairwise_map.1 h3, h4⟩
    rcases List.mem_append.1 (hp.mem_iff.1 (List.mem_range.2 hk)) with h | h
    · exact .inr h
    · have := h2 _ (List.mem_map.2 ⟨k, h, rfl⟩)
      rw [this] at ha; cases ha
end Go.Proofs.Ytlodaffiamegpaa
