/-
  Disks as a list, plain: they rise, each once, and are those that may be.
-/
import Derived.Test.YtchnejfdompfpaaDisk
namespace Go.Proofs.Ytchnejfdompfpaa

theorem getb_lt {zs : List Int} {i : Nat} (h : i < zs.length) : zs.toArray[i]! = zs[i] := by
  simp [getElem!_pos, h]
theorem compact_mem (zs : List Int) (x : Int) : x ∈ Lib.compact zs ↔ x ∈ zs := by
  unfold Lib.compact Lib.compactUpTo
  rw [List.mem_map]
  constructor
  · rintro ⟨i, hi, rfl⟩
    have hl : i < zs.length := List.mem_range.1 (List.mem_filter.1 hi).1
    rw [getb_lt hl]
    exact List.getElem_mem hl
  · intro hx
    obtain ⟨i, hi, rfl⟩ := List.mem_iff_getElem.1 hx
    -- the first place that holds it
    have key : ∀ n i (hi : i < zs.length), i ≤ n → ∃ j, ∃ hj : j < zs.length, zs[j] = zs[i] ∧ (j = 0 ∨ ∃ h : j - 1 < zs.length, zs[j - 1] ≠ zs[j]) := by
      intro n
      induction n with
      | zero => exact fun i hi h => ⟨i, hi, rfl, .inl (by omega)⟩
      | succ n ih =>
        intro i hi h
        by_cases h0 : i = 0
        · exact ⟨i, hi, rfl, .inl h0⟩
        · by_cases he : zs[i - 1] = zs[i]
          · obtain ⟨j, hj, e, hh⟩ := ih (i - 1) (by omega) (by omega)
            exact ⟨j, hj, e.trans he, hh⟩
          · exact ⟨i, hi, rfl, .inr ⟨by omega, he⟩⟩
    obtain ⟨j, hj, e, hh⟩ := key i i hi (Nat.le_refl _)
    refine ⟨j, List.mem_filter.2 ⟨List.mem_range.2 hj, ?_⟩, by rw [getb_lt hj, e]⟩
    unfold Lib.keeps
    rw [decide_eq_true_eq]
    rcases hh with h | ⟨h, hne⟩
    · exact .inl h
    · right
      rw [getb_lt hj, getb_lt h]
      exact fun e => hne e.symm
theorem compact_rises {zs : List Int} (h : zs.Pairwise (· ≤ ·)) : (Lib.compact zs).Pairwise (· < ·) := by
  unfold Lib.compact Lib.compactUpTo
  rw [List.pairwise_map]
  have hr : ((List.range zs.length).filter (Lib.keeps zs.toArray)).Pairwise (· < ·) := List.Pairwise.filter _ List.pairwise_lt_range
  refine hr.imp_of_mem ?_
  intro i j hi hj hij
  have hil : i < zs.length := List.mem_range.1 (List.mem_filter.1 hi).1
  have hjl : j < zs.length := List.mem_range.1 (List.mem_filter.1 hj).1
  have hk := (List.mem_filter.1 hj).2
  unfold Lib.keeps at hk
  rw [decide_eq_true_eq] at hk
  have hne : zs[j] ≠ zs[j - 1] := by
    rcases hk with h | h
    · omega
    · rw [getb_lt hjl, getb_lt (by omega)] at h; exact h
  rw [getb_lt hil, getb_lt hjl]
  have h1 : zs[j - 1] ≤ zs[j] := List.pairwise_iff_getElem.1 h (j - 1) j (by omega) hjl (by omega)
  have h2 : zs[i] ≤ zs[j - 1] := by
    by_cases e : i = j - 1
    · subst e; exact Int.le_refl _
    · exact List.pairwise_iff_getElem.1 h i (j - 1) hil (by omega) (by omega)
  omega
theorem sortI_le (zs : List Int) : (sortI zs).Pairwise (· ≤ ·) := by
  have := List.pairwise_mergeSort (le := fun (x y : Int) => decide (x ≤ y)) (fun a b c h h' => by simp only [decide_eq_true_eq] at *; omega) (fun a b => by simp only [Bool.or_eq_true, decide_eq_true_eq]; omega) zs
  exact this.imp fun h => by simpa using h
theorem sortI_mem (zs : List Int) (x : Int) : x ∈ sortI zs ↔ x ∈ zs := (List.mergeSort_perm zs _).mem_iff
theorem diskOf_rises (l : List Int) : (diskOf l).Pairwise (· < ·) := compact_rises (sortI_le _)
theorem diskOf_mem (l : List Int) (x : Int) : x ∈ diskOf l ↔ x ∈ l ∧ upB x 5 = true := by
  unfold diskOf
  rw [compact_mem, sortI_mem, List.mem_filter]
theorem rises_unique {a b : List Int} (ha : a.Pairwise (· < ·)) (hb : b.Pairwise (· < ·)) (h : ∀ x, x ∈ a ↔ x ∈ b) : a = b := by
  refine List.Perm.eq_of_pairwise (le := fun x y => x < y) (fun x y _ _ h1 h2 => by omega) ha hb ?_
  exact (List.perm_ext_iff_of_nodup (ha.imp fun h => by omega) (hb.imp fun h => by omega)).2 h
def six : List Int := [0, 1, 2, 3, 4, 5]
theorem upB_six (x : Int) : upB x 5 = true ↔ x ∈ six := by
  unfold upB six
  simp only [Bool.and_eq_true, decide_eq_true_eq, List.mem_cons, List.not_mem_nil, or_false]
  omega
theorem diskOf_eq (l : List Int) : diskOf l = six.filter fun x => decide (x ∈ l) := by
  refine rises_unique (diskOf_rises l) (List.Pairwise.filter _ (by unfold six; decide)) fun x => ?_
  rw [diskOf_mem, List.mem_filter, upB_six, decide_eq_true_eq]
  exact and_comm
theorem risesB_iff (ds : List Int) : risesB ds = true ↔ ds.Pairwise (· < ·) ∧ ∀ d ∈ ds, upB d 5 = true := by
  unfold risesB
  rw [List.all_eq_true]
  constructor
  · intro h
    have hs : ∀ k, k < ds.length → stepOk ds k = true := fun k hk => h k (List.mem_range.2 hk)
    have hlt : ∀ k (hk : k < ds.length), 0 < k → ds.getD (k - 1) 0 < ds.getD k 0 := fun k hk h0 => by
      have := hs k hk
      unfold stepOk at this
      simp only [Bool.and_eq_true, Bool.or_eq_true, beq_iff_eq, decide_eq_true_eq] at this
      rcases this.2 with h | h
      · omega
      · exact h
    have hg : ∀ k (hk : k < ds.length), ds.getD k 0 = ds[k] := fun k hk => by rw [List.getD_eq_getElem?_getD, List.getElem?_eq_getElem hk]; rfl
    refine ⟨List.pairwise_iff_getElem.2 fun i j hi hj hij => ?_, fun d hd => ?_⟩
    · have key : ∀ n i j (hi : i < ds.length) (hj : j < ds.length), i < j → j ≤ i + 1 + n → ds[i] < ds[j] := by
        intro n
        induction n with
        | zero =>
          intro i j hi hj h1 h2
          have e : i = j - 1 := by omega
          have := hlt j hj (by omega)
          rw [hg j hj, hg (j - 1) (by omega)] at this
          simpa [e] using this
        | succ n ih =>
          intro i j hi hj h1 h2
          by_cases e : i = j - 1
          · have := hlt j hj (by omega)
            rw [hg j hj, hg (j - 1) (by omega)] at this
            simpa [e] using this
          · have h3 := ih i (j - 1) hi (by omega) (by omega) (by omega)
            have := hlt j hj (by omega)
            rw [hg j hj, hg (j - 1) (by omega)] at this
            omega
      exact key (j - i) i j hi hj hij (by omega)
    · obtain ⟨k, hk, rfl⟩ := List.mem_iff_getElem.1 hd
      have := hs k hk
      unfold stepOk at this
      rw [hg k hk] at this
      simp only [Bool.and_eq_true] at this
      exact this.1
  · rintro ⟨h1, h2⟩ k hk
    have hk := List.mem_range.1 hk
    have hg : ∀ k (hk : k < ds.length), ds.getD k 0 = ds[k] := fun k hk => by rw [List.getD_eq_getElem?_getD, List.getElem?_eq_getElem hk]; rfl
    unfold stepOk
    rw [hg k hk]
    simp only [Bool.and_eq_true, Bool.or_eq_true, beq_iff_eq, decide_eq_true_eq]
    refine ⟨h2 _ (List.getElem_mem hk), ?_⟩
    by_cases e : k = 0
    · exact .inl e
    · right
      rw [hg (k - 1) (by omega)]
      exact List.pairwise_iff_getElem.1 h1 (k - 1) k (by omega) hk (by omega)
theorem diskOf_risesB (l : List Int) : risesB (diskOf l) = true := (risesB_iff _).2 ⟨diskOf_rises l, fun d hd => ((diskOf_mem l d).1 hd).2⟩
theorem diskOf_len (l : List Int) : (diskOf l).length ≤ 6 := by
  rw [diskOf_eq]
  exact List.length_filter_le _ _
end Go.Proofs.Ytchnejfdompfpaa
