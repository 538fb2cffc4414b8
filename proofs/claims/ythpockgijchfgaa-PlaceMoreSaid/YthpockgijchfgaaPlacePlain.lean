/-
  Layer 15, plain: which disks are chosen.
-/
import Derived.Test.YthpockgijchfgaaBase
namespace Go.Proofs.Ythpockgijchfgaa

structure Spot where
  up : Bool
  free : Int

def Spot.fits (s : Spot) (size : Int) : Bool := s.up && decide (size ≤ s.free)
def spotAt (l : List Spot) (i : Nat) : Spot := l.getD i ⟨false, 0⟩
def mayB (l : List Spot) (size : Int) (hv : List Int) (i : Nat) : Bool := (spotAt l i).fits size && !(hv.contains (i : Int))
/-- the first n disks that may be used and are not there yet -/
def others (l : List Spot) (size : Int) (hv : List Int) (n : Nat) : List Nat := (List.range n).filter (mayB l size hv)
/-- the emptier first, of as empty ones the lower number -/
def Ahead (l : List Spot) (a b : Nat) : Prop := (spotAt l b).free < (spotAt l a).free ∨ (spotAt l a).free = (spotAt l b).free ∧ a < b
/-- what is chosen -/
def Chosen (l : List Spot) (size copies : Int) (hv r : List Int) : Prop :=
  ∃ ys : List Nat, ys.Perm (others l size hv l.length) ∧ ys.Pairwise (Ahead l) ∧ r.Perm (hv ++ (if (hv.length : Int) < copies then (ys.take (copies - hv.length).toNat).map Int.ofNat else [])) ∧ r.Pairwise (· ≤ ·)

theorem others_succ (l : List Spot) (size : Int) (hv : List Int) (n : Nat) : others l size hv (n + 1) = others l size hv n ++ (if mayB l size hv n then [n] else []) := by
  unfold others
  rw [List.range_succ, List.filter_append]
  by_cases h : mayB l size hv n = true <;> simp [h]
theorem others_len (l : List Spot) (size : Int) (hv : List Int) (n : Nat) : (others l size hv n).length ≤ n := by
  have := List.length_filter_le (mayB l size hv) (List.range n)
  simpa [others] using this
theorem others_nodup (l : List Spot) (size : Int) (hv : List Int) (n : Nat) : (others l size hv n).Nodup := List.Nodup.sublist List.filter_sublist List.nodup_range
theorem others_lt {l : List Spot} {size : Int} {hv : List Int} {n i : Nat} (h : i ∈ others l size hv n) : i < n ∧ mayB l size hv i = true := by
  unfold others at h
  simpa using h

theorem Chosen.len {l : List Spot} {size copies : Int} {hv r : List Int} (h : Chosen l size copies hv r) : (r.length : Int) = hv.length + (if (hv.length : Int) < copies then min (copies - hv.length) (others l size hv l.length).length else 0) := by
  obtain ⟨ys, h1, _, h3, _⟩ := h
  have h4 := h3.length_eq
  have h5 := h1.length_eq
  rw [h4]
  split <;> simp <;> omega
theorem Chosen.mem {l : List Spot} {size copies : Int} {r : List Int} (h : Chosen l size copies [] r) {d : Int} (hd : d ∈ r) : ∃ i : Nat, d = (i : Int) ∧ i < l.length ∧ (spotAt l i).fits size = true := by
  obtain ⟨ys, h1, _, h3, _⟩ := h
  have h4 := h3.mem_iff.1 hd
  rw [List.nil_append] at h4
  split at h4
  · obtain ⟨i, hi, rfl⟩ := List.mem_map.1 h4
    have h5 := others_lt (h1.mem_iff.1 (List.mem_of_mem_take hi))
    exact ⟨i, rfl, h5.1, by simpa [mayB] using h5.2⟩
  · cases h4
theorem Chosen.rises {l : List Spot} {size copies : Int} {r : List Int} (h : Chosen l size copies [] r) : r.Pairwise (· < ·) := by
  obtain ⟨ys, h1, _, h3, h4⟩ := h
  have hn : r.Nodup := by
    rw [h3.nodup_iff, List.nil_append]
    split
    · exact List.Pairwise.map _ (fun a b hab h => hab (Int.ofNat.inj h)) (List.Nodup.sublist (List.take_sublist _ _) (h1.nodup_iff.2 (others_nodup ..)))
    · exact List.nodup_nil
  exact List.Pairwise.imp₂ (fun a b h1 h2 => by have h1' : a ≤ b := h1; have h2' : a ≠ b := h2; omega) h4 hn
theorem Chosen.have_ {l : List Spot} {size copies : Int} {hv r : List Int} (h : Chosen l size copies hv r) {d : Int} (hd : d ∈ hv) : d ∈ r := by
  obtain ⟨ys, _, _, h3, _⟩ := h
  exact h3.mem_iff.2 (List.mem_append_left _ hd)
/-- with more room no fewer -/
theorem others_more {l m : List Spot} {size : Int} {hv : List Int} (hl : m.length = l.length) (h : ∀ i, (spotAt l i).fits size = true → (spotAt m i).fits size = true) : (others l size hv l.length).length ≤ (others m size hv m.length).length := by
  unfold others
  rw [hl, ← List.countP_eq_length_filter, ← List.countP_eq_length_filter]
  refine List.countP_mono_left fun i _ hi => ?_
  simp only [mayB, Bool.and_eq_true] at hi ⊢
  exact ⟨h i hi.1, hi.2⟩
theorem Chosen.more {l m : List Spot} {size copies : Int} {hv a b : List Int} (hl : m.length = l.length) (h : ∀ i, (spotAt l i).fits size = true → (spotAt m i).fits size = true) (ha : Chosen l size copies hv a) (hb : Chosen m size copies hv b) : a.length ≤ b.length := by
  have h1 := ha.len
  have h2 := hb.len
  have h3 := others_more (hv := hv) hl h
  split at h1 <;> simp_all <;> omega
theorem set_fits {l : List Spot} {k : Nat} {more size : Int} {i : Nat} (h : (spotAt l i).fits size = true) : (spotAt (l.set k ⟨true, max (spotAt l k).free more⟩) i).fits size = true := by
  unfold spotAt at *
  rw [List.getD_eq_getElem?_getD, List.getElem?_set]
  split
  · rename_i hki
    subst hki
    split
    · simp [Spot.fits] at h ⊢; omega
    · rename_i hlt
      rw [List.getD_eq_getElem?_getD, List.getElem?_eq_none (by omega)] at h
      simp [Spot.fits] at h
  · rw [← List.getD_eq_getElem?_getD]; exact h
/-- how many disks may be used -/
def able (l : List Spot) (size : Int) (n : Nat) : Nat := (others l size [] n).length
theorem able_succ (l : List Spot) (size : Int) (n : Nat) : able l size (n + 1) = able l size n + (if (spotAt l n).fits size then 1 else 0) := by
  unfold able
  rw [others_succ]
  simp only [mayB, List.contains_nil, Bool.not_false, Bool.and_true, List.length_append]
  split <;> simp
end Go.Proofs.Ythpockgijchfgaa
