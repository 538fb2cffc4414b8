/-
  Layer 18, plain: a history is that of its parts.
-/
import Derived.Test.YtlodaffiamegpaaHsPart
namespace Go.Proofs.Ytlodaffiamegpaa
open Go.RowKit Go.Sort

/-- a call that may not be checked -/
def badB (x : HOp) : Bool := decide (x.kind < 1) || decide (5 < x.kind) || decide (32 < x.name.size) || (x.ans && decide (x.fin < x.start))
theorem fine_kind {x : HOp} (h : badB x = false) : x.kind = 1 ∨ x.kind = 2 ∨ x.kind = 3 ∨ x.kind = 4 ∨ x.kind = 5 := by
  unfold badB at h
  simp only [Bool.or_eq_false_iff, decide_eq_false_iff_not] at h
  omega
theorem fine_wide {x : HOp} (h : badB x = false) : Wide x := by
  unfold badB at h
  simp only [Bool.or_eq_false_iff, decide_eq_false_iff_not, Bool.and_eq_false_iff] at h
  intro ha
  rcases h.2 with h2 | h2
  · rw [ha] at h2; cases h2
  · omega
theorem kept_mem {l : List HRow} {x : HRow} : x ∈ kept l ↔ x ∈ l ∧ keepB x = true := List.mem_filter
theorem parts_sub {l p : List HRow} {x : HRow} (hp : p ∈ partsOf l) (hx : x ∈ p) : x ∈ l ∧ keepB x = true := by
  unfold partsOf at hp
  split at hp
  · rw [List.mem_singleton] at hp; subst hp; exact kept_mem.1 hx
  · obtain ⟨n, _, rfl⟩ := List.mem_map.1 hp
    exact kept_mem.1 (List.mem_filter.1 hx).1
theorem parts_ne {l p : List HRow} (hp : p ∈ partsOf l) : p ≠ [] := by
  unfold partsOf at hp
  split at hp
  · rename_i h
    rw [List.mem_singleton] at hp; subst hp
    intro e; rw [e] at h; cases h
  · obtain ⟨n, hn, rfl⟩ := List.mem_map.1 hp
    rw [namesOf_mem] at hn
    obtain ⟨x, hx, rfl⟩ := List.mem_map.1 hn
    intro e
    have : x ∈ named x.1.name (kept l) := List.mem_filter.2 ⟨hx, by simp⟩
    rw [e] at this; cases this
theorem parts_len {l p : List HRow} (hp : p ∈ partsOf l) : p.length ≤ l.length := by
  unfold partsOf at hp
  split at hp
  · rw [List.mem_singleton] at hp; subst hp; exact List.length_filter_le _ _
  · obtain ⟨n, _, rfl⟩ := List.mem_map.1 hp
    exact Nat.le_trans (List.length_filter_le _ _) (List.length_filter_le _ _)
theorem kept_reads {x : HRow} (hk : x.1.kind = 2 ∨ x.1.kind = 4 ∨ x.1.kind = 5) (h : keepB x = true) : x.1.ans = true := by
  unfold keepB HOp.readsB at h
  rcases hk with e | e | e <;> rw [e] at h <;> simpa using h
theorem parts_lin {l : List HRow} (hf : ∀ x ∈ l, badB x.1 = false) : Lin (opsOf l) hnone ↔ ∀ p ∈ partsOf l, Lin (opsOf p) hnone := by
  have h1 : Lin (opsOf l) hnone ↔ Lin (opsOf (kept l)) hnone := by
    have := lin_filter (σ := hnone) (fun x => !(x.readsB && !x.ans)) (l := opsOf l) (fun x _ h => by
      have h' : x.readsB = true ∧ x.ans = false := by simpa using h
      refine ⟨?_, h'.2⟩
      have := h'.1
      unfold HOp.readsB at this
      simp only [Bool.or_eq_true, beq_iff_eq] at this
      constructor <;> omega)
    rw [this]
    have e : (opsOf l).filter (fun x => !(x.readsB && !x.ans)) = opsOf (kept l) := by
      unfold opsOf kept
      rw [List.filter_map]; rfl
    rw [e]
  rw [h1]
  unfold partsOf
  split
  · simp
  · rename_i hw
    have ha : ∀ x ∈ opsOf (kept l), x.alone := by
      intro x hx
      obtain ⟨y, hy, rfl⟩ := List.mem_map.1 hx
      intro e
      apply hw
      unfold wholeB
      exact List.any_eq_true.2 ⟨y, hy, by rw [e]; rfl⟩
    have hwd : ∀ x ∈ opsOf (kept l), Wide x := by
      intro x hx
      obtain ⟨y, hy, rfl⟩ := List.mem_map.1 hx
      exact fine_wide (hf y (kept_mem.1 hy).1)
    rw [lin_names (namesOf (namesIn (kept l))) ha hwd (fun x hx => by
      obtain ⟨y, hy, rfl⟩ := List.mem_map.1 hx
      rw [namesOf_mem]
      exact List.mem_map.2 ⟨y, hy, rfl⟩)]
    have e : ∀ n, (opsOf (kept l)).filter (fun x => decide (x.name = n)) = opsOf (named n (kept l)) := by
      intro n
      unfold opsOf named
      rw [List.filter_map]; rfl
    constructor
    · intro h p hp
      obtain ⟨n, hn, rfl⟩ := List.mem_map.1 hp
      rw [← e]; exact h n hn
    · intro h n hn
      rw [e]; exact h _ (List.mem_map.2 ⟨n, hn, rfl⟩)
end Go.Proofs.Ytlodaffiamegpaa
