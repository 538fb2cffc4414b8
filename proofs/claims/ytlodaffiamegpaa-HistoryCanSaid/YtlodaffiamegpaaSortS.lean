/-
  Sort and Compact at a slice of texts of the call's own; which texts come out.
-/
import Derived.Test.YtlodaffiamegpaaLay
import Derived.Test.YtlodaffiamegpaaSlices
import Derived.Test.YtlodaffiamegpaaSorted
import Derived.Lib.OwnBridge
import Derived.Sort.OwnSorted
namespace Go.Proofs.Ytlodaffiamegpaa
open Go.RowKit Go.Sort

theorem str_info : (Try.prog.info? 9).map (fun i => (i.zero, i.size, i.bytes)) = some (some (.string ByteArray.empty), 1, 16) := by kernel_rfl

def toL (s : ByteArray) : List UInt8 := s.data.toList
def fromL (l : List UInt8) : ByteArray := ⟨l.toArray⟩
theorem fromL_toL (s : ByteArray) : fromL (toL s) = s := by unfold fromL toL; simp
theorem toL_fromL (l : List UInt8) : toL (fromL l) = l := by unfold fromL toL; simp
theorem enc_toL (ns : List ByteArray) : (ns.map toL).map encStr = ns.map Value.string := by
  rw [List.map_map]
  refine List.map_congr_left fun s _ => ?_
  show Value.string _ = _
  exact congrArg Value.string (fromL_toL s)
theorem enc_fromL (ls : List (List UInt8)) : (ls.map fromL).map Value.string = ls.map encStr := by
  rw [List.map_map]; rfl
theorem map_toL_fromL (ls : List (List UInt8)) : (ls.map fromL).map toL = ls := by
  rw [List.map_map]
  have : (toL ∘ fromL) = id := by funext l; exact toL_fromL l
  rw [this, List.map_id]

/-! ### compact -/
section
variable {α : Type} [DecidableEq α] [Inhabited α]
omit [DecidableEq α] in
theorem getb_at {zs : List α} {i : Nat} (h : i < zs.length) : zs.toArray[i]! = zs[i] := by
  simp [getElem!_pos, h]
theorem compact_in (zs : List α) (x : α) : x ∈ Lib.compact zs ↔ x ∈ zs := by
  unfold Lib.compact Lib.compactUpTo
  rw [List.mem_map]
  constructor
  · rintro ⟨i, hi, rfl⟩
    have hl : i < zs.length := List.mem_range.1 (List.mem_filter.1 hi).1
    rw [getb_at hl]
    exact List.getElem_mem hl
  · intro hx
    obtain ⟨i, hi, rfl⟩ := List.mem_iff_getElem.1 hx
    have key : ∀ n i (hi : i < zs.length), i ≤ n → ∃ j, ∃ hj : j < zs.length, zs[j] = zs[i] ∧ (j = 0 ∨ ∃ h : j - 1 < zs.length, zs[j - 1] ≠ zs[j]) := by
      intro n
      induction n with
      | zero => exact fun i hi h => ⟨i, hi, rfl, .inl (by omega)⟩
      | succ n ih =>
        intro i hi h
        by_cases h0 : i = 0
        · exact ⟨i, hi, rfl, .inl h0⟩
        · by_cases he : zs[i - 1] = zs[i]
          · obtain ⟨j, hj, e, hh⟩ := ih (i - 1) (by omega) (by omega)
            exact ⟨j, hj, e.trans he, hh⟩
          · exact ⟨i, hi, rfl, .inr ⟨by omega, he⟩⟩
    obtain ⟨j, hj, e, hh⟩ := key i i hi (Nat.le_refl _)
    refine ⟨j, List.mem_filter.2 ⟨List.mem_range.2 hj, ?_⟩, by rw [getb_at hj, e]⟩
    unfold Lib.keeps
    rw [decide_eq_true_eq]
    rcases hh with h | ⟨h, hne⟩
    · exact .inl h
    · right
      rw [getb_at hj, getb_at h]
      exact fun e => hne e.symm
theorem compact_rise {le : α → α → Prop} (rf : ∀ a, le a a) (tr : ∀ a b c, le a b → le b c → le a c) (anti : ∀ a b, le a b → le b a → a = b) {zs : List α} (h : zs.Pairwise le) : (Lib.compact zs).Pairwise (fun a b => le a b ∧ a ≠ b) := by
  unfold Lib.compact Lib.compactUpTo
  rw [List.pairwise_map]
  have hr : ((List.range zs.length).filter (Lib.keeps zs.toArray)).Pairwise (· < ·) := List.Pairwise.filter _ List.pairwise_lt_range
  refine hr.imp_of_mem ?_
  intro i j hi hj hij
  have hil : i < zs.length := List.mem_range.1 (List.mem_filter.1 hi).1
  have hjl : j < zs.length := List.mem_range.1 (List.mem_filter.1 hj).1
  have hk := (List.mem_filter.1 hj).2
  unfold Lib.keeps at hk
  rw [decide_eq_true_eq] at hk
  have hne : zs[j] ≠ zs[j - 1] := by
    rcases hk with h | h
    · omega
    · rw [getb_at hjl, getb_at (by omega)] at h; exact h
  rw [getb_at hil, getb_at hjl]
  have h1 : le zs[j - 1] zs[j] := List.pairwise_iff_getElem.1 h (j - 1) j (by omega) hjl (by omega)
  have h2 : le zs[i] zs[j - 1] := by
    by_cases e : i = j - 1
    · subst e; exact rf _
    · exact List.pairwise_iff_getElem.1 h i (j - 1) hil (by omega) (by omega)
  refine ⟨tr _ _ _ h2 h1, fun e => hne (anti _ _ ?_ h1)⟩
  rw [← e]; exact h2
end

/-- the texts, each once, rising -/
def namesOf (ns : List ByteArray) : List ByteArray := (Lib.compact ((ns.map toL).mergeSort fun x y => decide (x ≤ y))).map fromL
theorem namesOf_mem (ns : List ByteArray) (n : ByteArray) : n ∈ namesOf ns ↔ n ∈ ns := by
  unfold namesOf
  rw [List.mem_map]
  constructor
  · rintro ⟨l, hl, rfl⟩
    rw [compact_in, (List.mergeSort_perm _ _).mem_iff, List.mem_map] at hl
    obtain ⟨s, hs, rfl⟩ := hl
    rw [fromL_toL]; exact hs
  · intro h
    refine ⟨toL n, ?_, fromL_toL n⟩
    rw [compact_in, (List.mergeSort_perm _ _).mem_iff]
    exact List.mem_map.2 ⟨n, h, rfl⟩
theorem namesOf_rise (ns : List ByteArray) : (namesOf ns).Pairwise (fun a b => blt a b = true) := by
  unfold namesOf
  rw [List.pairwise_map]
  have hs : ((ns.map toL).mergeSort fun x y => decide (x ≤ y)).Pairwise (· ≤ ·) :=
    (List.pairwise_mergeSort (fun a b c h h' => by simp only [decide_eq_true_eq] at *; exact List.le_trans h h') (fun a b => by simp only [Bool.or_eq_true, decide_eq_true_eq]; exact List.le_total _ _) (ns.map toL)).imp fun h => by simpa using h
  refine (compact_rise (le := fun a b : List UInt8 => a ≤ b) (fun a => List.le_refl _) (fun a b c => List.le_trans) (fun a b => List.le_antisymm) hs).imp fun {a b} h => ?_
  unfold blt
  rw [decide_eq_true_eq]
  show toL (fromL a) < toL (fromL b)
  rw [toL_fromL, toL_fromL]
  refine Classical.byContradiction fun hn => h.2 (List.le_antisymm h.1 hn)
theorem namesOf_len (ns : List ByteArray) : (namesOf ns).length ≤ ns.length := by
  unfold namesOf Lib.compact Lib.compactUpTo
  have := List.length_filter_le (Lib.keeps ((ns.map toL).mergeSort fun x y => decide (x ≤ y)).toArray) (List.range ((ns.map toL).mergeSort fun x y => decide (x ≤ y)).length)
  simpa using this

section
variable {w : World} {base : Nat} {v : Value} {n : Nat} {ns : List ByteArray}
def sortL (ns : List ByteArray) : List ByteArray := ((ns.map toL).mergeSort fun x y => decide (x ≤ y)).map fromL
theorem sortL_len (ns : List ByteArray) : (sortL ns).length = ns.length := by unfold sortL; simp
theorem sortS_own (h : w.ownsRow base 9 1 v n (ns.map Value.string)) (hn : n ≤ 17592186043904) :
    Calls Try.prog 25 #[v] w fun e w' => e = .returned (.tuple #[]) ∧ w'.ownsRow base 9 1 v n ((sortL ns).map Value.string) ∧ Chg (fun k => some k = v.ownBlock) w w' := by
  have hl : ns.length = n := by simpa using h.1
  rcases h.2 with ⟨rfl, h0⟩ | ⟨g, cap, cur, rfl, hbase, hb, h1, h2, h3, h4⟩
  · subst h0
    have hz : ns = [] := List.eq_nil_of_length_eq_zero hl
    subst hz
    refine (Try.slices_Sort_string_none none 0 w).mono ?_
    rintro e w' ⟨rfl, rfl⟩
    exact ⟨rfl, by simpa [sortL] using h, Chg.refl _ _⟩
  · subst hl
    have hll : (ns.map toL).length = ns.length := by simp
    have hs := Try.slices_Sort_string g 0 cap (ns.map toL) w (holds_of_block hb (by rw [hll, enc_toL]; simpa using h4)) (lt_of_block hb) (by rw [hll]; omega)
    rw [hll] at hs
    refine hs.mono ?_
    rintro e w' ⟨rfl, q, os, rfl⟩
    refine ⟨rfl, ?_, Chg.of_grown (grownBy_sorted _)⟩
    have := ownsRow_sorted (n := q) (os := os) (ss := ns.map toL) (ts := (ns.map toL).mergeSort fun x y => decide (x ≤ y)) (cap := cap) (by simp) hbase hb (by rw [hll]; exact h1) h2 h3
    rw [hll] at this
    unfold sortL
    rw [enc_fromL]
    exact this
theorem compactS_own (h : w.ownsRow base 9 1 v n ((sortL ns).map Value.string)) (hn : n ≤ 17592186043904) :
    Calls Try.prog 26 #[v] w fun e w' => ∃ v', e = .returned v' ∧ w'.ownsRow base 9 1 v' (namesOf ns).length ((namesOf ns).map Value.string) ∧ v'.ownBlock = v.ownBlock ∧ Chg (fun k => some k = v.ownBlock) w w' := by
  have hl : ns.length = n := by have := h.1; simp [sortL_len] at this; exact this
  rcases h.2 with ⟨rfl, h0⟩ | ⟨g, cap, cur, rfl, hbase, hb, h1, h2, h3, h4⟩
  · subst h0
    have hz : ns = [] := List.eq_nil_of_length_eq_zero hl
    subst hz
    refine (Try.slices_Compact_string_empty none 0 w).mono ?_
    rintro e w' ⟨rfl, rfl⟩
    refine ⟨_, rfl, ?_, rfl, Chg.refl _ _⟩
    have e : namesOf [] = [] := List.eq_nil_of_length_eq_zero (by have := namesOf_len []; simpa using this)
    rw [e]
    simpa [sortL] using h
  · subst hl
    generalize hzs : ((ns.map toL).mergeSort fun x y => decide (x ≤ y)) = zs at *
    have hsl : sortL ns = zs.map fromL := by unfold sortL; rw [hzs]
    have hzl : zs.length = ns.length := by rw [← hzs]; simp
    have hno : namesOf ns = (Lib.compact zs).map fromL := by unfold namesOf; rw [hzs]
    rw [hsl, enc_fromL] at h h4
    have hcl : (Lib.compact zs).length ≤ zs.length := by
      unfold Lib.compact Lib.compactUpTo
      have := List.length_filter_le (Lib.keeps zs.toArray) (List.range zs.length)
      simpa using this
    have hc := Try.slices_Compact_string g 0 cap zs w (holds_of_block hb (by rw [hzl]; simpa using h4)) (by omega) (by omega)
    rw [hzl] at hc
    refine hc.mono ?_
    rintro e w' ⟨rfl, q, rfl⟩
    have e2 : (Lib.compact zs).length = (namesOf ns).length := by rw [hno]; simp
    refine ⟨_, rfl, ?_, rfl, ?_⟩
    · rw [← hzl] at h
      have := Lib.ownsRow_putRow (q := q) (ys := Lib.compact zs ++ List.replicate (zs.length - (Lib.compact zs).length) []) h (by simp; omega) hcl
      rw [List.take_append_of_le_length (Nat.le_refl _), List.take_length, hzl] at this
      rw [← e2, hno, enc_fromL]
      exact this
    · refine ⟨rfl, rfl, rfl, by simp [putRow, mapBlock, Sort.ahead], fun k hk hn => ?_⟩
      have hne : g ≠ k := fun e => hn (by simp [Value.ownBlock, e])
      simp [putRow, mapBlock, Sort.ahead, Array.getElem?_modify, hne]
end
end Go.Proofs.Ytlodaffiamegpaa
