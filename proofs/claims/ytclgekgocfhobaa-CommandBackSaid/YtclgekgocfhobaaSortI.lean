/-
  Sort and Compact at a slice of integers of the call's own.
-/
import Derived.Test.YtclgekgocfhobaaLay
import Derived.Test.YtclgekgocfhobaaSlices
import Derived.Test.YtclgekgocfhobaaInfo
import Derived.Lib.OwnBridge
import Derived.Sort.OwnSortedInts
namespace Go.Proofs.Ytclgekgocfhobaa
open Go.RowKit Go.Sort

section
variable {w : World} {base : Nat} {v : Value} {n : Nat} {zs : List Int}
def sortI (zs : List Int) : List Int := zs.mergeSort fun x y => decide (x ≤ y)
theorem sort_own (h : w.ownsRow base 3 1 v n (zs.map (Value.int .i64))) (hn : n ≤ 17592186043904) :
    Calls Try.prog 17 #[v] w fun e w' => e = .returned (.tuple #[]) ∧ w'.ownsRow base 3 1 v n ((sortI zs).map (Value.int .i64)) ∧ Chg (fun k => some k = v.ownBlock) w w' := by
  have hl : zs.length = n := by simpa using h.1
  have hsl : (sortI zs).length = zs.length := by unfold sortI; simp
  rcases h.2 with ⟨rfl, h0⟩ | ⟨g, cap, cur, rfl, hbase, hb, h1, h2, h3, h4⟩
  · subst h0
    have hz : zs = [] := List.eq_nil_of_length_eq_zero hl
    subst hz
    refine (Try.slices_Sort_int_none none 0 w).mono ?_
    rintro e w' ⟨rfl, rfl⟩
    exact ⟨rfl, by simpa [sortI] using h, Chg.refl _ _⟩
  · subst hl
    refine (Try.slices_Sort_int g 0 cap zs w (holds_of_blockI hb (by simpa using h4)) (lt_of_block hb) (by omega)).mono ?_
    rintro e w' ⟨rfl, q, os, rfl⟩
    refine ⟨rfl, ?_, Chg.of_grown (grownBy_sortedI _)⟩
    have := ownsRow_sortedI (n := q) (os := os) (ts := sortI zs) (cap := cap) hsl hbase hb h1 h2 h3
    exact this
theorem compact_own (h : w.ownsRow base 3 1 v n (zs.map (Value.int .i64))) (hn : n ≤ 17592186043904) :
    Calls Try.prog 18 #[v] w fun e w' => ∃ v', e = .returned v' ∧ w'.ownsRow base 3 1 v' (Lib.compact zs).length ((Lib.compact zs).map (Value.int .i64)) ∧ (v = .slice none 0 0 → v' = v) ∧ v'.ownBlock = v.ownBlock ∧ Chg (fun k => some k = v.ownBlock) w w' := by
  have hl : zs.length = n := by simpa using h.1
  rcases h.2 with ⟨rfl, h0⟩ | ⟨g, cap, cur, rfl, hbase, hb, h1, h2, h3, h4⟩
  · subst h0
    have hz : zs = [] := List.eq_nil_of_length_eq_zero hl
    subst hz
    refine (Try.slices_Compact_int_empty none 0 w).mono ?_
    rintro e w' ⟨rfl, rfl⟩
    exact ⟨_, rfl, by simpa [Lib.compact, Lib.compactUpTo] using h, fun _ => rfl, rfl, Chg.refl _ _⟩
  · subst hl
    have hcl : (Lib.compact zs).length ≤ zs.length := by
      unfold Lib.compact Lib.compactUpTo
      have := List.length_filter_le (Lib.keeps zs.toArray) (List.range zs.length)
      simpa using this
    refine (Try.slices_Compact_int g 0 cap zs w (holds_of_blockI hb (by simpa using h4)) (by omega) h1).mono ?_
    rintro e w' ⟨rfl, q, rfl⟩
    refine ⟨_, rfl, ?_, fun h => (by cases h), rfl, ?_⟩
    · have := Lib.ownsRow_putRow (q := q) (ys := Lib.compact zs ++ List.replicate (zs.length - (Lib.compact zs).length) 0) h (by simp; omega) hcl
      rw [List.take_append_of_le_length (Nat.le_refl _), List.take_length] at this
      exact this
    · refine ⟨rfl, rfl, rfl, by simp [putRow, mapBlock, Sort.ahead], fun k hk hn => ?_⟩
      have hne : g ≠ k := fun e => hn (by simp [Value.ownBlock, e])
      simp [putRow, mapBlock, Sort.ahead, Array.getElem?_modify, hne]
end
end Go.Proofs.Ytclgekgocfhobaa
