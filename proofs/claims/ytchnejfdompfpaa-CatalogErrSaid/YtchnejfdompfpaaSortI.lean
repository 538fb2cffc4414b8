/-
  Sort and Compact at a slice of integers of the call's own.
-/
import Derived.Test.YtchnejfdompfpaaLay
import Derived.Test.YtchnejfdompfpaaSlices
import Derived.Test.YtchnejfdompfpaaInfo
import Derived.Lib.OwnBridge
import Derived.Sort.OwnSortedInts
namespace Go.Proofs.Ytchnejfdompfpaa
open Go.RowKit Go.Sort

section
variable {w : World} {base : Nat} {v : Value} {n : Nat} {zs : List Int}
def sortI (zs : List Int) : List Int := zs.mergeSort fun x y => decide (x ≤ y)
theorem sort_own (h : w.ownsRow base 3 1 v n (zs.map (Value.int .i64))) (hn : n ≤ 17592186043904) :
    Calls Try.prog 31 #[v] w fun e w' => e = .returned (.tuple #[]) ∧ w'.ownsRow base 3 1 v n ((sortI zs).map (Value.int .i64)) ∧ Chg (fun k => some k = v.ownBlock) w w' := by
  have hl : zs.length = n := by simpa using h.1
  have hsl : (sortI zs).length = zs.length := by unfold sortI; simp
  rcases h.2 with ⟨rfl, h0⟩ | ⟨g, cap, cur, rfl, hbase, hb, h1, h2, h3, h4⟩
  · subst h0
    have hz : zs = [] := List.eq_nil_of_length_eq_zero hl
    subst hz
    refine (Try.slices_Sort_int_none none 0 w).mono ?_
    rintro e w' ⟨rfl, rfl⟩
    exact ⟨rfl, by simpa [sortI] using h, Chg.refl _ _⟩
  · subst hl
    refine (Try.slices_Sort_int g 0 cap zs w (holds_of_blockI hb (by simpa using h4)) (lt_of_block hb) (by omega)).mono ?_
    rintro e w' ⟨rfl, q, os, rfl⟩
    refine ⟨rfl, ?_, Chg.of_grown (grownBy_sortedI _)⟩
    have := ownsRow_sortedI (n := q) (os := os) (ts := sortI zs) (cap := cap) hsl hbase hb h1 h2 h3
    exact this
end
end Go.Proofs.Ytchnejfdompfpaa
