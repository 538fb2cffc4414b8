/-
  Compact at a slice of integers of the call's own.
-/
import Derived.Test.YtchnejfdompfpaaSortI
import Derived.Test.YtchnejfdompfpaaSlices
import Derived.Test.YtchnejfdompfpaaInfo
import Derived.Lib.OwnBridge
import Derived.Sort.OwnSortedInts
namespace Go.Proofs.Ytchnejfdompfpaa
open Go.RowKit Go.Sort

section
variable {w : World} {base : Nat} {v : Value} {n : Nat} {zs : List Int}
theorem compact_own (h : w.ownsRow base 3 1 v n (zs.map (Value.int .i64))) (hn : n ≤ 17592186043904) :
    Calls Try.prog 32 #[v] w fun e w' => ∃ v', e = .returned v' ∧ w'.ownsRow base 3 1 v' (Lib.compact zs).length ((Lib.compact zs).map (Value.int .i64)) ∧ (v = .slice none 0 0 → v' = v) ∧ v'.ownBlock = v.ownBlock ∧ Chg (fun k => some k = v.ownBlock) w w' := by
  have hl : zs.length = n := by simpa using h.1
  rcases h.2 with ⟨rfl, h0⟩ | ⟨g, cap, cur, rfl, hbase, hb, h1, h2, h3, h4⟩
  · subst h0
    have hz : zs = [] := List.eq_nil_of_length_eq_zero hl
    subst hz
    refine (Try.slices_Compact_int_empty none 0 w).mono ?_
    rintro e w' ⟨rfl, rfl⟩
    exact ⟨_, rfl, by simpa [Lib.compact, Lib.compactUpTo] using h, fun _ => rfl, rfl, Chg.refl _ _⟩
  · subst hl
    have hcl : (Lib.compact zs).length ≤ zs.length := by
      unfold Lib.compact Lib.compactUpTo
      have := List.length_filter_le (Lib.keeps zs.toArray) (List.range zs.length)
      simpa using this
    refine (Try.slices_Compact_int g 0 cap zs w (holds_of_blockI hb (by simpa using h4)) (by omega) h1).mono ?_
    rintro e w' ⟨rfl, q, rfl⟩
    refine ⟨_, rfl, ?_, fun h => (by cases h), rfl, ?_⟩
    · have := Lib.ownsRow_putRow (q := q) (ys := Lib.compact zs ++ List.replicate (zs.length - (Lib.compact zs).length) 0) h (by simp; omega) hcl
      rw [List.take_append_of_le_length (Nat.le_refl _), List.take_length] at this
      exact this
    · refine ⟨rfl, rfl, rfl, by simp [putRow, mapBlock, Sort.ahead], fun k hk hn => ?_⟩
      have hne : g ≠ k := fun e => hn (by simp [Value.ownBlock, e])
      simp [putRow, mapBlock, Sort.ahead, Array.getElem?_modify, hne]
end
end Go.Proofs.Ytchnejfdompfpaa
