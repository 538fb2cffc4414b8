/-
  Cut: at most n bytes.
-/
import Derived.Test.YtchnejfdompfpaaChecked
import Derived.Test.YtchnejfdompfpaaBase
import Derived.BigQuiet
import Derived.WalkSpells
import Derived.WalkLawsBesides
namespace Go.Proofs.Ytchnejfdompfpaa
open Go.RowKit

def cut (s : ByteArray) (n : Nat) : ByteArray := if n < s.size then s.extract 0 n else s
theorem cut_size (s : ByteArray) (n : Nat) : (cut s n).size ≤ n := by
  unfold cut; split
  · simp only [ByteArray.size_extract]; omega
  · omega
theorem cut_any (s : ByteArray) (n : Nat) (w : World) (_hs : s.size ≤ maxLen) (hn : n ≤ 1000000) : Calls Try.prog 27 #[.string s, .int .i64 n] w fun e w' => e = .returned (.string (cut s n)) ∧ w' = w := by
  unfold maxLen at _hs
  by_cases h : n < s.size
  · have e : cut s n = s.extract 0 n := if_pos h
    go_enter Try.func27, Try.ntmps27
    go_wp2_with fail
    go_ret
    rw [e]
    exact ⟨rfl, rfl⟩
  · have e : cut s n = s := if_neg h
    go_enter Try.func27, Try.ntmps27
    go_wp2_with fail
    go_ret
    rw [e]
    exact ⟨rfl, rfl⟩
end Go.Proofs.Ytchnejfdompfpaa
