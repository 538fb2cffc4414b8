/-
  Part 10 of what the law leans on.
-/
import Derived.Test.YtapodcmjggmgmaaGreatDoorST1
import Derived.Test.YtapodcmjggmgmaaGreatDoorST8
import Derived.Test.YtapodcmjggmgmaaGreatDoorST9
import Derived.Shelf.SlIter.Nil
import Derived.Sort.LoopGhostIn
set_option linter.unusedVariables false
set_option linter.unusedSimpArgs false
set_option linter.unusedSectionVars false
namespace Go.Proofs.YtapodcmjggmgmaaGreatDoor
open Go.RowKit Go.Sort
section
variable {a m b : Nat} {d L R : Array Int}
end
section
variable {a b a' b' : Nat} {d dk d2 : Array Int}
end
section
variable (blk off cap : Nat) (d : Array Int) (w : World) (h : RU w blk off cap d) (hsz : d.size < 4611686018427387904)
include h hsz
end
end Go.Proofs.YtapodcmjggmgmaaGreatDoor
namespace Go.Proofs.YtapodcmjggmgmaaGreatDoor
open Go.RowKit Go.Sort
section
variable {ν : Type} {vv : ν → Value}
end
end Go.Proofs.YtapodcmjggmgmaaGreatDoor
namespace Go.Proofs.YtapodcmjggmgmaaGreatDoor
open Go.RowKit Go.Maps Go.Sort Go.Shelf
end Go.Proofs.YtapodcmjggmgmaaGreatDoor
namespace Go.Proofs.YtapodcmjggmgmaaGreatDoor
open Go.RowKit Go.Sort
theorem own_baseU {w : World} {b1 b2 : Nat} {e : TypeId} {s : Nat} {v : Value} {n : Nat} {xs : List Value} (h : w.ownsRow b1 e s v n xs) (hb : b2 ≤ b1) : w.ownsRow b2 e s v n xs := by
  refine ⟨h.1, ?_⟩
  rcases h.2 with hn | ⟨g, cap, cur, hv, hbg, rest⟩
  · exact .inl hn
  · exact .inr ⟨g, cap, cur, hv, Nat.le_trans hb hbg, rest⟩
end Go.Proofs.YtapodcmjggmgmaaGreatDoor
