/-
  Part 9 of what the law leans on.
-/
import Derived.Test.YtapodcmjggmgmaaGreatDoorST1
import Derived.Test.YtapodcmjggmgmaaGreatDoorST2
import Derived.Sort.LotA
import Derived.Sort.LotB
import Derived.Sort.LotC
import Derived.Sort.LotD1
import Derived.Sort.LotD2
import Derived.CellFam
import Derived.RegionTactic
import Derived.Deep.QuietTactic
import Derived.BigQuiet
import Derived.Deep.Cut
import Derived.Deep.CutRange
import Derived.Deep.CutBlock
import Derived.Outline
import Derived.Laws.Bits64b
import Derived.Laws.Closers25b
set_option linter.unusedVariables false
set_option linter.unusedSimpArgs false
set_option linter.unusedSectionVars false
namespace Go.Proofs.YtapodcmjggmgmaaGreatDoor
open Go.RowKit Go.Sort
def eU (z : Int) : Value := .int .u64 z
structure RU (w : World) (blk off cap : Nat) (d : Array Int) : Prop where
  z : off = 0
  own : w.ownsRow 0 28 1 (.slice (some ⟨blk, 0, none⟩) d.size cap) d.size (d.toList.map eU)
section
variable {w w' : World} {blk off cap : Nat} {d : Array Int}
end
section
variable (blk off cap a b : Nat) (d : Array Int) (w : World) (h : RU w blk off cap d) (hsz : d.size < 4611686018427387904)
include h hsz
end
end Go.Proofs.YtapodcmjggmgmaaGreatDoor
namespace Go.Proofs.YtapodcmjggmgmaaGreatDoor
open Go.RowKit Go.Sort
section
variable (blk off cap : Nat) (d : Array Int) (w : World) (h : RU w blk off cap d) (hsz : d.size < 4611686018427387904)
include h hsz
end
end Go.Proofs.YtapodcmjggmgmaaGreatDoor
namespace Go.Proofs.YtapodcmjggmgmaaGreatDoor
open Go.RowKit Go.Sort
section
variable (blk off cap : Nat) (d : Array Int) (w : World) (h : RU w blk off cap d) (hsz : d.size < 4611686018427387904)
include h hsz
end
end Go.Proofs.YtapodcmjggmgmaaGreatDoor
namespace Go.Proofs.YtapodcmjggmgmaaGreatDoor
open Go.RowKit Go.Sort
section
variable (blk off cap : Nat) (d : Array Int) (w : World) (h : RU w blk off cap d) (hsz : d.size < 4611686018427387904)
include h hsz
end
end Go.Proofs.YtapodcmjggmgmaaGreatDoor
namespace Go.Proofs.YtapodcmjggmgmaaGreatDoor
open Go.RowKit Go.Sort
section
variable (blk off cap : Nat) (d : Array Int) (w : World) (h : RU w blk off cap d) (hsz : d.size < 4611686018427387904)
include h hsz
end
end Go.Proofs.YtapodcmjggmgmaaGreatDoor
namespace Go.Proofs.YtapodcmjggmgmaaGreatDoor
open Go.RowKit Go.Sort
section
variable {p : Int → Int → Bool} {a b i j : Nat} {d : Array Int}
end
section
variable (blk off cap : Nat) (d : Array Int) (w : World) (h : RU w blk off cap d) (hsz : d.size < 4611686018427387904)
include h hsz
end
end Go.Proofs.YtapodcmjggmgmaaGreatDoor
namespace Go.Proofs.YtapodcmjggmgmaaGreatDoor
open Go.RowKit Go.Sort
section
variable (blk off cap : Nat) (d : Array Int) (w : World) (h : RU w blk off cap d) (hsz : d.size < 4611686018427387904)
include h hsz
end
end Go.Proofs.YtapodcmjggmgmaaGreatDoor
