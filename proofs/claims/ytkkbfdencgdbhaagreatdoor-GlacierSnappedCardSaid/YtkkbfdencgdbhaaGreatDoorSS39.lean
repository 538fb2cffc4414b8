/-
  Part 39 of what the law leans on.
-/
import Derived.Test.YtkkbfdencgdbhaaGreatDoorSS18
import Derived.Test.YtkkbfdencgdbhaaGreatDoorSS21
import Derived.Test.YtkkbfdencgdbhaaGreatDoorSS26
import Derived.Test.YtkkbfdencgdbhaaGreatDoorSS29
set_option linter.unusedVariables false
set_option linter.unusedSimpArgs false
set_option linter.unusedSectionVars false
namespace Go.Proofs.YtkkbfdencgdbhaaGreatDoor
open Go.RowKit Go.Sort
end Go.Proofs.YtkkbfdencgdbhaaGreatDoor
namespace Go.Proofs.YtkkbfdencgdbhaaGreatDoor
open Go.RowKit Go.Sort
section
variable{w:World}{B:Nat→Prop}{c mb mn:Nat}{P:Pm}
end
end Go.Proofs.YtkkbfdencgdbhaaGreatDoor
