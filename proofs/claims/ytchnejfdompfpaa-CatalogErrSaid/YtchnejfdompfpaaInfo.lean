/-
  Rows of the table of types.
-/
import Derived.Test.YtchnejfdompfpaaChecked
import Derived.WalkKit
namespace Go.Proofs.Ytchnejfdompfpaa
open Go.RowKit
theorem int_info : (Try.prog.info? 3).map (fun i => (i.zero, i.size, i.bytes)) = some (some (.int .i64 0), 1, 8) := by kernel_rfl
end Go.Proofs.Ytchnejfdompfpaa
