/- The row of ReadNames: closed facts on its dump, the second part. -/
import Derived.Test.YtihmlhjdlpjehaaGreatDoorRows
import Derived.JoinedOf
namespace Go.Proofs.YtihmlhjdlpjehaaGreatDoor
open Go
set_option maxRecDepth 100000
theorem jf12 : (Rows.readNamesRow.recurses == Tryz.pinned.checked.prog.recurses 5) = true := by kernel_rfl
theorem jf13 : (Rows.readNamesRow.named == Tryz.pinned.checked.prog.varsNamed 5) = true := by kernel_rfl
end Go.Proofs.YtihmlhjdlpjehaaGreatDoor
