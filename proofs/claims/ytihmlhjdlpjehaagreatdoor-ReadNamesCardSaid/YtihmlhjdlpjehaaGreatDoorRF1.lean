/- The row of ReadNames: closed facts on its dump, the first part. -/
import Derived.Test.YtihmlhjdlpjehaaGreatDoorRows
import Derived.JoinedOf
namespace Go.Proofs.YtihmlhjdlpjehaaGreatDoor
open Go
set_option maxRecDepth 100000
theorem jf10 : (Rows.readNamesRow.inPlace == Tryz.pinned.checked.prog.inPlace 5) = true := by kernel_rfl
theorem jf11 : (Rows.readNamesRow.unfollowed == Tryz.pinned.checked.prog.unfollowed 5) = true := by kernel_rfl
end Go.Proofs.YtihmlhjdlpjehaaGreatDoor
