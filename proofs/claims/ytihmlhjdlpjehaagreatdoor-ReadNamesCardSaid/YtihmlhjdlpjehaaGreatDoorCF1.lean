/- The card of ReadNames: closed facts on its dump, the first part. -/
import Derived.Test.YtihmlhjdlpjehaaGreatDoorRows
import Derived.SevenTiedAt
namespace Go.Proofs.YtihmlhjdlpjehaaGreatDoor
open Go
set_option maxRecDepth 100000
theorem cf_looks : true = Tryz.pinned.checked.prog.looks [] := by kernel_rfl
theorem cf_named : Tryz.pinned.checked.prog.funcNamed Rows.readNamesRow.func = some 5 := by kernel_rfl
theorem cf_wf : Rows.readNamesRow.wfByText (OpenSpec.ofChange Rows.readNamesSpec) = true := by kernel_rfl
theorem cf_main : Tryz.pinned.checked.prog.mainIs = some (true, "65e2c17d662191dc2a7780185b5ff9738128d9a6a434f50ffc3f1eaeb8b60b70".toList) := by kernel_rfl
theorem cf_wrap : Tryz.f5.isWrapper Tryz.pinned.checked.prog Rows.readNamesRow.wrapper Rows.readNamesRow.mainSum := by
  unfold Func.isWrapper
  first | (rw [if_pos (by decide +kernel)]; kernel_rfl) | (rw [if_neg (by decide +kernel)]; exact ⟨rfl, rfl⟩)
theorem cf_inst : Tryz.f5.isInstance Tryz.pinned.checked.prog Rows.readNamesRow.origin Rows.readNamesRow.targs := of_decide_eq_true (by kernel_rfl)
end Go.Proofs.YtihmlhjdlpjehaaGreatDoor
