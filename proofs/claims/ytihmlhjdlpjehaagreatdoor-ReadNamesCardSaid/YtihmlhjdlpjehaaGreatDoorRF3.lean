/- The row of ReadNames: closed facts on its dump, the third part; all of them together. -/
import Derived.Test.YtihmlhjdlpjehaaGreatDoorRF1
import Derived.Test.YtihmlhjdlpjehaaGreatDoorRF2
namespace Go.Proofs.YtihmlhjdlpjehaaGreatDoor
open Go
set_option maxRecDepth 100000
theorem jf01 : Rows.readNamesRow.wf (OpenSpec.ofChange Rows.readNamesSpec) = true := by kernel_rfl
theorem jf02 : laidOutB Tryz.pinned.checked.prog = true := by kernel_rfl
theorem jf03 : mapsRowed Tryz.pinned.checked.prog = true := by kernel_rfl
theorem jf04 : Tryz.f5.params.all (Tryz.pinned.checked.prog.readableRec ·) = true := by kernel_rfl
theorem jf05 : namedTie Tryz.pinned.checked.prog Rows.readNamesRow.named Rows.readNamesSpec.vars = true := by kernel_rfl
theorem jf06 : (Rows.readNamesRow.stops == []) = true := by kernel_rfl
theorem jf07 : (Tryz.pinned.checked.prog.stops == []) = true := by kernel_rfl
theorem jf08 : (Rows.readNamesRow.knobs == []) = true := by kernel_rfl
theorem jf09 : (Tryz.pinned.checked.prog.stopKnobs == []) = true := by kernel_rfl
theorem jf14 : (Rows.readNamesRow.maps == (Tryz.f5.params.toList ++ Rows.readNamesSpec.plain.varTypes Tryz.pinned.checked.prog).any (Tryz.pinned.checked.prog.mapsRec ·)) = true := by kernel_rfl
theorem jf15 : (Rows.readNamesRow.ifaces == (Tryz.f5.params.toList ++ Rows.readNamesSpec.plain.varTypes Tryz.pinned.checked.prog).any (Tryz.pinned.checked.prog.ifacesRec ·)) = true := by kernel_rfl
theorem jf16 : (Rows.readNamesRow.mapsOut == Tryz.pinned.checked.prog.mapsAmong Tryz.f5.resultTypes.toList) = true := by kernel_rfl
theorem jf17 : (Rows.readNamesRow.loops == (Tryz.f5.params.toList ++ Rows.readNamesSpec.plain.varTypes Tryz.pinned.checked.prog).any (Tryz.pinned.checked.prog.loopsFrom ·)) = true := by kernel_rfl
theorem jf17b : (Rows.readNamesRow.wideKeys == (Tryz.f5.params.toList ++ Rows.readNamesSpec.plain.varTypes Tryz.pinned.checked.prog ++ Tryz.f5.resultTypes.toList).any (Tryz.pinned.checked.prog.wideKeysFrom ·)) = true := by kernel_rfl
theorem jf18 : Rows.readNamesSpec.vars.all (Tryz.pinned.checked.prog.varReadable ·) = true := by kernel_rfl
theorem jf19 : Tryz.f5.resultTypes.all (fun t => Tryz.pinned.checked.prog.readableRec t && decide (t < Tryz.pinned.checked.prog.types.size)) = true := by kernel_rfl
theorem jf20 : (Rows.readNamesRow.ifacesOut == Tryz.f5.resultTypes.toList.any (Tryz.pinned.checked.prog.ifacesRec ·)) = true := by kernel_rfl
theorem jf21 : (Rows.readNamesRow.loopsOut == Tryz.f5.resultTypes.toList.any (Tryz.pinned.checked.prog.loopsFrom ·)) = true := by kernel_rfl
theorem jf22 : (Rows.readNamesRow.plainKeys == Tryz.pinned.checked.prog.plainKeys) = true := by kernel_rfl
theorem jf23 : Rows.readNamesRow.shortTexts.isNone = true := by kernel_rfl
theorem jf23b : Tryz.pinned.checked.prog.stopsHeard = true := by kernel_rfl
theorem jf24 : Tryz.pinned.checked.prog.mayEnter = true := by kernel_rfl
theorem jf24b : (Rows.readNamesRow.lifted == Tryz.pinned.checked.prog.liftsFinal) = true := by kernel_rfl
theorem jf24c : (Tryz.pinned.checked.prog.make == some Rows.readNamesRow.make) = true := by kernel_rfl
theorem jf25 : (Rows.readNamesRow.kinds == (if Rows.readNamesRow.domain.isEmpty then [] else Tryz.f5.params.toList.map fun t => match Tryz.pinned.checked.prog.underlying t with | some (.int k) => some k | _ => none)) = true := by kernel_rfl
theorem jf26 : (Rows.readNamesRow.pinned == Rows.readNamesRow.pinnedBy) = true := by kernel_rfl
theorem jf27 : (Rows.readNamesRow.veiled == (Tryz.f5.params.toList ++ Rows.readNamesSpec.plain.varTypes Tryz.pinned.checked.prog ++ Tryz.f5.resultTypes.toList).any (Tryz.pinned.checked.prog.veiledRec ·)) = true := by kernel_rfl
theorem jf28 : Rows.readNamesRow.veiledFits Tryz.pinned.checked.prog Tryz.f5.params.toList (Tryz.f5.params.toList ++ Rows.readNamesSpec.plain.varTypes Tryz.pinned.checked.prog ++ Tryz.f5.resultTypes.toList) = true := by kernel_rfl
theorem and2 {a b : Bool} (ha : a = true) (hb : b = true) : (a && b) = true := by rw [ha, hb]; rfl
theorem joined_names : joinedFacts Tryz.pinned.checked.prog 5 Tryz.f5 Rows.readNamesSpec Rows.readNamesRow = true := by
  unfold joinedFacts
  exact and2 (and2 (and2 (and2 (and2 (and2 (and2 (and2 (and2 (and2 (and2 (and2 (and2 (and2 (and2 (and2 (and2 (and2 (and2 (and2 (and2 (and2 (and2 (and2 (and2 (and2 (and2 (and2 (and2 (and2 (and2 jf01 jf02) jf03) jf04) jf05) jf06) jf07) jf08) jf09) jf10) jf11) jf12) jf13) jf14) jf15) jf16) jf17) jf17b) jf18) jf19) jf20) jf21) jf22) jf23) jf23b) jf24) jf24b) jf24c) jf25) jf26) jf27) jf28
end Go.Proofs.YtihmlhjdlpjehaaGreatDoor
