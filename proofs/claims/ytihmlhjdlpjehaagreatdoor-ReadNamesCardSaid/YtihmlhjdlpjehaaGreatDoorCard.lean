/- The tied card of ReadNames: for whatever world a call of the statement begins in after the program's own start, it returns true; what its row lists is what the program's own text lays. -/
import Derived.Test.YtihmlhjdlpjehaaGreatDoorRowOk
import Derived.Test.YtihmlhjdlpjehaaGreatDoorRowTie
import Derived.Test.YtihmlhjdlpjehaaGreatDoorRF3
import Derived.Test.YtihmlhjdlpjehaaGreatDoorCF1
import Derived.Test.YtihmlhjdlpjehaaGreatDoorCF2
import Derived.Test.YtihmlhjdlpjehaaGreatDoorCards
import Derived.SevenTiedAt
namespace Go.Proofs.YtihmlhjdlpjehaaGreatDoor
open Go

theorem cf_goes : false = Rows.readNamesRow.goesBy Tryz.pinned.checked.prog := goes_none cf_nogo cf_named rfl
theorem readNames_holds : Rows.ReadNamesSaid :=
  OpenClaim.holds_of_wide 5 Tryz.f5 rfl rfl rfl rfl rfl rfl rfl ⟨rfl, rfl, rfl, rfl, rfl⟩ rfl rfl rfl rfl rfl cf_named Tryz.func5 joined_names
    cf_inst cf_wrap
    (fun os started H enc _ => names_lifted os started H enc)
theorem names_params (f : FuncId) (fn : Func) (hf : Tryz.pinned.checked.prog.funcNamed Rows.readNamesRow.func = some f) (hfn : Tryz.pinned.checked.prog.funcs[f]? = some fn) :
    true = Tryz.pinned.checked.prog.looks [] ∧ ∀ (j : Nat) t, fn.params[j]? = some t → Tryz.pinned.checked.prog.wantsStandIn t = false := by
  obtain rfl : f = 5 := Option.some.inj (cf_named.symm.trans hf) |>.symm
  obtain rfl : fn = Tryz.f5 := (Option.some.inj (Tryz.func5.symm.trans hfn)).symm
  exact ⟨cf_looks, fun j t ht => by
    rw [Tryz.params5] at ht
    simp at ht⟩
theorem readNames_card : Rows.ReadNamesCardSaid :=
  Claim7.holds_tied_plain_at .later [] [.data, .data, .widerDeep, .widerDeep, .data, .data, .data, .data, .data, .data, .sentinel, .sentinel, .listed, .data, .pinned, .pinned, .pinned] true (true, "65e2c17d662191dc2a7780185b5ff9738128d9a6a434f50ffc3f1eaeb8b60b70") true readNames_holds (fun _ h => by cases h) cf_wf (fun _ h => by cases h) names_tie rfl ⟨rfl, rfl⟩ cf_main rfl
    names_params cf_goes
#print axioms readNames_card
end Go.Proofs.YtihmlhjdlpjehaaGreatDoor
