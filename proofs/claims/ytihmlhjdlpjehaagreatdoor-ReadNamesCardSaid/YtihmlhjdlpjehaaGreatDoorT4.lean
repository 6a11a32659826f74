/- A call of a function as one step of a region that draws. -/
import Derived.Test.YtihmlhjdlpjehaaGreatDoorK19
import Derived.Deep.RegionLaw
set_option linter.unusedVariables false
set_option linter.unusedSimpArgs false
namespace Go.Proofs.YtihmlhjdlpjehaaGreatDoor
open Go.RowKit

theorem step_call {P : Program} {ops : Array Oper} {o : Oper} {a : Act} {w : World} {K : Act → World → Prop} {Q : Exit → Act → World → Prop} {E : Prop}
    (hg : o.guard = none) (n : Nat) (args : Array Operand) (ts : Array TypeId) (hop : o.op = Op.call { callee := Callee.value (.func n), args := args, argTypes := ts })
    (vals : Array Value) (hv0 : args.toList.map a.eval = vals.toList) (he : ∀ w, (callFunc n vals).run P w = .ok (.enter n vals) w) {R : Ending → World → Prop} (hC : Calls P n vals w R) (hR : ∀ e w', R e w' → ∃ v, e = .returned v ∧ K (a.put o.dst v) w') :
    if Region.wanted o (yielded ops a.tmps) = true then Oper.wp P o a w K Q else E := by
  have hw : Region.wanted o (yielded ops a.tmps) = true := by simp [Region.wanted, hg]
  rw [if_pos hw]
  have hv : args.map a.eval = vals := by rw [← Array.toList_inj, Array.toList_map]; exact hv0
  unfold Oper.wp
  simp [execOp, hop, resolve, invoke, hv, he, Result.andThen, go_sem]
  exact hC.mono fun e w' h => by
    obtain ⟨v, rfl, hk⟩ := hR e w' h
    exact hk
end Go.Proofs.YtihmlhjdlpjehaaGreatDoor
