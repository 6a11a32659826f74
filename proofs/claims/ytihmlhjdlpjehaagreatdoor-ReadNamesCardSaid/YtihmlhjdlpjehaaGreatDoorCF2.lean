/- The card of ReadNames: no function of its dump starts a goroutine. -/
import Derived.Test.YtihmlhjdlpjehaaGreatDoorRows
import Derived.SevenTiedAt
namespace Go.Proofs.YtihmlhjdlpjehaaGreatDoor
open Go
set_option maxRecDepth 100000
theorem goes_none {P : Program} {c : OpenClaim} {f : FuncId} (h : (P.funcs.toList.all fun g => !g.goes) = true) (hn : P.funcNamed c.func = some f) (hs : c.start = .entering) : false = c.goesBy P := by
  have h1 : ∀ g ∈ P.funcs, g.goes = false := fun g hg => by
    have := List.all_eq_true.1 h g (Array.mem_toList_iff.2 hg)
    simpa using this
  have h2 : P.goes f = false := by
    unfold Program.goes
    rw [Bool.or_eq_false_iff]
    constructor
    · rw [Bool.eq_false_iff]
      intro e
      simp only [List.any_eq_true, Option.any_eq_true] at e
      obtain ⟨g, _, y, hy, hg⟩ := e
      rw [h1 y (Array.mem_of_getElem? hy)] at hg
      cases hg
    · rw [Bool.and_eq_false_iff]
      right
      rw [Bool.eq_false_iff]
      intro e
      obtain ⟨i, hi, hg⟩ := Array.any_eq_true.1 e
      rw [h1 _ (Array.getElem_mem hi)] at hg
      cases hg
  unfold OpenClaim.goesBy Program.goesAt Program.goesFrom
  rw [hn, hs]
  simp [h2]
theorem cf_nogo : (Tryz.pinned.checked.prog.funcs.toList.all fun g => !g.goes) = true := by kernel_rfl
end Go.Proofs.YtihmlhjdlpjehaaGreatDoor
