/- The roads of no book; New; the reader's own panic. -/
import Derived.Test.YtihmlhjdlpjehaaGreatDoorT0
import Derived.LoopN
set_option linter.unusedVariables false
set_option linter.unusedSimpArgs false
namespace Go.Proofs.YtihmlhjdlpjehaaGreatDoor
open Go.RowKit

theorem New_any (w : World) : Calls Tryz.prog 21 #[] w fun e w' => e = .returned (.pointer (some ⟨w.heap.size, 0, none⟩)) ∧ w' = w.alloc (.cells #[.slice none 0 0] 83) := by
  go_enter Tryz.func21, Tryz.ntmps21
  go_wp2
  go_ret; exact ⟨rfl, rfl⟩
theorem One_nil (s : ByteArray) (w : World) : Calls Tryz.prog 19 #[.pointer none, .string s] w fun e w' => e = .returned (.tuple #[.int .i64 0, .int .i64 2]) ∧ w' = w := by
  go_enter Tryz.func19, Tryz.ntmps19
  go_wp2
  go_ret2; exact ⟨rfl, rfl⟩
theorem Make_nil (v : Value) (w : World) : Calls Tryz.prog 20 #[.pointer none, v] w fun e w' => e = .returned (.tuple #[.int .i64 0, .int .i64 2]) ∧ w' = w := by
  go_enter Tryz.func20, Tryz.ntmps20
  go_wp2
  go_ret2; exact ⟨rfl, rfl⟩
theorem Placed_nil (v : Value) (w : World) : Calls Tryz.prog 15 #[.pointer none, v] w fun e w' => e = .returned (.tuple #[.int .i64 0, .slice none 0 0, .int .i64 2]) ∧ w' = w := by
  go_enter Tryz.func15, Tryz.ntmps15
  go_wp2
  go_ret3; exact ⟨rfl, rfl⟩
theorem Copy_nil1 (v h : Value) (w : World) : Calls Tryz.prog 10 #[.pointer none, v, h] w fun e w' => e = .returned (.tuple #[.int .i64 0, .int .i64 2]) ∧ w' = w := by
  go_enter Tryz.func10, Tryz.ntmps10
  go_wp2
  go_ret2; exact ⟨rfl, rfl⟩
theorem Copy_nil2 (a : Addr) (h : Value) (w : World) : Calls Tryz.prog 10 #[.pointer (some a), .pointer none, h] w fun e w' => e = .returned (.tuple #[.int .i64 0, .int .i64 2]) ∧ w' = w := by
  go_enter Tryz.func10, Tryz.ntmps10
  go_wp2
  go_ret2; exact ⟨rfl, rfl⟩
theorem fails_any (r : Value) (w : World) : Calls Tryz.prog 83 #[r] w fun e w' => e = .panicked [{ v := .iface 161 (.agg #[]), recovered := false }] ∧ w' = w := by
  go_enter Tryz.func83, Tryz.ntmps83
  go_wp2
  exact ⟨rfl, rfl, rfl⟩
theorem Lines_nil (b : Nat) (s : ByteArray) (w : World) (hs : w.cell? ⟨b, 0, none⟩ = some (.string s)) : Calls Tryz.prog 18 #[.pointer none, .slice (some ⟨b, 0, none⟩) 1 1] w fun e w' => e = .returned (.tuple #[.int .i64 0, .int .i64 2]) ∧ w' = w := by
  go_enter Tryz.func18, Tryz.ntmps18
  go_wp2
  refine wp_loop_rounds 2 ?_
  rw [rounds_succ]
  go_wp2
  rw [rounds_succ]
  go_wp2_with (go_at_call 15; refine (Placed_nil _ _).mono ?_; rintro e w1 ⟨rfl, rfl⟩)
  go_ret2; exact ⟨rfl, rfl⟩
end Go.Proofs.YtihmlhjdlpjehaaGreatDoor
