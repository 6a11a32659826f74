/- Package strconv: ParseFloat of the text NaN. -/
import Derived.Test.YtihmlhjdlpjehaaGreatDoorT0
import Derived.Test.YtihmlhjdlpjehaaGreatDoorShelf
import Derived.LoopN
set_option linter.unusedVariables false
set_option linter.unusedSimpArgs false
namespace Go.Proofs.YtihmlhjdlpjehaaGreatDoor
open Go.RowKit

abbrev nanB : ByteArray := ⟨#[78, 97, 78]⟩
abbrev nanV : Value := .float .f64 9221120237041090561
set_option maxRecDepth 1000000 in
theorem nan_any (w : World) : Calls Tryz.prog 391 #[] w fun e w' => e = .returned nanV ∧ w' = w := by
  have h : Sem.run Tryz.prog (callFunc 386 #[.int .u64 9221120237041090561]) w = .ok (.value nanV) w := run_f64frombits 9221120237041090561 w
  go_enter Tryz.func391, Tryz.ntmps391
  go_wp2
  go_ret
  exact ⟨rfl, rfl⟩
set_option maxRecDepth 1000000 in
set_option maxHeartbeats 2000000 in
theorem prefix_nan (w : World) : Calls Tryz.prog 389 #[.string nanB, .string ⟨#[110, 97, 110]⟩] w fun e w' => e = .returned (.int .i64 3) ∧ w' = w := by
  go_enter Tryz.func389, Tryz.ntmps389
  go_wp2_with fail
  refine wp_loop_rounds 4 ?_
  rw [rounds_succ]
  go_wp2_with fail
  rw [rounds_succ]
  go_wp2_with fail
  rw [rounds_succ]
  go_wp2_with fail
  rw [rounds_succ]
  go_wp2_with fail
  go_ret
  exact ⟨rfl, rfl⟩
set_option maxRecDepth 1000000 in
set_option maxHeartbeats 2000000 in
theorem special_nan (w : World) : Calls Tryz.prog 377 #[.string nanB] w fun e w' => e = .returned (.tuple #[nanV, .int .i64 3, .bool true]) ∧ w' = w := by
  have C1 := prefix_nan w
  have C2 := nan_any w
  go_enter Tryz.func377, Tryz.ntmps377
  go_wp2_with (first
    | (go_at_call 389; refine C1.mono ?_; rintro e w1 ⟨rfl, rfl⟩)
    | (go_at_call 391; refine C2.mono ?_; rintro e w2 ⟨rfl, rfl⟩))
  go_ret3
  exact ⟨rfl, rfl⟩
set_option maxRecDepth 1000000 in
theorem atof64_nan (w : World) : Calls Tryz.prog 376 #[.string nanB] w fun e w' => e = .returned (.tuple #[nanV, .int .i64 3, .nilIface]) ∧ w' = w := by
  have C := special_nan w
  go_enter Tryz.func376, Tryz.ntmps376
  go_wp2_with (go_at_call 377; refine C.mono ?_; rintro e w1 ⟨rfl, rfl⟩)
  go_ret3
  exact ⟨rfl, rfl⟩
set_option maxRecDepth 1000000 in
theorem pfp_nan (w : World) : Calls Tryz.prog 373 #[.string nanB, .int .i64 64] w fun e w' => e = .returned (.tuple #[nanV, .int .i64 3, .nilIface]) ∧ w' = w := by
  have C := atof64_nan w
  go_enter Tryz.func373, Tryz.ntmps373
  go_wp2_with (go_at_call 376; refine C.mono ?_; rintro e w1 ⟨rfl, rfl⟩)
  go_ret3
  exact ⟨rfl, rfl⟩
set_option maxRecDepth 1000000 in
theorem ipf_nan (w : World) : Calls Tryz.prog 370 #[.string nanB, .int .i64 64] w fun e w' => e = .returned (.tuple #[nanV, .nilIface]) ∧ w' = w := by
  have C := pfp_nan w
  go_enter Tryz.func370, Tryz.ntmps370
  go_wp2_with (go_at_call 373; refine C.mono ?_; rintro e w1 ⟨rfl, rfl⟩)
  go_ret2
  exact ⟨rfl, rfl⟩
set_option maxRecDepth 1000000 in
theorem ParseFloat_nan (w : World) : Calls Tryz.prog 363 #[.string nanB, .int .i64 64] w fun e w' => e = .returned (.tuple #[nanV, .nilIface]) ∧ w' = w := by
  have C := ipf_nan w
  go_enter Tryz.func363, Tryz.ntmps363
  go_wp2_with (go_at_call 370; refine C.mono ?_; rintro e w1 ⟨rfl, rfl⟩)
  go_ret2
  exact ⟨rfl, rfl⟩
end Go.Proofs.YtihmlhjdlpjehaaGreatDoor
