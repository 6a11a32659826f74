/- Package strconv: FormatFloat of NaN. Package value: Float of NaN. Package strconv: FormatFloat of NaN. Package value: Float of NaN. -/
import Derived.Test.YtihmlhjdlpjehaaGreatDoorV1
import Derived.Test.YtihmlhjdlpjehaaGreatDoorR10
import Derived.Test.YtihmlhjdlpjehaaGreatDoorK11
import Derived.Lib.AppendStr
import Derived.RegionTactic
set_option linter.unusedVariables false
set_option linter.unusedSimpArgs false
namespace Go.Proofs.YtihmlhjdlpjehaaGreatDoor
open Go.RowKit

set_option maxRecDepth 1000000 in
set_option maxHeartbeats 2000000 in
theorem ftoa_nan (B : Nat) (v : Value) (w : World) (hown : w.ownsRow B 5 1 v 0 []) (hB : B ≤ w.heap.size) :
    Calls Tryz.prog 257 #[v, nanV, .int .u8 103, .int .i64 (-1)] w fun e w' => ∃ v', e = .returned v' ∧ w'.ownsRow B 5 1 v' 3 (Lib.strCells nanB) ∧ Below B w w' := by
  have h : Sem.run Tryz.prog (callFunc 287 #[nanV]) w = .ok (.value (.int .u64 9221120237041090561)) w := run_f64bits2 9221120237041090561 w
  obtain ⟨i0, hi, hz0, hz1, hz2⟩ := info_parts i5
  have U104 := u104
  have U9 : Tryz.prog.underlying 9 = some .string := by kernel_rfl
  go_enter Tryz.func257, Tryz.ntmps257
  go_wp2_with fail
  have hown1 : w.drew.ownsRow B 5 1 v 0 [] := own_turned (S := []) hown (Turned.refl _ _ w).drew (by simp)
  go_region
  all_goals
    go_wp2_with (at_builtin; refine Lib.wpList_append_own_string _ rfl (.tmp 70) (.const (.string nanB)) 104 9 rfl B 5 i0 U104 U9 hi hz0 hz1 hz2 v 0 [] rfl hown1 nanB rfl (by decide) (by decide) hB ?_; intro v' w1 ho hg _)
    go_ret
    exact ⟨v', rfl, ho, ((Below.refl B w).drew).grown hg hB (fun k hk => (hown.lt k hk).1)⟩
end Go.Proofs.YtihmlhjdlpjehaaGreatDoor
namespace Go.Proofs.YtihmlhjdlpjehaaGreatDoor
open Go.RowKit

theorem nan_cells : Lib.strCells nanB = ([78, 97, 78] : List UInt8).map fun b => Value.int .u8 (b.toNat : Int) := by kernel_rfl
set_option maxRecDepth 1000000 in
theorem iff_nan (w : World) : Calls Tryz.prog 219 #[nanV, .int .u8 103, .int .i64 (-1), .int .i64 64] w fun e w' => e = .returned (.string nanB) ∧ Below w.heap.size w w' := by
  obtain ⟨i0, hi, hz0, hz1, hz2⟩ := info_parts i5
  have U104 := u104
  go_enter Tryz.func219, Tryz.ntmps219
  go_wp2_with (first
    | (refine wpList_make_own _ rfl (.const (.int .i64 0)) (.tmp 25) 104 rfl w.heap.size 5 i0 (.int .u8 0) 1 U104 hi hz0 hz1 .i64 .i64 _ 24 rfl rfl rfl (by rw [hz2]; omega) (by decide) (Nat.le_refl _) ?_; intro w1 ho1 hg1)
    | (go_at_call 257; refine (ftoa_nan w.heap.size _ w1 ho1 hg1.size).mono ?_; rintro e w2 ⟨v', rfl, ho2, hb2⟩; obtain ⟨g', cap', rfl⟩ := ownsRow_succ ho2; rw [nan_cells] at ho2; have hcv := conv_own (l := [78, 97, 78]) ho2 rfl))
  go_ret
  exact ⟨rfl, ((Below.refl _ w).grown hg1 (Nat.le_refl _) (by simp)).trans hb2⟩
theorem FormatFloat_nan (w : World) : Calls Tryz.prog 164 #[nanV, .int .u8 103, .int .i64 (-1), .int .i64 64] w fun e w' => e = .returned (.string nanB) ∧ Below w.heap.size w w' := by
  have C := iff_nan w
  go_enter Tryz.func164, Tryz.ntmps164
  go_wp2_with fail
  refine C.mono ?_
  rintro e w1 ⟨rfl, hb⟩
  go_wp2_with fail
  go_ret
  exact ⟨rfl, hb⟩
theorem ascii_lit (s : ByteArray) (h : s.data.toList.all (fun b => decide (b.toNat < 128)) = true) : ∀ (j : Nat) b, s.data.toList[j]? = some b → b.toNat < 128 := by
  intro j b hj
  have := List.all_eq_true.1 h b (List.mem_of_getElem? hj)
  simpa using this
theorem Float_nan (w : World) : Calls Tryz.prog 121 #[nanV] w fun e w' => e = .returned (.string nanB) ∧ Below w.heap.size w w' := by
  have C := FormatFloat_nan w
  have CA := fun W => Tryz.strings_ContainsAny_laid nanB ⟨#[46, 101, 78, 73]⟩ W (by decide) (by decide) (ascii_lit _ (by decide)) (ascii_lit _ (by decide))
  go_enter Tryz.func121, Tryz.ntmps121
  go_wp2_with fail
  refine C.mono ?_
  rintro e w1 ⟨rfl, hb⟩
  go_wp2_with fail
  refine (CA w1).mono ?_
  have hca : Lib.containsAny [78, 97, 78] [46, 101, 78, 73] = true := by kernel_rfl
  rintro e w2 ⟨rfl, hb2⟩
  go_wp2_with fail
  go_ret
  exact ⟨rfl, hb.trans (hb2.mono hb.size)⟩
end Go.Proofs.YtihmlhjdlpjehaaGreatDoor
