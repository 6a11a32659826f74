/- Package text: Front, at the one text that the worked line has. Package read: the reader's text. -/
import Derived.Test.YtihmlhjdlpjehaaGreatDoorR10
import Derived.Test.YtihmlhjdlpjehaaGreatDoorR7
import Derived.Test.YtihmlhjdlpjehaaGreatDoorK14
import Derived.LoopN
import Derived.Deep.RegionWith
set_option linter.unusedVariables false
set_option linter.unusedSimpArgs false
namespace Go.Proofs.YtihmlhjdlpjehaaGreatDoor
open Go.RowKit

theorem Quote_w (w : World) : Calls Tryz.prog 210 #[.string ⟨#[119]⟩] w fun e w' => e = .returned (.string ⟨#[34, 119, 34]⟩) ∧ Below w.heap.size w w' :=
  Quote_plain ⟨#[119]⟩ [⟨0, 119, by decide, by decide, by decide, by decide⟩] ⟨rfl, fun k h h' => by
    have : k = 0 := by simp at h; omega
    subst this
    exact ⟨rfl, rfl⟩⟩ (by decide) w
/-- `"w" (code 7), none, level NaN)` -/
abbrev tailB : ByteArray := ⟨#[34,119,34,32,40,99,111,100,101,32,55,41,44,32,110,111,110,101,44,32,108,101,118,101,108,32,78,97,78,41]⟩
set_option maxRecDepth 1000000 in
set_option maxHeartbeats 2000000 in
theorem Front_w (w : World) : Calls Tryz.prog 238 #[.string tailB] w fun e w' => e = .returned (.tuple #[.string ⟨#[119]⟩, .int .i64 3, .int .i64 0]) ∧ Below w.heap.size w w' := by
  obtain ⟨i0, hi, hz0, hz1, hz2⟩ := info_parts i5
  have U104 := u104
  have HQ := fun W => Quote_w W
  go_enter Tryz.func238, Tryz.ntmps238
  go_wp2_with fail
  refine wp_loop_rounds 2 ?_
  rw [rounds_succ]
  go_wp2_with (at_builtin; refine wpList_append_own _ rfl (.tmp 47) (.tmp 49) 104 rfl w.heap.size 5 i0 (.int .u8 0) 1 1 U104 hi hz0 hz1 hz2 rfl (by decide) (.slice none 0 0) 0 [] rfl (World.ownsRow_nil _ _ _ _) ⟨w.heap.size, 0, none⟩ 1 1 [.int .u8 119] rfl rfl (new1 _ _ _) (by intro u hu; simp at hu; subst hu; rfl) (by unfold maxLen; omega) (by omega) (by simp) ?_; intro v' w1 hown' hgr _; obtain ⟨g', cap', rfl⟩ := ownsRow_succ hown')
  have hb1 : Below w.heap.size w w1 := Below.grown ((Below.refl _ w).alloc (Nat.le_refl _) _) hgr (by simp) (by simp [Value.ownBlock])
  have hcv : (convert 104 9 (.slice (some ⟨g', 0, none⟩) 1 cap')).run Tryz.prog w1 = .ok (.string ⟨#[119]⟩) w1 := conv_own (l := [119]) hown' rfl
  clear hown' hgr
  rw [rounds_succ]
  go_wp2_with fail
  have ht : (([34, 119, 34] : List UInt8) == (tailB.extract 0 3).toList) = true := by kernel_rfl
  go_region_with (go_at_call 210; refine (HQ _).mono ?_; rintro e w2 ⟨rfl, hb2⟩)
  all_goals go_wp2_with fail
  all_goals
    go_ret3
    have h := hb2.size
    simp at h
    exact ⟨rfl, hb1.trans (((Below.refl _ w1).drew.trans hb2).mono hb1.size)⟩
set_option maxRecDepth 100000 in
theorem rtext_w (s : ByteArray) (pv : Value) (rb : Nat) (w : World) (hr : RB w rb s pv) (h1 : preB s ⟨#[32]⟩ = true) (h2 : dropS s ⟨#[32]⟩ = tailB) :
    Calls Tryz.prog 197 #[.pointer (some ⟨rb, 0, none⟩)] w fun e w' => e = .returned (.string ⟨#[119]⟩) ∧ RB w' rb (tailB.extract 3 30) pv ∧ Turned w.heap.size [rb] w w' := by
  have CT := takes_step s ⟨#[32]⟩ pv rb w hr h1
  rw [h2] at CT
  have HCF := fun w1 => Front_w w1
  clear hr h1 h2
  have hz : tailB.size = 30 := rfl
  have hf : ∀ w1, RB w1 rb tailB pv → RB (rset w1 rb (tailB.extract 3 30)) rb (tailB.extract 3 30) pv ∧ Turned w1.heap.size [rb] w1 (rset w1 rb (tailB.extract 3 30)) := fun w1 h => ⟨h.set _, rset_turned _ _ _⟩
  have HF := Lib.hid hf
  clear hf
  generalize tailB = tb at *
  go_enter Tryz.func197, Tryz.ntmps197
  go_wp2_with fail
  refine CT.mono ?_
  rintro e w1 ⟨rfl, r1, t1⟩
  have c1 : w1.cell? ⟨rb, 0, none⟩ = some (.string tb) := r1.cell 0
  clear CT
  go_wp2_with fail
  refine (HCF w1).mono ?_
  rintro e w2 ⟨rfl, b2⟩
  have r2 := r1.below b2 r1.lt
  have c2 : w2.cell? ⟨rb, 0, none⟩ = some (.string tb) := r2.cell 0
  have f2 := r2.frozen 0
  go_wp2_with fail
  go_ret
  obtain ⟨h1, h2⟩ := HF.out w2 r2
  exact ⟨rfl, h1, (t1.step t1.size (Turned.of_below b2)).step (by have := t1.size; have := b2.size; omega) h2⟩
end Go.Proofs.YtihmlhjdlpjehaaGreatDoor
