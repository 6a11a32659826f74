/- Package read: the reader's number, where 16 bits are asked and the number is a small one. -/
import Derived.Test.YtihmlhjdlpjehaaGreatDoorR6
import Derived.Test.YtihmlhjdlpjehaaGreatDoorR2
import Derived.Test.YtihmlhjdlpjehaaGreatDoorW1
import Derived.Test.YtihmlhjdlpjehaaGreatDoorShelf
set_option linter.unusedVariables false
set_option linter.unusedSimpArgs false
namespace Go.Proofs.YtihmlhjdlpjehaaGreatDoor
open Go.RowKit

abbrev stopB : ByteArray := ⟨#[32, 44, 41]⟩
theorem stopB_ascii : ∀ i (h : i < stopB.size), (stopB[i]'h).toNat < 128 := by decide
theorem parse16 (s : ByteArray) (hmax : s.size ≤ 281474976710656) (v : Int) (h : Lib.parseIntB 16 s.data.toList = .ok v) (w : World) :
    Calls Tryz.prog 223 #[.string s, .int .i64 10, .int .i64 16] w fun e w' => e = .returned (.tuple #[.int .i64 v, .nilIface]) ∧ Below w.heap.size w w' :=
  (Tryz.strconv_ParseInt_10_at16_ok s (by omega) v h w).mono fun e w' ⟨h1, h2⟩ => ⟨h1, by
    rcases h2 with rfl | ⟨t, rfl⟩
    · exact Below.refl _ _
    · exact Lib.bytesWorld_below w 5 t⟩
theorem takes_step (s p : ByteArray) (pv : Value) (rb : Nat) (w : World) (hr : RB w rb s pv) (h : preB s p = true) :
    Calls Tryz.prog 140 #[.pointer (some ⟨rb, 0, none⟩), .string p] w fun e w' => e = .returned (.tuple #[]) ∧ RB w' rb (dropS s p) pv ∧ Turned w.heap.size [rb] w w' :=
  (takes_yes s p pv rb w hr h).mono fun e w' ⟨h1, h2⟩ => ⟨h1, by rw [h2]; exact hr.set _, by rw [h2]; exact rset_turned _ _ _⟩
set_option maxRecDepth 100000 in
theorem number_ok (s s1 wd s2 : ByteArray) (n : Nat) (pv : Value) (rb : Nat) (w : World) (hr : RB w rb s pv) (h1 : preB s ⟨#[32]⟩ = true) (h2 : dropS s ⟨#[32]⟩ = s1) (hsz : s1.size ≤ 8796093022207) (h3 : s1.extract 0 (cutN s1 stopB) = wd) (h4 : s1.extract (cutN s1 stopB) s1.size = s2) (h5 : Lib.parseIntB 16 wd.data.toList = .ok n) (h6 : n < 100) (h7 : wd = ⟨(Lib.decDigits n).toArray⟩) (hwd : wd.size ≤ 281474976710656) :
    Calls Tryz.prog 196 #[.pointer (some ⟨rb, 0, none⟩), .int .i64 16] w fun e w' => e = .returned (.int .i64 n) ∧ RB w' rb s2 pv ∧ Turned w.heap.size [rb] w w' := by
  have CT := takes_step s ⟨#[32]⟩ pv rb w hr h1
  rw [h2] at CT
  have CU := fun w1 (hr1 : RB w1 rb s1 pv) => until_any s1 stopB pv rb w1 stopB_ascii hsz hr1
  rw [h3, h4] at CU
  have CP := fun w1 => parse16 wd hwd n h5 w1
  have CF := fun w1 => Tryz.strconv_FormatInt_10_small n h6 w1
  rw [← h7] at CF
  have HCU := Lib.hid CU
  have HCT := Lib.hid CT
  have HCP := Lib.hid CP
  have HCF := Lib.hid CF
  clear CU CT CP CF h1 h2 h3 h4 h5 h7 hr
  go_enter Tryz.func196, Tryz.ntmps196
  go_wp2_with fail
  refine HCT.out.mono ?_
  rintro e w1 ⟨rfl, r1, t1⟩
  go_wp2_with fail
  refine (HCU.out w1 r1).mono ?_
  rintro e w2 ⟨rfl, r2, t2⟩
  go_wp2_with fail
  refine (HCP.out w2).mono ?_
  rintro e w3 ⟨rfl, b3⟩
  have hb : (wd.toList == wd.toList) = true := by simp
  go_wp2_with (go_at_call 237; refine (HCF.out _).mono ?_; rintro e w4 ⟨rfl, rfl⟩)
  go_ret
  exact ⟨rfl, r2.below b3 r2.lt, (t1.step t1.size t2).step (by have := t1.size; have := t2.size; omega) ((Turned.of_below b3))⟩
set_option maxRecDepth 100000 in
theorem number_no (s s1 wd s2 : ByteArray) (n : Nat) (pv : Value) (rb : Nat) (w : World) (hr : RB w rb s pv) (h1 : preB s ⟨#[32]⟩ = true) (h2 : dropS s ⟨#[32]⟩ = s1) (hsz : s1.size ≤ 8796093022207) (h3 : s1.extract 0 (cutN s1 stopB) = wd) (h4 : s1.extract (cutN s1 stopB) s1.size = s2) (h5 : Lib.parseIntB 16 wd.data.toList = .ok n) (h6 : n < 100) (h7 : ¬ wd = ⟨(Lib.decDigits n).toArray⟩) (hwd : wd.size ≤ 281474976710656) :
    Calls Tryz.prog 196 #[.pointer (some ⟨rb, 0, none⟩), .int .i64 16] w fun e w' => e = .panicked [{ v := .iface 161 (.agg #[]), recovered := false }] ∧ RB w' rb s2 pv ∧ Turned w.heap.size [rb] w w' := by
  have CT := takes_step s ⟨#[32]⟩ pv rb w hr h1
  rw [h2] at CT
  have CU := fun w1 (hr1 : RB w1 rb s1 pv) => until_any s1 stopB pv rb w1 stopB_ascii hsz hr1
  rw [h3, h4] at CU
  have CP := fun w1 => parse16 wd hwd n h5 w1
  have CF := fun w1 => Tryz.strconv_FormatInt_10_small n h6 w1
  have hd : ((⟨(Lib.decDigits n).toArray⟩ : ByteArray).toList == wd.toList) = false := beqL_no (fun h => h7 h.symm)
  generalize (⟨(Lib.decDigits n).toArray⟩ : ByteArray) = fd at *
  have CX := fun w => fails_any (.pointer (some ⟨rb, 0, none⟩)) w
  have HCU := Lib.hid CU
  have HCT := Lib.hid CT
  have HCP := Lib.hid CP
  have HCF := Lib.hid CF
  clear CU CT CP CF h1 h2 h3 h4 h5 h7 hr
  go_enter Tryz.func196, Tryz.ntmps196
  go_wp2_with fail
  refine HCT.out.mono ?_
  rintro e w1 ⟨rfl, r1, t1⟩
  go_wp2_with fail
  refine (HCU.out w1 r1).mono ?_
  rintro e w2 ⟨rfl, r2, t2⟩
  go_wp2_with fail
  refine (HCP.out w2).mono ?_
  rintro e w3 ⟨rfl, b3⟩
  go_wp2_with (first | (go_at_call 237; refine (HCF.out _).mono ?_; rintro e w4 ⟨rfl, rfl⟩) | (go_at_call 83; refine (CX _).mono ?_; rintro e w5 ⟨rfl, rfl⟩))
  refine ⟨rfl, rfl, r2.below b3 r2.lt, (t1.step t1.size t2).step (by have := t1.size; have := t2.size; omega) ((Turned.of_below b3))⟩
end Go.Proofs.YtihmlhjdlpjehaaGreatDoor
