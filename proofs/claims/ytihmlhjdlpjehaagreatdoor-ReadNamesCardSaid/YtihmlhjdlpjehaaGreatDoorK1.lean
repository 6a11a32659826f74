/- Package kinds, the checks of a spec: fields, bare, own, Parts (contracts of the program's functions). Package kinds: Check. -/
import Derived.Test.YtihmlhjdlpjehaaGreatDoorBase
import Derived.Test.YtihmlhjdlpjehaaGreatDoorShelf
set_option linter.unusedVariables false
set_option linter.unusedSimpArgs false
namespace Go.Proofs.YtihmlhjdlpjehaaGreatDoor
open Go.RowKit

def fieldsS (k number : Int) : ByteArray :=
  if k = 1 then ⟨#[78]⟩ else if k = 2 then ⟨#[84]⟩ else if k = 3 then ⟨#[82]⟩ else if k = 4 then ⟨#[82, 77]⟩
  else if k = 5 ∨ k = 13 ∨ k = 15 then ⟨#[84]⟩ else if k = 6 then ⟨#[73, 78, 48]⟩ else if k = 7 ∨ k = 10 ∨ k = 21 ∨ k = 24 then ⟨#[84, 70, 48]⟩
  else if k = 8 ∨ k = 16 then ⟨#[48]⟩ else if k = 9 ∨ k = 14 then ⟨#[84, 48]⟩ else if k = 11 ∨ k = 25 then ⟨#[78, 84]⟩ else if k = 12 then ⟨#[84, 73]⟩
  else if k = 17 then ⟨#[70]⟩ else if k = 18 then ⟨#[78]⟩ else if k = 19 then ⟨#[78, 82]⟩ else if k = 22 then ⟨#[84, 78, 48]⟩
  else if k = 23 then (if number = 1 then ⟨#[78, 83]⟩ else if number = 2 then ⟨#[78, 82]⟩ else ⟨#[78, 84, 48]⟩)
  else if k = 26 then ⟨#[84, 75, 73, 48]⟩ else ⟨#[]⟩

set_option maxRecDepth 100000 in
set_option maxHeartbeats 1000000 in
theorem fields_any (s : Sp) (ia pa : Option Addr) (ic pc : Nat) (w : World) :
    Calls Tryz.prog 108 #[s.val ia ic pa pc] w fun e w' => e = .returned (.string (fieldsS s.kind s.number)) ∧ Below w.heap.size w w' := by
  obtain ⟨k, nl, text, number, small, re, im, flag, mask, items, parts⟩ := s
  unfold Sp.val
  dsimp only
  go_enter Tryz.func108, Tryz.ntmps108
  go_wp2
  all_goals (go_ret; refine ⟨?_, below_one _ _⟩; simp_all [fieldsS])

def hasZ (zero : Bool) (counts : ByteArray) (c : UInt8) : Bool := zero || decide (0 ≤ Lib.indexByte counts.data.toList c)
set_option maxRecDepth 100000 in
set_option maxHeartbeats 400000 in
theorem bareHas_any (c : UInt8) (zero : Bool) (counts : ByteArray) (a : Addr) (w : World) (hc : w.cell? a = some (.string counts)) :
    Calls Tryz.prog 159 #[.string ⟨#[c]⟩, .bool zero, .pointer (some a)] w fun e w' => e = .returned (.bool (hasZ zero counts c)) ∧ w = w' := by
  go_enter Tryz.func159, Tryz.ntmps159
  cases zero
  · go_wp2_with (go_at_call 160; refine (Tryz.strings_Contains_one _ _ _).mono ?_; rintro e w' ⟨rfl, rfl⟩)
    go_ret; exact ⟨by simp [hasZ], rfl⟩
  · go_wp2
    go_ret; exact ⟨by simp [hasZ], rfl⟩

def bareB (s : Sp) (counts : ByteArray) : Bool :=
  hasZ s.text.toList.isEmpty counts 84 && (hasZ (s.number == 0) counts 78 && (hasZ (s.small == 0) counts 83 && (hasZ ((s.re : Int) == 0) counts 82 && (hasZ ((s.im : Int) == 0) counts 77 && (hasZ (!s.flag) counts 70 && (hasZ (s.mask == 0) counts 75 && (hasZ ((s.items.length : Int) == 0) counts 73 && hasZ (!s.nl) counts 48)))))))

set_option maxRecDepth 100000 in
set_option maxHeartbeats 8000000 in
theorem bare_any (s : Sp) (ia pa : Option Addr) (ic pc : Nat) (counts : ByteArray) (w : World) :
    Calls Tryz.prog 109 #[s.val ia ic pa pc, .string counts] w fun e w' => e = .returned (.bool (bareB s counts)) ∧ Below w.heap.size w w' := by
  obtain ⟨k, nl, text, number, small, re, im, flag, mask, items, parts⟩ := s
  unfold Sp.val bareB
  dsimp only
  generalize items.length = nitems
  generalize parts.length = nparts
  have HA := fun (c : UInt8) (z : Bool) => bareHas_any c z counts ⟨w.heap.size + 1, 0, none⟩ _ (cell_box2 w (Obj.cells #[.int .u8 k, .bool nl, .string text, .int .i16 number, .int .i8 small, .float .f64 re, .float .f64 im, .bool flag, .int .u32 mask, .slice ia nitems ic, .slice pa nparts pc] 79) (.string counts) 9)
  have HH := Lib.hid HA
  clear HA
  have hfb := run_f64bits
  go_enter Tryz.func109, Tryz.ntmps109
  go_wp2_with (go_at_call 159; refine (HH.out _ _).mono ?_; rintro e w1 ⟨rfl, rfl⟩)
  all_goals (go_ret; refine ⟨?_, below_two _ _ _⟩; simp_all)

def partsMost (k : Int) : Int := if k = 13 ∨ k = 14 ∨ k = 15 ∨ k = 17 ∨ k = 18 ∨ k = 20 ∨ k = 25 then 1 else if k = 16 ∨ k = 26 then 64 else 0
set_option maxHeartbeats 400000 in
theorem Parts_any (k : Int) (w : World) :
    Calls Tryz.prog 110 #[.int .u8 k] w fun e w' => e = .returned (.tuple #[.int .i64 0, .int .i64 (partsMost k)]) ∧ w = w' := by
  go_enter Tryz.func110, Tryz.ntmps110
  go_wp2
  all_goals (go_ret2; refine ⟨?_, rfl⟩; simp_all [partsMost])

def ownB (s : Sp) : Bool :=
  if s.kind = 5 then ((s.text.size : Int) == 4) else if s.kind = 23 then decide (1 ≤ s.number ∧ s.number ≤ 3)
  else if s.kind = 26 then (s.nl || (decide (s.items.length = 1) && !((s.items.headD ⟨#[]⟩).toList.isEmpty))) else decide (1 ≤ s.kind ∧ s.kind ≤ 26)

set_option maxRecDepth 100000 in
set_option maxHeartbeats 1000000 in
theorem own_any (s : Sp) (ia pa : Option Addr) (ic pc : Nat) (w : World) (hi : RdS w ia s.items) :
    Calls Tryz.prog 107 #[s.val ia ic pa pc] w fun e w' => e = .returned (.bool (ownB s)) ∧ Below w.heap.size w w' := by
  generalize hr : ownB s = r
  have Hr := Lib.hid hr
  clear hr
  obtain ⟨k, nl, text, number, small, re, im, flag, mask, items, parts⟩ := s
  unfold Sp.val
  dsimp only at hi ⊢
  generalize hn : parts.length = nparts
  clear hn
  match items, hi, Hr with
  | [], _, Hr =>
    go_enter Tryz.func107, Tryz.ntmps107
    go_wp2
    all_goals (go_ret; refine ⟨ret_bool ?_, below_one _ _⟩; rw [← Hr.out]; clear Hr; simp_all [ownB]; try omega)
  | [x], hi, Hr =>
    rcases hi with hi | ⟨b, off, rfl, hc⟩
    · cases hi
    have h0 := hc 0 (by simp)
    simp only [List.getD_cons_zero, Nat.add_zero] at h0
    have h1 := fun o => Lib.cell?_alloc_some o h0
    clear hc h0
    go_enter Tryz.func107, Tryz.ntmps107
    go_wp2
    all_goals (go_ret; refine ⟨ret_bool ?_, below_one _ _⟩; rw [← Hr.out]; clear Hr; simp_all [ownB]; try omega)
  | x :: y :: r', _, Hr =>
    go_enter Tryz.func107, Tryz.ntmps107
    go_wp2
    all_goals (try (exfalso; omega))
    all_goals (go_ret; refine ⟨ret_bool ?_, below_one _ _⟩; rw [← Hr.out]; clear Hr; simp_all [ownB]; try omega)
end Go.Proofs.YtihmlhjdlpjehaaGreatDoor
namespace Go.Proofs.YtihmlhjdlpjehaaGreatDoor
open Go.RowKit

def longB (xs : List ByteArray) : Bool := xs.any fun x => decide ((4096 : Int) < x.size)
def checkE (s : Sp) : Int :=
  if ownB s = false ∨ (4096 : Int) < s.text.size ∨ (64 : Int) < s.items.length then 40
  else if longB s.items then 40
  else if bareB s (fieldsS s.kind s.number) = false then 40
  else if s.nl = true ∧ bareB s (if s.kind = 23 then ⟨#[48, 78]⟩ else ⟨#[48]⟩) = false then 40
  else if (if s.nl then 0 else partsMost s.kind) < s.parts.length then 41 else 0

set_option maxRecDepth 100000 in
set_option maxHeartbeats 4000000 in
theorem Check_any (s : Sp) (ia pa : Option Addr) (ic pc : Nat) (w : World) (hi : RdS w ia s.items) :
    Calls Tryz.prog 63 #[s.val ia ic pa pc] w fun e w' => e = .returned (.int .i64 (checkE s)) ∧ Below w.heap.size w w' := by
  generalize hr : checkE s = r
  have Hr := Lib.hid hr
  clear hr
  generalize ho : ownB s = ow
  have Ho := Lib.hid ho
  have CO := own_any s ia pa ic pc (w.alloc (.cells (s.val ia ic pa pc).cells 79)) (hi.below (below_one _ _))
  rw [ho] at CO
  clear ho
  have HO := Lib.hid CO
  clear CO
  obtain ⟨k, nl, text, number, small, re, im, flag, mask, items, parts⟩ := s
  unfold Sp.val
  dsimp only at hi HO ⊢
  go_enter Tryz.func63, Tryz.ntmps63
  go_wp2_with fail
  refine HO.out.mono ?_
  rintro e w1 ⟨rfl, hb1⟩
  obtain ⟨hc1, hf1⟩ := bcell hb1
  have B1 : Below w.heap.size w w1 := below_step (below_one _ _) (by simp) hb1
  have HB1 := Lib.hid B1
  clear B1
  cases ow
  · go_wp2
    go_ret
    exact ⟨ret_int (by rw [← Hr.out]; simp [checkE, Ho.out]), HB1.out⟩
  go_wp2_with fail
  all_goals (try (go_ret; exact ⟨ret_int (by rw [← Hr.out]; simp [checkE, Ho.out]; omega), HB1.out⟩))
  have hti : text.size ≤ 4096 := by omega
  have hit : items.length ≤ 64 := by omega
  have hi1 : RdS w1 ia items := (hi.below (below_one _ _)).below hb1
  go_loop [4, 27] (fun x i => ∃ n : Nat, n ≤ items.length ∧ i = .int .i64 n ∧ longB (items.take n) = false) (fun _ i => items.length - (intOf i).toNat)
  case atStart => exact ⟨0, Nat.zero_le _, rfl, by simp [longB]⟩
  case round =>
    obtain ⟨n, hk, rfl, hl⟩ := hrel
    have Hl := Lib.hid hl
    clear hl
    by_cases hlt : n < items.length
    · rcases hi1 with hi1 | ⟨b, off, rfl, hc⟩
      · rw [hi1] at hlt; simp at hlt
      have hck := hc n hlt
      clear hc
      have hts : items.take (n + 1) = items.take n ++ [items.getD n ⟨#[]⟩] := by
        rw [List.take_succ_eq_append_getElem hlt]; simp [List.getD, hlt]
      have Hs := Lib.hid hts
      clear hts
      generalize items.getD n ⟨#[]⟩ = x at *
      go_wp2
      · go_ret
        refine ⟨ret_int ?_, HB1.out⟩
        rw [← Hr.out]
        have : longB items = true := by
          unfold longB
          rw [List.any_eq_true]
          refine ⟨x, ?_, by simp; omega⟩
          have h1 : x ∈ items.take (n + 1) := by rw [Hs.out]; simp
          exact List.mem_of_mem_take h1
        unfold checkE
        rw [if_neg (by simp [Ho.out]; omega), if_pos this]
      · go_round
        case rel =>
          refine ⟨n + 1, by omega, by go_num, ?_⟩
          rw [Hs.out]
          have := Hl.out
          unfold longB at this ⊢
          rw [List.any_append, this]
          simp; omega
        case measure => simp [intOf]; omega
    · have hl' : longB items = false := by
        have := Hl.out
        rwa [List.take_of_length_le (by omega)] at this
      have HL := Lib.hid hl'
      clear hl'
      have z1 := hb1.size
      simp only [World.size_alloc] at z1
      have y1 : w.heap.size < w1.heap.size := by omega
      go_wp2_with fail
      refine (fields_any ⟨k, nl, text, number, small, re, im, flag, mask, items, parts⟩ ia pa ic pc w1).mono ?_
      rintro e w2 ⟨rfl, hb2⟩
      obtain ⟨hc2, hf2⟩ := bcell hb2
      have z2 := hb2.size
      have y2 : w.heap.size < w2.heap.size := by omega
      have B2 := below_step HB1.out (by omega) hb2
      have HB2 := Lib.hid B2
      clear B2 hb1
      go_wp2_with fail
      refine (bare_any ⟨k, nl, text, number, small, re, im, flag, mask, items, parts⟩ ia pa ic pc (fieldsS k number) w2).mono ?_
      rintro e w3 ⟨rfl, hb3⟩
      obtain ⟨hc3, hf3⟩ := bcell hb3
      have z3 := hb3.size
      have y3 : w.heap.size < w3.heap.size := by omega
      have B3 := below_step HB2.out (by omega) hb3
      have HB3 := Lib.hid B3
      clear B3 hb2 hb3
      generalize hbb : bareB ⟨k, nl, text, number, small, re, im, flag, mask, items, parts⟩ (fieldsS k number) = bb
      have Hbb := Lib.hid hbb
      clear hbb
      cases bb
      · go_wp2
        go_ret
        refine ⟨ret_int ?_, HB3.out⟩
        rw [← Hr.out]
        unfold checkE
        rw [if_neg (by simp [Ho.out]; omega), if_neg (by simp [HL.out]), if_pos Hbb.out]
      cases nl
      · go_wp2_with fail
        refine (Parts_any k _).mono ?_
        rintro e w5 ⟨rfl, rfl⟩
        go_wp2_with fail
        all_goals go_ret
        all_goals (refine ⟨ret_int ?_, HB3.out⟩; rw [← Hr.out]; unfold checkE; rw [if_neg (by simp [Ho.out]; omega), if_neg (by simp [HL.out]), if_neg (by rw [Hbb.out]; simp), if_neg (by simp)])
        all_goals (simp; try omega)
      by_cases hk : k = 23
      · have hk1 : (k == 23) = true := by simp [hk]
        have HK := Lib.hid hk
        clear hk
        go_wp2_with fail
        refine (bare_any ⟨k, true, text, number, small, re, im, flag, mask, items, parts⟩ ia pa ic pc ⟨#[48, 78]⟩ w3).mono ?_
        rintro e w4 ⟨rfl, hb4⟩
        obtain ⟨hc4, hf4⟩ := bcell hb4
        have z4 := hb4.size
        have y4 : w.heap.size < w4.heap.size := by omega
        have B4 := below_step HB3.out (by omega) hb4
        have HB4 := Lib.hid B4
        clear B4 hb4
        generalize hbb : bareB ⟨k, true, text, number, small, re, im, flag, mask, items, parts⟩ ⟨#[48, 78]⟩ = bb
        have Hb2 := Lib.hid hbb
        clear hbb
        cases bb
        · go_wp2
          go_ret
          refine ⟨ret_int ?_, HB4.out⟩
          rw [← Hr.out]
          unfold checkE
          rw [if_neg (by simp [Ho.out]; omega), if_neg (by simp [HL.out]), if_neg (by rw [Hbb.out]; simp), if_pos (by rw [if_pos HK.out, Hb2.out]; simp)]
        go_wp2_with fail
        refine (Parts_any k _).mono ?_
        rintro e w5 ⟨rfl, rfl⟩
        go_wp2_with fail
        all_goals go_ret
        all_goals (refine ⟨ret_int ?_, HB4.out⟩; rw [← Hr.out]; unfold checkE; rw [if_neg (by simp [Ho.out]; omega), if_neg (by simp [HL.out]), if_neg (by rw [Hbb.out]; simp), if_neg (by rw [if_pos HK.out, Hb2.out]; simp)])
        all_goals (simp only [if_true]; first | rw [if_pos (by omega)] | rw [if_neg (by omega)])
      · have hk1 : (k == 23) = false := by simp [hk]
        have HK := Lib.hid hk
        clear hk
        go_wp2_with fail
        refine (bare_any ⟨k, true, text, number, small, re, im, flag, mask, items, parts⟩ ia pa ic pc ⟨#[48]⟩ w3).mono ?_
        rintro e w4 ⟨rfl, hb4⟩
        obtain ⟨hc4, hf4⟩ := bcell hb4
        have z4 := hb4.size
        have y4 : w.heap.size < w4.heap.size := by omega
        have B4 := below_step HB3.out (by omega) hb4
        have HB4 := Lib.hid B4
        clear B4 hb4
        generalize hbb : bareB ⟨k, true, text, number, small, re, im, flag, mask, items, parts⟩ ⟨#[48]⟩ = bb
        have Hb2 := Lib.hid hbb
        clear hbb
        cases bb
        · go_wp2
          go_ret
          refine ⟨ret_int ?_, HB4.out⟩
          rw [← Hr.out]
          unfold checkE
          rw [if_neg (by simp [Ho.out]; omega), if_neg (by simp [HL.out]), if_neg (by rw [Hbb.out]; simp), if_pos (by rw [if_neg HK.out, Hb2.out]; simp)]
        go_wp2_with fail
        refine (Parts_any k _).mono ?_
        rintro e w5 ⟨rfl, rfl⟩
        go_wp2_with fail
        all_goals go_ret
        all_goals (refine ⟨ret_int ?_, HB4.out⟩; rw [← Hr.out]; unfold checkE; rw [if_neg (by simp [Ho.out]; omega), if_neg (by simp [HL.out]), if_neg (by rw [Hbb.out]; simp), if_neg (by rw [if_neg HK.out, Hb2.out]; simp)])
        all_goals (simp only [if_true]; first | rw [if_pos (by omega)] | rw [if_neg (by omega)])
end Go.Proofs.YtihmlhjdlpjehaaGreatDoor
