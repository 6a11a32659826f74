/- Package read: the reader's words, at the kinds code, wrap, level, join. -/
import Derived.Test.YtihmlhjdlpjehaaGreatDoorV4
import Derived.Test.YtihmlhjdlpjehaaGreatDoorR11
import Derived.Test.YtihmlhjdlpjehaaGreatDoorK17
set_option linter.unusedVariables false
set_option linter.unusedSimpArgs false
namespace Go.Proofs.YtihmlhjdlpjehaaGreatDoor
open Go.RowKit

/-- The cells of a spec that has no texts and no parts. -/
abbrev xcells (x : Sp) : Array Value := #[.int .u8 x.kind, .bool x.nl, .string x.text, .int .i16 x.number, .int .i8 x.small, .float .f64 x.re, .float .f64 x.im, .bool x.flag, .int .u32 x.mask, .slice none 0 0, .slice none 0 0]
abbrev nilB : ByteArray := ⟨#[32, 110, 105, 108]⟩
def zk (k : Int) : Sp := { zeroSp with kind := k }
/-- What the words behind a kind's name make of a spec. -/
def WordsTo (k : Int) (s s2 : ByteArray) (x : Sp) : Prop := ∀ (rb xb : Nat) (pv : Value) (w : World), Glob w → 25 ≤ rb → 25 ≤ xb → rb ≠ xb → RB w rb s pv → Blk w xb (xcells (zk k)) 79 →
  Calls Tryz.prog 138 #[.pointer (some ⟨rb, 0, none⟩), .pointer (some ⟨xb, 0, none⟩)] w fun e w' => e = .returned (.tuple #[]) ∧ RB w' rb s2 pv ∧ Blk w' xb (xcells x) 79 ∧ Turned w.heap.size [rb, xb] w w'
theorem has_none (s p : ByteArray) (pv : Value) (rb : Nat) (w : World) (hr : RB w rb s pv) (h : preB s p = false) :
    Calls Tryz.prog 139 #[.pointer (some ⟨rb, 0, none⟩), .string p] w fun e w' => e = .returned (.bool false) ∧ w' = w := has_no s p pv rb w hr h

set_option maxRecDepth 1000000 in
set_option maxHeartbeats 2000000 in
theorem words_code (s s1 wd s2 : ByteArray) (n : Nat) (h0 : preB s nilB = false) (h1 : preB s ⟨#[32]⟩ = true) (h2 : dropS s ⟨#[32]⟩ = s1) (hsz : s1.size ≤ 8796093022207) (h3 : s1.extract 0 (cutN s1 stopB) = wd) (h4 : s1.extract (cutN s1 stopB) s1.size = s2) (h5 : Lib.parseIntB 16 wd.data.toList = .ok n) (h6 : n < 100) (h7 : wd = ⟨(Lib.decDigits n).toArray⟩) (hwd : wd.size ≤ 281474976710656) :
    WordsTo 1 s s2 { zk 1 with number := n } := by
  intro rb xb pv w hg hrb hxb hne hr hx
  have CN := number_ok s s1 wd s2 n pv rb w hr h1 h2 hsz h3 h4 h5 h6 h7 hwd
  have CH := has_no s nilB pv rb w hr h0
  have q0 : w.cell? ⟨xb, 0, none⟩ = some (.int .u8 1) := hx.cell 0
  have hlx := hx.lt
  clear h0 h1 h2 h3 h4 h5 h7 hwd hr hg
  have hfin : ∀ w1, Blk w1 xb (xcells (zk 1)) 79 → RB w1 rb s2 pv → Turned w.heap.size [rb] w w1 → RB (w1.setCell ⟨xb, 3, none⟩ (.int .i16 n)) rb s2 pv ∧ Blk (w1.setCell ⟨xb, 3, none⟩ (.int .i16 n)) xb (xcells { zk 1 with number := n }) 79 ∧ Turned w.heap.size [rb, xb] w (w1.setCell ⟨xb, 3, none⟩ (.int .i16 n)) := fun w1 k1 r1 t1 =>
    ⟨r1.other (p := ⟨xb, 3, none⟩) hne _, by simpa using k1.store 3 (.int .i16 n), (t1.mono (S' := [rb, xb]) (Nat.le_refl _) (fun k hk _ => by simp at hk; simp [hk])).setCell (p := ⟨xb, 3, none⟩) (Or.inr (by simp)) _⟩
  have HF := Lib.hid hfin
  clear hfin
  go_enter Tryz.func138, Tryz.ntmps138
  go_wp2_with (go_at_call 139; refine CH.mono ?_; rintro e w1 ⟨rfl, rfl⟩)
  refine CN.mono ?_
  rintro e w1 ⟨rfl, r1, t1⟩
  have k1 := hx.turned t1 hlx (by simp; omega)
  have c3 : w1.cell? ⟨xb, 3, none⟩ = some (.int .i16 0) := k1.cell 3
  have f3 := k1.frozen 3
  go_wp2_with fail
  go_end0
  exact ⟨rfl, HF.out w1 k1 r1 t1⟩
set_option maxRecDepth 1000000 in
set_option maxHeartbeats 2000000 in
theorem words_wrap (s : ByteArray) (h0 : preB s nilB = false) (h1 : preB s ⟨#[32]⟩ = true) (h2 : dropS s ⟨#[32]⟩ = tailB) : WordsTo 14 s (tailB.extract 3 30) { zk 14 with text := ⟨#[119]⟩ } := by
  intro rb xb pv w hg hrb hxb hne hr hx
  have CN := rtext_w s pv rb w hr h1 h2
  have CH := has_no s nilB pv rb w hr h0
  have q0 : w.cell? ⟨xb, 0, none⟩ = some (.int .u8 14) := hx.cell 0
  have hlx := hx.lt
  clear h0 h1 h2 hr hg
  generalize tailB.extract 3 30 = s2 at *
  have hfin : ∀ w1, Blk w1 xb (xcells (zk 14)) 79 → RB w1 rb s2 pv → Turned w.heap.size [rb] w w1 → RB (w1.setCell ⟨xb, 2, none⟩ (.string ⟨#[119]⟩)) rb s2 pv ∧ Blk (w1.setCell ⟨xb, 2, none⟩ (.string ⟨#[119]⟩)) xb (xcells { zk 14 with text := ⟨#[119]⟩ }) 79 ∧ Turned w.heap.size [rb, xb] w (w1.setCell ⟨xb, 2, none⟩ (.string ⟨#[119]⟩)) := fun w1 k1 r1 t1 =>
    ⟨r1.other (p := ⟨xb, 2, none⟩) hne _, by simpa using k1.store 2 (.string ⟨#[119]⟩), (t1.mono (S' := [rb, xb]) (Nat.le_refl _) (fun k hk _ => by simp at hk; simp [hk])).setCell (p := ⟨xb, 2, none⟩) (Or.inr (by simp)) _⟩
  have HF := Lib.hid hfin
  clear hfin
  go_enter Tryz.func138, Tryz.ntmps138
  go_wp2_with (go_at_call 139; refine CH.mono ?_; rintro e w1 ⟨rfl, rfl⟩)
  refine CN.mono ?_
  rintro e w1 ⟨rfl, r1, t1⟩
  have k1 := hx.turned t1 hlx (by simp; omega)
  have c2 : w1.cell? ⟨xb, 2, none⟩ = some (.string ⟨#[]⟩) := k1.cell 2
  have f2 := k1.frozen 2
  go_wp2_with fail
  go_end0
  exact ⟨rfl, HF.out w1 k1 r1 t1⟩
set_option maxRecDepth 1000000 in
set_option maxHeartbeats 2000000 in
theorem words_level (s s1 s2 : ByteArray) (h0 : preB s nilB = false) (h1 : preB s ⟨#[32]⟩ = true) (h2 : dropS s ⟨#[32]⟩ = s1) (hsz : s1.size ≤ 8796093022207) (h3 : s1.extract 0 (cutN s1 stopB) = nanB) (h4 : s1.extract (cutN s1 stopB) s1.size = s2) : WordsTo 3 s s2 { zk 3 with re := 9221120237041090561 } := by
  intro rb xb pv w hg hrb hxb hne hr hx
  have CN := rfloat_nan s s1 s2 pv rb w hg hrb hr h1 h2 hsz h3 h4
  have CH := has_no s nilB pv rb w hr h0
  have q0 : w.cell? ⟨xb, 0, none⟩ = some (.int .u8 3) := hx.cell 0
  have hlx := hx.lt
  have hs := run_stf'
  clear h0 h1 h2 h3 h4 hr hg
  have hfin : ∀ w1, Blk w1 xb (xcells (zk 3)) 79 → RB w1 rb s2 pv → Turned w.heap.size [rb] w w1 → RB (w1.setCell ⟨xb, 5, none⟩ nanV) rb s2 pv ∧ Blk (w1.setCell ⟨xb, 5, none⟩ nanV) xb (xcells { zk 3 with re := 9221120237041090561 }) 79 ∧ Turned w.heap.size [rb, xb] w (w1.setCell ⟨xb, 5, none⟩ nanV) := fun w1 k1 r1 t1 =>
    ⟨r1.other (p := ⟨xb, 5, none⟩) hne _, by simpa using k1.store 5 nanV, (t1.mono (S' := [rb, xb]) (Nat.le_refl _) (fun k hk _ => by simp at hk; simp [hk])).setCell (p := ⟨xb, 5, none⟩) (Or.inr (by simp)) _⟩
  have HF := Lib.hid hfin
  clear hfin
  go_enter Tryz.func138, Tryz.ntmps138
  go_wp2_with (go_at_call 139; refine CH.mono ?_; rintro e w1 ⟨rfl, rfl⟩)
  refine CN.mono ?_
  rintro e w1 ⟨rfl, r1, t1⟩
  have k1 := hx.turned t1 hlx (by simp; omega)
  have c5 : w1.cell? ⟨xb, 5, none⟩ = some (.float .f64 0) := k1.cell 5
  have f5 := k1.frozen 5
  go_wp2_with fail
  go_end0
  exact ⟨rfl, HF.out w1 k1 r1 t1⟩
set_option maxRecDepth 1000000 in
set_option maxHeartbeats 2000000 in
theorem words_join (s : ByteArray) (h0 : preB s nilB = false) : WordsTo 16 s s (zk 16) := by
  intro rb xb pv w hg hrb hxb hne hr hx
  have CH := has_no s nilB pv rb w hr h0
  have q0 : w.cell? ⟨xb, 0, none⟩ = some (.int .u8 16) := hx.cell 0
  go_enter Tryz.func138, Tryz.ntmps138
  go_wp2_with (go_at_call 139; refine CH.mono ?_; rintro e w1 ⟨rfl, rfl⟩)
  go_end0
  exact ⟨rfl, hr, hx, Turned.refl _ _ _⟩
set_option maxRecDepth 1000000 in
set_option maxHeartbeats 2000000 in
/-- .. and where the number is not as it would be written. -/
theorem words_code_no (s s1 wd s2 : ByteArray) (n : Nat) (h0 : preB s nilB = false) (h1 : preB s ⟨#[32]⟩ = true) (h2 : dropS s ⟨#[32]⟩ = s1) (hsz : s1.size ≤ 8796093022207) (h3 : s1.extract 0 (cutN s1 stopB) = wd) (h4 : s1.extract (cutN s1 stopB) s1.size = s2) (h5 : Lib.parseIntB 16 wd.data.toList = .ok n) (h6 : n < 100) (h7 : ¬ wd = ⟨(Lib.decDigits n).toArray⟩) (hwd : wd.size ≤ 281474976710656)
    (rb xb : Nat) (pv : Value) (w : World) (hr : RB w rb s pv) (hx : Blk w xb (xcells (zk 1)) 79) :
    Calls Tryz.prog 138 #[.pointer (some ⟨rb, 0, none⟩), .pointer (some ⟨xb, 0, none⟩)] w fun e w' => e = .panicked [{ v := .iface 161 (.agg #[]), recovered := false }] ∧ Turned w.heap.size [rb] w w' := by
  have CN := number_no s s1 wd s2 n pv rb w hr h1 h2 hsz h3 h4 h5 h6 h7 hwd
  have CH := has_no s nilB pv rb w hr h0
  have q0 : w.cell? ⟨xb, 0, none⟩ = some (.int .u8 1) := hx.cell 0
  clear h0 h1 h2 h3 h4 h5 h7 hwd hr
  go_enter Tryz.func138, Tryz.ntmps138
  go_wp2_with (go_at_call 139; refine CH.mono ?_; rintro e w1 ⟨rfl, rfl⟩)
  refine CN.mono ?_
  rintro e w1 ⟨rfl, r1, t1⟩
  exact ⟨rfl, rfl, t1⟩
end Go.Proofs.YtihmlhjdlpjehaaGreatDoor
