/- Package value: the road of NaN: counts, plain, told, held. Package value: the road of NaN: may, Check, Text. Package value: the road of NaN: number, next, word, source.value, Parse. Package read: the reader's value and float. -/
import Derived.Test.YtihmlhjdlpjehaaGreatDoorV2
import Derived.Test.YtihmlhjdlpjehaaGreatDoorT1
import Derived.Test.YtihmlhjdlpjehaaGreatDoorR7
set_option linter.unusedVariables false
set_option linter.unusedSimpArgs false
namespace Go.Proofs.YtihmlhjdlpjehaaGreatDoor
open Go.RowKit

abbrev nanC : Array Value := #[.int .u8 3, .int .i64 0, nanV, .float .f64 0, .string ⟨#[]⟩, .slice none 0 0]
abbrev f5 (a b c d e : Bool) : List Value := [.bool a, .bool b, .bool c, .bool d, .bool e]
def allC : Array Value := (f5 false false false false false ++ f5 true false false false false ++ f5 true false false false false ++ f5 false true false false false ++ f5 false true true false false ++ f5 false false false true false ++ f5 false false false true false ++ f5 false false false false true).toArray
theorem run_stf' (w : World) (a : Addr) (k : FloatKind) (x : Nat) (m : Mode) : (store a (.float k x) m).run Tryz.prog w = stored Tryz.prog w a (.float k x) m := run_store Tryz.prog w a _ m rfl
theorem wbuild {P : Program} {ops : Array Oper} {rest : List Oper} {o : Oper} {a : Act} {w : World} {Q : Exit → Act → World → Prop} (hgd : o.guard = none) (T : TypeId) (parts : Array (Nat × Operand)) (ho : o.op = .build T parts) (cells : Array Value) (h : P.built T (parts.map fun (i, x) => (i, a.eval x)).toList = some cells)
    (hk : wpList P ops Q rest (a.put o.dst (.agg cells)) w) : wpList P ops Q (o :: rest) a w := by
  refine wpList_plain hgd fun K hK => ?_
  unfold Oper.wp
  simp [execOp, ho, run_build w T _ cells h, Result.andThen]
  exact hK _ _ hk
theorem allC_one : allC.toList.all (·.oneCell') = true := by kernel_rfl
theorem allC_size : allC.size = 40 := by kernel_rfl
set_option maxRecDepth 1000000 in
set_option maxHeartbeats 2000000 in
theorem counts_3 (w : World) : Calls Tryz.prog 313 #[.int .u8 3] w fun e w' => e = .returned (.tuple #[.agg #[.bool false, .bool true, .bool false, .bool false, .bool false], .bool true]) ∧ Below w.heap.size w w' := by
  have k0 := fun w => Blk.new w #[.bool false, .bool false, .bool false, .bool false, .bool false] 464
  have hb0 : Blk (w.alloc (.cells #[.bool false, .bool false, .bool false, .bool false, .bool false] 464)) w.heap.size _ 464 := Blk.new w _ 464
  go_enter Tryz.func313, Tryz.ntmps313
  go_wp2_with (first
    | (refine wbuild rfl 494 #[(1, .tmp 5), (2, .tmp 6), (3, .tmp 7), (4, .tmp 8), (5, .tmp 9), (6, .tmp 10), (7, .tmp 11)] rfl allC (by kernel_rfl) ?_)
    | (refine wsR rowT494 rfl (.tmp 4) (.tmp 12) rfl (w.heap.size + 1) allC rfl rfl _ 494 (by simpa using Blk.new (w.alloc _) _ 494) allC_size rfl allC_one ?_; intro w1 k1 t1 z1; have hb1 := (hb0.alloc (.cells (Array.replicate 40 (.bool false)) 494)).turned t1 (by simp; omega) (by simp))
    | (refine wlRm rowT464 rfl (.tmp 18) rfl (w.heap.size + 1) 15 rfl (f5 false true false false false) (World.rangeAt_of_block k1 15 5) rfl ?_)
    | (refine wsR rowT464 rfl (.tmp 2) (.tmp 19) rfl w.heap.size _ rfl rfl _ 464 hb1 rfl rfl rfl ?_; intro w2 k2 t2 z2))
  refine bodyPost_ret (retRb rowT464 rfl _ _ w.heap.size _ 464 rfl k2 rfl) rfl ?_
  have z1' : w.heap.size ≤ w1.heap.size := by rw [z1]; simp; omega
  exact ⟨rfl, (((((Turned.refl w.heap.size [] w).alloc (Nat.le_refl _) _).alloc (by simp) _).trans (t1.mono (by simp; omega) (fun k hk hlt => by simp at hk; omega))).trans (t2.mono z1' (fun k hk hlt => by simp at hk; omega))).below (by simp)⟩
set_option maxRecDepth 1000000 in
set_option maxHeartbeats 2000000 in
theorem plain_nan (w : World) : Calls Tryz.prog 252 #[.agg nanC] w fun e w' => e = .returned (.iface 76 nanV) ∧ Below w.heap.size w w' := by
  have hs := run_stf'
  go_enter Tryz.func252, Tryz.ntmps252
  go_wp2_with fail
  go_ret
  exact ⟨rfl, below_one _ _⟩
theorem as_nan_no (w : World) (t : TypeId) (h : t = 4 ∨ t = 2 ∨ t = 9) : True := trivial
set_option maxRecDepth 1000000 in
set_option maxHeartbeats 2000000 in
theorem told_nan (w : World) : Calls Tryz.prog 251 #[.iface 76 nanV] w fun e w' => e = .returned (.string nanB) ∧ Below w.heap.size w w' := by
  have C := Float_nan w
  have h1 : ∀ w, (Instr.typeAssert (.iface 76 nanV) 20 4 true).run Tryz.prog w = .ok (.tuple #[.bool false, .bool false]) w := fun w => by kernel_rfl
  have h2 : ∀ w, (Instr.typeAssert (.iface 76 nanV) 20 2 true).run Tryz.prog w = .ok (.tuple #[.int .i64 0, .bool false]) w := fun w => by kernel_rfl
  have h3 : ∀ w, (Instr.typeAssert (.iface 76 nanV) 20 76 true).run Tryz.prog w = .ok (.tuple #[nanV, .bool true]) w := fun w => by kernel_rfl
  go_enter Tryz.func251, Tryz.ntmps251
  go_wp2_with (go_at_call 121; refine C.mono ?_; rintro e w1 ⟨rfl, hb⟩)
  go_ret
  exact ⟨rfl, hb⟩
set_option maxRecDepth 1000000 in
set_option maxHeartbeats 2000000 in
theorem held_nan (w : World) : Calls Tryz.prog 309 #[.iface 76 nanV] w fun e w' => e = .returned (.agg nanC) ∧ Below w.heap.size w w' := by
  have hb0 : Blk (w.alloc (.cells #[.int .u8 0, .int .i64 0, .float .f64 0, .float .f64 0, .string ⟨#[]⟩, .slice none 0 0] 329)) w.heap.size _ 329 := Blk.new w _ 329
  have h1 : ∀ w, (Instr.typeAssert (.iface 76 nanV) 20 4 true).run Tryz.prog w = .ok (.tuple #[.bool false, .bool false]) w := fun w => by kernel_rfl
  have h2 : ∀ w, (Instr.typeAssert (.iface 76 nanV) 20 2 true).run Tryz.prog w = .ok (.tuple #[.int .i64 0, .bool false]) w := fun w => by kernel_rfl
  have h3 : ∀ w, (Instr.typeAssert (.iface 76 nanV) 20 76 true).run Tryz.prog w = .ok (.tuple #[nanV, .bool true]) w := fun w => by kernel_rfl
  go_enter Tryz.func309, Tryz.ntmps309
  go_wp2_with (first
    | (refine wsR rowT329 rfl (.tmp 2) (.tmp 31) rfl w.heap.size nanC rfl rfl _ 329 hb0 rfl rfl rfl ?_; intro w1 k1 t1 z1))
  refine bodyPost_ret (retR rowT329 rfl _ _ w.heap.size _ 329 rfl k1 rfl) rfl ?_
  exact ⟨rfl, (((Turned.refl w.heap.size [] w).alloc (Nat.le_refl _) _).trans (t1.mono (by simp) (fun k hk hlt => by simp at hk; omega))).below (by simp)⟩
end Go.Proofs.YtihmlhjdlpjehaaGreatDoor
namespace Go.Proofs.YtihmlhjdlpjehaaGreatDoor
open Go.RowKit

set_option maxRecDepth 1000000 in
set_option maxHeartbeats 4000000 in
theorem may_nan (cb : Nat) (w : World) (hc : Blk w cb #[.int .i64 1024] 423) : Calls Tryz.prog 281 #[.pointer (some ⟨cb, 0, none⟩), .agg nanC, .int .i64 0] w fun e w' => e = .returned (.bool true) ∧ Turned w.heap.size [cb] w w' := by
  have hs := run_stf'
  have hlt := hc.lt
  have hne : ¬ cb = w.heap.size := by omega
  have hf : ∀ w, Sem.run Tryz.prog (callFunc 161 #[.float .f64 0]) w = .ok (.value (.int .u64 0)) w := fun w => run_f64bits 0 w
  have c0 := hc.cell 0
  have f0 := hc.frozen 0
  have kc1 : Blk (w.setCell ⟨cb, 0, none⟩ (.int .i64 1023)) cb #[.int .i64 1023] 423 := by simpa using hc.store 0 (.int .i64 1023)
  have kc2 : Blk ((w.setCell ⟨cb, 0, none⟩ (.int .i64 1023)).alloc (.cells nanC 329)) cb #[.int .i64 1023] 423 := kc1.alloc _
  have kb2 : Blk ((w.setCell ⟨cb, 0, none⟩ (.int .i64 1023)).alloc (.cells nanC 329)) w.heap.size nanC 329 := by simpa using Blk.new (w.setCell ⟨cb, 0, none⟩ (.int .i64 1023)) nanC 329
  have t2 : Turned w.heap.size [cb] w ((w.setCell ⟨cb, 0, none⟩ (.int .i64 1023)).alloc (.cells nanC 329)) := ((Turned.refl _ _ _).setCell (p := ⟨cb, 0, none⟩) (Or.inr (by simp)) _).alloc (by simp) _
  obtain ⟨W2, hW2⟩ : ∃ W2, W2 = (w.setCell ⟨cb, 0, none⟩ (.int .i64 1023)).alloc (.cells nanC 329) := ⟨_, rfl⟩
  rw [← hW2] at kc2 kb2 t2
  have C := counts_3 W2
  go_enter Tryz.func281, Tryz.ntmps281
  go_wp2_with fail
  rw [← hW2]
  refine C.mono ?_
  rintro e w3 ⟨rfl, hb3⟩
  have kb3 := kb2.below hb3 kb2.lt
  have kc3 := kc2.below hb3 kc2.lt
  have p0 : w3.cell? ⟨cb, 0, none⟩ = some (.int .i64 1023) := kc3.cell 0
  have q0 : w3.cell? ⟨w.heap.size, 0, none⟩ = some (.int .u8 3) := kb3.cell 0
  have q1 : w3.cell? ⟨w.heap.size, 1, none⟩ = some (.int .i64 0) := kb3.cell 1
  have q2 : w3.cell? ⟨w.heap.size, 2, none⟩ = some nanV := kb3.cell 2
  have q3 : w3.cell? ⟨w.heap.size, 3, none⟩ = some (.float .f64 0) := kb3.cell 3
  have q4 : w3.cell? ⟨w.heap.size, 4, none⟩ = some (.string ⟨#[]⟩) := kb3.cell 4
  have q5 : w3.cell? ⟨w.heap.size, 5, none⟩ = some (.slice none 0 0) := kb3.cell 5
  have hs3 := hb3.size
  have hl2 := kb2.lt
  have hl3 : w.heap.size < w3.heap.size := by omega
  have hl4 : cb < w3.heap.size := by omega
  have t3 := t2.step t2.size (Turned.of_below hb3)
  clear hW2 C kb3 kc3 kb2 kc2 kc1 hc c0 f0 hb3 t2 hs3 hl2
  go_wp2_with fail
  refine wp_loop_rounds 1 ?_
  rw [rounds_succ]
  go_wp2_with fail
  go_ret
  exact ⟨rfl, t3.alloc (Nat.le_of_lt hl3) _⟩
set_option maxRecDepth 1000000 in
set_option maxHeartbeats 2000000 in
theorem vCheck_nan (w : World) : Calls Tryz.prog 250 #[.agg nanC] w fun e w' => e = .returned (.int .i64 0) ∧ Below w.heap.size w w' := by
  have kb : Blk ((w.alloc (.cells nanC 329)).alloc (.cells #[.int .i64 1024] 423)) w.heap.size nanC 329 := (Blk.new w nanC 329).alloc _
  have kc : Blk ((w.alloc (.cells nanC 329)).alloc (.cells #[.int .i64 1024] 423)) (w.heap.size + 1) #[.int .i64 1024] 423 := by simpa using Blk.new (w.alloc (.cells nanC 329)) #[.int .i64 1024] 423
  have C := may_nan (w.heap.size + 1) _ kc
  go_enter Tryz.func250, Tryz.ntmps250
  go_wp2_with (first
    | (refine wlR rowT329 rfl (.tmp 1) rfl w.heap.size rfl nanC 329 kb rfl ?_)
    | (go_at_call 281; refine C.mono ?_; rintro e w1 ⟨rfl, t1⟩))
  go_ret
  exact ⟨rfl, ((((Turned.refl w.heap.size [] w).alloc (Nat.le_refl _) _).alloc (by simp) _).trans (t1.mono (by simp; omega) (fun k hk hlt => by simp at hk; omega))).below (by simp)⟩
set_option maxRecDepth 1000000 in
set_option maxHeartbeats 2000000 in
theorem vText_nan (w : World) : Calls Tryz.prog 211 #[.agg nanC] w fun e w' => e = .returned (.tuple #[.string nanB, .int .i64 0]) ∧ Below w.heap.size w w' := by
  have kb : Blk (w.alloc (.cells nanC 329)) w.heap.size nanC 329 := Blk.new w nanC 329
  have b0 : Below w.heap.size w (w.alloc (.cells nanC 329)) := below_one _ _
  have C := fun W => vCheck_nan W
  have P := fun W => plain_nan W
  have T := fun W => told_nan W
  go_enter Tryz.func211, Tryz.ntmps211
  go_wp2_with (first
    | (refine wlR rowT329 rfl (.tmp 1) rfl w.heap.size rfl nanC 329 kb rfl ?_)
    | (refine wlR rowT329 rfl (.tmp 1) rfl w.heap.size rfl nanC 329 kb1 rfl ?_)
    | (go_at_call 250; refine (C _).mono ?_; rintro e w1 ⟨rfl, b1⟩; have kb1 := kb.below b1 kb.lt; have s1 := b1.size)
    | (go_at_call 252; refine (P _).mono ?_; rintro e w2 ⟨rfl, b2⟩; have s2 := b2.size)
    | (go_at_call 251; refine (T _).mono ?_; rintro e w3 ⟨rfl, b3⟩; have s3 := b3.size))
  go_ret2
  have s0 := b0.size
  exact ⟨rfl, ((b0.trans (b1.mono s0)).trans (b2.mono (by omega))).trans (b3.mono (by omega))⟩
end Go.Proofs.YtihmlhjdlpjehaaGreatDoor
namespace Go.Proofs.YtihmlhjdlpjehaaGreatDoor
open Go.RowKit

set_option maxRecDepth 1000000 in
set_option maxHeartbeats 2000000 in
theorem number_nan (w : World) (g : Glob w) : Calls Tryz.prog 352 #[.string nanB] w fun e w' => e = .returned (.tuple #[.iface 76 nanV, .bool true]) ∧ Below w.heap.size w w' := by
  obtain ⟨te, pe, hv⟩ := g.esx
  have C1 := Tryz.strconv_ParseInt_10_at64_syntax nanB (by decide) (by kernel_rfl) (.iface te pe) w hv (Or.inr ⟨te, pe, rfl⟩)
  have C2 := fun W => ParseFloat_nan W
  clear hv g
  go_enter Tryz.func352, Tryz.ntmps352
  go_wp2_with (first
    | (go_at_call 223; refine C1.mono ?_; rintro e w1 ⟨N, rfl, _, _, b1⟩)
    | (go_at_call 363; refine (C2 _).mono ?_; rintro e w2 ⟨rfl, rfl⟩))
  go_ret2
  exact ⟨rfl, b1⟩
set_option maxRecDepth 100000 in
theorem next_no (s p : ByteArray) (rb : Nat) (w : World) (hr : Blk w rb #[.string s] 457) (h1 : preB s p = false) (h2 : dropS s p = s) :
    Calls Tryz.prog 348 #[.pointer (some ⟨rb, 0, none⟩), .string p] w fun e w' => e = .returned (.bool false) ∧ Blk w' rb #[.string s] 457 ∧ Turned w.heap.size [rb] w w' := by
  have hc0 : w.cell? ⟨rb, 0, none⟩ = some (.string s) := hr.cell 0
  have hf0 : w.frozen? ⟨rb, 0, none⟩ = false := hr.frozen 0
  have C := cut_eq s p w
  rw [h1, h2] at C
  have hfin : Blk (w.setCell ⟨rb, 0, none⟩ (.string s)) rb #[.string s] 457 ∧ Turned w.heap.size [rb] w (w.setCell ⟨rb, 0, none⟩ (.string s)) := ⟨by simpa using hr.store 0 (.string s), (Turned.refl _ _ _).setCell (p := ⟨rb, 0, none⟩) (Or.inr (by simp)) _⟩
  clear hr h1 h2
  go_enter Tryz.func348, Tryz.ntmps348
  go_wp2_with (go_at_call 79; refine C.mono ?_; rintro e w1 ⟨rfl, rfl⟩)
  go_ret
  exact ⟨rfl, hfin⟩
set_option maxRecDepth 1000000 in
theorem word_nan (rb : Nat) (w : World) (hr : Blk w rb #[.string nanB] 457) :
    Calls Tryz.prog 353 #[.pointer (some ⟨rb, 0, none⟩)] w fun e w' => e = .returned (.string nanB) ∧ Blk w' rb #[.string ⟨#[]⟩] 457 ∧ Turned w.heap.size [rb] w w' := by
  have C := Tryz.strings_IndexAny_laid nanB ⟨#[44, 93]⟩ w (by decide) (by decide) (ascii_lit _ (by decide)) (ascii_lit _ (by decide))
  have hi : Lib.indexAny nanB.data.toList (⟨#[44, 93]⟩ : ByteArray).data.toList = -1 := by kernel_rfl
  rw [hi] at C
  have hc0 : w.cell? ⟨rb, 0, none⟩ = some (.string nanB) := hr.cell 0
  clear hi
  have e1 : nanB.extract 0 3 = nanB := by kernel_rfl
  have e2 : nanB.extract 3 3 = ⟨#[]⟩ := by kernel_rfl
  have hz : nanB.size = 3 := rfl
  generalize nanB = nb at *
  go_enter Tryz.func353, Tryz.ntmps353
  go_wp2_with fail
  refine C.mono ?_
  rintro e w1 ⟨rfl, b1⟩
  have r1 := hr.below b1 hr.lt
  have c1 : w1.cell? ⟨rb, 0, none⟩ = some (.string nb) := r1.cell 0
  have f1 := r1.frozen 0
  have hfin : Blk (w1.setCell ⟨rb, 0, none⟩ (.string ⟨#[]⟩)) rb #[.string ⟨#[]⟩] 457 ∧ Turned w.heap.size [rb] w (w1.setCell ⟨rb, 0, none⟩ (.string ⟨#[]⟩)) := ⟨by simpa using r1.store 0 (.string ⟨#[]⟩), (Turned.of_below b1).setCell (p := ⟨rb, 0, none⟩) (Or.inr (by simp)) _⟩
  clear r1 b1 hr hc0
  go_wp2_with fail
  go_ret
  exact ⟨rfl, hfin⟩
set_option maxRecDepth 1000000 in
set_option maxHeartbeats 2000000 in
theorem svalue_nan (rb : Nat) (w : World) (g : Glob w) (hrb : 25 ≤ rb) (hr : Blk w rb #[.string nanB] 457) :
    Calls Tryz.prog 308 #[.pointer (some ⟨rb, 0, none⟩), .int .i64 0] w fun e w' => e = .returned (.tuple #[.iface 76 nanV, .bool true]) ∧ Blk w' rb #[.string ⟨#[]⟩] 457 ∧ Turned w.heap.size [rb] w w' := by
  have h25 := g.size
  have C1 := next_no nanB ⟨#[91]⟩ rb w hr (by kernel_rfl) (by kernel_rfl)
  have C2 := fun W (h : Blk W rb #[.string nanB] 457) => next_no nanB ⟨#[120]⟩ rb W h (by kernel_rfl) (by kernel_rfl)
  have C3 := fun W => Tryz.strings_HasPrefix nanB ⟨#[34]⟩ W
  have hp : Lib.hasPrefix nanB.data.toList (⟨#[34]⟩ : ByteArray).data.toList = false := by kernel_rfl
  rw [hp] at C3
  have C4 := fun W (h : Blk W rb #[.string nanB] 457) => word_nan rb W h
  have C5 := fun W (h : Glob W) => number_nan W h
  have HG := Lib.hid g
  clear hp hr g
  generalize nanB = nb at *
  go_enter Tryz.func308, Tryz.ntmps308
  go_wp2_with fail
  refine C1.mono ?_
  rintro e w1 ⟨rfl, r1, t1⟩
  clear C1
  go_wp2_with fail
  refine (C2 w1 r1).mono ?_
  rintro e w2 ⟨rfl, r2, t2⟩
  clear C2
  have c2 : w2.cell? ⟨rb, 0, none⟩ = some (.string nb) := r2.cell 0
  have t12 := t1.step t1.size t2
  go_wp2_with fail
  refine (C3 w2).mono ?_
  rintro e w3 ⟨rfl, rfl⟩
  go_wp2_with fail
  refine (C4 w3 r2).mono ?_
  rintro e w4 ⟨rfl, r4, t4⟩
  have t14 := t12.step t12.size t4
  go_wp2_with fail
  refine (C5 w4 (HG.out.turned t14 h25 (by simpa using hrb))).mono ?_
  rintro e w5 ⟨rfl, b5⟩
  go_wp2_with fail
  go_ret2
  exact ⟨rfl, r4.below b5 r4.lt, t14.step t14.size (Turned.of_below b5)⟩
set_option maxRecDepth 1000000 in
set_option maxHeartbeats 2000000 in
theorem Parse_nan (w : World) (g : Glob w) : Calls Tryz.prog 272 #[.string nanB] w fun e w' => e = .returned (.tuple #[.agg nanC, .int .i64 0]) ∧ Below w.heap.size w w' := by
  have h25 := g.size
  have kr0 : Blk (w.alloc (.cells #[.int .u8 0, .int .i64 0, .float .f64 0, .float .f64 0, .string ⟨#[]⟩, .slice none 0 0] 329)) w.heap.size _ 329 := Blk.new w _ 329
  have kr : Blk ((w.alloc (.cells #[.int .u8 0, .int .i64 0, .float .f64 0, .float .f64 0, .string ⟨#[]⟩, .slice none 0 0] 329)).alloc (.cells #[.string nanB] 457)) w.heap.size _ 329 := kr0.alloc _
  have ks : Blk ((w.alloc (.cells #[.int .u8 0, .int .i64 0, .float .f64 0, .float .f64 0, .string ⟨#[]⟩, .slice none 0 0] 329)).alloc (.cells #[.string nanB] 457)) (w.heap.size + 1) #[.string nanB] 457 := by simpa using Blk.new (w.alloc (.cells #[.int .u8 0, .int .i64 0, .float .f64 0, .float .f64 0, .string ⟨#[]⟩, .slice none 0 0] 329)) #[.string nanB] 457
  have b0 := below_two w (.cells #[.int .u8 0, .int .i64 0, .float .f64 0, .float .f64 0, .string ⟨#[]⟩, .slice none 0 0] 329) (.cells #[.string nanB] 457)
  have z0 : ((w.alloc (.cells #[.int .u8 0, .int .i64 0, .float .f64 0, .float .f64 0, .string ⟨#[]⟩, .slice none 0 0] 329)).alloc (.cells #[.string nanB] 457)).heap.size = w.heap.size + 2 := by simp
  have C1 := svalue_nan (w.heap.size + 1) _ (g.below b0 h25) (by omega) ks
  have C2 := fun W => held_nan W
  have C3 := fun W => vText_nan W
  obtain ⟨W0, hW0⟩ : ∃ W0, W0 = ((w.alloc (.cells #[.int .u8 0, .int .i64 0, .float .f64 0, .float .f64 0, .string ⟨#[]⟩, .slice none 0 0] 329)).alloc (.cells #[.string nanB] 457)) := ⟨_, rfl⟩
  rw [← hW0] at C1 kr b0 z0
  have HW0 := Lib.hid hW0
  clear hW0 ks kr0
  have ht : (nanB.toList == nanB.toList) = true := by simp
  go_enter Tryz.func272, Tryz.ntmps272
  go_wp2_with fail
  rw [← HW0.out]
  refine C1.mono ?_
  rintro e w1 ⟨rfl, r1, t1⟩
  have c1 : w1.cell? ⟨w.heap.size + 1, 0, none⟩ = some (.string ⟨#[]⟩) := r1.cell 0
  have kr1 := kr.turned t1 kr.lt (by simp)
  have tw1 : Turned w.heap.size [] w w1 := (Turned.of_below b0).trans (t1.mono (by omega) (fun k hk hlt => by simp at hk; omega))
  have z1 := t1.size
  clear C1
  have kr1s : w.heap.size < w1.heap.size := by omega
  go_wp2_with (first
    | (go_at_call 309; refine (C2 _).mono ?_; rintro e w2 ⟨rfl, b2⟩; have kr2 := kr1.below b2 kr1s; have z2 := b2.size; have kz2 := kr2.alloc (.cells #[.int .u8 0, .int .i64 0, .float .f64 0, .float .f64 0, .string ⟨#[]⟩, .slice none 0 0] 329))
    | (refine wsR rowT329 rfl (.tmp 7) (.tmp 25) rfl w2.heap.size nanC rfl rfl _ 329 (Blk.new w2 _ 329) rfl rfl rfl ?_; intro w3 k3 t3 z3; have kr3 := kz2.turned t3 (by simp; omega) (by simp; omega); have z3' : w3.heap.size = w2.heap.size + 1 := (by rw [z3]; simp))
    | (refine wlR rowT329 rfl (.tmp 7) rfl w2.heap.size rfl nanC 329 k3 rfl ?_)
    | (go_at_call 211; refine (C3 _).mono ?_; rintro e w4 ⟨rfl, b4⟩; have k4 := k3.below b4 (by omega); have kr4 := kr3.below b4 (by omega); have z4 := b4.size)
    | (refine wlR rowT329 rfl (.tmp 7) rfl w2.heap.size rfl nanC 329 k4 rfl ?_)
    | (refine wsR rowT329 rfl (.tmp 2) (.tmp 39) rfl w.heap.size nanC rfl rfl _ 329 kr4 rfl rfl rfl ?_; intro w5 k5 t5 z5))
  refine bodyPost_ret (retRb rowT329 rfl _ _ w.heap.size _ 329 rfl k5 rfl) rfl ?_
  have ta : Turned w.heap.size [] w w2 := tw1.trans ((Turned.of_below (S := []) b2).mono (by omega) (by simp))
  have tb : Turned w.heap.size [] w w3 := (ta.alloc (by omega) _).trans (t3.mono (by simp; omega) (fun k hk hlt => by simp at hk; omega))
  have tc : Turned w.heap.size [] w w4 := tb.trans ((Turned.of_below (S := []) b4).mono (by omega) (by simp))
  exact ⟨rfl, (tc.trans (t5.mono (S' := []) (by omega) (fun k hk hlt => by simp at hk; omega))).below (by simp)⟩
set_option maxRecDepth 1000000 in
set_option maxHeartbeats 2000000 in
theorem rvalue_nan (r : Value) (w : World) (g : Glob w) : Calls Tryz.prog 239 #[r, .int .u8 3, .string nanB] w fun e w' => e = .returned (.agg nanC) ∧ Below w.heap.size w w' := by
  have kr0 : Blk (w.alloc (.cells #[.int .u8 0, .int .i64 0, .float .f64 0, .float .f64 0, .string ⟨#[]⟩, .slice none 0 0] 329)) w.heap.size _ 329 := Blk.new w _ 329
  have b0 := below_one w (.cells #[.int .u8 0, .int .i64 0, .float .f64 0, .float .f64 0, .string ⟨#[]⟩, .slice none 0 0] 329)
  have C := Parse_nan _ (g.below b0 g.size)
  have h25 := g.size
  clear g
  go_enter Tryz.func239, Tryz.ntmps239
  go_wp2_with (first
    | (go_at_call 272; refine C.mono ?_; rintro e w1 ⟨rfl, b1⟩; have kr1 := kr0.below b1 kr0.lt; have z1 := b1.size; simp at z1; have kr2 := kr1.alloc (.cells #[.int .u8 0, .int .i64 0, .float .f64 0, .float .f64 0, .string ⟨#[]⟩, .slice none 0 0] 329))
    | (refine wsR rowT329 rfl (.tmp 7) (.tmp 12) rfl w1.heap.size nanC rfl rfl _ 329 (Blk.new w1 _ 329) rfl rfl rfl ?_; intro w3 k3 t3 z3; have kr3 := kr2.turned t3 (by simp; omega) (by simp; omega); have z3' : w3.heap.size = w1.heap.size + 1 := (by rw [z3]; simp); have q0 : w3.cell? ⟨w1.heap.size, 0, none⟩ = some (.int .u8 3) := k3.cell 0)
    | (refine wlR rowT329 rfl (.tmp 7) rfl w1.heap.size rfl nanC 329 k3 rfl ?_)
    | (refine wsR rowT329 rfl (.tmp 6) (.tmp 24) rfl w.heap.size nanC rfl rfl _ 329 kr3 rfl rfl rfl ?_; intro w5 k5 t5 z5))
  refine bodyPost_ret (retR rowT329 rfl _ _ w.heap.size _ 329 rfl k5 rfl) rfl ?_
  have ta : Turned w.heap.size [] w w1 := Turned.of_below (b0.trans (b1.mono (by simp)))
  have tb : Turned w.heap.size [] w w3 := (ta.alloc (by omega) _).trans (t3.mono (by simp; omega) (fun k hk hlt => by simp at hk; omega))
  exact ⟨rfl, (tb.trans (t5.mono (S' := []) (by omega) (fun k hk hlt => by simp at hk; omega))).below (by simp)⟩
set_option maxRecDepth 1000000 in
set_option maxHeartbeats 2000000 in
/-- The reader's float, where NaN stands. -/
theorem rfloat_nan (s s1 s2 : ByteArray) (pv : Value) (rb : Nat) (w : World) (g : Glob w) (hrb : 25 ≤ rb) (hr : RB w rb s pv) (h1 : preB s ⟨#[32]⟩ = true) (h2 : dropS s ⟨#[32]⟩ = s1) (hsz : s1.size ≤ 8796093022207) (h3 : s1.extract 0 (cutN s1 stopB) = nanB) (h4 : s1.extract (cutN s1 stopB) s1.size = s2) :
    Calls Tryz.prog 198 #[.pointer (some ⟨rb, 0, none⟩)] w fun e w' => e = .returned nanV ∧ RB w' rb s2 pv ∧ Turned w.heap.size [rb] w w' := by
  have h25 := g.size
  have CT := takes_step s ⟨#[32]⟩ pv rb w hr h1
  rw [h2] at CT
  have CU := fun w1 (hr1 : RB w1 rb s1 pv) => until_any s1 stopB pv rb w1 stopB_ascii hsz hr1
  rw [h3, h4] at CU
  have hfd : ∀ W, (Instr.field 329 (.agg nanC) 2).run Tryz.prog W = .ok nanV W := fun W => by kernel_rfl
  have CV := fun W (h : Glob W) => rvalue_nan (.pointer (some ⟨rb, 0, none⟩)) W h
  have HCU := Lib.hid CU
  have HG := Lib.hid g
  clear CU h1 h2 h3 h4 hr g
  go_enter Tryz.func198, Tryz.ntmps198
  go_wp2_with fail
  refine CT.mono ?_
  rintro e w1 ⟨rfl, r1, t1⟩
  clear CT
  go_wp2_with fail
  refine (HCU.out w1 r1).mono ?_
  rintro e w2 ⟨rfl, r2, t2⟩
  have t12 := t1.step t1.size t2
  go_wp2_with fail
  refine (CV w2 (HG.out.turned t12 h25 (by simpa using hrb))).mono ?_
  rintro e w3 ⟨rfl, b3⟩
  go_wp2_with fail
  go_ret
  exact ⟨rfl, r2.below b3 r2.lt, t12.step t12.size (Turned.of_below b3)⟩
end Go.Proofs.YtihmlhjdlpjehaaGreatDoor
