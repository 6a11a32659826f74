/- Package book: Make, where nothing is refused. -/
import Derived.Test.YtihmlhjdlpjehaaGreatDoorK19
import Derived.Test.YtihmlhjdlpjehaaGreatDoorK29
import Derived.OwnWalk
import Derived.Deep.RegionWith
import Derived.Deep.RegionHeld3
import Derived.Deep.CutRange
import Derived.Deep.RegionLaw
set_option linter.unusedVariables false
set_option linter.unusedSimpArgs false
namespace Go.Proofs.YtihmlhjdlpjehaaGreatDoor
open Go.RowKit

/-- What Long answers for a spec at some lengths. -/
def LongIs (s : Sp) (lens : List Int) (n : Int) (w : World) : Prop := ∀ (ia pa la : Option Addr) (ic pc lc : Nat) (W : World), Below w.heap.size w W → RdS W ia s.items → RdI W pa s.parts → RdI W la lens →
  Calls Tryz.prog 66 #[s.val ia ic pa pc, .slice la lens.length lc] W fun e w' => e = .returned (.int .i64 n) ∧ Below W.heap.size W w'

/-- What book.Make leaves behind it. -/
def BookPost (bb : Nat) (v : Value) (rows : List Rw) (s : Sp) (n : Int) (w w' : World) : Prop := ∃ v' err ia' pa' ic' pc', ErrV s.kind err ∧
      BookV w' bb v' (rows ++ [{ err := err, sp := s, ia := ia', ic := ic', pa := pa', pc := pc', size := sizeF rows s.parts, depth := depthF rows s.parts, long := n, words := wordsF rows (wordsI s.text s.items) s.parts }]) ∧
      RdS w' ia' s.items ∧ RdI w' pa' s.parts ∧ NewA w.heap.size ia' ∧ NewA w.heap.size pa' ∧ (s.items ≠ [] → ∀ x g, ia' = some x → v'.ownBlock = some g → x.block ≠ g) ∧ (s.parts ≠ [] → ∀ x g, pa' = some x → v'.ownBlock = some g → x.block ≠ g) ∧
      (v'.ownBlock = v.ownBlock ∨ ∀ g, v'.ownBlock = some g → w.heap.size ≤ g) ∧ Turned w.heap.size (bb :: v.ownBlock.toList) w w'

set_option maxRecDepth 1000000 in
set_option maxHeartbeats 8000000 in
theorem bookMake_ok (bb : Nat) (v : Value) (rows : List Rw) (s : Sp) (ia pa : Option Addr) (ic pc : Nat) (w : World) (hB : BookV w bb v rows) (h25 : 25 ≤ w.heap.size) (hm : rows.length < 65536) (hrow : ∀ r ∈ rows, r.Ok)
    (hi : RdS w ia s.items) (hp : RdI w pa s.parts) (hps : ∀ p ∈ s.parts, 0 ≤ p ∧ p ≤ rows.length) (hc : checkE s = 0)
    (hM : MakesE s (s.parts.map fun p => (rowOf rows p).err)) (n : Int) (hL : LongIs s (s.parts.map fun p => (rowOf rows p).long) n w)
    (b1 : sizeF rows s.parts ≤ 4096) (b2 : depthF rows s.parts ≤ 64) (b3 : 0 ≤ n) (b3' : n ≤ 65536) (b4 : wordsF rows (wordsI s.text s.items) s.parts ≤ 1048576) :
    Calls Tryz.prog 31 #[.pointer (some ⟨bb, 0, none⟩), s.val ia ic pa pc] w fun e w' => e = .returned (.tuple #[.int .i64 (rows.length + 1), .int .i64 0]) ∧ BookPost bb v rows s n w w' := by
  have b0 : Below w.heap.size w (w.alloc (.cells (s.val ia ic pa pc).cells 79)) := below_one _ _
  have kz : Blk (w.alloc (.cells (s.val ia ic pa pc).cells 79)) w.heap.size (s.val ia ic pa pc).cells 79 := Blk.new w _ 79
  have z0 : (w.alloc (.cells (s.val ia ic pa pc).cells 79)).heap.size = w.heap.size + 1 := by simp
  obtain ⟨ct, ci, cx, cp⟩ := checkE_zero hc
  have HCZ := Lib.hid hc
  have HMK := Lib.hid hM
  have HLG := Lib.hid hL
  have hbbl : bb < w.heap.size := hB.1.lt
  have HB := Lib.hid hB
  have HI := Lib.hid hi
  have HP := Lib.hid hp
  have HPS := Lib.hid hps
  have HROW := Lib.hid hrow
  have HSZ := Lib.hid (sizeF_bound hrow)
  have HCX := Lib.hid cx
  clear hc hM hL hB hi hp hps hrow cx
  obtain ⟨np, hnp⟩ : ∃ np, s.parts.length = np := ⟨_, rfl⟩
  have HNP := Lib.hid hnp
  obtain ⟨ni, hni⟩ : ∃ ni, s.items.length = ni := ⟨_, rfl⟩
  have HNI := Lib.hid hni
  have hsv : s.val ia ic pa pc = .agg #[.int .u8 s.kind, .bool s.nl, .string s.text, .int .i16 s.number, .int .i8 s.small, .float .f64 s.re, .float .f64 s.im, .bool s.flag, .int .u32 s.mask, .slice ia ni ic, .slice pa np pc] := by rw [← hnp, ← hni]
  rw [hnp] at cp
  rw [hni] at ci
  rw [hsv] at b0 kz z0 ⊢
  have HSV := Lib.hid hsv
  have hval : ∀ a c b d, s.val a c b d = .agg #[.int .u8 s.kind, .bool s.nl, .string s.text, .int .i16 s.number, .int .i8 s.small, .float .f64 s.re, .float .f64 s.im, .bool s.flag, .int .u32 s.mask, .slice a ni c, .slice b np d] := fun a c b d => by rw [← hnp, ← hni]
  have HVAL := Lib.hid hval
  have htw : ∀ wr : World, Below w.heap.size w wr → Calls Tryz.prog 64 #[.agg #[.int .u8 s.kind, .bool s.nl, .string s.text, .int .i16 s.number, .int .i8 s.small, .float .f64 s.re, .float .f64 s.im, .bool s.flag, .int .u32 s.mask, .slice ia ni ic, .slice pa np pc]] wr fun e w' => (∃ a c b d, e = .returned (.agg #[.int .u8 s.kind, .bool s.nl, .string s.text, .int .i16 s.number, .int .i8 s.small, .float .f64 s.re, .float .f64 s.im, .bool s.flag, .int .u32 s.mask, .slice a ni c, .slice b np d]) ∧ RdS w' a s.items ∧ RdI w' b s.parts ∧ NewA wr.heap.size a ∧ NewA wr.heap.size b) ∧ Below wr.heap.size wr w' := fun wr hb => by
    have T := twin_any s ia pa ic pc wr (HI.out.below hb) (HP.out.below hb) (by rw [hni]; omega) (by rw [hnp]; omega)
    rw [hsv] at T
    refine T.mono ?_
    rintro e w' ⟨⟨a, c, b, d, rfl, h1, h2, h3, h4⟩, h5⟩
    exact ⟨⟨a, c, b, d, by rw [hval], h1, h2, h3, h4⟩, h5⟩
  have HTW := Lib.hid htw
  clear hsv hval htw hnp hni
  go_enter Tryz.func31, Tryz.ntmps31
  go_wp2_with fail
  obtain ⟨W0, hW0⟩ : ∃ W0, W0 = w.alloc (.cells #[.int .u8 s.kind, .bool s.nl, .string s.text, .int .i16 s.number, .int .i8 s.small, .float .f64 s.re, .float .f64 s.im, .bool s.flag, .int .u32 s.mask, .slice ia ni ic, .slice pa np pc] 79) := ⟨_, rfl⟩
  have kz0 : Blk W0 w.heap.size #[.int .u8 s.kind, .bool s.nl, .string s.text, .int .i16 s.number, .int .i8 s.small, .float .f64 s.re, .float .f64 s.im, .bool s.flag, .int .u32 s.mask, .slice ia ni ic, .slice pa np pc] 79 := by rw [hW0]; exact kz
  have bw0 : Below w.heap.size w W0 := by rw [hW0]; exact b0
  have zw0 : W0.heap.size = w.heap.size + 1 := by rw [hW0]; exact z0
  rw [← hW0]
  clear hW0 kz b0 z0
  have q10 : W0.cell? ⟨w.heap.size, 10, none⟩ = some (.slice pa np pc) := kz0.cell 10
  go_loopw [27] (fun i wr => ∃ m : Nat, m ≤ np ∧ i = .int .i64 m ∧ Below (w.heap.size + 1) W0 wr) (fun i _ => np - (intOf i).toNat)
  case atStart => exact ⟨0, Nat.zero_le _, rfl, Below.refl _ _⟩
  case round =>
    obtain ⟨m, hmm, rfl, hbr⟩ := hrel
    have hbs := hbr.size
    have hbw : Below w.heap.size w wr := bw0.trans (hbr.mono (by omega))
    by_cases hlt : m < np
    · have hml : m < s.parts.length := by rw [HNP.out]; exact hlt
      obtain ⟨bp, op, hpa, cp1, _⟩ := HP.out.at hbw m hml
      have hpb := HPS.out _ (getD_mem hml)
      have C := at_any bb v rows (s.parts.getD m 0) wr (HB.out.below hbw) hpb.1 hpb.2 (by omega)
      subst hpa
      generalize s.parts.getD m 0 = p at *
      clear hpb hml
      go_wp2_with (go_at_call 62; refine C.mono ?_; rintro e w2 ⟨⟨g, o, rfl, _, _⟩, hb2⟩)
      go_roundw
      case rel => exact ⟨m + 1, by omega, by go_num, hbr.trans (hb2.mono (by omega))⟩
      case measure => simp [intOf]; omega
    · have kz1 := kz0.below hbr (by omega)
      have zw1 : w.heap.size + 1 ≤ wr.heap.size := by omega
      clear hbr hbs kz0 bw0 zw0 q10
      obtain ⟨W1, hW1⟩ : ∃ W1, W1 = wr := ⟨_, rfl⟩
      rw [← hW1] at kz1 zw1 hbw ⊢
      clear hW1 wr
      have C := Check_any s ia pa ic pc W1 (HI.out.below hbw)
      rw [HCZ.out, HSV.out] at C
      go_wp2_with (first
        | (refine wl79 rfl (.tmp 41) rfl w.heap.size rfl _ 79 kz1 rfl ?_)
        | (refine wl79 rfl (.tmp 3) rfl w.heap.size rfl _ 79 kz1 rfl ?_)
        | (go_at_call 63; refine C.mono ?_; rintro e w1 ⟨rfl, hb1⟩; have kz2 := kz1.below hb1 (by omega); have zw2 := hb1.size; have hbw2 := hbw.trans (hb1.mono (by omega))))
      have q0 : w1.cell? ⟨w.heap.size, 0, none⟩ = some (.int .u8 s.kind) := kz2.cell 0
      have q1 : w1.cell? ⟨w.heap.size, 1, none⟩ = some (.bool s.nl) := kz2.cell 1
      have q2 : w1.cell? ⟨w.heap.size, 2, none⟩ = some (.string s.text) := kz2.cell 2
      have q3 : w1.cell? ⟨w.heap.size, 3, none⟩ = some (.int .i16 s.number) := kz2.cell 3
      have q4 : w1.cell? ⟨w.heap.size, 4, none⟩ = some (.int .i8 s.small) := kz2.cell 4
      have q5 : w1.cell? ⟨w.heap.size, 5, none⟩ = some (.float .f64 s.re) := kz2.cell 5
      have q6 : w1.cell? ⟨w.heap.size, 6, none⟩ = some (.float .f64 s.im) := kz2.cell 6
      have q7 : w1.cell? ⟨w.heap.size, 7, none⟩ = some (.bool s.flag) := kz2.cell 7
      have q8 : w1.cell? ⟨w.heap.size, 8, none⟩ = some (.int .u32 s.mask) := kz2.cell 8
      have q9 : w1.cell? ⟨w.heap.size, 9, none⟩ = some (.slice ia ni ic) := kz2.cell 9
      have q10 : w1.cell? ⟨w.heap.size, 10, none⟩ = some (.slice pa np pc) := kz2.cell 10
      have kd : Blk w1.drew w.heap.size _ 79 := kz2
      have bd : Below w.heap.size w w1.drew := hbw2.drew
      clear C kz1 hb1 hbw
      have hsf := run_stf
      have hlt1 : w.heap.size < w1.heap.size := by omega
      have bda : Below w.heap.size w (w1.alloc (.cells #[.nilIface, .int .u8 0, .bool false, .string { data := #[] }, .int .i16 0, .int .i8 0, .float .f64 0, .float .f64 0, .bool false, .int .u32 0, .slice none 0 0, .slice none 0 0, .int .i64 0, .int .i64 0, .int .i64 0, .int .i64 0] 139)).drew := (hbw2.alloc (by omega) _).drew
      have kda : Blk (w1.alloc (.cells #[.nilIface, .int .u8 0, .bool false, .string { data := #[] }, .int .i16 0, .int .i8 0, .float .f64 0, .float .f64 0, .bool false, .int .u32 0, .slice none 0 0, .slice none 0 0, .int .i64 0, .int .i64 0, .int .i64 0, .int .i64 0] 139)).drew w.heap.size _ 79 := kz2.alloc (.cells #[.nilIface, .int .u8 0, .bool false, .string { data := #[] }, .int .i16 0, .int .i8 0, .float .f64 0, .float .f64 0, .bool false, .int .u32 0, .slice none 0 0, .slice none 0 0, .int .i64 0, .int .i64 0, .int .i64 0, .int .i64 0] 139)
      have kna : Blk (w1.alloc (.cells #[.nilIface, .int .u8 0, .bool false, .string { data := #[] }, .int .i16 0, .int .i8 0, .float .f64 0, .float .f64 0, .bool false, .int .u32 0, .slice none 0 0, .slice none 0 0, .int .i64 0, .int .i64 0, .int .i64 0, .int .i64 0] 139)).drew w1.heap.size _ 139 := Blk.new w1 #[.nilIface, .int .u8 0, .bool false, .string { data := #[] }, .int .i16 0, .int .i8 0, .float .f64 0, .float .f64 0, .bool false, .int .u32 0, .slice none 0 0, .slice none 0 0, .int .i64 0, .int .i64 0, .int .i64 0, .int .i64 0] 139
      go_cut [11] from 46 to 51 (fun p wx => ∃ (nb : Nat) (a b : Option Addr) (c d : Nat), p = .pointer (some ⟨nb, 0, none⟩) ∧ w.heap.size < nb ∧ Blk wx nb #[.nilIface, .int .u8 s.kind, .bool s.nl, .string s.text, .int .i16 s.number, .int .i8 s.small, .float .f64 s.re, .float .f64 s.im, .bool s.flag, .int .u32 s.mask, .slice a ni c, .slice b np d, .int .i64 1, .int .i64 1, .int .i64 0, .int .i64 s.text.size] 139 ∧ Blk wx w.heap.size #[.int .u8 s.kind, .bool s.nl, .string s.text, .int .i16 s.number, .int .i8 s.small, .float .f64 s.re, .float .f64 s.im, .bool s.flag, .int .u32 s.mask, .slice ia ni ic, .slice pa np pc] 79 ∧ RdS wx a s.items ∧ RdI wx b s.parts ∧ NewA (w.heap.size + 1) a ∧ NewA (w.heap.size + 1) b ∧ (s.items ≠ [] → ∀ x, a = some x → x.block ≠ nb) ∧ (s.parts ≠ [] → ∀ x, b = some x → x.block ≠ nb) ∧ Below w.heap.size w wx)
      case first =>
        go_region_held3 (fun w' => w'.cell? ⟨w.heap.size, 0, none⟩ = some (.int .u8 s.kind) ∧ w'.cell? ⟨w.heap.size, 1, none⟩ = some (.bool s.nl) ∧ w'.cell? ⟨w.heap.size, 2, none⟩ = some (.string s.text) ∧ w'.cell? ⟨w.heap.size, 3, none⟩ = some (.int .i16 s.number) ∧ w'.cell? ⟨w.heap.size, 4, none⟩ = some (.int .i8 s.small) ∧ w'.cell? ⟨w.heap.size, 5, none⟩ = some (.float .f64 s.re) ∧ w'.cell? ⟨w.heap.size, 6, none⟩ = some (.float .f64 s.im) ∧ w'.cell? ⟨w.heap.size, 7, none⟩ = some (.bool s.flag) ∧ w'.cell? ⟨w.heap.size, 8, none⟩ = some (.int .u32 s.mask) ∧ w'.cell? ⟨w.heap.size, 9, none⟩ = some (.slice ia ni ic) ∧ w'.cell? ⟨w.heap.size, 10, none⟩ = some (.slice pa np pc)) (first | with_reducible exact qs | with_reducible exact qst0 | go_keep)
          (first
          | (go_at_call 64; refine (HTW.out w1.drew bd).mono ?_; rintro e w2 ⟨⟨a2, c2, d2, e2, rfl, hr1, hr2, hn1, hn2⟩, hb2⟩; have kz3 := kd.below hb2 kd.lt; have hs2 : w1.heap.size ≤ w2.heap.size := hb2.size; have hlt2 : w.heap.size < w2.heap.size := (by omega); have qs : w2.cell? ⟨w.heap.size, 0, none⟩ = some (.int .u8 s.kind) ∧ w2.cell? ⟨w.heap.size, 1, none⟩ = some (.bool s.nl) ∧ w2.cell? ⟨w.heap.size, 2, none⟩ = some (.string s.text) ∧ w2.cell? ⟨w.heap.size, 3, none⟩ = some (.int .i16 s.number) ∧ w2.cell? ⟨w.heap.size, 4, none⟩ = some (.int .i8 s.small) ∧ w2.cell? ⟨w.heap.size, 5, none⟩ = some (.float .f64 s.re) ∧ w2.cell? ⟨w.heap.size, 6, none⟩ = some (.float .f64 s.im) ∧ w2.cell? ⟨w.heap.size, 7, none⟩ = some (.bool s.flag) ∧ w2.cell? ⟨w.heap.size, 8, none⟩ = some (.int .u32 s.mask) ∧ w2.cell? ⟨w.heap.size, 9, none⟩ = some (.slice ia ni ic) ∧ w2.cell? ⟨w.heap.size, 10, none⟩ = some (.slice pa np pc) := ⟨kz3.cell 0, kz3.cell 1, kz3.cell 2, kz3.cell 3, kz3.cell 4, kz3.cell 5, kz3.cell 6, kz3.cell 7, kz3.cell 8, kz3.cell 9, kz3.cell 10⟩)
          | (go_at_call 64; refine (HTW.out (w1.alloc (.cells #[.nilIface, .int .u8 0, .bool false, .string { data := #[] }, .int .i16 0, .int .i8 0, .float .f64 0, .float .f64 0, .bool false, .int .u32 0, .slice none 0 0, .slice none 0 0, .int .i64 0, .int .i64 0, .int .i64 0, .int .i64 0] 139)).drew bda).mono ?_; rintro e w2 ⟨⟨a2, c2, d2, e2, rfl, hr1, hr2, hn1, hn2⟩, hb2⟩; have kz3 := kda.below hb2 kda.lt; have kn := kna.below hb2 kna.lt; have hs2 := hb2.size; simp at hs2; have hlt2 : w.heap.size < w2.heap.size := (by omega); have fz := fun j => kn.frozen j; have p0 : w2.cell? ⟨w1.heap.size, 0, none⟩ = some (.nilIface) := kn.cell 0; have p1 : w2.cell? ⟨w1.heap.size, 1, none⟩ = some (.int .u8 0) := kn.cell 1; have p2 : w2.cell? ⟨w1.heap.size, 2, none⟩ = some (.bool false) := kn.cell 2; have p3 : w2.cell? ⟨w1.heap.size, 3, none⟩ = some (.string { data := #[] }) := kn.cell 3; have p4 : w2.cell? ⟨w1.heap.size, 4, none⟩ = some (.int .i16 0) := kn.cell 4; have p5 : w2.cell? ⟨w1.heap.size, 5, none⟩ = some (.int .i8 0) := kn.cell 5; have p6 : w2.cell? ⟨w1.heap.size, 6, none⟩ = some (.float .f64 0) := kn.cell 6; have p7 : w2.cell? ⟨w1.heap.size, 7, none⟩ = some (.float .f64 0) := kn.cell 7; have p8 : w2.cell? ⟨w1.heap.size, 8, none⟩ = some (.bool false) := kn.cell 8; have p9 : w2.cell? ⟨w1.heap.size, 9, none⟩ = some (.int .u32 0) := kn.cell 9; have p10 : w2.cell? ⟨w1.heap.size, 10, none⟩ = some (.slice none 0 0) := kn.cell 10; have p11 : w2.cell? ⟨w1.heap.size, 11, none⟩ = some (.slice none 0 0) := kn.cell 11; have p12 : w2.cell? ⟨w1.heap.size, 12, none⟩ = some (.int .i64 0) := kn.cell 12; have p13 : w2.cell? ⟨w1.heap.size, 13, none⟩ = some (.int .i64 0) := kn.cell 13; have p14 : w2.cell? ⟨w1.heap.size, 14, none⟩ = some (.int .i64 0) := kn.cell 14; have p15 : w2.cell? ⟨w1.heap.size, 15, none⟩ = some (.int .i64 0) := kn.cell 15; have qs : w2.cell? ⟨w.heap.size, 0, none⟩ = some (.int .u8 s.kind) ∧ w2.cell? ⟨w.heap.size, 1, none⟩ = some (.bool s.nl) ∧ w2.cell? ⟨w.heap.size, 2, none⟩ = some (.string s.text) ∧ w2.cell? ⟨w.heap.size, 3, none⟩ = some (.int .i16 s.number) ∧ w2.cell? ⟨w.heap.size, 4, none⟩ = some (.int .i8 s.small) ∧ w2.cell? ⟨w.heap.size, 5, none⟩ = some (.float .f64 s.re) ∧ w2.cell? ⟨w.heap.size, 6, none⟩ = some (.float .f64 s.im) ∧ w2.cell? ⟨w.heap.size, 7, none⟩ = some (.bool s.flag) ∧ w2.cell? ⟨w.heap.size, 8, none⟩ = some (.int .u32 s.mask) ∧ w2.cell? ⟨w.heap.size, 9, none⟩ = some (.slice ia ni ic) ∧ w2.cell? ⟨w.heap.size, 10, none⟩ = some (.slice pa np pc) := ⟨kz3.cell 0, kz3.cell 1, kz3.cell 2, kz3.cell 3, kz3.cell 4, kz3.cell 5, kz3.cell 6, kz3.cell 7, kz3.cell 8, kz3.cell 9, kz3.cell 10⟩; have kst : Blk (stc w2 w1.heap.size [(0, .nilIface), (1, .int .u8 s.kind), (2, .bool s.nl), (3, .string s.text), (4, .int .i16 s.number), (5, .int .i8 s.small), (6, .float .f64 s.re), (7, .float .f64 s.im), (8, .bool s.flag), (9, .int .u32 s.mask), (10, .slice a2 ni c2), (11, .slice d2 np e2), (12, .int .i64 1), (13, .int .i64 1), (14, .int .i64 0), (15, .int .i64 s.text.size)]) w.heap.size _ 79 := stc_other kz3 (by omega) _; obtain ⟨Wst, hWst⟩ : ∃ W, W = stc w2 w1.heap.size [(0, .nilIface), (1, .int .u8 s.kind), (2, .bool s.nl), (3, .string s.text), (4, .int .i16 s.number), (5, .int .i8 s.small), (6, .float .f64 s.re), (7, .float .f64 s.im), (8, .bool s.flag), (9, .int .u32 s.mask), (10, .slice a2 ni c2), (11, .slice d2 np e2), (12, .int .i64 1), (13, .int .i64 1), (14, .int .i64 0), (15, .int .i64 s.text.size)] := ⟨_, rfl⟩; rw [← hWst] at kst; have qst0 : Wst.cell? ⟨w.heap.size, 0, none⟩ = some (.int .u8 s.kind) ∧ Wst.cell? ⟨w.heap.size, 1, none⟩ = some (.bool s.nl) ∧ Wst.cell? ⟨w.heap.size, 2, none⟩ = some (.string s.text) ∧ Wst.cell? ⟨w.heap.size, 3, none⟩ = some (.int .i16 s.number) ∧ Wst.cell? ⟨w.heap.size, 4, none⟩ = some (.int .i8 s.small) ∧ Wst.cell? ⟨w.heap.size, 5, none⟩ = some (.float .f64 s.re) ∧ Wst.cell? ⟨w.heap.size, 6, none⟩ = some (.float .f64 s.im) ∧ Wst.cell? ⟨w.heap.size, 7, none⟩ = some (.bool s.flag) ∧ Wst.cell? ⟨w.heap.size, 8, none⟩ = some (.int .u32 s.mask) ∧ Wst.cell? ⟨w.heap.size, 9, none⟩ = some (.slice ia ni ic) ∧ Wst.cell? ⟨w.heap.size, 10, none⟩ = some (.slice pa np pc) := ⟨kst.cell 0, kst.cell 1, kst.cell 2, kst.cell 3, kst.cell 4, kst.cell 5, kst.cell 6, kst.cell 7, kst.cell 8, kst.cell 9, kst.cell 10⟩; have hWst2 : Wst = ((((((((((((((((w2.setCell ⟨w1.heap.size, 0, none⟩ (.nilIface)).setCell ⟨w1.heap.size, 1, none⟩ (.int .u8 s.kind)).setCell ⟨w1.heap.size, 2, none⟩ (.bool s.nl)).setCell ⟨w1.heap.size, 3, none⟩ (.string s.text)).setCell ⟨w1.heap.size, 4, none⟩ (.int .i16 s.number)).setCell ⟨w1.heap.size, 5, none⟩ (.int .i8 s.small)).setCell ⟨w1.heap.size, 6, none⟩ (.float .f64 s.re)).setCell ⟨w1.heap.size, 7, none⟩ (.float .f64 s.im)).setCell ⟨w1.heap.size, 8, none⟩ (.bool s.flag)).setCell ⟨w1.heap.size, 9, none⟩ (.int .u32 s.mask)).setCell ⟨w1.heap.size, 10, none⟩ (.slice a2 ni c2)).setCell ⟨w1.heap.size, 11, none⟩ (.slice d2 np e2)).setCell ⟨w1.heap.size, 12, none⟩ (.int .i64 1)).setCell ⟨w1.heap.size, 13, none⟩ (.int .i64 1)).setCell ⟨w1.heap.size, 14, none⟩ (.int .i64 0)).setCell ⟨w1.heap.size, 15, none⟩ (.int .i64 s.text.size)) := hWst; rw [hWst2] at qst0))
        · go_wp2_with fail
          go_meet
          case rel =>
            have hs3 : w1.heap.size ≤ w2.heap.size := hb2.size
            have l1 : NewA w1.heap.size a2 := hn1
            have l2 : NewA w1.heap.size d2 := hn2
            have hb2' : Below w1.heap.size w1 w2 := (Below.refl w1.heap.size w1).drew.trans hb2
            exact ⟨w2.heap.size, a2, d2, c2, e2, rfl, hlt2, Blk.new w2 _ 139, kz3.alloc _, hr1.below (below_one _ _), hr2.below (below_one _ _), fun x hx => by have := l1 x hx; omega, fun x hx => by have := l2 x hx; omega,
              fun hne x hx => by have := hr1.lt hne x hx; omega, fun hne x hx => by have := hr2.lt hne x hx; omega, (hbw2.trans (hb2'.mono (by omega))).alloc (by omega) _⟩
        · go_wp2_with fail
          go_meet
          case rel =>
            have l1 : NewA (w1.heap.size + 1) a2 := fun x hx => by have := hn1 x hx; simp at this; omega
            have l2 : NewA (w1.heap.size + 1) d2 := fun x hx => by have := hn2 x hx; simp at this; omega
            have hbz : Below w.heap.size w w2 := bda.trans (hb2.mono (by simp; omega))
            have hs2' : w1.heap.size + 1 ≤ w2.heap.size := by omega
            clear qst0 qs fz p0 p1 p2 p3 p4 p5 p6 p7 p8 p9 p10 p11 p12 p13 p14 p15
            rw [← hWst2]
            exact row_built s ni np w w1 w2 Wst a2 d2 c2 e2 hlt1 hs2' kn hWst _ kst hr1 hr2 l1 l2 hbz
      case rest =>
        obtain ⟨nb, a, b, c, d, rfl, hnb, kn, kz3, r1, r2, n1, n2, ne1, ne2, hbw3⟩ := hcut
        have hnl := kn.lt
        have q9 : wc.cell? ⟨w.heap.size, 9, none⟩ = some (.slice ia ni ic) := kz3.cell 9
        go_wp2_with fail
        go_loopw [55] (fun i wr => ∃ m : Nat, m ≤ ni ∧ i = .int .i64 m ∧ Blk wr nb #[.nilIface, .int .u8 s.kind, .bool s.nl, .string s.text, .int .i16 s.number, .int .i8 s.small, .float .f64 s.re, .float .f64 s.im, .bool s.flag, .int .u32 s.mask, .slice a ni c, .slice b np d, .int .i64 1, .int .i64 1, .int .i64 0, .int .i64 (wordsI s.text (s.items.take m))] 139 ∧ Turned wc.heap.size [nb] wc wr) (fun i _ => ni - (intOf i).toNat)
        case atStart => exact ⟨0, Nat.zero_le _, rfl, kn, Turned.refl _ _ _⟩
        case round =>
          obtain ⟨j, hj, rfl, kr, tr⟩ := hrel
          have trs := tr.size
          have hbw4 : Below w.heap.size w wr := hbw3.trans ((tr.mono (B' := w.heap.size) (S' := []) (by omega) (fun k hk hlt => by simp at hk; omega)).below (by simp))
          by_cases hlt : j < ni
          · have hjl : j < s.items.length := by rw [HNI.out]; exact hlt
            obtain ⟨bi, oi, hia, ci1, _⟩ := HI.out.at hbw4 j hjl
            have hwb := wordsI_bound s.text ct (s.items.take j) (fun x hx => HCX.out x (List.mem_of_mem_take hx)) (by rw [List.length_take]; omega)
            have hxs := HCX.out (s.items.getD j ⟨#[]⟩) (by simp [List.getD, hjl])
            have hsn : wordsI s.text (s.items.take (j + 1)) = wordsI s.text (s.items.take j) + (s.items.getD j ⟨#[]⟩).size := by
              rw [List.take_succ_eq_append_getElem hjl, wordsI_snoc]; simp [List.getD, hjl]
            have HSN := Lib.hid hsn
            subst hia
            have c15 := kr.cell 15
            have f15 := kr.frozen 15
            simp only [List.getElem?_toArray, List.getElem?_cons_zero, List.getElem?_cons_succ] at c15
            have hfin : ∀ v, Blk (wr.setCell ⟨nb, 15, none⟩ (.int .i64 v)) nb #[.nilIface, .int .u8 s.kind, .bool s.nl, .string s.text, .int .i16 s.number, .int .i8 s.small, .float .f64 s.re, .float .f64 s.im, .bool s.flag, .int .u32 s.mask, .slice a ni c, .slice b np d, .int .i64 1, .int .i64 1, .int .i64 0, .int .i64 v] 139 := fun v => by simpa using kr.store 15 (.int .i64 v)
            have HF := Lib.hid hfin
            have HT := Lib.hid tr
            clear hsn hfin tr hjl kr hbw4 trs
            generalize wordsI s.text (s.items.take j) = W9 at *
            generalize s.items.getD j ⟨#[]⟩ = x at *
            go_wp2
            go_roundw
            case rel =>
              refine ⟨j + 1, by omega, by go_num, ?_, HT.out.setCell (p := ⟨nb, 15, none⟩) (Or.inr (by simp)) _⟩
              rw [HSN.out]
              exact HF.out _
            case measure => simp [intOf]; omega
          · have he : s.items.take j = s.items := List.take_of_length_le (by rw [HNI.out]; omega)
            rw [he] at kr
            have r1' := r1.turn tr (fun e x hx => by have := ne1 e x hx; simpa using this)
            have r2' := r2.turn tr (fun e x hx => by have := ne2 e x hx; simpa using this)
            have kz4 := kz3.turned tr kz3.lt (by simp; omega)
            have hnl4 := kr.lt
            clear q9 kz3 kn r1 r2 tr hbw3 hnl trs he
            obtain ⟨W4, hW4⟩ : ∃ W4, W4 = wr := ⟨_, rfl⟩
            rw [← hW4] at kr r1' r2' kz4 hnl4 hbw4 ⊢
            clear hW4 wr
            have q10 : W4.cell? ⟨w.heap.size, 10, none⟩ = some (.slice pa np pc) := kz4.cell 10
            obtain ⟨i0, hi0, hz0, hz1, hz2⟩ := info_parts i137
            obtain ⟨i1, hj0, hj1, hj2, hj3⟩ := info_parts i3
            go_wp2_with (first
              | (refine wpList_make_full _ rfl (.tmp 68) (.tmp 68) 140 rfl (nb + 1) 137 i0 .nilIface 1 u140 hi0 hz0 hz1 .i64 .i64 np np np rfl rfl rfl rfl (by rw [hz2]; omega) (by unfold maxLen; omega) (by omega) ?_; intro W5 ho5 hg5; have q10' : W5.cell? ⟨w.heap.size, 10, none⟩ = some (.slice pa np pc) := hg5.cell q10 (by simp); have hs5 := hg5.size)
              | (refine wpList_make_full _ rfl (.tmp 72) (.tmp 72) 54 rfl (nb + 1) 3 i1 (.int .i64 0) 1 u54 hj0 hj1 hj2 .i64 .i64 np np np rfl rfl rfl rfl (by rw [hj3]; omega) (by unfold maxLen; omega) (by omega) ?_; intro W6 ho6 hg6; have q10'' : W6.cell? ⟨w.heap.size, 10, none⟩ = some (.slice pa np pc) := hg6.cell q10' (by simp); have hs6 := hg6.size))
            obtain ⟨eb, heb⟩ : ∃ eb, W4.heap.size = eb := ⟨_, rfl⟩
            obtain ⟨lb, hlb⟩ : ∃ lb, W5.heap.size = lb := ⟨_, rfl⟩
            rw [heb] at ho5
            rw [hlb] at ho6
            rw [heb, hlb]
            have hnbe : nb < eb := by omega
            have le5 : eb < W5.heap.size := (ho5.lt eb rfl).2
            have le6 : lb < W6.heap.size := (ho6.lt lb rfl).2
            have B5 : Below W4.heap.size W4 W5 := Below.grown (Below.refl _ _) hg5 (Nat.le_refl _) (by simp)
            have B6 : Below W5.heap.size W5 W6 := Below.grown (Below.refl _ _) hg6 (Nat.le_refl _) (by simp)
            have kr6 := (kr.below B5 hnl4).below B6 (by omega)
            have kz6 := (kz4.below B5 kz4.lt).below B6 (by have := kz4.lt; omega)
            have la1 : s.items ≠ [] → ∀ x, a = some x → x.block < eb := fun e x hx => by rw [← heb]; exact r1'.lt e x hx
            have la2 : s.parts ≠ [] → ∀ x, b = some x → x.block < eb := fun e x hx => by rw [← heb]; exact r2'.lt e x hx
            have s1 := (r1'.below B5).below B6
            have s2 := (r2'.below B5).below B6
            have hbw6 : Below w.heap.size w W6 := (hbw4.trans (B5.mono (by omega))).trans (B6.mono (by omega))
            have oe6 := ho5.kept hg6 (Or.inr (by simp [Value.ownBlock]))
            clear q10 q10' q10'' ho5 hg5 hg6 B5 B6 kr kz4 r1' r2' hbw4 hi0 hz0 hz1 hz2 hj0 hj1 hj2 hj3
            go_wp2_with fail
            go_loopw [77] (fun i wr => ∃ (m : Nat) (xs ys : List Value), m ≤ np ∧ i = .int .i64 m ∧ Blk wr nb #[.nilIface, .int .u8 s.kind, .bool s.nl, .string s.text, .int .i16 s.number, .int .i8 s.small, .float .f64 s.re, .float .f64 s.im, .bool s.flag, .int .u32 s.mask, .slice a ni c, .slice b np d, .int .i64 (sizeF rows (s.parts.take m)), .int .i64 (depthF rows (s.parts.take m)), .int .i64 0, .int .i64 (wordsF rows (wordsI s.text s.items) (s.parts.take m))] 139 ∧ wr.ownsRow (nb + 1) 137 1 (.slice (some ⟨eb, 0, none⟩) np np) np xs ∧ (∀ j, j < m → xs[j]? = some (rowOf rows (s.parts.getD j 0)).err) ∧ wr.ownsRow (nb + 1) 3 1 (.slice (some ⟨lb, 0, none⟩) np np) np ys ∧ (∀ j, j < m → ys[j]? = some (.int .i64 (rowOf rows (s.parts.getD j 0)).long)) ∧ Turned W6.heap.size [nb, eb, lb] W6 wr) (fun i _ => np - (intOf i).toNat)
            case atStart => exact ⟨0, _, _, Nat.zero_le _, rfl, kr6, oe6, fun j hj => absurd hj (Nat.not_lt_zero j), ho6, fun j hj => absurd hj (Nat.not_lt_zero j), Turned.refl _ _ _⟩
            case round =>
              obtain ⟨m, xs, ys, hm2, rfl, kr, oe, he, ol, hl, tr⟩ := hrel
              have trs := tr.size
              have hbw7 : Below w.heap.size w wr := hbw6.trans ((tr.mono (B' := w.heap.size) (S' := []) (by omega) (fun k hk hlt => by simp at hk; omega)).below (by simp))
              by_cases hlt : m < np
              · have hml : m < s.parts.length := by rw [HNP.out]; exact hlt
                obtain ⟨bp, op, hpa, cp1, _⟩ := HP.out.at hbw7 m hml
                have hpb := HPS.out _ (getD_mem hml)
                have C := at_any bb v rows (s.parts.getD m 0) wr (HB.out.below hbw7) hpb.1 hpb.2 (by omega)
                have hok := rowOf_ok HROW.out (s.parts.getD m 0)
                have hsz1 := sizeF_bound HROW.out (s.parts.take m) (by rw [List.length_take]; omega)
                have hdp1 := depthF_bound HROW.out (s.parts.take m) 1 (by decide) (by decide)
                have hwi := wordsI_bound s.text ct s.items HCX.out (by rw [HNI.out]; omega)
                have hwd1 := wordsF_bound HROW.out (wordsI s.text s.items) hwi.1 hwi.2 (s.parts.take m) (by rw [List.length_take]; omega)
                subst hpa
                have hle : eb < lb := by omega
                have hne1 : ¬ nb = eb := by omega
                have hne2 : ¬ nb = lb := by omega
                have hne3 : ¬ eb = lb := by omega
                have hwl : w.heap.size ≤ W6.heap.size := hbw6.size
                have hvl : ∀ g, v.ownBlock = some g → g < w.heap.size := fun g hg => (HB.out.2.1.lt g hg).2
                have HVL := Lib.hid hvl
                have HE := Lib.hid he
                have HLL := Lib.hid hl
                have htk : s.parts.take (m + 1) = s.parts.take m ++ [s.parts.getD m 0] := by
                  rw [List.take_succ_eq_append_getElem hml]; simp [List.getD, hml]
                have HSF := Lib.hid (show sizeF rows (s.parts.take (m + 1)) = sizeF rows (s.parts.take m) + (rowOf rows (s.parts.getD m 0)).size by rw [htk]; exact sizeF_snoc rows (s.parts.take m) (s.parts.getD m 0))
                have HDF := Lib.hid (show depthF rows (s.parts.take (m + 1)) = max (depthF rows (s.parts.take m)) ((rowOf rows (s.parts.getD m 0)).depth + 1) by rw [htk]; exact depthF_snoc rows (s.parts.take m) (s.parts.getD m 0))
                have HWF := Lib.hid (show wordsF rows (wordsI s.text s.items) (s.parts.take (m + 1)) = wordsF rows (wordsI s.text s.items) (s.parts.take m) + (rowOf rows (s.parts.getD m 0)).words by rw [htk]; exact wordsF_snoc rows (wordsI s.text s.items) (s.parts.take m) (s.parts.getD m 0))
                clear htk
                have hdp2 : 1 ≤ depthF rows (s.parts.take m) ∧ depthF rows (s.parts.take m) ≤ 65 := hdp1
                have hkrl := kr.lt
                have kx := kr.frozen 0
                have hoel := (oe.lt eb rfl).2
                have holl := (ol.lt lb rfl).2
                have hxl : xs.length = np := by have := oe.1; omega
                have hyl : ys.length = np := by have := ol.1; omega
                obtain ⟨x0, hx0⟩ : ∃ x, xs[m]? = some x := ⟨xs[m]'(by omega), List.getElem?_eq_getElem (by omega)⟩
                obtain ⟨y0, hy0⟩ : ∃ y, ys[m]? = some y := ⟨ys[m]'(by omega), List.getElem?_eq_getElem (by omega)⟩
                clear hvl he hl hpb hml hdp1 kr6 kz6 s1 s2 oe6 ho6 hm le5 le6 hnl4 heb hlb hbw6
                generalize hPr : s.parts.getD m 0 = p at *
                have HPR := Lib.hid hPr
                clear hPr
                obtain ⟨so0, so1, do0, do1, lo0, lo1, wo0, wo1, eo1⟩ := hok
                go_wp2_with fail
                refine C.mono ?_
                rintro e w2 ⟨⟨g, o, rfl, hgo, hcells⟩, hb2⟩
                have hb2s := hb2.size
                have hg0 : ¬ g = eb := by
                  rcases hgo with h | h
                  · have := HVL.out g h
                    omega
                  · omega
                have hg1 : ¬ g = lb := by
                  rcases hgo with h | h
                  · have := HVL.out g h
                    omega
                  · omega
                have hg2 : ¬ g = nb := by
                  rcases hgo with h | h
                  · have := HVL.out g h
                    omega
                  · omega
                have k2 := kr.below hb2 hkrl
                have oe2 := own_turned (S := []) oe (Turned.of_below hb2) (by simp)
                have ol2 := own_turned (S := []) ol (Turned.of_below hb2) (by simp)
                have ce : w2.cell? ⟨eb, m, none⟩ = some x0 := (oe2.cellAt m (by omega)).trans hx0
                have cl : w2.cell? ⟨lb, m, none⟩ = some y0 := (ol2.cellAt m (by omega)).trans hy0
                have fe := oe2.frozenAt m
                have fl := ol2.frozenAt m
                have fn := fun j => k2.frozen j
                have c0 : w2.cell? ⟨g, o, none⟩ = some (rowOf rows p).err := hcells 0 (by decide)
                have c12 : w2.cell? ⟨g, o + 12, none⟩ = some (.int .i64 (rowOf rows p).size) := hcells 12 (by decide)
                have c13 : w2.cell? ⟨g, o + 13, none⟩ = some (.int .i64 (rowOf rows p).depth) := hcells 13 (by decide)
                have c14 : w2.cell? ⟨g, o + 14, none⟩ = some (.int .i64 (rowOf rows p).long) := hcells 14 (by decide)
                have c15 : w2.cell? ⟨g, o + 15, none⟩ = some (.int .i64 (rowOf rows p).words) := hcells 15 (by decide)
                have n12 : w2.cell? ⟨nb, 12, none⟩ = some (.int .i64 (sizeF rows (s.parts.take m))) := k2.cell 12
                have n13 : w2.cell? ⟨nb, 13, none⟩ = some (.int .i64 (depthF rows (s.parts.take m))) := k2.cell 13
                have n15 : w2.cell? ⟨nb, 15, none⟩ = some (.int .i64 (wordsF rows (wordsI s.text s.items) (s.parts.take m))) := k2.cell 15
                have hso := run_stf
                have HSTEP := Lib.hid (fun (pe pl A B C : Value) => mk_step (m := m) (pe := pe) (pl := pl) (A := A) (B := B) (C := C) k2 oe2 ol2 hne1 hne2 hne3 tr trs hb2)
                clear hcells kr oe ol hgo C hb2s
                generalize hpe : (rowOf rows p).err = pe at *
                have HPE := Lib.hid hpe
                clear hpe
                generalize (rowOf rows p).size = psz at *
                generalize (rowOf rows p).depth = pd at *
                generalize hpl : (rowOf rows p).long = pl at *
                have HPL := Lib.hid hpl
                clear hpl
                generalize (rowOf rows p).words = pw at *
                generalize sizeF rows (s.parts.take m) = SZ at *
                generalize depthF rows (s.parts.take m) = DP at *
                generalize wordsF rows (wordsI s.text s.items) (s.parts.take m) = WD at *
                cases eo1
                all_goals
                  go_wp2_with fail
                  go_region
                  go_wp2_with fail
                  go_region
                  go_wp2_with fail
                  go_region
                  go_wp2_with fail
                  go_region
                  go_wp2_with fail
                  go_roundw
                all_goals first
                  | (case measure => simp [intOf]; omega)
                  | skip
                all_goals
                  obtain ⟨Wf, hWf, kf, oef, olf, tf⟩ := HSTEP.out _ (.int .i64 pl) (.int .i64 (SZ + psz)) (.int .i64 (WD + pw)) (.int .i64 (max DP (pd + 1)))
                  rw [← hWf]
                  refine ⟨m + 1, _, _, by omega, by go_num, ?_, oef, ?_, olf, ?_, tf⟩
                  · rw [HSF.out, HDF.out, HWF.out]
                    exact kf
                  · intro j hj
                    by_cases hjm : j = m
                    · subst hjm
                      rw [HPR.out, HPE.out, List.getElem?_set_self (by omega)]
                    · rw [List.getElem?_set_ne (by omega)]
                      exact HE.out j (by omega)
                  · intro j hj
                    by_cases hjm : j = m
                    · subst hjm
                      rw [HPR.out, HPL.out, List.getElem?_set_self (by omega)]
                    · rw [List.getElem?_set_ne (by omega)]
                      exact HLL.out j (by omega)
              · have htk : s.parts.take m = s.parts := List.take_of_length_le (by rw [HNP.out]; omega)
                rw [htk] at kr
                have hmn : m = np := by omega
                have hle : eb < lb := by omega
                have kz7 := kz6.turned tr kz6.lt (by simp; omega)
                have s1' := s1.turn tr (fun e x hx => by have := ne1 e x hx; have := la1 e x hx; simp; omega)
                have s2' := s2.turn tr (fun e x hx => by have := ne2 e x hx; have := la2 e x hx; simp; omega)
                have hE : RdE wr (some ⟨eb, 0, none⟩) (s.parts.map fun p => (rowOf rows p).err) := by
                  refine Or.inr ⟨eb, 0, rfl, fun j hj => ?_⟩
                  have hj' : j < s.parts.length := by simpa using hj
                  have hjn : j < np := by rw [← HNP.out]; exact hj'
                  rw [Nat.zero_add, oe.cellAt j (by omega), he j (by omega)]
                  simp [List.getD, hj']
                have hLs : RdI wr (some ⟨lb, 0, none⟩) (s.parts.map fun p => (rowOf rows p).long) := by
                  refine Or.inr ⟨lb, 0, rfl, fun j hj => ?_⟩
                  have hj' : j < s.parts.length := by simpa using hj
                  have hjn : j < np := by rw [← HNP.out]; exact hj'
                  rw [Nat.zero_add, ol.cellAt j (by omega), hl j (by omega)]
                  simp [List.getD, hj']
                have hlenE : (s.parts.map fun p => (rowOf rows p).err).length = np := by simp; exact HNP.out
                have hlenL : (s.parts.map fun p => (rowOf rows p).long).length = np := by simp; exact HNP.out
                have hkrl := kr.lt
                have hwl : w.heap.size ≤ W6.heap.size := hbw6.size
                obtain ⟨W7, hW7⟩ : ∃ W7, W7 = wr := ⟨_, rfl⟩
                rw [← hW7] at kr kz7 s1' s2' hE hLs hbw7 hkrl ⊢
                have trs7 : W6.heap.size ≤ W7.heap.size := by rw [hW7]; exact trs
                clear hW7 kr6 kz6 s1 s2 oe6 ho6 le5 le6 hnl4 oe ol he hl tr trs htk hbw6 hlt
                clear wr
                go_wp2_with (first
                  | (refine wl79 rfl (.tmp 3) rfl w.heap.size rfl _ 79 kz7 rfl ?_)
                  | (go_at_call 64; refine (HTW.out W7 hbw7).mono ?_; rintro e w8 ⟨⟨a8, c8, b8, d8, rfl, t1, t2, m1, m2⟩, hb8⟩)
                  | fail)
                have M := HMK.out a8 b8 (some ⟨eb, 0, none⟩) c8 d8 np w8 t1 (hE.below hb8)
                rw [HVAL.out, hlenE] at M
                refine M.mono ?_
                rintro e w9 ⟨⟨ev, rfl, hev⟩, hb9⟩
                have hev' := Lib.hid hev
                obtain ⟨T9, x9, rfl, hT9⟩ := hev
                have hs8 := hb8.size
                have hs9 := hb9.size
                have kz9 := (kz7.below hb8 kz7.lt).below hb9 (by have := kz7.lt; omega)
                have k9 := (kr.below hb8 hkrl).below hb9 (by omega)
                have s19 := (s1'.below hb8).below hb9
                have s29 := (s2'.below hb8).below hb9
                have hbw9 : Below w.heap.size w w9 := (hbw7.trans (hb8.mono (by omega))).trans (hb9.mono (by omega))
                have LG := HLG.out ia pa (some ⟨lb, 0, none⟩) ic pc np w9 hbw9 (HI.out.below hbw9) (HP.out.below hbw9) ((hLs.below hb8).below hb9)
                rw [HSV.out, hlenL] at LG
                have HLG9 := Lib.hid LG
                have hk9l : nb < w9.heap.size := by omega
                have hcb : ∃ ad cap, v = .slice ad rows.length cap := by
                  rcases HB.out.cases with ⟨e, hr⟩ | ⟨g, cap, e, _⟩
                  · exact ⟨none, 0, by rw [e, hr]; rfl⟩
                  · exact ⟨_, cap, e⟩
                obtain ⟨ad, vcap, hv⟩ := hcb
                have hcbb : ∀ W, Below w.heap.size w W → W.cell? ⟨bb, 0, none⟩ = some (.slice ad rows.length vcap) := fun W hb => by
                  rw [← hv]; exact (HB.out.below hb).1.cell 0
                have HCBB := Lib.hid hcbb
                have HV := Lib.hid hv
                clear hcbb hv
                have hnbb : ¬ nb = bb := by omega
                clear M hE hLs LG t1 t2 m1 m2 hT9 kr kz7 s1' s2' hb8 hb9 hbw7
                go_wp2_with (first
                  | (refine wl79 rfl (.tmp 3) rfl w.heap.size rfl _ 79 kz9 rfl ?_)
                  | (go_at_call 66; refine HLG9.out.mono ?_; rintro e w10 ⟨rfl, hb10⟩; have k10 := k9.below hb10 hk9l; have c0 : w10.cell? ⟨nb, 0, none⟩ = some .nilIface := k10.cell 0; have c14 : w10.cell? ⟨nb, 14, none⟩ = some (.int .i64 0) := k10.cell 14; have c12 : w10.cell? ⟨nb, 12, none⟩ = some (.int .i64 (sizeF rows s.parts)) := k10.cell 12; have c13 : w10.cell? ⟨nb, 13, none⟩ = some (.int .i64 (depthF rows s.parts)) := k10.cell 13; have c15 : w10.cell? ⟨nb, 15, none⟩ = some (.int .i64 (wordsF rows (wordsI s.text s.items) s.parts)) := k10.cell 15; have fz := fun j => k10.frozen j; have hbw10 := hbw9.trans (hb10.mono hbw9.size); have cbb := HCBB.out w10 hbw10))
                have k11 : Blk ((w10.setCell ⟨nb, 0, none⟩ (.iface T9 x9)).setCell ⟨nb, 14, none⟩ (.int .i64 n)) nb #[.iface T9 x9, .int .u8 s.kind, .bool s.nl, .string s.text, .int .i16 s.number, .int .i8 s.small, .float .f64 s.re, .float .f64 s.im, .bool s.flag, .int .u32 s.mask, .slice a ni c, .slice b np d, .int .i64 (sizeF rows s.parts), .int .i64 (depthF rows s.parts), .int .i64 n, .int .i64 (wordsF rows (wordsI s.text s.items) s.parts)] 139 := by
                  have k := (k10.store 0 (.iface T9 x9)).store 14 (.int .i64 n)
                  simpa using k
                have t11 : Turned w10.heap.size [nb] w10 ((w10.setCell ⟨nb, 0, none⟩ (.iface T9 x9)).setCell ⟨nb, 14, none⟩ (.int .i64 n)) := ((Turned.refl _ _ _).setCell (p := ⟨nb, 0, none⟩) (Or.inr (by simp)) _).setCell (p := ⟨nb, 14, none⟩) (Or.inr (by simp)) _
                have hs10 := hb10.size
                have s110 := s19.below hb10
                have s210 := s29.below hb10
                have hbw11 : Below w.heap.size w ((w10.setCell ⟨nb, 0, none⟩ (.iface T9 x9)).setCell ⟨nb, 14, none⟩ (.int .i64 n)) := hbw10.trans ((t11.mono (B' := w.heap.size) (S' := []) (by omega) (fun k hk hlt => by simp at hk; omega)).below (by simp))
                have z11 := t11.size
                obtain ⟨W11, hW11⟩ : ∃ W11, W11 = ((w10.setCell ⟨nb, 0, none⟩ (.iface T9 x9)).setCell ⟨nb, 14, none⟩ (.int .i64 n)) := ⟨_, rfl⟩
                rw [← hW11] at k11 t11 hbw11 z11 ⊢
                have hB11 := HB.out.below hbw11
                have cbb11 := HCBB.out W11 hbw11
                have fbb := hB11.1.frozen 0
                have own11 := hB11.2.1
                rw [HV.out] at own11
                have xc0 : W11.cell? ⟨nb, 0, none⟩ = some (.iface T9 x9) := k11.cell 0
                have xc1 : W11.cell? ⟨nb, 1, none⟩ = some (.int .u8 s.kind) := k11.cell 1
                have xc2 : W11.cell? ⟨nb, 2, none⟩ = some (.bool s.nl) := k11.cell 2
                have xc3 : W11.cell? ⟨nb, 3, none⟩ = some (.string s.text) := k11.cell 3
                have xc4 : W11.cell? ⟨nb, 4, none⟩ = some (.int .i16 s.number) := k11.cell 4
                have xc5 : W11.cell? ⟨nb, 5, none⟩ = some (.int .i8 s.small) := k11.cell 5
                have xc6 : W11.cell? ⟨nb, 6, none⟩ = some (.float .f64 s.re) := k11.cell 6
                have xc7 : W11.cell? ⟨nb, 7, none⟩ = some (.float .f64 s.im) := k11.cell 7
                have xc8 : W11.cell? ⟨nb, 8, none⟩ = some (.bool s.flag) := k11.cell 8
                have xc9 : W11.cell? ⟨nb, 9, none⟩ = some (.int .u32 s.mask) := k11.cell 9
                have xc10 : W11.cell? ⟨nb, 10, none⟩ = some (.slice a ni c) := k11.cell 10
                have xc11 : W11.cell? ⟨nb, 11, none⟩ = some (.slice b np d) := k11.cell 11
                have xc12 : W11.cell? ⟨nb, 12, none⟩ = some (.int .i64 (sizeF rows s.parts)) := k11.cell 12
                have xc13 : W11.cell? ⟨nb, 13, none⟩ = some (.int .i64 (depthF rows s.parts)) := k11.cell 13
                have xc14 : W11.cell? ⟨nb, 14, none⟩ = some (.int .i64 n) := k11.cell 14
                have xc15 : W11.cell? ⟨nb, 15, none⟩ = some (.int .i64 (wordsF rows (wordsI s.text s.items) s.parts)) := k11.cell 15
                clear hW11 cbb c0 c12 c13 c14 c15 fz k10 k9 kz9 HLG9
                obtain ⟨i9, z9, y1, y2, y3, y4, y5⟩ := info139
                have h2511 : 25 ≤ W11.heap.size := Nat.le_trans h25 hbw11.size
                have hbbl11 : bb < W11.heap.size := by have := hbw11.size; omega
                have hbn : some bb ≠ (Value.slice ad rows.length vcap).ownBlock := by rw [← HV.out]; exact fun h => hB11.2.2 h.symm
                have hkb : Blk W11 bb #[.slice ad rows.length vcap] 83 := by rw [← HV.out]; exact hB11.1
                have hVl : ∀ k, (Value.slice ad rows.length vcap).ownBlock = some k → k < w.heap.size := fun k hk => by rw [← HV.out] at hk; exact (HB.out.2.1.lt k hk).2
                have hB12 : BookV W11 bb (.slice ad rows.length vcap) rows := by rw [← HV.out]; exact hB11
                have h10w : w.heap.size ≤ w10.heap.size := hbw10.size
                go_region_law (refine step_append_own rfl (.tmp 172) (.tmp 174) 81 rfl 25 139 i9 z9 16 152 su81 y1 y2 y3 y4 y5 (by decide) (.slice ad rows.length vcap) rows.length (rcells rows) rfl (own11.alloc (.cells #[.iface T9 x9, .int .u8 s.kind, .bool s.nl, .string s.text, .int .i16 s.number, .int .i8 s.small, .float .f64 s.re, .float .f64 s.im, .bool s.flag, .int .u32 s.mask, .slice a ni c, .slice b np d, .int .i64 (sizeF rows s.parts), .int .i64 (depthF rows s.parts), .int .i64 n, .int .i64 (wordsF rows (wordsI s.text s.items) s.parts)] 139)) ⟨W11.heap.size, 0, none⟩ 1 1 #[.iface T9 x9, .int .u8 s.kind, .bool s.nl, .string s.text, .int .i16 s.number, .int .i8 s.small, .float .f64 s.re, .float .f64 s.im, .bool s.flag, .int .u32 s.mask, .slice a ni c, .slice b np d, .int .i64 (sizeF rows s.parts), .int .i64 (depthF rows s.parts), .int .i64 n, .int .i64 (wordsF rows (wordsI s.text s.items) s.parts)].toList rfl rfl (new_row W11 #[.iface T9 x9, .int .u8 s.kind, .bool s.nl, .string s.text, .int .i16 s.number, .int .i8 s.small, .float .f64 s.re, .float .f64 s.im, .bool s.flag, .int .u32 s.mask, .slice a ni c, .slice b np d, .int .i64 (sizeF rows s.parts), .int .i64 (depthF rows s.parts), .int .i64 n, .int .i64 (wordsF rows (wordsI s.text s.items) s.parts)] 139) (by simp [Value.oneCell']) (by unfold maxLen; omega) (by omega) (by simp <;> omega) ?_; intro v' w' hown' hgr hwh; obtain ⟨g', cap', rfl⟩ := own_form hown'; have kb' : Blk w' bb _ 83 := Blk.grown (w := (W11.alloc _).drew) (hkb.alloc _) hgr hbn; have cb' : w'.cell? ⟨bb, 0, none⟩ = some (.slice ad rows.length vcap) := kb'.cell 0; have fb' := kb'.frozen 0)
                all_goals
                  go_wp2_with fail
                  go_ret2
                  have hown2 : w'.ownsRow 25 139 16 (.slice (some ⟨g', 0, none⟩) (rows.length + 1) cap') (rows.length + 1) (rcells rows ++ ({ err := .iface T9 x9, sp := s, ia := a, ic := c, pa := b, pc := d, size := sizeF rows s.parts, depth := depthF rows s.parts, long := n, words := wordsF rows (wordsI s.text s.items) s.parts } : Rw).arr.toList) := by rw [← HNI.out, ← HNP.out] at hown'; exact hown'
                  have hPost := book_post (s := s) (r := { err := .iface T9 x9, sp := s, ia := a, ic := c, pa := b, pc := d, size := sizeF rows s.parts, depth := depthF rows s.parts, long := n, words := wordsF rows (wordsI s.text s.items) s.parts }) (g := g') (cap := cap') hB12 hVl hbbl hnb hown2 hgr hwh h10w t11 hbw11 s110 s210 n1 n2 ne1 ne2
                  have hPost2 : BookPost bb v rows s n w (w'.setCell ⟨bb, 0, none⟩ (.slice (some ⟨g', 0, none⟩) (rows.length + 1) cap')) := by
                    rw [HV.out]
                    exact ⟨_, _, a, b, c, d, hev'.out, hPost⟩
                  exact ⟨rfl, hPost2⟩
end Go.Proofs.YtihmlhjdlpjehaaGreatDoor
