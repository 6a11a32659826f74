/- Package lines: row of two words, quoted of one text, a spec's words at code, wrap, level, join. Package lines: a spec's words at code, wrap, level, join. -/
import Derived.Test.YtihmlhjdlpjehaaGreatDoorL1
import Derived.Test.YtihmlhjdlpjehaaGreatDoorR11
import Derived.Test.YtihmlhjdlpjehaaGreatDoorV2
import Derived.Test.YtihmlhjdlpjehaaGreatDoorK17
import Derived.LoopN
import Derived.Test.YtihmlhjdlpjehaaGreatDoorW1
set_option linter.unusedVariables false
set_option linter.unusedSimpArgs false
namespace Go.Proofs.YtihmlhjdlpjehaaGreatDoor
open Go.RowKit

theorem i9 : (Tryz.prog.info? 9).map (fun i => (i.zero, i.size, i.bytes)) = some (some (.string ⟨#[]⟩), 1, 16) := by kernel_rfl
theorem u35 : Tryz.prog.underlying 35 = some (.slice 9) := by kernel_rfl
set_option maxRecDepth 1000000 in
set_option maxHeartbeats 2000000 in
theorem row_two (bk c : Nat) (a b : ByteArray) (w : World) (ha : ¬ a = ⟨#[]⟩) (hb : ¬ b = ⟨#[]⟩) (hc0 : w.cell? ⟨bk, 0, none⟩ = some (.string a)) (hc1 : w.cell? ⟨bk, 1, none⟩ = some (.string b)) (hlen : (Lib.join [a.data.toList, b.data.toList] [32]).length ≤ 140737488355328) :
    Calls Tryz.prog 150 #[.slice (some ⟨bk, 0, none⟩) 2 c] w fun e w' => e = .returned (.string ⟨(Lib.join [a.data.toList, b.data.toList] [32]).toArray⟩) ∧ Below w.heap.size w w' := by
  obtain ⟨i0, hi, hz0, hz1, hz2⟩ := info_parts i9
  have U35 := u35
  have ta : (a.toList == ([] : List UInt8)) = false := by have h := beqL_no ha; rw [toL ⟨#[]⟩] at h; exact h
  have tb : (b.toList == ([] : List UInt8)) = false := by have h := beqL_no hb; rw [toL ⟨#[]⟩] at h; exact h
  have hbk := World.block_lt_of_cell? w _ hc0
  go_enter Tryz.func150, Tryz.ntmps150
  go_wp2_with fail
  refine wp_loop_rounds 3 ?_
  rw [rounds_succ]
  go_wp2_with (at_builtin; refine wpList_append_own _ rfl (.tmp 14) (.tmp 16) 35 rfl w.heap.size 9 i0 (.string ⟨#[]⟩) 1 16 U35 hi hz0 hz1 hz2 rfl (by decide) (.slice none 0 0) 0 [] rfl (World.ownsRow_nil _ _ _ _) ⟨w.heap.size, 0, none⟩ 1 1 [.string a] rfl rfl (new1 _ _ _) (by intro u hu; simp at hu; subst hu; rfl) (by unfold maxLen; omega) (by omega) (by simp) ?_; intro v1 w1 ho1 hg1 _; obtain ⟨g1, cap1, rfl⟩ := own_form ho1)
  have b1 : Below w.heap.size w w1 := ((Below.refl _ w).alloc (Nat.le_refl _) _).grown hg1 (by simp) (by simp [Value.ownBlock])
  have d1 : w1.cell? ⟨bk, 1, none⟩ = some (.string b) := (b1.cell (p := ⟨bk, 1, none⟩) hbk).trans hc1
  have z1 := b1.size
  have d0 : w1.cell? ⟨bk, 0, none⟩ = some (.string a) := (b1.cell (p := ⟨bk, 0, none⟩) hbk).trans hc0
  clear hg1
  rw [rounds_succ]
  go_wp2_with (at_builtin; refine wpList_append_own _ rfl (.tmp 14) (.tmp 16) 35 rfl w.heap.size 9 i0 (.string ⟨#[]⟩) 1 16 U35 hi hz0 hz1 hz2 rfl (by decide) (.slice (some ⟨g1, 0, none⟩) 1 cap1) 1 [.string a] rfl (ho1.alloc _) ⟨w1.heap.size, 0, none⟩ 1 1 [.string b] rfl rfl (new1 _ _ _) (by intro u hu; simp at hu; subst hu; rfl) (by unfold maxLen; omega) (by omega) (by simp; omega) ?_; intro v2 w2 ho2 hg2 _; obtain ⟨g2, cap2, rfl⟩ := own_form ho2)
  have b2 : Below w.heap.size w w2 := (b1.alloc z1 _).grown hg2 (by simp; omega) (fun k hk => (ho1.lt k hk).1)
  have z2 := b2.size
  have hcap : 2 ≤ cap2 := by
    rcases ho2.2 with ⟨h, _⟩ | ⟨g', cap', cur, h, _, _, h3, _⟩
    · cases h
    · cases h; exact h3
  have J := Tryz.strings_Join g2 0 cap2 [a, b] ⟨#[32]⟩ w2 (by
    intro j x hj
    rw [Nat.zero_add, ho2.cellAt j (by have := (List.getElem?_eq_some_iff.1 hj).1; simpa using this)]
    have hj' : j < 2 := by have := (List.getElem?_eq_some_iff.1 hj).1; simpa using this
    have h : j = 0 ∨ j = 1 := by omega
    rcases h with rfl | rfl
    · simp at hj; subst hj; rfl
    · simp at hj; subst hj; rfl) (ho2.lt g2 rfl).2 (by simp) hcap hlen
  clear ho1 ho2 hg2 d0 d1
  rw [rounds_succ]
  go_wp2_with fail
  refine J.mono ?_
  rintro e w3 ⟨rfl, b3⟩
  go_wp2_with fail
  go_ret
  exact ⟨rfl, b2.trans (b3.mono z2)⟩
set_option maxRecDepth 1000000 in
set_option maxHeartbeats 2000000 in
theorem quoted_one (bk c : Nat) (a q : ByteArray) (w : World) (hc0 : w.cell? ⟨bk, 0, none⟩ = some (.string a)) (hlen : (Lib.join [q.data.toList] [32]).length ≤ 140737488355328)
    (hq : ∀ W, Calls Tryz.prog 210 #[.string a] W fun e w' => e = .returned (.string q) ∧ Below W.heap.size W w') :
    Calls Tryz.prog 151 #[.slice (some ⟨bk, 0, none⟩) 1 c] w fun e w' => e = .returned (.string ⟨(Lib.join [q.data.toList] [32]).toArray⟩) ∧ Below w.heap.size w w' := by
  obtain ⟨i0, hi, hz0, hz1, hz2⟩ := info_parts i9
  have U35 := u35
  have hbk := World.block_lt_of_cell? w _ hc0
  go_enter Tryz.func151, Tryz.ntmps151
  go_wp2_with fail
  refine wp_loop_rounds 2 ?_
  rw [rounds_succ]
  go_wp2_with (first
    | (go_at_call 210; refine (hq _).mono ?_; rintro e w0 ⟨rfl, b0⟩; have z0 := b0.size)
    | (at_builtin; refine wpList_append_own _ rfl (.tmp 12) (.tmp 15) 35 rfl w.heap.size 9 i0 (.string ⟨#[]⟩) 1 16 U35 hi hz0 hz1 hz2 rfl (by decide) (.slice none 0 0) 0 [] rfl (World.ownsRow_nil _ _ _ _) ⟨w0.heap.size, 0, none⟩ 1 1 [.string q] rfl rfl (new1 _ _ _) (by intro u hu; simp at hu; subst hu; rfl) (by unfold maxLen; omega) (by omega) (by simp; omega) ?_; intro v1 w1 ho1 hg1 _; obtain ⟨g1, cap1, rfl⟩ := own_form ho1))
  have b1 : Below w.heap.size w w1 := (b0.alloc z0 _).grown hg1 (by simp; omega) (by simp [Value.ownBlock])
  have z1 := b1.size
  have hcap : 1 ≤ cap1 := by
    rcases ho1.2 with ⟨h, _⟩ | ⟨g', cap', cur, h, _, _, h3, _⟩
    · cases h
    · cases h; exact h3
  have J := Tryz.strings_Join g1 0 cap1 [q] ⟨#[32]⟩ w1 (by
    intro j x hj
    rw [Nat.zero_add, ho1.cellAt j (by have := (List.getElem?_eq_some_iff.1 hj).1; simpa using this)]
    have hj' : j < 1 := by have := (List.getElem?_eq_some_iff.1 hj).1; simpa using this
    obtain rfl : j = 0 := by omega
    simp at hj; subst hj; rfl) (ho1.lt g1 rfl).2 (by simp) hcap hlen
  clear ho1 hg1 b0
  rw [rounds_succ]
  go_wp2_with fail
  refine J.mono ?_
  rintro e w3 ⟨rfl, b3⟩
  go_wp2_with fail
  go_ret
  exact ⟨rfl, b1.trans (b3.mono z1)⟩
end Go.Proofs.YtihmlhjdlpjehaaGreatDoor
namespace Go.Proofs.YtihmlhjdlpjehaaGreatDoor
open Go.RowKit

abbrev wCode : ByteArray := ⟨#[99, 111, 100, 101, 32, 55]⟩
abbrev wWrap : ByteArray := ⟨#[119, 114, 97, 112, 32, 34, 119, 34]⟩
abbrev wLevel : ByteArray := ⟨#[108, 101, 118, 101, 108, 32, 78, 97, 78]⟩
abbrev wJoin : ByteArray := ⟨#[106, 111, 105, 110]⟩
theorem itoa_small (n : Nat) (hn : n < 100) (d : ByteArray) (hd : (⟨(Lib.decDigits n).toArray⟩ : ByteArray) = d) (W : World) : Calls Tryz.prog 100 #[.int .i64 n] W fun e w' => e = .returned (.string d) ∧ w' = W := by
  have h := Tryz.strconv_Itoa_small n hn W
  rw [hd] at h
  exact h
theorem dig0 : (⟨(Lib.decDigits 0).toArray⟩ : ByteArray) = ⟨#[48]⟩ := by kernel_rfl
theorem dig7 : (⟨(Lib.decDigits 7).toArray⟩ : ByteArray) = ⟨#[55]⟩ := by kernel_rfl
theorem word_at (k : Int) (nm : ByteArray) (w : World) (g : Glob w) (h1 : 1 ≤ k) (h2 : k ≤ 26) (hn : kname k = nm) : Calls Tryz.prog 23 #[.int .u8 k] w fun e w' => e = .returned (.tuple #[.string nm, .int .i64 0]) ∧ Below w.heap.size w w' := by
  rw [← hn]
  exact Word_any k w h1 h2 g
set_option maxRecDepth 1000000 in
set_option maxHeartbeats 4000000 in
theorem lwords_join (ia pa : Option Addr) (il ic pl pc : Nat) (w : World) (g : Glob w) : Calls Tryz.prog 102 #[.agg #[.int .u8 16, .bool false, .string ⟨#[]⟩, .int .i16 0, .int .i8 0, .float .f64 0, .float .f64 0, .bool false, .int .u32 0, .slice ia il ic, .slice pa pl pc]] w fun e w' => e = .returned (.string wJoin) ∧ Below w.heap.size w w' := by
  have b0 := below_one w (.cells #[.int .u8 16, .bool false, .string ⟨#[]⟩, .int .i16 0, .int .i8 0, .float .f64 0, .float .f64 0, .bool false, .int .u32 0, .slice ia il ic, .slice pa pl pc] 79)
  have k0 := Blk.new w #[.int .u8 16, .bool false, .string ⟨#[]⟩, .int .i16 0, .int .i8 0, .float .f64 0, .float .f64 0, .bool false, .int .u32 0, .slice ia il ic, .slice pa pl pc] 79
  have CW := word_at 16 wJoin _ (g.below b0 g.size) (by decide) (by decide) (by kernel_rfl)
  have CI := fun W => itoa_small 0 (by decide) _ dig0 W
  go_enter Tryz.func102, Tryz.ntmps102
  go_wp2_with fail
  refine CW.mono ?_
  rintro e w1 ⟨rfl, b1⟩
  have k1 := k0.below b1 k0.lt
  have c0 : w1.cell? ⟨w.heap.size, 0, none⟩ = some (.int .u8 16) := k1.cell 0
  have c1 : w1.cell? ⟨w.heap.size, 1, none⟩ = some (.bool false) := k1.cell 1
  have c3 : w1.cell? ⟨w.heap.size, 3, none⟩ = some (.int .i16 0) := k1.cell 3
  have c7 : w1.cell? ⟨w.heap.size, 7, none⟩ = some (.bool false) := k1.cell 7
  have b01 := b0.trans (b1.mono b0.size)
  clear CW k0 b0 b1
  go_wp2_with (go_at_call 100; refine (CI _).mono ?_; rintro e w2 ⟨rfl, rfl⟩)
  go_ret
  exact ⟨rfl, b01⟩
set_option maxRecDepth 1000000 in
set_option maxHeartbeats 4000000 in
theorem lwords_code (ia pa : Option Addr) (il ic pl pc : Nat) (w : World) (g : Glob w) : Calls Tryz.prog 102 #[.agg #[.int .u8 1, .bool false, .string ⟨#[]⟩, .int .i16 7, .int .i8 0, .float .f64 0, .float .f64 0, .bool false, .int .u32 0, .slice ia il ic, .slice pa pl pc]] w fun e w' => e = .returned (.string wCode) ∧ Below w.heap.size w w' := by
  have b0 := below_one w (.cells #[.int .u8 1, .bool false, .string ⟨#[]⟩, .int .i16 7, .int .i8 0, .float .f64 0, .float .f64 0, .bool false, .int .u32 0, .slice ia il ic, .slice pa pl pc] 79)
  have k0 := Blk.new w #[.int .u8 1, .bool false, .string ⟨#[]⟩, .int .i16 7, .int .i8 0, .float .f64 0, .float .f64 0, .bool false, .int .u32 0, .slice ia il ic, .slice pa pl pc] 79
  have CW := word_at 1 ⟨#[99, 111, 100, 101]⟩ _ (g.below b0 g.size) (by decide) (by decide) (by kernel_rfl)
  have CI := fun W => itoa_small 7 (by decide) _ dig7 W
  have CR := fun (W : World) => row_two W.heap.size 2 ⟨#[99, 111, 100, 101]⟩ ⟨#[55]⟩ (W.alloc (.cells #[.string ⟨#[99, 111, 100, 101]⟩, .string ⟨#[55]⟩] 9)) (by decide) (by decide) ((Blk.new W _ 9).cell 0) ((Blk.new W _ 9).cell 1) (by decide)
  have hj : (⟨(Lib.join [(⟨#[99, 111, 100, 101]⟩ : ByteArray).data.toList, (⟨#[55]⟩ : ByteArray).data.toList] [32]).toArray⟩ : ByteArray) = wCode := by kernel_rfl
  rw [hj] at CR
  go_enter Tryz.func102, Tryz.ntmps102
  go_wp2_with fail
  refine CW.mono ?_
  rintro e w1 ⟨rfl, b1⟩
  have k1 := k0.below b1 k0.lt
  have c0 : w1.cell? ⟨w.heap.size, 0, none⟩ = some (.int .u8 1) := k1.cell 0
  have c1 : w1.cell? ⟨w.heap.size, 1, none⟩ = some (.bool false) := k1.cell 1
  have c3 : w1.cell? ⟨w.heap.size, 3, none⟩ = some (.int .i16 7) := k1.cell 3
  have c7 : w1.cell? ⟨w.heap.size, 7, none⟩ = some (.bool false) := k1.cell 7
  have b01 := b0.trans (b1.mono b0.size)
  clear CW k0 b0 b1 hj
  go_wp2_with (go_at_call 100; refine (CI _).mono ?_; rintro e w2 ⟨rfl, rfl⟩)
  refine (CR _).mono ?_
  rintro e w3 ⟨rfl, b3⟩
  go_wp2_with fail
  go_ret
  exact ⟨rfl, (b01.alloc b01.size _).trans (b3.mono (by simp; have := b01.size; omega))⟩
set_option maxRecDepth 1000000 in
set_option maxHeartbeats 4000000 in
theorem lwords_level (ia pa : Option Addr) (il ic pl pc : Nat) (w : World) (g : Glob w) : Calls Tryz.prog 102 #[.agg #[.int .u8 3, .bool false, .string ⟨#[]⟩, .int .i16 0, .int .i8 0, nanV, .float .f64 0, .bool false, .int .u32 0, .slice ia il ic, .slice pa pl pc]] w fun e w' => e = .returned (.string wLevel) ∧ Below w.heap.size w w' := by
  have b0 := below_one w (.cells #[.int .u8 3, .bool false, .string ⟨#[]⟩, .int .i16 0, .int .i8 0, nanV, .float .f64 0, .bool false, .int .u32 0, .slice ia il ic, .slice pa pl pc] 79)
  have k0 := Blk.new w #[.int .u8 3, .bool false, .string ⟨#[]⟩, .int .i16 0, .int .i8 0, nanV, .float .f64 0, .bool false, .int .u32 0, .slice ia il ic, .slice pa pl pc] 79
  have CW := word_at 3 ⟨#[108, 101, 118, 101, 108]⟩ _ (g.below b0 g.size) (by decide) (by decide) (by kernel_rfl)
  have CI := fun W => itoa_small 0 (by decide) _ dig0 W
  have CF := fun W => Float_nan W
  have CR := fun (W : World) => row_two W.heap.size 2 ⟨#[108, 101, 118, 101, 108]⟩ nanB (W.alloc (.cells #[.string ⟨#[108, 101, 118, 101, 108]⟩, .string nanB] 9)) (by decide) (by decide) ((Blk.new W _ 9).cell 0) ((Blk.new W _ 9).cell 1) (by decide)
  have hj : (⟨(Lib.join [(⟨#[108, 101, 118, 101, 108]⟩ : ByteArray).data.toList, nanB.data.toList] [32]).toArray⟩ : ByteArray) = wLevel := by kernel_rfl
  rw [hj] at CR
  go_enter Tryz.func102, Tryz.ntmps102
  go_wp2_with fail
  refine CW.mono ?_
  rintro e w1 ⟨rfl, b1⟩
  have k1 := k0.below b1 k0.lt
  have c0 : w1.cell? ⟨w.heap.size, 0, none⟩ = some (.int .u8 3) := k1.cell 0
  have c1 : w1.cell? ⟨w.heap.size, 1, none⟩ = some (.bool false) := k1.cell 1
  have c3 : w1.cell? ⟨w.heap.size, 3, none⟩ = some (.int .i16 0) := k1.cell 3
  have c5 : w1.cell? ⟨w.heap.size, 5, none⟩ = some nanV := k1.cell 5
  have c7 : w1.cell? ⟨w.heap.size, 7, none⟩ = some (.bool false) := k1.cell 7
  have b01 := b0.trans (b1.mono b0.size)
  have z01 := b01.size
  clear CW k0 b0 b1 hj
  go_wp2_with (first | (go_at_call 100; refine (CI _).mono ?_; rintro e w2 ⟨rfl, rfl⟩) | (go_at_call 121; refine (CF _).mono ?_; rintro e w2 ⟨rfl, b2⟩))
  have z2 := b2.size
  go_wp2_with fail
  refine (CR _).mono ?_
  rintro e w3 ⟨rfl, b3⟩
  go_wp2_with fail
  go_ret
  exact ⟨rfl, ((b01.trans (b2.mono z01)).alloc (by omega) _).trans (b3.mono (by simp; omega))⟩
set_option maxRecDepth 1000000 in
set_option maxHeartbeats 4000000 in
theorem lwords_wrap (ia pa : Option Addr) (il ic pl pc : Nat) (w : World) (g : Glob w) : Calls Tryz.prog 102 #[.agg #[.int .u8 14, .bool false, .string ⟨#[119]⟩, .int .i16 0, .int .i8 0, .float .f64 0, .float .f64 0, .bool false, .int .u32 0, .slice ia il ic, .slice pa pl pc]] w fun e w' => e = .returned (.string wWrap) ∧ Below w.heap.size w w' := by
  have b0 := below_one w (.cells #[.int .u8 14, .bool false, .string ⟨#[119]⟩, .int .i16 0, .int .i8 0, .float .f64 0, .float .f64 0, .bool false, .int .u32 0, .slice ia il ic, .slice pa pl pc] 79)
  have k0 := Blk.new w #[.int .u8 14, .bool false, .string ⟨#[119]⟩, .int .i16 0, .int .i8 0, .float .f64 0, .float .f64 0, .bool false, .int .u32 0, .slice ia il ic, .slice pa pl pc] 79
  have CW := word_at 14 ⟨#[119, 114, 97, 112]⟩ _ (g.below b0 g.size) (by decide) (by decide) (by kernel_rfl)
  have CI := fun W => itoa_small 0 (by decide) _ dig0 W
  have CQ := fun (W : World) => quoted_one W.heap.size 1 ⟨#[119]⟩ ⟨#[34, 119, 34]⟩ (W.alloc (.cells #[.string ⟨#[119]⟩] 9)) ((Blk.new W _ 9).cell 0) (by decide) (fun W => Quote_w W)
  have hq : (⟨(Lib.join [(⟨#[34, 119, 34]⟩ : ByteArray).data.toList] [32]).toArray⟩ : ByteArray) = ⟨#[34, 119, 34]⟩ := by kernel_rfl
  rw [hq] at CQ
  have CR := fun (W : World) => row_two W.heap.size 2 ⟨#[119, 114, 97, 112]⟩ ⟨#[34, 119, 34]⟩ (W.alloc (.cells #[.string ⟨#[119, 114, 97, 112]⟩, .string ⟨#[34, 119, 34]⟩] 9)) (by decide) (by decide) ((Blk.new W _ 9).cell 0) ((Blk.new W _ 9).cell 1) (by decide)
  have hj : (⟨(Lib.join [(⟨#[119, 114, 97, 112]⟩ : ByteArray).data.toList, (⟨#[34, 119, 34]⟩ : ByteArray).data.toList] [32]).toArray⟩ : ByteArray) = wWrap := by kernel_rfl
  rw [hj] at CR
  go_enter Tryz.func102, Tryz.ntmps102
  go_wp2_with fail
  refine CW.mono ?_
  rintro e w1 ⟨rfl, b1⟩
  have k1 := k0.below b1 k0.lt
  have c0 : w1.cell? ⟨w.heap.size, 0, none⟩ = some (.int .u8 14) := k1.cell 0
  have c1 : w1.cell? ⟨w.heap.size, 1, none⟩ = some (.bool false) := k1.cell 1
  have c2 : w1.cell? ⟨w.heap.size, 2, none⟩ = some (.string ⟨#[119]⟩) := k1.cell 2
  have c3 : w1.cell? ⟨w.heap.size, 3, none⟩ = some (.int .i16 0) := k1.cell 3
  have c7 : w1.cell? ⟨w.heap.size, 7, none⟩ = some (.bool false) := k1.cell 7
  have b01 := b0.trans (b1.mono b0.size)
  have z01 := b01.size
  clear CW k0 b0 b1 hj hq
  go_wp2_with (first | (go_at_call 100; refine (CI _).mono ?_; rintro e w2 ⟨rfl, rfl⟩) | (go_at_call 151; refine (CQ _).mono ?_; rintro e w2 ⟨rfl, b2⟩))
  have z2 := b2.size
  simp at z2
  go_wp2_with fail
  refine (CR _).mono ?_
  rintro e w3 ⟨rfl, b3⟩
  go_wp2_with fail
  go_ret
  exact ⟨rfl, (((b01.alloc z01 _).trans (b2.mono (by simp; omega))).alloc (by omega) _).trans (b3.mono (by simp; omega))⟩
end Go.Proofs.YtihmlhjdlpjehaaGreatDoor
