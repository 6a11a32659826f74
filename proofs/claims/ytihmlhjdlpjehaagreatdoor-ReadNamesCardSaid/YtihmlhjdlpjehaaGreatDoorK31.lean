/- Package read: makes, over a book that has nothing yet: its walk. Package book: Copy of a book without errors. Package read: Make, One. -/
import Derived.Test.YtihmlhjdlpjehaaGreatDoorK29
import Derived.Test.YtihmlhjdlpjehaaGreatDoorK14
import Derived.Deep.RegionWith
import Derived.Test.YtihmlhjdlpjehaaGreatDoorW1
set_option linter.unusedVariables false
set_option linter.unusedSimpArgs false
namespace Go.Proofs.YtihmlhjdlpjehaaGreatDoor
open Go.RowKit

set_option maxRecDepth 1000000 in
set_option maxHeartbeats 4000000 in
/-- makes, in a book without errors: each spec is made as book.Make makes it. -/
theorem makes_ok (bb pb cap : Nat) (ss : List Sp) (Q : Nat → List Rw → Prop) (w : World) (h25 : 25 ≤ w.heap.size) (hB : BookV w bb (.slice none 0 0) []) (hQ : Q 0 []) (hn : ss.length ≤ 60000) (hP : PlanAt w pb [bb] ss) (hpb : pb ≠ bb) (hpl : pb < w.heap.size)
    (hps : ∀ i (hi : i < ss.length), (∀ p ∈ ss[i].parts, 0 ≤ p ∧ p ≤ i) ∧ ss[i].parts.length ≤ 60000 ∧ ss[i].items.length ≤ 60000)
    (hstep : ∀ i (hi : i < ss.length) (v : Value) (rows : List Rw) (wr : World) (ia pa : Option Addr) (ic pc : Nat), Q i rows → rows.length = i → BookV wr bb v rows → w.heap.size ≤ wr.heap.size → Turned w.heap.size [bb] w wr → RdS wr ia ss[i].items → RdI wr pa ss[i].parts →
      Calls Tryz.prog 31 #[.pointer (some ⟨bb, 0, none⟩), ss[i].val ia ic pa pc] wr fun e w' => e = .returned (.tuple #[.int .i64 ((i : Int) + 1), .int .i64 0]) ∧ Made bb ss[i] v rows (Q (i + 1)) wr w') :
    Calls Tryz.prog 49 #[.pointer (some ⟨bb, 0, none⟩), .slice (some ⟨pb, 0, none⟩) ss.length cap] w fun e w' => e = .returned (.tuple #[.int .i64 ss.length, .int .i64 0]) ∧
      ∃ v rows, BookV w' bb v rows ∧ rows.length = ss.length ∧ Q ss.length rows ∧ RowsRd w' rows (bb :: v.ownBlock.toList) ∧ (∀ g, v.ownBlock = some g → w.heap.size < g) ∧ Turned w.heap.size [bb] w w' := by
  have HST := Lib.hid hstep
  have HPS := Lib.hid hps
  have HP := Lib.hid hP
  have HB := Lib.hid hB
  have HQ := Lib.hid hQ
  have hbl := hB.1.lt
  clear hstep hps hP hB hQ
  obtain ⟨n, hnl⟩ : ∃ n, ss.length = n := ⟨_, rfl⟩
  rw [hnl] at hn ⊢
  have HN := Lib.hid hnl
  clear hnl
  obtain ⟨i1, hj0, hj1, hj2, hj3⟩ := info_parts i3
  have U54 := u54
  go_enter Tryz.func49, Tryz.ntmps49
  go_wp2_with (refine wpList_make_one _ rfl (.const (.int .i64 1)) (.tmp 14) 54 3 rfl i1 (.int .i64 0) u54 hj0 hj1 hj2 hj3 rfl w.heap.size .i64 .i64 _ n rfl rfl (by omega) (by omega) (by omega) ?_; intro w1 ho1 hg1)
  have hs1 := hg1.size
  go_wp2_with fail
  go_loopw [4, 5, 6, 18] (fun h e mv iv wr => ∃ (i : Nat) (v : Value) (rows : List Rw), i ≤ n ∧ iv = .int .i64 i ∧ h = .int .i64 i ∧ e = .int .i64 0 ∧ mv = .slice (some ⟨w.heap.size, 0, none⟩) (i + 1) (n + 1) ∧ wr.ownsRow w.heap.size 3 1 (.slice (some ⟨w.heap.size, 0, none⟩) (i + 1) (n + 1)) (i + 1) (hnd (i + 1)) ∧ BookV wr bb v rows ∧ rows.length = i ∧ Q i rows ∧ RowsRd wr rows ([w.heap.size] ++ bb :: v.ownBlock.toList) ∧ (∀ g, v.ownBlock = some g → w.heap.size < g) ∧ Turned w.heap.size [bb] w wr) (fun _ _ _ iv _ => n - (intOf iv).toNat)
  case atStart =>
    have b1 : Below w.heap.size w w1 := (Below.refl _ _).grown hg1 (Nat.le_refl _) (by simp)
    exact ⟨0, _, [], Nat.zero_le _, rfl, rfl, rfl, rfl, ho1, HB.out.below b1, rfl, HQ.out, (fun r hr => by cases hr), (fun g hg => by cases hg), Turned.of_below b1⟩
  case round =>
    obtain ⟨i, v, rows, hi, rfl, rfl, rfl, rfl, hom, hBk, hrl, hq, hR, hvo, tr⟩ := hrel
    obtain ⟨wo, hwo⟩ : ∃ wo, wo = wr := ⟨_, rfl⟩
    subst hwo
    by_cases hlt : i < n
    · have hil : i < ss.length := by rw [HN.out]; exact hlt
      have trs := tr.size
      have hN0 : w.heap.size < wo.heap.size := (hom.lt w.heap.size rfl).2
      obtain ⟨ia, ic, pa, pc, hra, hri, hrp, hai, hap⟩ := (HP.out.turned tr (by simpa using hpb)) i hil
      obtain ⟨hpp, hpl2, hil2⟩ := HPS.out i hil
      have hST := HST.out i hil v rows
      generalize ss[i] = s at *
      have hra' : wo.rangeAt pb (i * 11) [.int .u8 s.kind, .bool s.nl, .string s.text, .int .i16 s.number, .int .i8 s.small, .float .f64 s.re, .float .f64 s.im, .bool s.flag, .int .u32 s.mask, .slice ia s.items.length ic, .slice pa s.parts.length pc] := hra
      have ST := Lib.hid hST
      have HR := Lib.hid hR
      have HBK := Lib.hid hBk
      have HPP := Lib.hid hpp
      have HRP := Lib.hid hrp
      have HRI := Lib.hid hri
      have HRL := Lib.hid hrl
      have HVO := Lib.hid hvo
      clear hST hR hra hBk hpp hri hai hap hrl hvo
      obtain ⟨np, hnp⟩ : ∃ np, s.parts.length = np := ⟨_, rfl⟩
      have HNP := Lib.hid hnp
      rw [hnp] at hra' hpl2
      clear hnp
      go_wp2_with (first
        | (refine wl79m rfl (.tmp 20) rfl pb (i * 11) rfl _ hra' rfl ?_)
        | (refine ws79 rfl (.tmp 8) (.tmp 21) rfl wo.heap.size _ rfl rfl _ _ (Blk.new wo _ 79) rfl rfl rfl ?_; intro w2 kx tx zx; have c10 : w2.cell? ⟨wo.heap.size, 10, none⟩ = some (.slice pa np pc) := kx.cell 10; have zx' : w2.heap.size = wo.heap.size + 1 := (by rw [zx]; simp))
        | (refine wpList_make_own _ rfl (.const (.int .i64 0)) (.tmp 24) 54 rfl (w.heap.size + 1) 3 i1 (.int .i64 0) 1 U54 hj0 hj1 hj2 .i64 .i64 _ np rfl rfl rfl (by rw [hj3]; omega) (by unfold maxLen; omega) (by omega) ?_; intro w3 ho3 hg3; have c10' : w3.cell? ⟨wo.heap.size, 10, none⟩ = some (.slice pa np pc) := hg3.cell c10 (by simp)))
      have tx' : Turned wo.heap.size [] wo w2 := (((Turned.refl _ _ _).alloc (Nat.le_refl _) _).step (Nat.le_of_lt (by simp)) (tx.mono (Nat.le_refl _) (fun k hk hlt => hk))).mono (Nat.le_refl _) (fun k hk hlt => by simp at hk; omega)
      have h3s := hg3.size
      have kx3 : Blk w3 wo.heap.size _ 79 := kx.grown hg3 (by simp)
      have tr3 : Turned wo.heap.size [] wo w3 := tx'.grown hg3 (by omega) (by simp)
      have hom3 := own_turned hom tr3 (by simp)
      have hqb : w2.heap.size = wo.heap.size + 1 := zx'
      rw [hqb] at ho3
      clear tx tx' zx zx' kx hra' hg3 c10 hom
      go_wp2_with fail
      have hn5 : wo.heap.size + 1 < w3.heap.size := by have := (ho3.lt (wo.heap.size + 1) rfl).2; omega
      go_loopw [9, 29] (fun pv jv wr => ∃ m : Nat, m ≤ np ∧ jv = .int .i64 m ∧ pv = .slice (some ⟨wo.heap.size + 1, 0, none⟩) m np ∧ wr.ownsRow (w.heap.size + 1) 3 1 (.slice (some ⟨wo.heap.size + 1, 0, none⟩) m np) m ((s.parts.take m).map (Value.int .i64)) ∧ Turned w3.heap.size [wo.heap.size + 1] w3 wr) (fun _ jv _ => np - (intOf jv).toNat)
      case atStart => exact ⟨0, Nat.zero_le _, rfl, rfl, ho3, Turned.refl _ _ _⟩
      case round =>
        obtain ⟨m, hm, rfl, rfl, hoq, tq⟩ := hrel
        have tqs := tq.size
        have tq1 : Turned wo.heap.size [] wo wr := tr3.trans (tq.mono (by omega) (fun k hk hlt => by simp at hk; omega))
        by_cases hlt2 : m < np
        · have hml : m < s.parts.length := by rw [HNP.out]; exact hlt2
          obtain ⟨bp, op, hpa, cp1, _⟩ := HRP.out.at (tq1.below (by simp)) m hml
          obtain ⟨hp0, hp1⟩ := HPP.out _ (getD_mem hml)
          have htk : s.parts.take (m + 1) = s.parts.take m ++ [s.parts.getD m 0] := by
            rw [List.take_succ_eq_append_getElem hml]; simp [List.getD, hml]
          have HTK := Lib.hid htk
          clear htk
          subst hpa
          generalize s.parts.getD m 0 = p at *
          obtain ⟨k, rfl⟩ : ∃ k : Nat, p = k := ⟨p.toNat, by omega⟩
          have hki : k < i + 1 := by omega
          have cm : wr.cell? ⟨w.heap.size, k, none⟩ = some (.int .i64 (k : Int)) := by
            rw [← hnd_at (i + 1) k hki]
            exact (own_turned hom3 tq (by simp [Value.ownBlock]; omega)).cellAt k (by omega)
          go_wp2_with (at_builtin; refine wpList_append_fits _ rfl (.tmp 33) (.tmp 38) 54 rfl (w.heap.size + 1) 3 i1 1 U54 hj0 hj2 (wo.heap.size + 1) m np _ rfl (hoq.alloc _) ⟨wr.heap.size, 0, none⟩ 1 1 [.int .i64 k] rfl rfl (new1 _ _ _) (by intro u hu; simp at hu; subst hu; rfl) (by omega) ?_; intro w5 ho5 hg5)
          go_wp2_with fail
          go_roundw
          case rel =>
            refine ⟨m + 1, by omega, by go_num, rfl, ?_, (tq.alloc (by omega) _).grown hg5 (by simp; omega) (fun k hk => by simp at hk; right; simp [← hk])⟩
            rw [HTK.out, List.map_append]
            exact ho5
          case measure => simp [intOf]; omega
        · have hmn : m = np := by omega
          subst hmn
          have hpt : s.parts.take m = s.parts := List.take_of_length_le (by rw [HNP.out]; omega)
          rw [hpt] at hoq
          have kq : Blk wr wo.heap.size _ 79 := kx3.turned tq kx3.lt (by simp)
          have kqs := kq.store 10 (.slice (some ⟨wo.heap.size + 1, 0, none⟩) m m)
          have kq2 : Blk (wr.setCell ⟨wo.heap.size, 10, none⟩ (.slice (some ⟨wo.heap.size + 1, 0, none⟩) m m)) wo.heap.size #[.int .u8 s.kind, .bool s.nl, .string s.text, .int .i16 s.number, .int .i8 s.small, .float .f64 s.re, .float .f64 s.im, .bool s.flag, .int .u32 s.mask, .slice ia s.items.length ic, .slice (some ⟨wo.heap.size + 1, 0, none⟩) m m] 79 := by simpa using kqs
          have cq10 : wr.cell? ⟨wo.heap.size, 10, none⟩ = some (.slice pa m pc) := kq.cell 10
          have fq10 := kq.frozen 10
          have tq2 : Turned wo.heap.size [] wo (wr.setCell ⟨wo.heap.size, 10, none⟩ (.slice (some ⟨wo.heap.size + 1, 0, none⟩) m m)) := tq1.setCell (p := ⟨wo.heap.size, 10, none⟩) (Or.inl (Nat.le_refl _)) _
          have hom4 := own_turned (own_turned hom3 tq (by simp [Value.ownBlock]; omega)) ((Turned.refl wr.heap.size [wo.heap.size] wr).setCell (p := ⟨wo.heap.size, 10, none⟩) (Or.inr (by simp)) (.slice (some ⟨wo.heap.size + 1, 0, none⟩) m m)) (by simp [Value.ownBlock]; omega)
          have hoq4 := own_turned hoq ((Turned.refl wr.heap.size [wo.heap.size] wr).setCell (p := ⟨wo.heap.size, 10, none⟩) (Or.inr (by simp)) (.slice (some ⟨wo.heap.size + 1, 0, none⟩) m m)) (by simp [Value.ownBlock])
          clear hom3 hoq tq tq1 kq kqs kx3 ho3
          have hRI4 : RdI (wr.setCell ⟨wo.heap.size, 10, none⟩ (.slice (some ⟨wo.heap.size + 1, 0, none⟩) m m)) (some ⟨wo.heap.size + 1, 0, none⟩) s.parts := by
            refine Or.inr ⟨_, 0, rfl, fun j hj => ?_⟩
            rw [Nat.zero_add, hoq4.cellAt j (by have := HNP.out; omega)]
            simp [List.getD, hj]
          have kq3 := kq2
          obtain ⟨W4, hW4⟩ : ∃ W4, W4 = wr.setCell ⟨wo.heap.size, 10, none⟩ (.slice (some ⟨wo.heap.size + 1, 0, none⟩) m m) := ⟨_, rfl⟩
          rw [← hW4] at kq2 tq2 hom4 hRI4
          have b4 : Below wo.heap.size wo W4 := tq2.below (by simp)
          have s4 := b4.size
          have hB4 := HBK.out.below b4
          have hR4 := HR.out.below b4
          have t4 : Turned w.heap.size [bb] w W4 := tr.trans (tq2.mono (by omega) (by simp))
          have SC := ST.out W4 ia (some ⟨wo.heap.size + 1, 0, none⟩) ic m hq HRL.out hB4 (by omega) t4 (HRI.out.below b4) hRI4
          unfold Sp.val at SC
          rw [HNP.out] at SC
          clear hoq4 hRI4
          have hvl4 : ∀ g, v.ownBlock = some g → g < W4.heap.size := fun g hg => (hB4.2.1.lt g hg).2
          go_wp2_with (first
            | (refine wl79 rfl (.tmp 8) rfl wo.heap.size rfl _ 79 kq3 rfl ?_)
            | fail)
          rw [← hW4]
          refine SC.mono ?_
          rintro e w7 ⟨rfl, v', r, hr, hB7, hQ7, h1, h2, n1, n2, e1, e2, ho, t7⟩
          have t7s := t7.size
          have hR7 : RowsRd w7 (rows ++ [r]) ([w.heap.size] ++ bb :: v'.ownBlock.toList) := hR4.snoc hr (by simp; omega) (by omega) h1 h2 n1 n2 e1 e2 ho t7 (by omega) (by have := HNP.out; omega)
          have hvo7 : ∀ g, v'.ownBlock = some g → w.heap.size < g := fun g hg => by
            rcases ho with ho | ho
            · rw [ho] at hg; exact HVO.out g hg
            · have := ho g hg; omega
          have hom7 := own_turned hom4 t7 (by
            intro g hg hm
            simp [Value.ownBlock] at hg
            subst hg
            simp only [List.mem_cons, Option.mem_toList] at hm
            rcases hm with hm | hm
            · omega
            · have := HVO.out _ hm; omega)
          have t7b : Turned w.heap.size [bb] w w7 := t4.trans (t7.mono (by omega) (fun k hk hlt => by
            simp only [List.mem_cons, Option.mem_toList] at hk
            rcases hk with hk | hk
            · simp [hk]
            · have := HVO.out _ hk; omega))
          have hrl7 : (rows ++ [r]).length = i + 1 := by rw [List.length_append, HRL.out]; rfl
          clear hR4 hB4 h1 h2 n1 n2 e1 e2 t7 hom4 kq2 kq3 t4 b4 SC tq2 hW4 hr ho hvl4
          go_wp2_with (at_builtin; refine wpList_append_fits _ rfl (.tmp 52) (.tmp 54) 54 rfl w.heap.size 3 i1 1 U54 hj0 hj2 w.heap.size (i + 1) (n + 1) _ rfl (hom7.alloc _) ⟨w7.heap.size, 0, none⟩ 1 1 [.int .i64 ((i : Int) + 1)] rfl rfl (new1 _ _ _) (by intro u hu; simp at hu; subst hu; rfl) (by omega) ?_; intro w8 ho8 hg8)
          go_wp2_with fail
          go_roundw
          case rel =>
            have t8 : Turned w7.heap.size [w.heap.size] w7 w8 := (((Turned.refl _ _ _).alloc (Nat.le_refl _) _).grown hg8 (by simp) (fun k hk => by simp at hk; right; simp [← hk]))
            refine ⟨i + 1, v', rows ++ [r], by omega, by go_num, by go_num, rfl, rfl, ?_, hB7.turned t8 (by simp; omega) (fun g hg => by have := hvo7 g hg; simp; omega), hrl7, hQ7, hR7.turned (t8.mono (Nat.le_refl _) (fun k hk _ => by simp at hk; simp [hk])), hvo7, ?_⟩
            · rw [hnd_succ (i + 1)]
              exact ho8
            · exact t7b.trans (t8.mono (by omega) (fun k hk hlt => by simp at hk; omega))
          case measure => simp [intOf]; omega
    · have hin : i = n := by omega
      subst hin
      rw [HN.out] at *
      go_wp2_with fail
      go_ret2
      refine ⟨rfl, v, rows, hBk, hrl, hq, hR.mono (fun k hk => by simp at hk ⊢; exact Or.inr hk), hvo, tr⟩
end Go.Proofs.YtihmlhjdlpjehaaGreatDoor
namespace Go.Proofs.YtihmlhjdlpjehaaGreatDoor
open Go.RowKit

theorem bookClone_nil (c : Nat) (w : World) : Calls Tryz.prog 90 #[.slice none 0 c] w fun e w' => e = .returned (.slice none 0 0) ∧ w' = w := by
  have q : ∀ (w : World) (a : Option Addr) (n c n' c' : Nat), (binOp .eql 81 (.slice a n c) (.slice none n' c')).run Tryz.prog w = .ok (.bool a.isNone) w := fun w a n c n' c' => Lib.run_eql_slice_nil w _ _ a n c n' c' (show Tryz.prog.underlying 81 = some (.slice 139) by kernel_rfl)
  go_enter Tryz.func90, Tryz.ntmps90
  go_wp2
  go_ret
  exact ⟨rfl, rfl⟩
theorem bookCopy_empty (bb : Nat) (w : World) (hB : BookV w bb (.slice none 0 0) []) : Calls Tryz.prog 50 #[.pointer (some ⟨bb, 0, none⟩)] w fun e w' => e = .returned (.pointer (some ⟨w.heap.size, 0, none⟩)) ∧ w' = w.alloc (.cells #[.slice none 0 0] 83) := by
  have c0 : w.cell? ⟨bb, 0, none⟩ = some (.slice none 0 0) := hB.1.cell 0
  have C := bookClone_nil 0 w
  clear hB
  go_enter Tryz.func50, Tryz.ntmps50
  go_wp2_with fail
  refine C.mono ?_
  rintro e w1 ⟨rfl, rfl⟩
  go_wp2_with fail
  go_ret
  exact ⟨rfl, rfl⟩
theorem bookLen_ok (bb : Nat) (v : Value) (rows : List Rw) (w : World) (hB : BookV w bb v rows) : Calls Tryz.prog 9 #[.pointer (some ⟨bb, 0, none⟩)] w fun e w' => e = .returned (.int .i64 rows.length) ∧ w' = w := by
  obtain ⟨ad, cap, hv⟩ : ∃ ad cap, v = .slice ad rows.length cap := by
    rcases hB.cases with ⟨e, hr⟩ | ⟨g, cap, e, _⟩
    · exact ⟨none, 0, by rw [e, hr]; rfl⟩
    · exact ⟨_, cap, e⟩
  have c0 : w.cell? ⟨bb, 0, none⟩ = some (.slice ad rows.length cap) := by rw [← hv]; exact hB.1.cell 0
  clear hB hv
  generalize rows.length = n at *
  go_enter Tryz.func9, Tryz.ntmps9
  go_wp2
  go_ret
  exact ⟨rfl, rfl⟩
/-- What makes leaves in a book that had nothing. -/
def MakesPost (bb : Nat) (ss : List Sp) (Q : Nat → List Rw → Prop) (w w' : World) : Prop := ∃ v rows, BookV w' bb v rows ∧ rows.length = ss.length ∧ Q ss.length rows ∧ RowsRd w' rows (bb :: v.ownBlock.toList) ∧ (∀ g, v.ownBlock = some g → w.heap.size < g) ∧ Turned w.heap.size [bb] w w'
/-- makes makes a plan, wherever the plan and the book lie. -/
def MakesTo (ss : List Sp) (Q : Nat → List Rw → Prop) : Prop := ∀ (b pb cap : Nat) (W : World), Glob W → 25 ≤ W.heap.size → 25 ≤ b → BookV W b (.slice none 0 0) [] → PlanAt W pb [b] ss → pb ≠ b → pb < W.heap.size →
  Calls Tryz.prog 49 #[.pointer (some ⟨b, 0, none⟩), .slice (some ⟨pb, 0, none⟩) ss.length cap] W fun e w' => e = .returned (.tuple #[.int .i64 ss.length, .int .i64 0]) ∧ MakesPost b ss Q W w'

theorem PlanAt.mono {w : World} {pb : Nat} {S S' : List Nat} {ss : List Sp} (h : PlanAt w pb S ss) (hS : ∀ k, k < w.heap.size → k ∈ S' → k ∈ S) : PlanAt w pb S' ss := fun i hi => by
  obtain ⟨ia, ic, pa, pc, h1, h2, h3, h4, h5⟩ := h i hi
  exact ⟨ia, ic, pa, pc, h1, h2, h3, fun e x hx hm => h4 e x hx (hS _ (h2.lt e x hx) hm), fun e x hx hm => h5 e x hx (hS _ (h3.lt e x hx) hm)⟩

set_option maxRecDepth 1000000 in
set_option maxHeartbeats 4000000 in
theorem Make_ok (bb pb cap : Nat) (ss : List Sp) (Q : Nat → List Rw → Prop) (w : World) (hg : Glob w) (h25 : 25 ≤ w.heap.size) (hb25 : 25 ≤ bb) (hB : BookV w bb (.slice none 0 0) []) (hn : ss.length ≤ 60000) (hP : PlanAt w pb [bb] ss) (hpb : pb ≠ bb) (hpl : pb < w.heap.size)
    (hps : ∀ i (hi : i < ss.length), (∀ p ∈ ss[i].parts, 0 ≤ p ∧ p ≤ i) ∧ ss[i].parts.length ≤ 60000 ∧ ss[i].items.length ≤ 60000) (hM : MakesTo ss Q) :
    Calls Tryz.prog 20 #[.pointer (some ⟨bb, 0, none⟩), .slice (some ⟨pb, 0, none⟩) ss.length cap] w fun e w' => e = .returned (.tuple #[.int .i64 ss.length, .int .i64 0]) ∧ MakesPost bb ss Q w w' := by
  have HM := Lib.hid hM
  have HPS := Lib.hid hps
  have HP := Lib.hid hP
  have HB := Lib.hid hB
  have HG := Lib.hid hg
  have hbl := hB.1.lt
  clear hM hps hP hB hg
  obtain ⟨n, hnl⟩ : ∃ n, ss.length = n := ⟨_, rfl⟩
  rw [hnl] at hn ⊢
  have HN := Lib.hid hnl
  clear hnl
  go_enter Tryz.func20, Tryz.ntmps20
  go_wp2_with fail
  go_loopw [16] (fun iv wr => ∃ i : Nat, i ≤ n ∧ iv = .int .i64 i ∧ Below w.heap.size w wr) (fun iv _ => n - (intOf iv).toNat)
  case atStart => exact ⟨0, Nat.zero_le _, rfl, Below.refl _ _⟩
  case round =>
    obtain ⟨i, hi, rfl, hbo⟩ := hrel
    obtain ⟨wo, hwo⟩ : ∃ wo, wo = wr := ⟨_, rfl⟩
    subst hwo
    have hbos := hbo.size
    by_cases hlt : i < n
    · have hil : i < ss.length := by rw [HN.out]; exact hlt
      obtain ⟨ia, ic, pa, pc, hra, hri, hrp, _, _⟩ := (HP.out.below hbo) i hil
      obtain ⟨hpp, hpl2, hil2⟩ := HPS.out i hil
      generalize ss[i] = s at *
      have hra' : wo.rangeAt pb (i * 11) [.int .u8 s.kind, .bool s.nl, .string s.text, .int .i16 s.number, .int .i8 s.small, .float .f64 s.re, .float .f64 s.im, .bool s.flag, .int .u32 s.mask, .slice ia s.items.length ic, .slice pa s.parts.length pc] := hra
      have HPP := Lib.hid hpp
      have HRP := Lib.hid hrp
      clear hra hpp hrp hri
      obtain ⟨np, hnp⟩ : ∃ np, s.parts.length = np := ⟨_, rfl⟩
      have HNP := Lib.hid hnp
      rw [hnp] at hra' hpl2
      clear hnp
      go_wp2_with (first
        | (refine wl79m rfl (.tmp 19) rfl pb (i * 11) rfl _ hra' rfl ?_)
        | (refine ws79 rfl (.tmp 7) (.tmp 20) rfl wo.heap.size _ rfl rfl _ _ (Blk.new wo _ 79) rfl rfl rfl ?_; intro w2 kx tx zx; have c10 : w2.cell? ⟨wo.heap.size, 10, none⟩ = some (.slice pa np pc) := kx.cell 10))
      have hb2 : Below wo.heap.size wo w2 := ((((Turned.refl _ _ _).alloc (Nat.le_refl _) _).step (Nat.le_of_lt (by simp)) (tx.mono (Nat.le_refl _) (fun k hk hlt => hk))).mono (S' := []) (Nat.le_refl _) (fun k hk hlt => by simp at hk; omega)).below (by simp)
      clear tx zx kx hra' c10
      go_wp2_with fail
      go_loopw [24] (fun jv wq => ∃ m : Nat, m ≤ np ∧ jv = .int .i64 m ∧ wq = w2) (fun jv _ => np - (intOf jv).toNat)
      case atStart => exact ⟨0, Nat.zero_le _, rfl, rfl⟩
      case round =>
        obtain ⟨m, hm, rfl, rfl⟩ := hrel
        by_cases hlt2 : m < np
        · have hml : m < s.parts.length := by rw [HNP.out]; exact hlt2
          obtain ⟨bp, op, hpa, cp1, _⟩ := HRP.out.at hb2 m hml
          obtain ⟨hp0, hp1⟩ := HPP.out _ (getD_mem hml)
          subst hpa
          generalize s.parts.getD m 0 = p at *
          have hp2 : ¬ p < 0 := by omega
          have hp3 : ¬ (i : Int) < p := by omega
          go_wp2_with fail
          go_roundw
          case rel => exact ⟨m + 1, by omega, by go_num, by trivial⟩
          case measure => simp [intOf]; omega
        · go_wp2_with fail
          go_roundw
          case rel => exact ⟨i + 1, by omega, by go_num, hbo.trans (hb2.mono (by omega))⟩
          case measure => simp [intOf]; omega
    · have C := bookCopy_empty bb wo (HB.out.below hbo)
      go_wp2_with fail
      refine C.mono ?_
      rintro e w3 ⟨rfl, rfl⟩
      have b3 : Below w.heap.size w (wo.alloc (.cells #[.slice none 0 0] 83)) := hbo.alloc hbos _
      have kB : BookV (wo.alloc (.cells #[.slice none 0 0] 83)) wo.heap.size (.slice none 0 0) [] := ⟨Blk.new _ _ _, World.ownsRow_nil _ _ _ _, by simp [Value.ownBlock]⟩
      have C1 := HM.out wo.heap.size pb cap (wo.alloc (.cells #[.slice none 0 0] 83)) (HG.out.below b3 h25) (by simp; omega) (by omega) kB ((HP.out.mono (S' := [wo.heap.size]) (fun k hk hm => by simp at hm; omega)).below b3) (by omega) (by simp; omega)
      rw [HN.out] at C1
      go_wp2_with fail
      refine C1.mono ?_
      rintro e w4 ⟨rfl, v4, r4, _, _, _, _, _, t4⟩
      have t4s := t4.size
      simp at t4s
      have b4 : Below w.heap.size w w4 := b3.trans ((t4.mono (B' := w.heap.size) (S' := []) (by simp; omega) (fun k hk hlt => by simp at hk; omega)).below (by simp))
      have C2 := HM.out bb pb cap w4 (HG.out.below b4 h25) (by omega) hb25 (HB.out.below b4) (HP.out.below b4) hpb (by omega)
      rw [HN.out] at C2
      clear C C1 t4 kB
      go_wp2_with fail
      refine C2.mono ?_
      rintro e w5 ⟨rfl, v5, r5, a1, a2, a3, a4, a5, t5⟩
      go_wp2_with fail
      go_ret2
      exact ⟨rfl, v5, r5, a1, a2, a3, a4, (fun g hg => by have := a5 g hg; omega), (Turned.of_below b4).trans (t5.mono (by omega) (fun k hk _ => hk))⟩
/-- Plan reads a short form as a plan, in memory of its own. -/
def PlanTo (s : ByteArray) (ss : List Sp) : Prop := ∀ W : World, Glob W → 25 ≤ W.heap.size → Calls Tryz.prog 43 #[.string s] W fun e w' => (∃ pb cap, e = .returned (.tuple #[.slice (some ⟨pb, 0, none⟩) ss.length cap, .int .i64 0]) ∧ W.heap.size ≤ pb ∧ pb < w'.heap.size ∧ ∀ S : List Nat, (∀ k ∈ S, k < W.heap.size) → PlanAt w' pb S ss) ∧ Below W.heap.size W w'
set_option maxRecDepth 1000000 in
theorem One_ok (bb : Nat) (str : ByteArray) (ss : List Sp) (Q : Nat → List Rw → Prop) (w : World) (hg : Glob w) (h25 : 25 ≤ w.heap.size) (hb25 : 25 ≤ bb) (hB : BookV w bb (.slice none 0 0) []) (hn : ss.length ≤ 60000) (hP : PlanTo str ss)
    (hps : ∀ i (hi : i < ss.length), (∀ p ∈ ss[i].parts, 0 ≤ p ∧ p ≤ i) ∧ ss[i].parts.length ≤ 60000 ∧ ss[i].items.length ≤ 60000) (hM : MakesTo ss Q) :
    Calls Tryz.prog 19 #[.pointer (some ⟨bb, 0, none⟩), .string str] w fun e w' => e = .returned (.tuple #[.int .i64 ss.length, .int .i64 0]) ∧ MakesPost bb ss Q w w' := by
  have hbl := hB.1.lt
  have C := hP w hg h25
  have K : ∀ (pb cap : Nat) (w1 : World), Below w.heap.size w w1 → w.heap.size ≤ pb → pb < w1.heap.size → PlanAt w1 pb [bb] ss → Calls Tryz.prog 20 #[.pointer (some ⟨bb, 0, none⟩), .slice (some ⟨pb, 0, none⟩) ss.length cap] w1 fun e w' => e = .returned (.tuple #[.int .i64 ss.length, .int .i64 0]) ∧ MakesPost bb ss Q w1 w' := fun pb cap w1 hb h1 h2 h3 =>
    Make_ok bb pb cap ss Q w1 (hg.below hb h25) (by have := hb.size; omega) hb25 (hB.below hb) hn h3 (by omega) h2 hps hM
  have HK := Lib.hid K
  clear K hM hps hP hB hg
  go_enter Tryz.func19, Tryz.ntmps19
  go_wp2_with fail
  refine C.mono ?_
  rintro e w1 ⟨⟨pb, cap, rfl, h1, h2, h3⟩, hb1⟩
  have K1 := HK.out pb cap w1 hb1 h1 h2 (h3 [bb] (by simp; omega))
  clear C h3
  go_wp2_with fail
  refine K1.mono ?_
  rintro e w2 ⟨rfl, v5, r5, a1, a2, a3, a4, a5, t5⟩
  have hs1 := hb1.size
  go_wp2_with fail
  go_ret2
  exact ⟨rfl, v5, r5, a1, a2, a3, a4, (fun g hg => by have := a5 g hg; omega), (Turned.of_below hb1).trans (t5.mono (by omega) (fun k hk _ => hk))⟩
end Go.Proofs.YtihmlhjdlpjehaaGreatDoor
