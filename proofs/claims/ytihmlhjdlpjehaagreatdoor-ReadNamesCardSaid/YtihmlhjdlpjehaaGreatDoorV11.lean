/- Package read: the reader's error: an error with parts. -/
import Derived.Test.YtihmlhjdlpjehaaGreatDoorV12
import Derived.RangeFuncSeq
set_option linter.unusedVariables false
set_option linter.unusedSimpArgs false
namespace Go.Proofs.YtihmlhjdlpjehaaGreatDoor
open Go.RowKit

theorem enter82 : ∀ args w, (callFunc 82 args).run Tryz.prog w = .ok (.enter 82 args) w := enters_of Tryz.func82 (by kernel_rfl) rfl
/-- How long a spec's parts are. -/
def slen (w : World) (xb : Nat) : Nat := match w.cell? ⟨xb, 10, none⟩ with | some (.slice _ l _) => l | _ => 0
theorem slen_of {w : World} {xb l c : Nat} {x : Sp} {a : Option Addr} (h : Blk w xb (vcells x (.slice a l c)) 79) : slen w xb = l := by
  have hc : w.cell? ⟨xb, 10, none⟩ = some (.slice a l c) := h.cell 10
  simp [slen, hc]
theorem NInv.drew {B rb xb M : Nat} {w : World} {pv : Value} {rs : List PR} {x : Sp} {P : List Sp} {hs : List Int} {st : ByteArray} {pvi : Value} {new : List PR} {vx : Value} {wr : World} (h : NInv B rb xb M w pv rs x P hs st pvi new vx wr) (hM : rb < M) (hrx : rb ≠ xb) (hw : w.heap.size ≤ M) : NInv B rb xb M w pv rs x P hs st pvi new vx wr.drew :=
  h.reader hM hrx hw h.frb ((Turned.refl _ _ _).drew)
set_option maxRecDepth 1000000 in
set_option maxHeartbeats 4000000 in
theorem error_node (s name s1 s2 s5 : ByteArray) (n : Nat) (S S' : Nat → ByteArray) (Pl : Nat → List Sp) (hs : List Int) (k : Int) (x : Sp) (P : List Sp) (hsz : s.size ≤ 8796093022207) (h1 : s.extract 0 (cutN s stopB) = name) (h2 : s.extract (cutN s stopB) s.size = s1) (hn : ¬ name = noneB) (hk : kindF name 26 1 = k) (hk0 : 0 < k)
    (hw : WordsTo k s1 s2 x) (hyes : preB s2 openB = true) (hS0 : dropS s2 openB = S 0) (hn0 : 0 < n) (hn1 : n ≤ 60000) (hhs : hs.length = n) (hPl0 : Pl 0 = P) (hE : ∀ i, i < n → ErrorTo (S i) (Pl i) (S' i) (Pl (i + 1)) (hs.getD i 0)) (hsep : ∀ i, i + 1 < n → preB (S' i) sepB = true ∧ dropS (S' i) sepB = S (i + 1)) (hend : preB (S' (n - 1)) sepB = false) (hcl : preB (S' (n - 1)) closeB = true) (hs5 : dropS (S' (n - 1)) closeB = s5)
    (hxi : x.items = []) (hxp : x.parts = []) (hP : (Pl n).length ≤ 60000) : ErrorTo s P s5 (Pl n ++ [{ x with parts := hs }]) (((Pl n).length : Int) + 1) := by
  intro B rb pv rs w hg hB hrb hPm hr hpl
  have hlrb := hr.lt
  have hn' : (name.toList == ([110, 111, 110, 101] : List UInt8)) = false := by
    have h := beqL_no hn
    rw [toL noneB] at h
    exact h
  have CU := until_any s stopB pv rb w stopB_ascii hsz hr
  rw [h1, h2] at CU
  have CK : ∀ W, Below w.heap.size w W ∨ Turned w.heap.size [rb] w W → Calls Tryz.prog 24 #[.string name] W fun e w' => e = .returned (.tuple #[.int .u8 k, .bool true]) ∧ Below W.heap.size W w' := fun W hW => by
    have g : Glob W := by
      rcases hW with h | h
      · exact hg.below h hg.size
      · exact hg.turned h hg.size (by simp; omega)
    have C := Kind_any name W g
    rw [hk] at C
    simpa [hk0] using C
  have CW : ∀ (xb : Nat) (W : World), Turned w.heap.size [rb] w W → 25 ≤ xb → rb ≠ xb → RB W rb s1 pv → Blk W xb (xcells (zk k)) 79 → Calls Tryz.prog 138 #[.pointer (some ⟨rb, 0, none⟩), .pointer (some ⟨xb, 0, none⟩)] W fun e w' => e = .returned (.tuple #[]) ∧ RB w' rb s2 pv ∧ Blk w' xb (xcells x) 79 ∧ Turned W.heap.size [rb, xb] W w' := fun xb W hW a1 a2 a3 a4 =>
    hw rb xb pv W (hg.turned hW hg.size (by simp; omega)) (by omega) a1 a2 a3 a4
  have h25 := hg.size
  have HPL := Lib.hid hpl
  have HCU := Lib.hid CU
  have HCK := Lib.hid CK
  have HCW := Lib.hid CW
  have HPM := Lib.hid hPm
  have HG := Lib.hid hg
  have HE := Lib.hid hE
  have HSEP := Lib.hid hsep
  have HEND := Lib.hid hend
  have HCL := Lib.hid hcl
  have HS5 := Lib.hid hs5
  have HPL0 := Lib.hid hPl0
  have HHS := Lib.hid hhs
  clear CU CK CW h1 h2 hr hg hpl hn hk hw hPm hE hsep hend hcl hs5 hPl0 hhs
  go_enter Tryz.func82, Tryz.ntmps82
  go_wp2_with fail
  refine HCU.out.mono ?_
  rintro e w1 ⟨rfl, r1, t1⟩
  have z1 := t1.size
  go_wp2_with fail
  refine (HCK.out w1 (Or.inr t1)).mono ?_
  rintro e w2 ⟨rfl, b2⟩
  have z2 := b2.size
  have r2 := r1.below b2 (by omega)
  have t2 : Turned w.heap.size [rb] w w2 := t1.step z1 (Turned.of_below b2)
  go_wp2_with (first
    | (refine ws79 rfl (.tmp 6) (.tmp 22) rfl w2.heap.size (xcells (zk k)) rfl rfl _ 79 (Blk.new w2 _ 79) rfl rfl rfl ?_; intro w2b kx0 tx0 zx0)
    | fail)
  have z2b : w2b.heap.size = w2.heap.size + 1 := by rw [zx0]; simp
  have r2b : RB w2b rb s1 pv := (r2.alloc _).turned tx0 (by simp; omega) (by simp; omega)
  have t2b : Turned w.heap.size [rb] w w2b := (t2.alloc (by omega) _).trans (tx0.mono (by simp; omega) (fun k hk hlt => by simp at hk; omega))
  have C3 := HCW.out w2.heap.size w2b t2b (by omega) (by omega) r2b kx0
  clear tx0 zx0 t2 r1 t1
  refine C3.mono ?_
  rintro e w3 ⟨rfl, r3, k3, t3⟩
  have z3 := t3.size
  have t3a : Turned w.heap.size [rb] w w3 := t2b.trans (t3.mono (by omega) (fun k hk hlt => by simp at hk; rcases hk with hk | hk <;> simp [hk]; omega))
  have C4 := has_step s2 openB pv rb w3 r3 hyes
  rw [hS0] at C4
  clear C3 kx0 r2b t2b
  go_wp2_with (go_at_call 139; refine C4.mono ?_; rintro e w4 ⟨rfl, r4, t34⟩)
  have z4 := t34.size
  have k4 : Blk w4 w2.heap.size (xcells x) 79 := k3.turned t34 (by omega) (by simp; omega)
  have t4a : Turned w.heap.size [rb] w w4 := t3a.trans (t34.mono (by omega) (fun k hk _ => hk))
  have hpl4 := HPL.out.turned t4a
  clear C4 t34 r3 k3 t3 t3a
  obtain ⟨xb, hxb⟩ : ∃ xb, xb = w2.heap.size := ⟨_, rfl⟩
  rw [← hxb] at k4 ⊢
  have hxbw : w.heap.size ≤ xb := by omega
  have hxb4 : xb < w4.heap.size := by omega
  have z14 : w.heap.size ≤ w4.heap.size := by omega
  clear hxb z1 z2 z3 z2b r2 b2 z4 w3 w2b w2 w1
  obtain ⟨i0, hj0, hj1, hj2, hj3⟩ := info_parts i3
  have U54 := u54
  have hrbxb : rb ≠ xb := by omega
  have hrbM : rb < w4.heap.size := by omega
  have hpv4 : ∀ g, pv.ownBlock = some g → g < w.heap.size := fun g hg => (HPL.out.own.lt g hg).2
  have hN0 : NInv B rb xb w4.heap.size w pv rs x (Pl 0) (hs.take 0) (S 0) pv [] (.slice none 0 0) w4 :=
    ⟨by rw [List.append_nil, HPM.out, HPL0.out], r4, by rw [List.append_nil]; exact hpl4, Or.inl rfl, (fun h => by have := hpv4 _ h; omega), (fun g hg => by cases hg), by simp, k4, World.ownsRow_nil _ _ _ _, t4a.mono (Nat.le_refl _) (fun k hk _ => by simp at hk; simp [hk]), Nat.le_refl _⟩
  have hM4 : w4.heap.size = w4.heap.size := rfl
  obtain ⟨M, hM⟩ : ∃ M, w4.heap.size = M := ⟨_, rfl⟩
  rw [hM] at hN0 hrbM hxb4 z14
  have HN0 := Lib.hid hN0
  clear hM hM4 hN0 r4 t4a hpl4 k4
  go_wp2_with fail
  go_loopw [7] (fun mv wr => ∃ (i : Nat) (pvi : Value) (new : List PR) (vx : Value), i ≤ n ∧ mv = .bool (decide (i < n)) ∧ NInv B rb xb M w pv rs x (Pl i) (hs.take i) (if i < n then S i else S' (n - 1)) pvi new vx wr) (fun mv wr => n - slen wr xb)
  case atStart => exact ⟨0, pv, [], _, Nat.zero_le _, by simp [hn0], by rw [if_pos hn0]; exact HN0.out⟩
  case round =>
    obtain ⟨i, pvi, new, vx, hi, rfl, hN⟩ := hrel
    have htl : (hs.take i).length = i := by rw [List.length_take, HHS.out]; omega
    obtain ⟨ad, cap, hvx⟩ := own_slice hN.frow
    rw [htl] at hvx
    subst hvx
    have hsl := slen_of hN.fx
    have HSL := Lib.hid hsl
    have HN := Lib.hid hN
    by_cases hlt : i < n
    · have hdec : decide (i < n) = true := by simp [hlt]
      rw [if_pos hlt] at hN
      have hND := hN.drew hrbM hrbxb z14
      have C := HE.out i hlt B rb pvi (rs ++ new) wr.drew ((HG.out.turned hND.fturned h25 (by
        intro k hk
        simp only [List.mem_cons, Option.mem_toList] at hk
        rcases hk with hk | hk
        · omega
        · have := (HPL.out.own.lt k hk).1; omega))) hB hrb hND.fmap hND.frb hND.fplan
      have HC := Lib.hid C
      have HND := Lib.hid hND
      have c10 : wr.cell? ⟨xb, 10, none⟩ = some (.slice ad i cap) := hN.fx.cell 10
      have c10d : wr.drew.cell? ⟨xb, 10, none⟩ = some (.slice ad i cap) := c10
      have hxw : xb < wr.heap.size := hN.fx.lt
      have hoxd := hND.frow
      rw [htl] at hoxd
      have htk : hs.take (i + 1) = hs.take i ++ [hs.getD i 0] := by
        rw [List.take_succ_eq_append_getElem (by rw [HHS.out]; exact hlt)]; simp [List.getD, HHS.out, hlt]
      have HTK := Lib.hid htk
      have hsz2 := hN.fsize
      clear hN hND C hsl htk
      rw [hdec]
      generalize hs.getD i 0 = hd at *
      go_wp2_with fail
      have E82 := enter82
      go_region_law (first
        | (refine step_call rfl 82 #[.tmp 32] #[163] rfl #[.pointer (some ⟨rb, 0, none⟩)] rfl (fun w => E82 _ w) HC.out ?_; rintro e w2 ⟨rfl, pv2, new2, m2, r2, p2, n2, o2, t2⟩; refine ⟨_, rfl, ?_⟩; have kx2 : Blk w2 xb (vcells x (.slice ad i cap)) 79 := HND.out.fx.turned t2 HND.out.fx.lt (by intro hm; simp only [List.mem_cons, Option.mem_toList] at hm; rcases hm with hm | hm; exact hrbxb hm.symm; exact HND.out.fpx hm); have d10 : w2.cell? ⟨xb, 10, none⟩ = some (.slice ad i cap) := kx2.cell 10; have ox2 := own_turned hoxd t2 (by intro g hg hm; have hh := HND.out.fvx g hg; simp only [List.mem_cons, Option.mem_toList] at hm; rcases hm with hm | hm; omega; exact hh.2 hm); have z2 : wr.heap.size ≤ w2.heap.size := t2.size; have hxw2 : xb < w2.heap.size := kx2.lt)
        | (refine step_append_own rfl (.tmp 31) (.tmp 34) 54 rfl M 3 i0 (.int .i64 0) 1 8 U54 hj0 hj1 hj2 hj3 rfl (by decide) (.slice ad i cap) i ((hs.take i).map (Value.int .i64)) rfl (ox2.alloc _) ⟨w2.heap.size, 0, none⟩ 1 1 [.int .i64 hd] rfl rfl (new1 _ _ _) (by intro u hu; simp at hu; subst hu; rfl) (by unfold maxLen; omega) (by omega) (by simp; omega) ?_; intro v' w5 hox5 hgr5 hwh5; obtain ⟨g', cap', rfl⟩ := own_form hox5; have kx5 : Blk w5 xb (vcells x (.slice ad i cap)) 79 := Blk.grown (w := w2.alloc _) (kx2.alloc _) hgr5 (fun e => by have hh := (HND.out.fvx xb e.symm).1; omega); have e10 : w5.cell? ⟨xb, 10, none⟩ = some (.slice ad i cap) := kx5.cell 10; have ef10 := kx5.frozen 10))
      all_goals
        have hNP := HND.out.part (hd := hd) (g' := g') (cap' := cap') hrbxb hrbM hxb4 z14 hxbw HPL.out m2 r2 p2 n2 o2 t2 (by rw [htl]; exact hox5) hgr5 (by rw [htl]; exact hwh5)
        rw [htl] at hNP
        obtain ⟨W6, hW6⟩ : ∃ W6, W6 = w5.setCell ⟨xb, 10, none⟩ (.slice (some ⟨g', 0, none⟩) (i + 1) cap') := ⟨_, rfl⟩
        rw [← hW6] at hNP ⊢
        have HNP := Lib.hid hNP
        clear hW6 kx5 e10 ef10 hox5 hgr5 hwh5 kx2 d10 ox2 z2 hxw2 m2 r2 p2 n2 o2 t2 c10 c10d hxw hoxd hdec hNP
        by_cases h2 : i + 1 < n
        · have C2 := has_step (S' i) sepB pv2 rb W6 HNP.out.frb (HSEP.out i h2).1
          rw [(HSEP.out i h2).2] at C2
          go_wp2_with (go_at_call 139; refine C2.mono ?_; rintro e w7 ⟨rfl, r7, t7⟩)
          have hN7 := HNP.out.reader hrbM hrbxb z14 r7 t7
          go_roundw
          case rel => exact ⟨i + 1, pv2, new ++ new2, _, by omega, by simp [h2], by rw [if_pos h2, HTK.out]; exact hN7⟩
          case measure =>
            have h8 := slen_of hN7.fx
            have h9 := HSL.out
            omega
        · have hin : n - 1 = i := by omega
          have C2 := has_no (S' i) sepB pv2 rb W6 HNP.out.frb (by rw [← hin]; exact HEND.out)
          go_wp2_with (go_at_call 139; refine C2.mono ?_; rintro e w7 ⟨rfl, rfl⟩)
          go_roundw
          case rel => exact ⟨i + 1, pv2, new ++ new2, _, by omega, by simp [h2], by rw [if_neg h2, HTK.out, hin]; exact HNP.out⟩
          case measure =>
            have h8 := slen_of HNP.out.fx
            have h9 := HSL.out
            omega
    · have hin : i = n := by omega
      subst hin
      rw [if_neg hlt] at hN
      have hdec : decide (i < i) = false := by simp
      rw [hdec]
      have hti : hs.take i = hs := List.take_of_length_le (by rw [HHS.out]; omega)
      rw [hti] at hN
      have C5 := takes_step (S' (i - 1)) closeB pvi rb wr hN.frb HCL.out
      rw [HS5.out] at C5
      clear HN
      have HN := Lib.hid hN
      clear hN
      go_wp2_with (go_at_call 140; refine C5.mono ?_; rintro e w5 ⟨rfl, r5, t5⟩)
      have hN5 := HN.out.reader hrbM hrbxb z14 r5 t5
      clear C5 r5 t5 HN hdec hti HSL htl hsl
      obtain ⟨ad2, cap2, he2, hri, hnewA⟩ := own_int (by rw [HHS.out]) (by rw [← HHS.out]; exact hN5.frow)
      cases he2
      have HRI := Lib.hid hri
      have HN5 := Lib.hid hN5
      have hrx : hs ≠ [] → ∀ y, ad = some y → B ≤ y.block ∧ y.block ≠ rb ∧ some y.block ≠ pvi.ownBlock := fun e y hy => by
        have h6 := hnewA y hy
        refine ⟨by omega, by omega, fun h => ?_⟩
        exact (hN5.fvx y.block (by rw [hy]; rfl)).2 h.symm
      have HRX := Lib.hid hrx
      have hpl5 := hN5.fplan
      have hlen : (rs ++ new).length = (Pl i).length := by rw [← hN5.fmap]; simp
      obtain ⟨ad3, cap3, hpv⟩ := own_slice hpl5.own
      have own3 := hpl5.own
      rw [hpv] at own3
      have hne3 := hpl5.ne
      rw [hpv] at hne3
      have r5 := hN5.frb
      have cr1 : w5.cell? ⟨rb, 1, none⟩ = some (.slice ad3 (rs ++ new).length cap3) := by rw [← hpv]; exact r5.cell 1
      have fr1 := r5.frozen 1
      have k3 := hN5.fx
      have xc0 : w5.cell? ⟨xb, 0, none⟩ = some (.int .u8 x.kind) := k3.cell 0
      have xc1 : w5.cell? ⟨xb, 1, none⟩ = some (.bool x.nl) := k3.cell 1
      have xc2 : w5.cell? ⟨xb, 2, none⟩ = some (.string x.text) := k3.cell 2
      have xc3 : w5.cell? ⟨xb, 3, none⟩ = some (.int .i16 x.number) := k3.cell 3
      have xc4 : w5.cell? ⟨xb, 4, none⟩ = some (.int .i8 x.small) := k3.cell 4
      have xc5 : w5.cell? ⟨xb, 5, none⟩ = some (.float .f64 x.re) := k3.cell 5
      have xc6 : w5.cell? ⟨xb, 6, none⟩ = some (.float .f64 x.im) := k3.cell 6
      have xc7 : w5.cell? ⟨xb, 7, none⟩ = some (.bool x.flag) := k3.cell 7
      have xc8 : w5.cell? ⟨xb, 8, none⟩ = some (.int .u32 x.mask) := k3.cell 8
      have xc9 : w5.cell? ⟨xb, 9, none⟩ = some (.slice none 0 0) := k3.cell 9
      have xc10 : w5.cell? ⟨xb, 10, none⟩ = some (.slice ad i cap) := k3.cell 10
      obtain ⟨i9, z9, y1, y2, y3, y4, y5⟩ := info79
      have hz5 := hN5.fsize
      have hB4 : B ≤ w5.heap.size := by omega
      have hkr : Blk w5 rb #[.string s5, .slice ad3 (rs ++ new).length cap3] 165 := by rw [← hpv]; exact r5
      have hrb4 : some rb ≠ (Value.slice ad3 (rs ++ new).length cap3).ownBlock := fun h => hne3 h.symm
      have hrl : (rs ++ new).length ≤ 60000 := by omega
      obtain ⟨m, hrn⟩ : ∃ m, (rs ++ new).length = m := ⟨_, rfl⟩
      have HRN := Lib.hid hrn
      have HPV := Lib.hid hpv
      have HLEN := Lib.hid hlen
      rw [hrn] at own3 cr1 hkr hrb4 hrl
      have hrb5 : rb < w5.heap.size := by omega
      have hxb5 : xb < w5.heap.size := by omega
      clear hpl5 hpv hne3 hrn r5 k3 hN5 hri hrx hlen hnewA
      go_region_law (refine step_append_own rfl (.tmp 43) (.tmp 45) 22 rfl B 79 i9 z9 11 104 su22 y1 y2 y3 y4 y5 (by decide) (.slice ad3 m cap3) m (plcells (rs ++ new)) rfl (own3.alloc (.cells (vcells x (.slice ad i cap)) 79)) ⟨w5.heap.size, 0, none⟩ 1 1 (vcells x (.slice ad i cap)).toList rfl rfl (new_row w5 (vcells x (.slice ad i cap)) 79) (by simp [Value.oneCell']) (by unfold maxLen; omega) (by omega) (by simp <;> omega) ?_; intro v' w' hown' hgr hwh; obtain ⟨g', cap', rfl⟩ := own_form hown'; have kb' : Blk w' rb _ 165 := Blk.grown (w := (w5.alloc _).drew) (hkr.alloc _) hgr hrb4; have cb' : w'.cell? ⟨rb, 1, none⟩ = some (.slice ad3 m cap3) := kb'.cell 1; have fb' := kb'.frozen 1)
      all_goals
        have ho : (Value.slice ad3 m cap3).ownBlock = pvi.ownBlock := by rw [HPV.out, HRN.out]
        rw [ho] at hgr hwh
        have hown2 : w'.ownsRow B 79 11 (.slice (some ⟨g', 0, none⟩) ((rs ++ new).length + 1) cap') ((rs ++ new).length + 1) (plcells (rs ++ new) ++ (⟨{ x with parts := hs }, ad, cap⟩ : PR).arr.toList) := by
          rw [HRN.out]
          have e : (⟨{ x with parts := hs }, ad, cap⟩ : PR).arr.toList = (vcells x (.slice ad i cap)).toList := by simp [PR.arr, HHS.out]
          rw [e]
          exact hown'
        have hwh2 : (Value.slice (some ⟨g', 0, none⟩) ((rs ++ new).length + 1) cap').ownBlock = pvi.ownBlock ∨ ∀ k, (Value.slice (some ⟨g', 0, none⟩) ((rs ++ new).length + 1) cap').ownBlock = some k → (w5.alloc (.cells (vcells x (.slice ad i cap)) 79)).drew.heap.size ≤ k := hwh
        have hPost := plan_post (s := s5) (r := ⟨{ x with parts := hs }, ad, cap⟩) HN5.out.fplan HN5.out.frb hB4 hown2 hgr hwh2 hxi HRI.out HRX.out
        rw [HRN.out] at hPost
        have cF : (w'.setCell ⟨rb, 1, none⟩ (.slice (some ⟨g', 0, none⟩) (m + 1) cap')).cell? ⟨rb, 1, none⟩ = some (.slice (some ⟨g', 0, none⟩) (m + 1) cap') := hPost.1.cell 1
        obtain ⟨WF, hWF⟩ : ∃ WF, WF = w'.setCell ⟨rb, 1, none⟩ (.slice (some ⟨g', 0, none⟩) (m + 1) cap') := ⟨_, rfl⟩
        rw [← hWF] at hPost cF ⊢
        have HPO := Lib.hid hPost
        clear hPost hown' hown2 hgr hwh hwh2 kb' cb' fb' hWF own3 hkr
        go_wp2_with fail
        go_ret
        obtain ⟨p1, p2, p3, p4⟩ := HPO.out
        refine ⟨ret_int (by have h6 := HRN.out; have h7 := HLEN.out; omega), _, new ++ [⟨{ x with parts := hs }, ad, cap⟩], by rw [← List.append_assoc, List.map_append, HN5.out.fmap]; rfl, p1, by rw [← List.append_assoc]; exact p2, ?_, ?_, ?_⟩
        · intro q hq e y hy
          rcases List.mem_append.1 hq with hq | hq
          · exact (HN5.out.fnew q hq e y hy).1
          · simp only [List.mem_singleton] at hq
            subst hq
            have h6 := HN5.out.fvx y.block (by have h7 : ad = some y := hy; rw [h7]; rfl)
            omega
        · rcases p3 with h | h
          · rw [h]; exact HN5.out.fown
          · exact Or.inr fun g hg => by have h6 := h g hg; omega
        · exact HN5.out.fturned.trans (p4.mono (by omega) (fun k hk hlt => by
            simp only [List.mem_cons, Option.mem_toList] at hk ⊢
            rcases hk with hk | hk
            · exact Or.inl hk
            · rcases HN5.out.fown with h6 | h6
              · exact Or.inr (by rw [← h6]; exact hk)
              · have h7 := h6 k hk; omega))
end Go.Proofs.YtihmlhjdlpjehaaGreatDoor
