/- Package lines: Short of the book that the one short form made. The statement's own functions: works, ReadNames. -/
import Derived.Test.YtihmlhjdlpjehaaGreatDoorL7
import Derived.Test.YtihmlhjdlpjehaaGreatDoorM1
set_option linter.unusedVariables false
set_option linter.unusedSimpArgs false
namespace Go.Proofs.YtihmlhjdlpjehaaGreatDoor
open Go.RowKit

/-- The book of the plan. -/
structure Bk (bb : Nat) (v : Value) (rows : List Rw) (w : World) : Prop where
  b : BookV w bb v rows
  r : RowsRd w rows []
  g : Glob w
  q : rows.map (·.sp) = ssT
theorem own_zero_to (w : World) (bb : Nat) : OwnTo w bb 0 ⟨#[110, 111, 110, 101]⟩ [] := fun W hb =>
  (own_zero _ W).mono fun e w' ⟨h1, h2⟩ => ⟨⟨none, 0, h1, Or.inl rfl, fun x hx => by cases hx⟩, by rw [h2]; exact Below.refl _ _⟩
theorem Bk.len {bb : Nat} {v : Value} {rows : List Rw} {w : World} (h : Bk bb v rows w) : rows.length = 4 := by
  have := congrArg List.length h.q
  simpa [ssT] using this
theorem Bk.own {bb : Nat} {v : Value} {rows : List Rw} {w : World} (h : Bk bb v rows w) (i : Nat) (hi : i < 4) (s : Sp) (txt : ByteArray) (hs : ssT[i]? = some s)
    (hW : ∀ (ia pa : Option Addr) (ic pc : Nat) (W : World), Glob W → Calls Tryz.prog 102 #[s.val ia ic pa pc] W fun e w' => e = .returned (.string txt) ∧ Below W.heap.size W w') : OwnTo w bb ((i + 1 : Nat) : Int) txt s.parts := by
  intro W hb
  have hl := h.len
  have hsp : (rows[i + 1 - 1]'(by omega)).sp = s := by
    have e : (rows.map (·.sp))[i]? = some s := by rw [h.q]; exact hs
    have hi2 : i < rows.length := by omega
    simp [hi2] at e
    simpa using e
  exact own_ok bb v rows (i + 1) s txt W (h.b.below hb) (by omega) (by omega) (by omega) (h.r.below hb) hsp
    (fun ia pa ic pc W' hb' => hW ia pa ic pc W' ((h.g.below hb h.g.size).below hb' (Nat.le_trans h.g.size hb.size)))
theorem wd_code : ∀ (ia pa : Option Addr) (ic pc : Nat) (W : World), Glob W → Calls Tryz.prog 102 #[sCode.val ia ic pa pc] W fun e w' => e = .returned (.string wCode) ∧ Below W.heap.size W w' := fun ia pa ic pc W g => lwords_code ia pa 0 ic 0 pc W g
theorem wd_wrap : ∀ (ia pa : Option Addr) (ic pc : Nat) (W : World), Glob W → Calls Tryz.prog 102 #[sWrap.val ia ic pa pc] W fun e w' => e = .returned (.string wWrap) ∧ Below W.heap.size W w' := fun ia pa ic pc W g => lwords_wrap ia pa 0 ic 1 pc W g
theorem wd_level : ∀ (ia pa : Option Addr) (ic pc : Nat) (W : World), Glob W → Calls Tryz.prog 102 #[sLevel.val ia ic pa pc] W fun e w' => e = .returned (.string wLevel) ∧ Below W.heap.size W w' := fun ia pa ic pc W g => lwords_level ia pa 0 ic 0 pc W g
theorem wd_join : ∀ (ia pa : Option Addr) (ic pc : Nat) (W : World), Glob W → Calls Tryz.prog 102 #[sJoin.val ia ic pa pc] W fun e w' => e = .returned (.string wJoin) ∧ Below W.heap.size W w' := fun ia pa ic pc W g => lwords_join ia pa 0 ic 3 pc W g
theorem node_leaf {W0 : World} {bb : Nat} {h : Int} {txt : ByteArray} (hO : OwnTo W0 bb h txt []) (D : Nat) : NodeTo W0 bb h txt (D + 1) := by
  have N := node_ok W0 bb h txt [] (fun _ => ⟨#[]⟩) hO (by decide) D (fun i hi => by simp at hi)
  have e : upT (fun _ => (⟨#[]⟩ : ByteArray)) txt ([] : List Int).length ++ (if 0 < ([] : List Int).length then closeB else ⟨#[]⟩) = txt := by show txt ++ ByteArray.empty = txt; simp
  rw [e] at N
  exact N
def T2f (_ : Nat) : ByteArray := wCode
abbrev t_w : ByteArray := ⟨#[119, 114, 97, 112, 32, 34, 119, 34, 32, 40, 99, 111, 100, 101, 32, 55, 41]⟩
theorem text_wrap : upT T2f wWrap 1 ++ (if 0 < 1 then closeB else ⟨#[]⟩) = t_w := by kernel_rfl
def T4f (i : Nat) : ByteArray := if i = 0 then t_w else if i = 1 then ⟨#[110, 111, 110, 101]⟩ else wLevel
theorem text_join : upT T4f wJoin 3 ++ (if 0 < 3 then closeB else ⟨#[]⟩) = t_full := by kernel_rfl
theorem Bk.node4 {bb : Nat} {v : Value} {rows : List Rw} {w : World} (h : Bk bb v rows w) : NodeTo w bb 4 t_full 3 := by
  have o1 : OwnTo w bb 1 wCode [] := h.own 0 (by decide) sCode wCode rfl wd_code
  have o2 : OwnTo w bb 2 wWrap [1] := h.own 1 (by decide) sWrap wWrap rfl wd_wrap
  have o3 : OwnTo w bb 3 wLevel [] := h.own 2 (by decide) sLevel wLevel rfl wd_level
  have o4 : OwnTo w bb 4 wJoin [2, 0, 3] := h.own 3 (by decide) sJoin wJoin rfl wd_join
  have n1 : NodeTo w bb 1 wCode 1 := node_leaf o1 0
  have n2 : NodeTo w bb 2 t_w 2 := by
    have N := node_ok w bb 2 wWrap [1] T2f o2 (by decide) 1 (fun i hi => by
      have : i = 0 := by simp at hi; omega
      subst this
      exact n1)
    have e : upT T2f wWrap ([1] : List Int).length ++ (if 0 < ([1] : List Int).length then closeB else ⟨#[]⟩) = t_w := text_wrap
    rw [e] at N
    exact N
  have n0 : NodeTo w bb 0 ⟨#[110, 111, 110, 101]⟩ 2 := node_leaf (own_zero_to w bb) 1
  have n3 : NodeTo w bb 3 wLevel 2 := node_leaf o3 1
  have N := node_ok w bb 4 wJoin [2, 0, 3] T4f o4 (by decide) 2 (fun i hi => by
    have hh : i = 0 ∨ i = 1 ∨ i = 2 := by simp at hi; omega
    rcases hh with rfl | rfl | rfl
    · exact n2
    · exact n0
    · exact n3)
  have e : upT T4f wJoin ([2, 0, 3] : List Int).length ++ (if 0 < ([2, 0, 3] : List Int).length then closeB else ⟨#[]⟩) = t_full := text_join
  rw [e] at N
  exact N
theorem Short_full {bb : Nat} {v : Value} {rows : List Rw} {w : World} (h : Bk bb v rows w) : Calls Tryz.prog 28 #[.pointer (some ⟨bb, 0, none⟩), .int .i64 4] w fun e w' => e = .returned (.tuple #[.string t_full, .int .i64 0]) ∧ Below w.heap.size w w' := by
  have hl := h.len
  exact Short_ok bb v rows 4 t_full w h.b (by decide) (by omega) (by omega) 3 (by decide) h.node4 (by decide) (by decide)
end Go.Proofs.YtihmlhjdlpjehaaGreatDoor
namespace Go.Proofs.YtihmlhjdlpjehaaGreatDoor
open Go.RowKit

set_option maxRecDepth 1000000 in
set_option maxHeartbeats 2000000 in
theorem works_ok (w : World) (g : Glob w) : Calls Tryz.prog 22 #[] w fun e w' => e = .returned (.bool true) ∧ Below w.heap.size w w' := by
  have h25 := g.size
  have b0 := below_one w (.cells #[.slice none 0 0] 83)
  have z0 : (w.alloc (.cells #[.slice none 0 0] 83)).heap.size = w.heap.size + 1 := by simp
  have kB : BookV (w.alloc (.cells #[.slice none 0 0] 83)) w.heap.size (.slice none 0 0) [] := ⟨Blk.new _ _ _, World.ownsRow_nil _ _ _ _, by simp [Value.ownBlock]⟩
  have C1 : Calls Tryz.prog 19 #[.pointer (some ⟨w.heap.size, 0, none⟩), .string t_full] (w.alloc (.cells #[.slice none 0 0] 83)) fun e w' => e = .returned (.tuple #[.int .i64 4, .int .i64 0]) ∧ MakesPost w.heap.size ssT QT (w.alloc (.cells #[.slice none 0 0] 83)) w' :=
    One_ok w.heap.size t_full ssT QT _ (g.below b0 h25) (by omega) h25 kB (by decide) plan_full bd_all makes_plan
  have C0 := New_any w
  have HC1 := Lib.hid C1
  have HG := Lib.hid g
  clear C1 kB g
  go_enter Tryz.func22, Tryz.ntmps22
  go_wp2_with fail
  refine C0.mono ?_
  rintro e w1 ⟨rfl, rfl⟩
  clear C0
  go_wp2_with fail
  refine HC1.out.mono ?_
  rintro e w2 ⟨rfl, v, rows, a1, a2, a3, a4, a5, t2⟩
  have t2s := t2.size
  have g2 : Glob w2 := (HG.out.below b0 h25).turned t2 (by omega) (by simp; omega)
  have q2 : rows.map (·.sp) = ssT := by
    have h := congrArg (List.map Prod.fst) a3.1
    rw [List.map_map] at h
    exact h
  have bk : Bk w.heap.size v rows w2 := ⟨a1, a4.mono (fun k hk => by simp at hk), g2, q2⟩
  have C2 := Short_full bk
  have b2 : Below w.heap.size w w2 := b0.trans ((t2.mono (B' := w.heap.size) (S' := []) (by omega) (fun k hk hlt => by simp at hk; omega)).below (by simp))
  have HP := Lib.hid plan_no
  clear bk a1 a2 a3 a4 a5 q2 HC1 t2
  go_wp2_with fail
  refine C2.mono ?_
  rintro e w3 ⟨rfl, b3⟩
  have g3 := g2.below b3 g2.size
  clear C2 HG
  go_wp2_with fail
  refine (HP.out w3 g3).mono ?_
  rintro e w4 ⟨rfl, b4⟩
  have ht : (t_full.toList == t_full.toList) = true := by simp
  go_wp2_with fail
  go_ret
  exact ⟨rfl, (b2.trans (b3.mono b2.size)).trans (b4.mono (by have := b2.size; have := b3.size; omega))⟩
theorem kinds_back : (List.range 26).all (fun n => kindF (kname ((n : Int) + 1)) 26 1 == (n : Int) + 1) = true := by kernel_rfl
theorem kind_back (k : Nat) (h1 : 1 ≤ k) (h2 : k ≤ 26) : kindF (kname (k : Int)) 26 1 = (k : Int) := by
  have h := List.all_eq_true.1 kinds_back (k - 1) (List.mem_range.2 (by omega))
  have e : ((k - 1 : Nat) : Int) + 1 = (k : Int) := by omega
  rw [e] at h
  simpa using h
theorem kind_none : kindF noneB 26 1 = 0 := by kernel_rfl
set_option maxRecDepth 1000000 in
set_option maxHeartbeats 4000000 in
theorem ReadNames_ok (w : World) (g : Glob w) : Calls Tryz.prog 5 #[] w fun e w' => e = .returned (.bool true) ∧ Below w.heap.size w w' := by
  have h25 := g.size
  have C1 := One_nil ⟨#[99, 111, 100, 101, 32, 49]⟩ w
  have C2 := Lines_nil w.heap.size ⟨#[99, 111, 100, 101, 32, 49]⟩ (w.alloc (.cells #[.string ⟨#[99, 111, 100, 101, 32, 49]⟩] 9)) ((Blk.new w _ 9).cell 0)
  have C3 := fun W => Placed_nil (.slice none 0 0) W
  have C4 := fun W => Make_nil (.slice none 0 0) W
  have C5 := fun W => New_any W
  have C6 := fun v W => Copy_nil1 v (.int .i64 0) W
  have C7 := fun a W => Copy_nil2 a (.int .i64 0) W
  have C8 := fun W (h : Glob W) => works_ok W h
  have HG := Lib.hid g
  clear g
  go_enter Tryz.func5, Tryz.ntmps5
  go_wp2_with fail
  refine C1.mono ?_
  rintro e w1 ⟨rfl, rfl⟩
  clear C1
  go_wp2_with fail
  refine C2.mono ?_
  rintro e w1b ⟨rfl, rfl⟩
  have b1 := below_one w1 (.cells #[.string ⟨#[99, 111, 100, 101, 32, 49]⟩] 9)
  obtain ⟨W1, hW1⟩ : ∃ W1, W1 = w1.alloc (.cells #[.string ⟨#[99, 111, 100, 101, 32, 49]⟩] 9) := ⟨_, rfl⟩
  rw [← hW1] at b1 ⊢
  clear C2 hW1
  go_wp2_with fail
  refine (C3 W1).mono ?_
  rintro e w2 ⟨rfl, rfl⟩
  go_wp2_with fail
  refine (C4 w2).mono ?_
  rintro e w3 ⟨rfl, rfl⟩
  go_wp2_with fail
  refine (C5 w3).mono ?_
  rintro e w4 ⟨rfl, rfl⟩
  have b4 : Below w1.heap.size w1 (w3.alloc (.cells #[.slice none 0 0] 83)) := b1.alloc b1.size _
  obtain ⟨W4, hW4⟩ : ∃ W4, W4 = w3.alloc (.cells #[.slice none 0 0] 83) := ⟨_, rfl⟩
  rw [← hW4] at b4 ⊢
  clear hW4
  go_wp2_with fail
  refine (C6 _ W4).mono ?_
  rintro e w5 ⟨rfl, rfl⟩
  go_wp2_with fail
  refine (C5 w5).mono ?_
  rintro e w6 ⟨rfl, rfl⟩
  have b6 : Below w1.heap.size w1 (w5.alloc (.cells #[.slice none 0 0] 83)) := b4.alloc b4.size _
  obtain ⟨W6, hW6⟩ : ∃ W6, W6 = w5.alloc (.cells #[.slice none 0 0] 83) := ⟨_, rfl⟩
  rw [← hW6] at b6 ⊢
  clear hW6 b4 b1
  go_wp2_with fail
  refine (C7 _ W6).mono ?_
  rintro e w7 ⟨rfl, rfl⟩
  go_wp2_with fail
  refine (C8 w7 (HG.out.below b6 h25)).mono ?_
  rintro e w8 ⟨rfl, b8⟩
  have b18 : Below w1.heap.size w1 w8 := b6.trans (b8.mono b6.size)
  clear C3 C4 C5 C6 C7 C8 b6 b8
  go_wp2_with fail
  go_loopw [14] (fun nv wr => ∃ k : Nat, 1 ≤ k ∧ k ≤ 27 ∧ nv = .int .u8 k ∧ Below w1.heap.size w1 wr) (fun nv _ => 27 - (intOf nv).toNat)
  case atStart => exact ⟨1, by decide, by decide, rfl, b18⟩
  case round =>
    obtain ⟨k, hk1, hk2, rfl, hb⟩ := hrel
    have zb := hb.size
    have g := HG.out.below hb h25
    by_cases hlt : k ≤ 26
    · have CW := Word_any k wr (by omega) (by omega) g
      have HK : ∀ W, Below wr.heap.size wr W → Calls Tryz.prog 24 #[.string (kname (k : Int))] W fun e w' => e = .returned (.tuple #[.int .u8 k, .bool true]) ∧ Below W.heap.size W w' := fun W hW => by
        have C := Kind_any (kname (k : Int)) W (g.below hW g.size)
        rw [kind_back k hk1 hlt] at C
        have hd : decide (0 < (k : Int)) = true := by simp; omega
        rw [hd] at C
        exact C
      have HHK := Lib.hid HK
      clear HK g
      generalize kname (k : Int) = nm at *
      go_wp2_with fail
      refine CW.mono ?_
      rintro e w9 ⟨rfl, b9⟩
      clear CW
      go_wp2_with fail
      refine (HHK.out w9 b9).mono ?_
      rintro e w10 ⟨rfl, b10⟩
      go_wp2_with fail
      go_roundw
      case rel => exact ⟨k + 1, by omega, by omega, by go_num, (hb.trans (b9.mono zb)).trans (b10.mono (by have := b9.size; omega))⟩
      case measure => simp [intOf]; omega
    · have hk : k = 27 := by omega
      subst hk
      have CK := Kind_any noneB wr g
      rw [kind_none] at CK
      have hd : decide (0 < (0 : Int)) = false := by decide
      rw [hd] at CK
      clear g
      go_wp2_with fail
      refine CK.mono ?_
      rintro e w9 ⟨rfl, b9⟩
      go_wp2_with fail
      go_ret
      exact ⟨rfl, hb.trans (b9.mono zb)⟩
end Go.Proofs.YtihmlhjdlpjehaaGreatDoor
