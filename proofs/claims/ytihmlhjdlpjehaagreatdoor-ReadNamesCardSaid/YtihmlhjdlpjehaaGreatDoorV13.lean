/- Package read: Plan, where the reader reads all of a text. Package read: Plan, where the words behind the one name are not as they would be written. The one short form of the statement, read; and the one that is refused. -/
import Derived.Test.YtihmlhjdlpjehaaGreatDoorV11
import Derived.Test.YtihmlhjdlpjehaaGreatDoorR4
import Derived.Test.YtihmlhjdlpjehaaGreatDoorK31
set_option linter.unusedVariables false
set_option linter.unusedSimpArgs false
namespace Go.Proofs.YtihmlhjdlpjehaaGreatDoor
open Go.RowKit

theorem plan_at {B rb : Nat} {w : World} {g cap : Nat} {rs : List PR} (h : PlanO B rb w (.slice (some ⟨g, 0, none⟩) rs.length cap) rs) : B ≤ g ∧ g < w.heap.size ∧ ∀ S : List Nat, (∀ k ∈ S, k < B ∨ ∀ r ∈ rs, r.sp.parts ≠ [] → ∀ y, r.pa = some y → y.block ≠ k) → PlanAt w g S (rs.map (·.sp)) := by
  refine ⟨(h.own.lt g rfl).1, (h.own.lt g rfl).2, fun S hS i hi => ?_⟩
  have hi' : i < rs.length := by simpa using hi
  have hm : rs[i] ∈ rs := List.getElem_mem hi'
  obtain ⟨a1, a2, a3⟩ := h.prt _ hm
  refine ⟨none, 0, rs[i].pa, rs[i].pc, ?_, ?_, ?_, ?_, ?_⟩
  · intro j v hj
    have hcell : ∀ (rs : List PR) (i : Nat) (hi : i < rs.length) (j : Nat), j < 11 → (plcells rs)[i * 11 + j]? = (rs[i].arr)[j]? := by
      intro rs
      induction rs with
      | nil => intro i hi; simp at hi
      | cons r rs ih =>
        intro i hi j hj
        have e : plcells (r :: rs) = r.arr.toList ++ plcells rs := rfl
        have hl : r.arr.toList.length = 11 := rfl
        rw [e]
        cases i with
        | zero =>
          rw [List.getElem?_append_left (by rw [hl]; omega)]
          simp
        | succ i =>
          rw [List.getElem?_append_right (by rw [hl]; omega), hl]
          have h2 : (i + 1) * 11 + j - 11 = i * 11 + j := by omega
          rw [h2, ih i (by simpa using hi) j hj]
          simp
    have hv : ((rs.map (fun r : PR => r.sp))[i].val none 0 rs[i].pa rs[i].pc).cells.toList = rs[i].arr.toList := by
      have e : (rs.map (fun r : PR => r.sp))[i] = rs[i].sp := by simp
      rw [e]
      show [_, _, _, _, _, _, _, _, _, _, _] = [_, _, _, _, _, _, _, _, _, _, _]
      rw [a1]
      rfl
    rw [hv] at hj
    have hj11 : j < 11 := (List.getElem?_eq_some_iff.1 hj).1
    rw [h.own.cellAt (i * 11 + j) (by omega), hcell rs i hi' j hj11]
    simpa using hj
  · have e : (rs.map (fun r : PR => r.sp))[i] = rs[i].sp := by simp
    rw [e, a1]; exact Or.inl rfl
  · have e : (rs.map (fun r : PR => r.sp))[i] = rs[i].sp := by simp
    rw [e]; exact a2
  · have e : (rs.map (fun r : PR => r.sp))[i] = rs[i].sp := by simp
    rw [e, a1]; intro h; exact absurd rfl h
  · have e : (rs.map (fun r : PR => r.sp))[i] = rs[i].sp := by simp
    rw [e]
    intro e y hy hm2
    have := (a3 e y hy).1
    rcases hS _ hm2 with h6 | h6
    · omega
    · exact h6 _ hm e y hy rfl
set_option maxRecDepth 1000000 in
set_option maxHeartbeats 4000000 in
theorem Plan_ok (s : ByteArray) (P : List Sp) (h : Int) (hP : P ≠ []) (hE : ErrorTo s [] ⟨#[]⟩ P h) : PlanTo s P := by
  intro w hg h25
  have b0 : Below w.heap.size w ((w.alloc (.cells #[.slice none 0 0] 22)).alloc (.cells #[.int .i64 0] 28)) := below_two _ _ _
  have b1 : Below w.heap.size w (((w.alloc (.cells #[.slice none 0 0] 22)).alloc (.cells #[.int .i64 0] 28)).alloc (.cells #[.string s, .slice none 0 0] 165)) := b0.alloc (by simp; omega) _
  have kr : RB (((w.alloc (.cells #[.slice none 0 0] 22)).alloc (.cells #[.int .i64 0] 28)).alloc (.cells #[.string s, .slice none 0 0] 165)) (w.heap.size + 2) s (.slice none 0 0) := by
    have := Blk.new ((w.alloc (.cells #[.slice none 0 0] 22)).alloc (.cells #[.int .i64 0] 28)) #[.string s, .slice none 0 0] 165
    simpa using this
  have kp : Blk (((w.alloc (.cells #[.slice none 0 0] 22)).alloc (.cells #[.int .i64 0] 28)).alloc (.cells #[.string s, .slice none 0 0] 165)) w.heap.size #[.slice none 0 0] 22 := ((Blk.new w _ 22).alloc _).alloc _
  have kq : Blk (((w.alloc (.cells #[.slice none 0 0] 22)).alloc (.cells #[.int .i64 0] 28)).alloc (.cells #[.string s, .slice none 0 0] 165)) (w.heap.size + 1) #[.int .i64 0] 28 := by
    have := (Blk.new (w.alloc (.cells #[.slice none 0 0] 22)) #[.int .i64 0] 28).alloc (.cells #[.string s, .slice none 0 0] 165)
    simpa using this
  have hz : (((w.alloc (.cells #[.slice none 0 0] 22)).alloc (.cells #[.int .i64 0] 28)).alloc (.cells #[.string s, .slice none 0 0] 165)).heap.size = w.heap.size + 3 := by simp
  have C := hE w.heap.size (w.heap.size + 2) (.slice none 0 0) [] _ (hg.below b1 h25) h25 (by omega) rfl kr ⟨World.ownsRow_nil _ _ _ _, by simp, by simp [Value.ownBlock]⟩
  obtain ⟨W1, hW1⟩ : ∃ W1, W1 = (((w.alloc (.cells #[.slice none 0 0] 22)).alloc (.cells #[.int .i64 0] 28)).alloc (.cells #[.string s, .slice none 0 0] 165)) := ⟨_, rfl⟩
  rw [← hW1] at C b1 kr kp kq hz
  have HW1 := Lib.hid hW1
  have HP := Lib.hid hP
  clear hW1 hE b0 kr hP hg
  go_enter_defers Tryz.func43, Tryz.ntmps43
  go_wp2_with fail
  rw [← HW1.out]
  refine C.mono ?_
  rintro e w2 ⟨rfl, pv2, new, m2, r2, p2, n2, o2, t2⟩
  rw [List.nil_append] at m2 p2
  have kp2 := kp.turned t2 kp.lt (by simp [Value.ownBlock])
  have kq2 := kq.turned t2 kq.lt (by simp [Value.ownBlock])
  have hnl : 0 < new.length := by
    cases new with
    | nil => exact absurd (by simpa using m2.symm) HP.out
    | cons a l => simp
  obtain ⟨n, hn⟩ : ∃ n, new.length = n + 1 := ⟨new.length - 1, by omega⟩
  have hown := p2.own
  rw [hn] at hown
  obtain ⟨g, cap, rfl⟩ := own_form hown
  have hgn : W1.heap.size ≤ g := by
    rcases o2 with h6 | h6
    · cases h6
    · exact h6 g rfl
  have HNW := Lib.hid n2
  have c0 : w2.cell? ⟨w.heap.size + 2, 0, none⟩ = some (.string ⟨#[]⟩) := r2.cell 0
  have c1 : w2.cell? ⟨w.heap.size + 2, 1, none⟩ = some (.slice (some ⟨g, 0, none⟩) (n + 1) cap) := r2.cell 1
  have cp := kp2.cell 0
  have fp := kp2.frozen 0
  have cq : w2.cell? ⟨w.heap.size + 1, 0, none⟩ = some (.int .i64 0) := kq2.cell 0
  have fq := kq2.frozen 0
  have HP2 := Lib.hid p2
  have HN := Lib.hid hn
  have HM := Lib.hid m2
  have z2 := t2.size
  have hls : w.heap.size < w2.heap.size := by omega
  have hls1 : w.heap.size + 1 < w2.heap.size := by omega
  clear C kp kq p2 hown m2 hn r2 hnl o2 n2
  go_wp2_with fail
  refine leaves_cons (f := 81) (args := #[.pointer (some ⟨w.heap.size, 0, none⟩), .pointer (some ⟨w.heap.size + 1, 0, none⟩)]) (by simp) (by simp [go_sem]) ?_
  refine (catch_idle ⟨w.heap.size, 0, none⟩ ⟨w.heap.size + 1, 0, none⟩ _).mono ?_
  rintro e u' w'' ⟨rfl, rfl, rfl⟩
  have kpF : Blk ((w2.setCell ⟨w.heap.size, 0, none⟩ (.slice (some ⟨g, 0, none⟩) (n + 1) cap)).setCell ⟨w.heap.size + 1, 0, none⟩ (.int .i64 0)) w.heap.size #[.slice (some ⟨g, 0, none⟩) (n + 1) cap] 22 := by
    have h1 : Blk (w2.setCell ⟨w.heap.size, 0, none⟩ (.slice (some ⟨g, 0, none⟩) (n + 1) cap)) w.heap.size #[.slice (some ⟨g, 0, none⟩) (n + 1) cap] 22 := by simpa using kp2.store 0 (.slice (some ⟨g, 0, none⟩) (n + 1) cap)
    exact h1.other (p := ⟨w.heap.size + 1, 0, none⟩) (by simp) _
  have kqF : Blk ((w2.setCell ⟨w.heap.size, 0, none⟩ (.slice (some ⟨g, 0, none⟩) (n + 1) cap)).setCell ⟨w.heap.size + 1, 0, none⟩ (.int .i64 0)) (w.heap.size + 1) #[.int .i64 0] 28 := by
    have h1 := (kq2.other (p := ⟨w.heap.size, 0, none⟩) (by simp) (.slice (some ⟨g, 0, none⟩) (n + 1) cap)).store 0 (.int .i64 0)
    simpa using h1
  have e1 : ((w2.setCell ⟨w.heap.size, 0, none⟩ (.slice (some ⟨g, 0, none⟩) (n + 1) cap)).setCell ⟨w.heap.size + 1, 0, none⟩ (.int .i64 0)).cell? ⟨w.heap.size, 0, none⟩ = some (.slice (some ⟨g, 0, none⟩) (n + 1) cap) := kpF.cell 0
  have e2 : ((w2.setCell ⟨w.heap.size, 0, none⟩ (.slice (some ⟨g, 0, none⟩) (n + 1) cap)).setCell ⟨w.heap.size + 1, 0, none⟩ (.int .i64 0)).cell? ⟨w.heap.size + 1, 0, none⟩ = some (.int .i64 0) := kqF.cell 0
  have tF : Turned w2.heap.size [w.heap.size, w.heap.size + 1] w2 ((w2.setCell ⟨w.heap.size, 0, none⟩ (.slice (some ⟨g, 0, none⟩) (n + 1) cap)).setCell ⟨w.heap.size + 1, 0, none⟩ (.int .i64 0)) := (((Turned.refl _ _ _).setCell (p := ⟨w.heap.size, 0, none⟩) (Or.inr (by simp)) _)).setCell (p := ⟨w.heap.size + 1, 0, none⟩) (Or.inr (by simp)) _
  obtain ⟨WF, hWF⟩ : ∃ WF, WF = ((w2.setCell ⟨w.heap.size, 0, none⟩ (.slice (some ⟨g, 0, none⟩) (n + 1) cap)).setCell ⟨w.heap.size + 1, 0, none⟩ (.int .i64 0)) := ⟨_, rfl⟩
  rw [← hWF] at e1 e2 tF ⊢
  clear hWF kpF kqF
  refine ⟨.tuple #[.slice (some ⟨g, 0, none⟩) (n + 1) cap, .int .i64 0], ?_, ⟨g, cap, ?_, ?_, ?_, ?_⟩, ?_⟩
  · simp [results, Tryz.results43, e1, e2, go_sem]
  · have e : P.length = n + 1 := by rw [← HM.out, List.length_map, HN.out]
    rw [e]
  · omega
  · have HA := plan_at (rs := new) (by rw [HN.out]; exact HP2.out)
    have := tF.size
    omega
  · intro S hS
    have HA := (plan_at (rs := new) (by rw [HN.out]; exact HP2.out)).2.2 ([w.heap.size, w.heap.size + 1] ++ S) (by
      intro k hk
      simp only [List.cons_append, List.nil_append, List.mem_cons] at hk
      rcases hk with hk | hk | hk
      · exact Or.inr fun r hr e y hy => by have := HNW.out r hr e y hy; omega
      · exact Or.inr fun r hr e y hy => by have := HNW.out r hr e y hy; omega
      · exact Or.inl (hS k hk))
    rw [HM.out] at HA
    have HB := HA.turned (tF.mono (S' := [w.heap.size, w.heap.size + 1] ++ S) (Nat.le_refl _) (fun k hk _ => List.mem_append.2 (Or.inl hk))) (by
      simp only [List.cons_append, List.nil_append, List.mem_cons]
      rintro (h6 | h6 | h6)
      · omega
      · omega
      · have := hS g h6; omega)
    exact HB.mono (fun k _ hk => List.mem_append.2 (Or.inr hk))
  · exact (b1.trans ((t2.mono (B' := w.heap.size) (S' := []) (by omega) (fun k hk hlt => by simp [Value.ownBlock] at hk; omega)).below (by simp))).trans ((tF.mono (B' := w.heap.size) (S' := []) (by omega) (fun k hk hlt => by simp at hk; omega)).below (by simp))
end Go.Proofs.YtihmlhjdlpjehaaGreatDoor
namespace Go.Proofs.YtihmlhjdlpjehaaGreatDoor
open Go.RowKit

abbrev oddE : PanicEntry := { v := .iface 161 (.agg #[]), recovered := false }
set_option maxRecDepth 1000000 in
set_option maxHeartbeats 4000000 in
theorem error_no (s name s1 : ByteArray) (k : Int) (hsz : s.size ≤ 8796093022207) (h1 : s.extract 0 (cutN s stopB) = name) (h2 : s.extract (cutN s stopB) s.size = s1) (hn : ¬ name = noneB) (hk : kindF name 26 1 = k) (hk0 : 0 < k)
    (hw : ∀ (rb xb : Nat) (pv : Value) (w : World), RB w rb s1 pv → Blk w xb (xcells (zk k)) 79 → Calls Tryz.prog 138 #[.pointer (some ⟨rb, 0, none⟩), .pointer (some ⟨xb, 0, none⟩)] w fun e w' => e = .panicked [oddE] ∧ Turned w.heap.size [rb] w w')
    (rb : Nat) (pv : Value) (w : World) (hg : Glob w) (hrb : 25 ≤ rb) (hr : RB w rb s pv) :
    Calls Tryz.prog 82 #[.pointer (some ⟨rb, 0, none⟩)] w fun e w' => e = .panicked [oddE] ∧ Turned w.heap.size [rb] w w' := by
  have hlrb := hr.lt
  have hn' : (name.toList == ([110, 111, 110, 101] : List UInt8)) = false := by
    have h := beqL_no hn
    rw [toL noneB] at h
    exact h
  have CU := until_any s stopB pv rb w stopB_ascii hsz hr
  rw [h1, h2] at CU
  have CK : ∀ W, Turned w.heap.size [rb] w W → Calls Tryz.prog 24 #[.string name] W fun e w' => e = .returned (.tuple #[.int .u8 k, .bool true]) ∧ Below W.heap.size W w' := fun W hW => by
    have g : Glob W := hg.turned hW hg.size (by simp; omega)
    have C := Kind_any name W g
    rw [hk] at C
    simpa [hk0] using C
  have HCU := Lib.hid CU
  have HCK := Lib.hid CK
  have HCW := Lib.hid hw
  clear CU CK hw h1 h2 hr hg hn hk
  go_enter Tryz.func82, Tryz.ntmps82
  go_wp2_with fail
  refine HCU.out.mono ?_
  rintro e w1 ⟨rfl, r1, t1⟩
  have z1 := t1.size
  go_wp2_with fail
  refine (HCK.out w1 t1).mono ?_
  rintro e w2 ⟨rfl, b2⟩
  have z2 := b2.size
  have r2 := r1.below b2 (by omega)
  have t2 : Turned w.heap.size [rb] w w2 := t1.step z1 (Turned.of_below b2)
  go_wp2_with (first
    | (refine ws79 rfl (.tmp 6) (.tmp 22) rfl w2.heap.size (xcells (zk k)) rfl rfl _ 79 (Blk.new w2 _ 79) rfl rfl rfl ?_; intro w2b kx0 tx0 zx0)
    | fail)
  have z2b : w2b.heap.size = w2.heap.size + 1 := by rw [zx0]; simp
  have r2b : RB w2b rb s1 pv := (r2.alloc _).turned tx0 (by simp; omega) (by simp; omega)
  have t2b : Turned w.heap.size [rb] w w2b := (t2.alloc (by omega) _).trans (tx0.mono (by simp; omega) (fun k hk hlt => by simp at hk; omega))
  have C3 := HCW.out rb w2.heap.size pv w2b r2b kx0
  refine C3.mono ?_
  rintro e w3 ⟨rfl, t3⟩
  exact ⟨rfl, rfl, t2b.trans (t3.mono (by omega) (fun k hk _ => hk))⟩
set_option maxRecDepth 1000000 in
set_option maxHeartbeats 4000000 in
theorem Plan_no (s : ByteArray) (hE : ∀ (rb : Nat) (pv : Value) (w : World), Glob w → 25 ≤ rb → RB w rb s pv → Calls Tryz.prog 82 #[.pointer (some ⟨rb, 0, none⟩)] w fun e w' => e = .panicked [oddE] ∧ Turned w.heap.size [rb] w w') (w : World) (hg : Glob w) :
    Calls Tryz.prog 43 #[.string s] w fun e w' => e = .returned (.tuple #[.slice none 0 0, .int .i64 4]) ∧ Below w.heap.size w w' := by
  have h25 := hg.size
  have b0 : Below w.heap.size w ((w.alloc (.cells #[.slice none 0 0] 22)).alloc (.cells #[.int .i64 0] 28)) := below_two _ _ _
  have b1 : Below w.heap.size w (((w.alloc (.cells #[.slice none 0 0] 22)).alloc (.cells #[.int .i64 0] 28)).alloc (.cells #[.string s, .slice none 0 0] 165)) := b0.alloc (by simp; omega) _
  have kr : RB (((w.alloc (.cells #[.slice none 0 0] 22)).alloc (.cells #[.int .i64 0] 28)).alloc (.cells #[.string s, .slice none 0 0] 165)) (w.heap.size + 2) s (.slice none 0 0) := by
    have := Blk.new ((w.alloc (.cells #[.slice none 0 0] 22)).alloc (.cells #[.int .i64 0] 28)) #[.string s, .slice none 0 0] 165
    simpa using this
  have kp : Blk (((w.alloc (.cells #[.slice none 0 0] 22)).alloc (.cells #[.int .i64 0] 28)).alloc (.cells #[.string s, .slice none 0 0] 165)) w.heap.size #[.slice none 0 0] 22 := ((Blk.new w _ 22).alloc _).alloc _
  have kq : Blk (((w.alloc (.cells #[.slice none 0 0] 22)).alloc (.cells #[.int .i64 0] 28)).alloc (.cells #[.string s, .slice none 0 0] 165)) (w.heap.size + 1) #[.int .i64 0] 28 := by
    have := (Blk.new (w.alloc (.cells #[.slice none 0 0] 22)) #[.int .i64 0] 28).alloc (.cells #[.string s, .slice none 0 0] 165)
    simpa using this
  have hz : (((w.alloc (.cells #[.slice none 0 0] 22)).alloc (.cells #[.int .i64 0] 28)).alloc (.cells #[.string s, .slice none 0 0] 165)).heap.size = w.heap.size + 3 := by simp
  have C := hE (w.heap.size + 2) (.slice none 0 0) _ (hg.below b1 h25) (by omega) kr
  obtain ⟨W1, hW1⟩ : ∃ W1, W1 = (((w.alloc (.cells #[.slice none 0 0] 22)).alloc (.cells #[.int .i64 0] 28)).alloc (.cells #[.string s, .slice none 0 0] 165)) := ⟨_, rfl⟩
  rw [← hW1] at C b1 kr kp kq hz
  have HW1 := Lib.hid hW1
  clear hW1 hE b0 kr hg
  go_enter_defers Tryz.func43, Tryz.ntmps43
  go_wp2_with fail
  rw [← HW1.out]
  refine C.mono ?_
  rintro e w2 ⟨rfl, t2⟩
  have kp2 := kp.turned t2 kp.lt (by simp)
  have kq2 := kq.turned t2 kq.lt (by simp)
  have z2 := t2.size
  have cp : w2.cell? ⟨w.heap.size, 0, none⟩ = some (.slice none 0 0) := kp2.cell 0
  have cq : w2.cell? ⟨w.heap.size + 1, 0, none⟩ = some (.int .i64 0) := kq2.cell 0
  refine leaves_cons (f := 81) (args := #[.pointer (some ⟨w.heap.size, 0, none⟩), .pointer (some ⟨w.heap.size + 1, 0, none⟩)]) (by simp) (by simp [go_sem]) ?_
  refine (catch_panicking w.heap.size (w.heap.size + 1) [] _ _ _ cp cq (kp2.frozen 0) (kq2.frozen 0) (by omega) (by omega) (by omega)).mono ?_
  rintro e u' w3 ⟨rfl, rfl, e1, e2, t3⟩
  refine ⟨.tuple #[.slice none 0 0, .int .i64 4], ?_, rfl, ?_⟩
  · simp [results, Tryz.results43, e1, e2, go_sem]
  · exact (b1.trans ((t2.mono (B' := w.heap.size) (S' := []) (by omega) (fun k hk hlt => by simp at hk; omega)).below (by simp))).trans ((t3.mono (B' := w.heap.size) (S' := []) (by omega) (fun k hk hlt => by simp at hk; omega)).below (by simp))
end Go.Proofs.YtihmlhjdlpjehaaGreatDoor
namespace Go.Proofs.YtihmlhjdlpjehaaGreatDoor
open Go.RowKit

/-- `join (wrap "w" (code 7), none, level NaN)` -/
abbrev t_full : ByteArray := ⟨#[106, 111, 105, 110, 32, 40, 119, 114, 97, 112, 32, 34, 119, 34, 32, 40, 99, 111, 100, 101, 32, 55, 41, 44, 32, 110, 111, 110, 101, 44, 32, 108, 101, 118, 101, 108, 32, 78, 97, 78, 41]⟩
/-- ` (wrap "w" (code 7), none, level NaN)` -/
abbrev t_j1 : ByteArray := ⟨#[32, 40, 119, 114, 97, 112, 32, 34, 119, 34, 32, 40, 99, 111, 100, 101, 32, 55, 41, 44, 32, 110, 111, 110, 101, 44, 32, 108, 101, 118, 101, 108, 32, 78, 97, 78, 41]⟩
/-- `wrap "w" (code 7), none, level NaN)` -/
abbrev t_a0 : ByteArray := ⟨#[119, 114, 97, 112, 32, 34, 119, 34, 32, 40, 99, 111, 100, 101, 32, 55, 41, 44, 32, 110, 111, 110, 101, 44, 32, 108, 101, 118, 101, 108, 32, 78, 97, 78, 41]⟩
/-- ` "w" (code 7), none, level NaN)` -/
abbrev t_a1 : ByteArray := ⟨#[32, 34, 119, 34, 32, 40, 99, 111, 100, 101, 32, 55, 41, 44, 32, 110, 111, 110, 101, 44, 32, 108, 101, 118, 101, 108, 32, 78, 97, 78, 41]⟩
/-- ` (code 7), none, level NaN)` -/
abbrev t_a2 : ByteArray := ⟨#[32, 40, 99, 111, 100, 101, 32, 55, 41, 44, 32, 110, 111, 110, 101, 44, 32, 108, 101, 118, 101, 108, 32, 78, 97, 78, 41]⟩
/-- `code 7), none, level NaN)` -/
abbrev t_c0 : ByteArray := ⟨#[99, 111, 100, 101, 32, 55, 41, 44, 32, 110, 111, 110, 101, 44, 32, 108, 101, 118, 101, 108, 32, 78, 97, 78, 41]⟩
/-- ` 7), none, level NaN)` -/
abbrev t_c1 : ByteArray := ⟨#[32, 55, 41, 44, 32, 110, 111, 110, 101, 44, 32, 108, 101, 118, 101, 108, 32, 78, 97, 78, 41]⟩
/-- `7), none, level NaN)` -/
abbrev t_c1b : ByteArray := ⟨#[55, 41, 44, 32, 110, 111, 110, 101, 44, 32, 108, 101, 118, 101, 108, 32, 78, 97, 78, 41]⟩
/-- `), none, level NaN)` -/
abbrev t_c2 : ByteArray := ⟨#[41, 44, 32, 110, 111, 110, 101, 44, 32, 108, 101, 118, 101, 108, 32, 78, 97, 78, 41]⟩
/-- `, none, level NaN)` -/
abbrev t_b0 : ByteArray := ⟨#[44, 32, 110, 111, 110, 101, 44, 32, 108, 101, 118, 101, 108, 32, 78, 97, 78, 41]⟩
/-- `none, level NaN)` -/
abbrev t_n0 : ByteArray := ⟨#[110, 111, 110, 101, 44, 32, 108, 101, 118, 101, 108, 32, 78, 97, 78, 41]⟩
/-- `, level NaN)` -/
abbrev t_n1 : ByteArray := ⟨#[44, 32, 108, 101, 118, 101, 108, 32, 78, 97, 78, 41]⟩
/-- `level NaN)` -/
abbrev t_l0 : ByteArray := ⟨#[108, 101, 118, 101, 108, 32, 78, 97, 78, 41]⟩
/-- ` NaN)` -/
abbrev t_l1 : ByteArray := ⟨#[32, 78, 97, 78, 41]⟩
/-- `NaN)` -/
abbrev t_l1b : ByteArray := ⟨#[78, 97, 78, 41]⟩
/-- `)` -/
abbrev t_l2 : ByteArray := ⟨#[41]⟩
def sCode : Sp := { zk 1 with number := 7 }
def sWrap0 : Sp := { zk 14 with text := ⟨#[119]⟩ }
def sWrap : Sp := { sWrap0 with parts := [1] }
def sLevel : Sp := { zk 3 with re := 9221120237041090561 }
def sJoin : Sp := { zk 16 with parts := [2, 0, 3] }
theorem e_code : ErrorTo t_c0 [] t_c2 [sCode] 1 :=
  error_leaf t_c0 ⟨#[99, 111, 100, 101]⟩ t_c1 t_c2 1 sCode [] (by decide) (by kernel_rfl) (by kernel_rfl) (by decide) (by kernel_rfl) (by decide)
    (words_code t_c1 t_c1b ⟨#[55]⟩ t_c2 7 (by kernel_rfl) (by kernel_rfl) (by kernel_rfl) (by decide) (by kernel_rfl) (by kernel_rfl) (by kernel_rfl) (by decide) (by kernel_rfl) (by decide)) (by kernel_rfl) rfl rfl (by decide)
theorem e_wrap : ErrorTo t_a0 [] t_b0 [sCode, sWrap] 2 :=
  error_node t_a0 ⟨#[119, 114, 97, 112]⟩ t_a1 t_a2 t_b0 1 (fun _ => t_c0) (fun _ => t_c2) (fun i => if i = 0 then [] else [sCode]) [1] 14 sWrap0 [] (by decide) (by kernel_rfl) (by kernel_rfl) (by decide) (by kernel_rfl) (by decide)
    (by have h := words_wrap t_a1 (by kernel_rfl) (by kernel_rfl) (by kernel_rfl); exact h) (by kernel_rfl) (by kernel_rfl) (by decide) (by decide) rfl rfl
    (fun i hi => by
      obtain rfl : i = 0 := by omega
      exact e_code) (fun i hi => by omega) (by kernel_rfl) (by kernel_rfl) (by kernel_rfl) rfl rfl (by decide)
theorem e_none : ErrorTo t_n0 [sCode, sWrap] t_n1 [sCode, sWrap] 0 := error_none t_n0 t_n1 _ (by decide) (by kernel_rfl) (by kernel_rfl)
theorem e_level : ErrorTo t_l0 [sCode, sWrap] t_l2 [sCode, sWrap, sLevel] 3 :=
  error_leaf t_l0 ⟨#[108, 101, 118, 101, 108]⟩ t_l1 t_l2 3 sLevel [sCode, sWrap] (by decide) (by kernel_rfl) (by kernel_rfl) (by decide) (by kernel_rfl) (by decide)
    (words_level t_l1 t_l1b t_l2 (by kernel_rfl) (by kernel_rfl) (by kernel_rfl) (by decide) (by kernel_rfl) (by kernel_rfl)) (by kernel_rfl) rfl rfl (by decide)
def jS (i : Nat) : ByteArray := if i = 0 then t_a0 else if i = 1 then t_n0 else t_l0
def jS' (i : Nat) : ByteArray := if i = 0 then t_b0 else if i = 1 then t_n1 else t_l2
def jP (i : Nat) : List Sp := if i = 0 then [] else if i = 1 then [sCode, sWrap] else if i = 2 then [sCode, sWrap] else [sCode, sWrap, sLevel]
theorem e_join : ErrorTo t_full [] ⟨#[]⟩ [sCode, sWrap, sLevel, sJoin] 4 :=
  error_node t_full ⟨#[106, 111, 105, 110]⟩ t_j1 t_j1 ⟨#[]⟩ 3 jS jS' jP [2, 0, 3] 16 (zk 16) [] (by decide) (by kernel_rfl) (by kernel_rfl) (by decide) (by kernel_rfl) (by decide)
    (words_join t_j1 (by kernel_rfl)) (by kernel_rfl) (by kernel_rfl) (by decide) (by decide) rfl rfl
    (fun i hi => by
      have h : i = 0 ∨ i = 1 ∨ i = 2 := by omega
      rcases h with rfl | rfl | rfl
      · exact e_wrap
      · exact e_none
      · exact e_level) (fun i hi => by
      have h : i = 0 ∨ i = 1 := by omega
      rcases h with rfl | rfl
      · exact ⟨by kernel_rfl, by kernel_rfl⟩
      · exact ⟨by kernel_rfl, by kernel_rfl⟩) (by kernel_rfl) (by kernel_rfl) (by kernel_rfl) rfl rfl (by decide)
theorem plan_full : PlanTo t_full [sCode, sWrap, sLevel, sJoin] := Plan_ok t_full _ 4 (by simp) e_join
/-- `code 07` -/
abbrev t_no : ByteArray := ⟨#[99, 111, 100, 101, 32, 48, 55]⟩
theorem ne07 : ¬ (⟨#[48, 55]⟩ : ByteArray) = ⟨(Lib.decDigits 7).toArray⟩ := by
  have e : (⟨(Lib.decDigits 7).toArray⟩ : ByteArray) = ⟨#[55]⟩ := by kernel_rfl
  rw [e]
  decide
theorem plan_no (w : World) (hg : Glob w) : Calls Tryz.prog 43 #[.string t_no] w fun e w' => e = .returned (.tuple #[.slice none 0 0, .int .i64 4]) ∧ Below w.heap.size w w' :=
  Plan_no t_no (fun rb pv w hg hrb hr => error_no t_no ⟨#[99, 111, 100, 101]⟩ ⟨#[32, 48, 55]⟩ 1 (by decide) (by kernel_rfl) (by kernel_rfl) (by decide) (by kernel_rfl) (by decide)
    (fun rb xb pv w hr hx => words_code_no ⟨#[32, 48, 55]⟩ ⟨#[48, 55]⟩ ⟨#[48, 55]⟩ ⟨#[]⟩ 7 (by kernel_rfl) (by kernel_rfl) (by kernel_rfl) (by decide) (by kernel_rfl) (by kernel_rfl) (by kernel_rfl) (by decide) ne07 (by decide) rb xb pv w hr hx) rb pv w hg hrb hr) w hg
end Go.Proofs.YtihmlhjdlpjehaaGreatDoor
