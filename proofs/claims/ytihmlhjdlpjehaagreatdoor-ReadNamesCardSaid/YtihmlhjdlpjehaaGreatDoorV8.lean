/- Package read: the reader's error: what it makes of a text that stands in front, as a word of its own; none; an error without parts. Package read: the reader's error: an error without parts. Package read: the reader's error: an error without parts. -/
import Derived.Test.YtihmlhjdlpjehaaGreatDoorV7
import Derived.Test.YtihmlhjdlpjehaaGreatDoorT4
import Derived.Test.YtihmlhjdlpjehaaGreatDoorK29
import Derived.Deep.RegionHeld3
import Derived.Deep.CutRange
set_option linter.unusedVariables false
set_option linter.unusedSimpArgs false
namespace Go.Proofs.YtihmlhjdlpjehaaGreatDoor
open Go.RowKit

/-- A spec of a plan, and where its parts lie. -/
structure PR where
  sp : Sp
  pa : Option Addr
  pc : Nat
abbrev PR.arr (r : PR) : Array Value := #[.int .u8 r.sp.kind, .bool r.sp.nl, .string r.sp.text, .int .i16 r.sp.number, .int .i8 r.sp.small, .float .f64 r.sp.re, .float .f64 r.sp.im, .bool r.sp.flag, .int .u32 r.sp.mask, .slice none 0 0, .slice r.pa r.sp.parts.length r.pc]
def plcells (rs : List PR) : List Value := rs.flatMap fun r => r.arr.toList
theorem plcells_snoc (rs : List PR) (r : PR) : plcells (rs ++ [r]) = plcells rs ++ r.arr.toList := by simp [plcells]
theorem plcells_length (rs : List PR) : (plcells rs).length = rs.length * 11 := by
  induction rs with
  | nil => rfl
  | cons r rs ih =>
    have : plcells (r :: rs) = r.arr.toList ++ plcells rs := rfl
    rw [this, List.length_append, ih]
    simp [PR.arr]; omega
/-- The reader's plan, in memory of its own. -/
structure PlanO (B rb : Nat) (w : World) (pv : Value) (rs : List PR) : Prop where
  own : w.ownsRow B 79 11 pv rs.length (plcells rs)
  prt : ∀ r ∈ rs, r.sp.items = [] ∧ RdI w r.pa r.sp.parts ∧ (r.sp.parts ≠ [] → ∀ x, r.pa = some x → B ≤ x.block ∧ x.block ≠ rb ∧ some x.block ≠ pv.ownBlock)
  ne : pv.ownBlock ≠ some rb
theorem PlanO.turned {B rb : Nat} {w w' : World} {pv : Value} {rs : List PR} (h : PlanO B rb w pv rs) (t : Turned w.heap.size [rb] w w') : PlanO B rb w' pv rs :=
  ⟨own_turned h.own t (fun g hg hm => by simp at hm; exact h.ne (by rw [hg, hm])), fun r hr => by
    obtain ⟨h1, h2, h3⟩ := h.prt r hr
    exact ⟨h1, h2.turn t (fun e x hx hm => by simp at hm; exact (h3 e x hx).2.1 hm), h3⟩, h.ne⟩
/-- What the reader's error makes of a text that stands in front. -/
def ErrorTo (s : ByteArray) (P : List Sp) (s' : ByteArray) (P' : List Sp) (h : Int) : Prop := ∀ (B rb : Nat) (pv : Value) (rs : List PR) (w : World), Glob w → 25 ≤ B → B ≤ rb → rs.map (·.sp) = P → RB w rb s pv → PlanO B rb w pv rs →
  Calls Tryz.prog 82 #[.pointer (some ⟨rb, 0, none⟩)] w fun e w' => e = .returned (.int .i64 h) ∧ ∃ (pv' : Value) (new : List PR), (rs ++ new).map (·.sp) = P' ∧ RB w' rb s' pv' ∧ PlanO B rb w' pv' (rs ++ new) ∧ (∀ r ∈ new, r.sp.parts ≠ [] → ∀ y, r.pa = some y → w.heap.size ≤ y.block) ∧ (pv'.ownBlock = pv.ownBlock ∨ ∀ g, pv'.ownBlock = some g → w.heap.size ≤ g) ∧ Turned w.heap.size (rb :: pv.ownBlock.toList) w w'
abbrev noneB : ByteArray := ⟨#[110, 111, 110, 101]⟩
set_option maxRecDepth 100000 in
theorem error_none (s s1 : ByteArray) (P : List Sp) (hsz : s.size ≤ 8796093022207) (h1 : s.extract 0 (cutN s stopB) = noneB) (h2 : s.extract (cutN s stopB) s.size = s1) : ErrorTo s P s1 P 0 := by
  intro B rb pv rs w hg hB hrb hP hr hpl
  have CU := until_any s stopB pv rb w stopB_ascii hsz hr
  rw [h1, h2] at CU
  have HPL := Lib.hid hpl
  clear h1 h2 hr hg hpl
  go_enter Tryz.func82, Tryz.ntmps82
  go_wp2_with fail
  refine CU.mono ?_
  rintro e w1 ⟨rfl, r1, t1⟩
  go_wp2_with fail
  go_ret
  exact ⟨rfl, pv, [], by rw [List.append_nil]; exact hP, r1, by rw [List.append_nil]; exact HPL.out.turned t1, by simp, Or.inl rfl, t1.mono (Nat.le_refl _) (fun k hk _ => by simp at hk; simp [hk])⟩
theorem i79b : (Tryz.prog.info? 79).map (fun i => (i.size, i.bytes)) = some (11, 104) := by kernel_rfl
theorem z79 : ((Tryz.prog.info? 79).bind (·.zero)).map (fun z => z.cells.size) = some 11 := by kernel_rfl
theorem su22 : Tryz.prog.underlying 22 = some (.slice 79) := by kernel_rfl
theorem info79 : ∃ i z, Tryz.prog.info? 79 = some i ∧ i.zero = some z ∧ i.size = 11 ∧ i.bytes = 104 ∧ z.cells.size = 11 := by
  have h1 := i79b
  have h2 := z79
  cases hi : Tryz.prog.info? 79 with
  | none => rw [hi] at h1; cases h1
  | some i =>
    rw [hi] at h1 h2
    simp only [Option.map_some, Option.some.injEq, Prod.mk.injEq, Option.bind_some] at h1 h2
    cases hz : i.zero with
    | none => rw [hz] at h2; cases h2
    | some z =>
      rw [hz] at h2
      simp only [Option.map_some, Option.some.injEq] at h2
      exact ⟨i, z, rfl, hz, h1.1, h1.2, h2⟩
end Go.Proofs.YtihmlhjdlpjehaaGreatDoor
namespace Go.Proofs.YtihmlhjdlpjehaaGreatDoor
open Go.RowKit

theorem own_slice {w : World} {B n size : Nat} {e : TypeId} {v : Value} {xs : List Value} (h : w.ownsRow B e size v n xs) : ∃ ad cap, v = .slice ad n cap := by
  rcases h.2 with ⟨e, h0⟩ | ⟨g, cap, cur, e, _⟩
  · exact ⟨none, 0, by rw [e, h0]⟩
  · exact ⟨_, cap, e⟩
/-- What the append of a spec to the plan leaves. -/
theorem plan_post {B rb : Nat} {s : ByteArray} {pv : Value} {rs : List PR} {r : PR} {g cap : Nat} {W w' : World} {o : Obj} (hpl : PlanO B rb W pv rs) (hr : RB W rb s pv) (hB : B ≤ W.heap.size)
    (hown : w'.ownsRow B 79 11 (.slice (some ⟨g, 0, none⟩) (rs.length + 1) cap) (rs.length + 1) (plcells rs ++ r.arr.toList)) (hgr : (W.alloc o).drew.grownBy w' pv.ownBlock)
    (hwh : (Value.slice (some ⟨g, 0, none⟩) (rs.length + 1) cap).ownBlock = pv.ownBlock ∨ ∀ k, (Value.slice (some ⟨g, 0, none⟩) (rs.length + 1) cap).ownBlock = some k → (W.alloc o).drew.heap.size ≤ k)
    (hri : r.sp.items = []) (hrp : RdI W r.pa r.sp.parts) (hrx : r.sp.parts ≠ [] → ∀ x, r.pa = some x → B ≤ x.block ∧ x.block ≠ rb ∧ some x.block ≠ pv.ownBlock) :
    RB (w'.setCell ⟨rb, 1, none⟩ (.slice (some ⟨g, 0, none⟩) (rs.length + 1) cap)) rb s (.slice (some ⟨g, 0, none⟩) (rs.length + 1) cap) ∧ PlanO B rb (w'.setCell ⟨rb, 1, none⟩ (.slice (some ⟨g, 0, none⟩) (rs.length + 1) cap)) (.slice (some ⟨g, 0, none⟩) (rs.length + 1) cap) (rs ++ [r]) ∧
      ((Value.slice (some ⟨g, 0, none⟩) (rs.length + 1) cap).ownBlock = pv.ownBlock ∨ ∀ k, (Value.slice (some ⟨g, 0, none⟩) (rs.length + 1) cap).ownBlock = some k → W.heap.size ≤ k) ∧
      Turned W.heap.size (rb :: pv.ownBlock.toList) W (w'.setCell ⟨rb, 1, none⟩ (.slice (some ⟨g, 0, none⟩) (rs.length + 1) cap)) := by
  have zX : (W.alloc o).drew.heap.size = W.heap.size + 1 := by show (W.alloc o).heap.size = _; simp
  have kb : RB w' rb s pv := Blk.grown (w := (W.alloc o).drew) (hr.alloc o) hgr (fun h => hpl.ne h.symm)
  have tX : Turned W.heap.size (rb :: pv.ownBlock.toList) W w' := (((Turned.refl _ _ _).alloc (Nat.le_refl _) o).drew).grown hgr (by omega) (fun k hk => Or.inr (by simp [hk]))
  have tF : Turned W.heap.size (rb :: pv.ownBlock.toList) W (w'.setCell ⟨rb, 1, none⟩ (.slice (some ⟨g, 0, none⟩) (rs.length + 1) cap)) := tX.setCell (p := ⟨rb, 1, none⟩) (Or.inr (by simp)) _
  have hgb : g ≠ rb := by
    intro e
    subst e
    rcases hown.2 with ⟨h, _⟩ | ⟨g', cap', cur, h, _, hg, _⟩
    · cases h
    · cases h
      have hk : w'.heap[g]? = some (.cells #[.string s, pv] 165 (0, 0)) := kb
      rw [hk] at hg
      cases hg
  have far : ∀ q : PR, RdI W q.pa q.sp.parts → (q.sp.parts ≠ [] → ∀ x, q.pa = some x → B ≤ x.block ∧ x.block ≠ rb ∧ some x.block ≠ pv.ownBlock) → RdI (w'.setCell ⟨rb, 1, none⟩ (.slice (some ⟨g, 0, none⟩) (rs.length + 1) cap)) q.pa q.sp.parts ∧ (q.sp.parts ≠ [] → ∀ x, q.pa = some x → B ≤ x.block ∧ x.block ≠ rb ∧ some x.block ≠ (Value.slice (some ⟨g, 0, none⟩) (rs.length + 1) cap).ownBlock) := by
    intro q h1 h2
    refine ⟨h1.turn tF (fun e x hx hm => ?_), fun e x hx => ?_⟩
    · obtain ⟨_, h3, h4⟩ := h2 e x hx
      simp only [List.mem_cons, Option.mem_toList] at hm
      rcases hm with hm | hm
      · exact h3 hm
      · exact h4 hm.symm
    · obtain ⟨h5, h3, h4⟩ := h2 e x hx
      refine ⟨h5, h3, fun h => ?_⟩
      have hl := h1.lt e x hx
      rcases hwh with hw | hw
      · rw [hw] at h; exact h4 h
      · have := hw _ h.symm; omega
  refine ⟨by simpa using kb.store 1 _, ⟨?_, ?_, ?_⟩, ?_, tF⟩
  · rw [plcells_snoc]
    have := own_turned hown ((Turned.refl w'.heap.size [rb] w').setCell (p := ⟨rb, 1, none⟩) (Or.inr (by simp)) (.slice (some ⟨g, 0, none⟩) (rs.length + 1) cap)) (fun k hk => by simp [Value.ownBlock] at hk; subst hk; simpa using hgb)
    simpa using this
  · intro q hq
    rcases List.mem_append.1 hq with hq | hq
    · obtain ⟨h0, h1, h2⟩ := hpl.prt q hq
      exact ⟨h0, far q h1 h2⟩
    · simp only [List.mem_singleton] at hq
      subst hq
      exact ⟨hri, far q hrp hrx⟩
  · simp [Value.ownBlock]; exact hgb
  · rcases hwh with h | h
    · exact Or.inl h
    · exact Or.inr fun k hk => by have := h k hk; omega
end Go.Proofs.YtihmlhjdlpjehaaGreatDoor
namespace Go.Proofs.YtihmlhjdlpjehaaGreatDoor
open Go.RowKit

abbrev openB : ByteArray := ⟨#[32, 40]⟩
set_option maxRecDepth 1000000 in
set_option maxHeartbeats 4000000 in
theorem error_leaf (s name s1 s2 : ByteArray) (k : Int) (x : Sp) (P : List Sp) (hsz : s.size ≤ 8796093022207) (h1 : s.extract 0 (cutN s stopB) = name) (h2 : s.extract (cutN s stopB) s.size = s1) (hn : ¬ name = noneB) (hk : kindF name 26 1 = k) (hk0 : 0 < k)
    (hw : WordsTo k s1 s2 x) (hno : preB s2 openB = false) (hxi : x.items = []) (hxp : x.parts = []) (hP : P.length ≤ 60000) : ErrorTo s P s2 (P ++ [x]) ((P.length : Int) + 1) := by
  intro B rb pv rs w hg hB hrb hPm hr hpl
  have hlrb := hr.lt
  have hn' : (name.toList == ([110, 111, 110, 101] : List UInt8)) = false := by
    have h := beqL_no hn
    rw [toL noneB] at h
    exact h
  have CU := until_any s stopB pv rb w stopB_ascii hsz hr
  rw [h1, h2] at CU
  have CK : ∀ W, Below w.heap.size w W ∨ Turned w.heap.size [rb] w W → Calls Tryz.prog 24 #[.string name] W fun e w' => e = .returned (.tuple #[.int .u8 k, .bool true]) ∧ Below W.heap.size W w' := fun W hW => by
    have g : Glob W := by
      rcases hW with h | h
      · exact hg.below h hg.size
      · exact hg.turned h hg.size (by simp; omega)
    have C := Kind_any name W g
    rw [hk] at C
    simpa [hk0] using C
  have CW : ∀ (xb : Nat) (W : World), Turned w.heap.size [rb] w W → 25 ≤ xb → rb ≠ xb → RB W rb s1 pv → Blk W xb (xcells (zk k)) 79 → Calls Tryz.prog 138 #[.pointer (some ⟨rb, 0, none⟩), .pointer (some ⟨xb, 0, none⟩)] W fun e w' => e = .returned (.tuple #[]) ∧ RB w' rb s2 pv ∧ Blk w' xb (xcells x) 79 ∧ Turned W.heap.size [rb, xb] W w' := fun xb W hW a1 a2 a3 a4 =>
    hw rb xb pv W (hg.turned hW hg.size (by simp; omega)) (by omega) a1 a2 a3 a4
  have h25 := hg.size
  have hlen : rs.length = P.length := by rw [← hPm]; simp
  have HPL := Lib.hid hpl
  have HCU := Lib.hid CU
  have HCK := Lib.hid CK
  have HCW := Lib.hid CW
  have HPM := Lib.hid hPm
  clear CU CK CW h1 h2 hr hg hpl hn hk hw hPm
  go_enter Tryz.func82, Tryz.ntmps82
  go_wp2_with fail
  refine HCU.out.mono ?_
  rintro e w1 ⟨rfl, r1, t1⟩
  have z1 := t1.size
  go_wp2_with fail
  refine (HCK.out w1 (Or.inr t1)).mono ?_
  rintro e w2 ⟨rfl, b2⟩
  have z2 := b2.size
  have r2 := r1.below b2 (by omega)
  have t2 : Turned w.heap.size [rb] w w2 := t1.step z1 (Turned.of_below b2)
  go_wp2_with (first
    | (refine ws79 rfl (.tmp 6) (.tmp 22) rfl w2.heap.size (xcells (zk k)) rfl rfl _ 79 (Blk.new w2 _ 79) rfl rfl rfl ?_; intro w2b kx0 tx0 zx0)
    | fail)
  have z2b : w2b.heap.size = w2.heap.size + 1 := by rw [zx0]; simp
  have r2b : RB w2b rb s1 pv := (r2.alloc _).turned tx0 (by simp; omega) (by simp; omega)
  have t2b : Turned w.heap.size [rb] w w2b := (t2.alloc (by omega) _).trans (tx0.mono (by simp; omega) (fun k hk hlt => by simp at hk; omega))
  have C3 := HCW.out w2.heap.size w2b t2b (by omega) (by omega) r2b kx0
  clear tx0 zx0 t2 r1 t1
  refine C3.mono ?_
  rintro e w3 ⟨rfl, r3, k3, t3⟩
  have z3 := t3.size
  have t3a : Turned w.heap.size [rb] w w3 := t2b.trans (t3.mono (by omega) (fun k hk hlt => by simp at hk; rcases hk with hk | hk <;> simp [hk]; omega))
  have C4 := has_no s2 openB pv rb w3 r3 hno
  clear C3 kx0 r2b t2b
  go_wp2_with (go_at_call 139; refine C4.mono ?_; rintro e w4 ⟨rfl, rfl⟩)
  have hpl3 := HPL.out.turned t3a
  obtain ⟨ad, cap, hpv⟩ := own_slice hpl3.own
  have HR3 := Lib.hid r3
  have HPL3 := Lib.hid hpl3
  have own3 := hpl3.own
  rw [hpv] at own3
  have hne3 := hpl3.ne
  rw [hpv] at hne3
  have cr1 : w4.cell? ⟨rb, 1, none⟩ = some (.slice ad rs.length cap) := by rw [← hpv]; exact r3.cell 1
  have fr1 := r3.frozen 1
  have xc0 : w4.cell? ⟨w2.heap.size, 0, none⟩ = some (.int .u8 x.kind) := k3.cell 0
  have xc1 : w4.cell? ⟨w2.heap.size, 1, none⟩ = some (.bool x.nl) := k3.cell 1
  have xc2 : w4.cell? ⟨w2.heap.size, 2, none⟩ = some (.string x.text) := k3.cell 2
  have xc3 : w4.cell? ⟨w2.heap.size, 3, none⟩ = some (.int .i16 x.number) := k3.cell 3
  have xc4 : w4.cell? ⟨w2.heap.size, 4, none⟩ = some (.int .i8 x.small) := k3.cell 4
  have xc5 : w4.cell? ⟨w2.heap.size, 5, none⟩ = some (.float .f64 x.re) := k3.cell 5
  have xc6 : w4.cell? ⟨w2.heap.size, 6, none⟩ = some (.float .f64 x.im) := k3.cell 6
  have xc7 : w4.cell? ⟨w2.heap.size, 7, none⟩ = some (.bool x.flag) := k3.cell 7
  have xc8 : w4.cell? ⟨w2.heap.size, 8, none⟩ = some (.int .u32 x.mask) := k3.cell 8
  have xc9 : w4.cell? ⟨w2.heap.size, 9, none⟩ = some (.slice none 0 0) := k3.cell 9
  have xc10 : w4.cell? ⟨w2.heap.size, 10, none⟩ = some (.slice none 0 0) := k3.cell 10
  obtain ⟨i9, z9, y1, y2, y3, y4, y5⟩ := info79
  have hB4 : B ≤ w4.heap.size := by omega
  have hkr : Blk w4 rb #[.string s2, .slice ad rs.length cap] 165 := by rw [← hpv]; exact r3
  have hrb4 : some rb ≠ (Value.slice ad rs.length cap).ownBlock := fun h => hne3 h.symm
  have hrl : rs.length ≤ 60000 := by omega
  obtain ⟨n, hrn⟩ : ∃ n, rs.length = n := ⟨_, rfl⟩
  have HRN := Lib.hid hrn
  have HPV := Lib.hid hpv
  rw [hrn] at own3 cr1 hkr hrb4 hrl
  have hrb5 : rb < w4.heap.size := by omega
  have hxb5 : w2.heap.size < w4.heap.size := by omega
  clear hpl3 hpv hne3 hrn r3 k3 t3 C4
  go_region_law (refine step_append_own rfl (.tmp 43) (.tmp 45) 22 rfl B 79 i9 z9 11 104 su22 y1 y2 y3 y4 y5 (by decide) (.slice ad n cap) n (plcells rs) rfl (own3.alloc (.cells (xcells x) 79)) ⟨w4.heap.size, 0, none⟩ 1 1 (xcells x).toList rfl rfl (new_row w4 (xcells x) 79) (by simp [Value.oneCell']) (by unfold maxLen; omega) (by omega) (by simp <;> omega) ?_; intro v' w' hown' hgr hwh; obtain ⟨g', cap', rfl⟩ := own_form hown'; have kb' : Blk w' rb _ 165 := Blk.grown (w := (w4.alloc _).drew) (hkr.alloc _) hgr hrb4; have cb' : w'.cell? ⟨rb, 1, none⟩ = some (.slice ad n cap) := kb'.cell 1; have fb' := kb'.frozen 1)
  all_goals
    have ho : (Value.slice ad n cap).ownBlock = pv.ownBlock := by rw [HPV.out, HRN.out]
    rw [ho] at hgr hwh
    have hown2 : w'.ownsRow B 79 11 (.slice (some ⟨g', 0, none⟩) (rs.length + 1) cap') (rs.length + 1) (plcells rs ++ (⟨x, none, 0⟩ : PR).arr.toList) := by
      rw [HRN.out]
      have e : (⟨x, none, 0⟩ : PR).arr.toList = (xcells x).toList := by simp [PR.arr, hxp]
      rw [e]
      exact hown'
    have hwh2 : (Value.slice (some ⟨g', 0, none⟩) (rs.length + 1) cap').ownBlock = pv.ownBlock ∨ ∀ k, (Value.slice (some ⟨g', 0, none⟩) (rs.length + 1) cap').ownBlock = some k → (w4.alloc (.cells (xcells x) 79)).drew.heap.size ≤ k := hwh
    have hPost := plan_post (s := s2) (r := ⟨x, none, 0⟩) HPL3.out HR3.out hB4 hown2 hgr hwh2 hxi (Or.inl hxp) (fun e => absurd hxp e)
    rw [HRN.out] at hPost
    have cF : (w'.setCell ⟨rb, 1, none⟩ (.slice (some ⟨g', 0, none⟩) (n + 1) cap')).cell? ⟨rb, 1, none⟩ = some (.slice (some ⟨g', 0, none⟩) (n + 1) cap') := hPost.1.cell 1
    obtain ⟨WF, hWF⟩ : ∃ WF, WF = w'.setCell ⟨rb, 1, none⟩ (.slice (some ⟨g', 0, none⟩) (n + 1) cap') := ⟨_, rfl⟩
    rw [← hWF] at hPost cF ⊢
    have HPO := Lib.hid hPost
    clear hPost hown' hown2 hgr hwh hwh2 kb' cb' fb' hWF own3 hkr
    go_wp2_with fail
    go_ret
    obtain ⟨p1, p2, p3, p4⟩ := HPO.out
    refine ⟨ret_int (by have := HRN.out; omega), _, [⟨x, none, 0⟩], by rw [List.map_append, HPM.out]; rfl, p1, p2, fun r hr e => by simp at hr; subst hr; exact absurd hxp e, ?_, ?_⟩
    · rcases p3 with h | h
      · exact Or.inl h
      · exact Or.inr fun g hg => by have := h g hg; omega
    · exact (t3a.mono (S' := rb :: pv.ownBlock.toList) (Nat.le_refl _) (fun k hk _ => by simp at hk; simp [hk])).trans (p4.mono (by omega) (fun k hk _ => hk))
end Go.Proofs.YtihmlhjdlpjehaaGreatDoor
