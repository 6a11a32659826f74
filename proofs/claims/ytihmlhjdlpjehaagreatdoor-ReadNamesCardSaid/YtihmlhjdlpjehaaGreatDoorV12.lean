/- Package read: the reader's error with parts: what holds between two parts. -/
import Derived.Test.YtihmlhjdlpjehaaGreatDoorV8
import Derived.Test.YtihmlhjdlpjehaaGreatDoorK14
set_option linter.unusedVariables false
set_option linter.unusedSimpArgs false
namespace Go.Proofs.YtihmlhjdlpjehaaGreatDoor
open Go.RowKit

abbrev sepB : ByteArray := ⟨#[44, 32]⟩
abbrev closeB : ByteArray := ⟨#[41]⟩
theorem has_step (s p : ByteArray) (pv : Value) (rb : Nat) (w : World) (hr : RB w rb s pv) (h : preB s p = true) :
    Calls Tryz.prog 139 #[.pointer (some ⟨rb, 0, none⟩), .string p] w fun e w' => e = .returned (.bool true) ∧ RB w' rb (dropS s p) pv ∧ Turned w.heap.size [rb] w w' :=
  (has_yes s p pv rb w hr h).mono fun e w' ⟨h1, h2⟩ => ⟨h1, by rw [h2]; exact hr.set _, by rw [h2]; exact rset_turned _ _ _⟩
theorem PlanO.turned2 {B rb : Nat} {w w' : World} {pv : Value} {rs : List PR} {S : List Nat} (h : PlanO B rb w pv rs) (t : Turned w.heap.size S w w') (h1 : ∀ g, pv.ownBlock = some g → g ∉ S) (h2 : ∀ r ∈ rs, r.sp.parts ≠ [] → ∀ x, r.pa = some x → x.block ∉ S) : PlanO B rb w' pv rs :=
  ⟨own_turned h.own t h1, fun r hr => by
    obtain ⟨a1, a2, a3⟩ := h.prt r hr
    exact ⟨a1, a2.turn t (fun e x hx => h2 r hr e x hx), a3⟩, h.ne⟩
/-- A spec's cells, its parts a slice. -/
abbrev vcells (x : Sp) (vx : Value) : Array Value := #[.int .u8 x.kind, .bool x.nl, .string x.text, .int .i16 x.number, .int .i8 x.small, .float .f64 x.re, .float .f64 x.im, .bool x.flag, .int .u32 x.mask, .slice none 0 0, vx]
/-- Between two parts: M: the heap's size where the loop began; st: what the reader has left. -/
structure NInv (B rb xb M : Nat) (w : World) (pv : Value) (rs : List PR) (x : Sp) (P : List Sp) (hs : List Int) (st : ByteArray) (pvi : Value) (new : List PR) (vx : Value) (wr : World) : Prop where
  fmap : (rs ++ new).map (·.sp) = P
  frb : RB wr rb st pvi
  fplan : PlanO B rb wr pvi (rs ++ new)
  fown : pvi.ownBlock = pv.ownBlock ∨ ∀ g, pvi.ownBlock = some g → w.heap.size ≤ g
  fpx : pvi.ownBlock ≠ some xb
  fvx : ∀ g, vx.ownBlock = some g → M ≤ g ∧ pvi.ownBlock ≠ some g
  fnew : ∀ r ∈ new, r.sp.parts ≠ [] → ∀ y, r.pa = some y → w.heap.size ≤ y.block ∧ y.block ≠ xb ∧ vx.ownBlock ≠ some y.block
  fx : Blk wr xb (vcells x vx) 79
  frow : wr.ownsRow M 3 1 vx hs.length (hs.map (Value.int .i64))
  fturned : Turned w.heap.size (rb :: pv.ownBlock.toList) w wr
  fsize : M ≤ wr.heap.size
theorem NInv.reader {B rb xb M : Nat} {w : World} {pv : Value} {rs : List PR} {x : Sp} {P : List Sp} {hs : List Int} {st st' : ByteArray} {pvi : Value} {new : List PR} {vx : Value} {wr w' : World} (h : NInv B rb xb M w pv rs x P hs st pvi new vx wr) (hM : rb < M) (hrx : rb ≠ xb) (hw : w.heap.size ≤ M) (r' : RB w' rb st' pvi) (t : Turned wr.heap.size [rb] wr w') : NInv B rb xb M w pv rs x P hs st' pvi new vx w' :=
  ⟨h.fmap, r', h.fplan.turned t, h.fown, h.fpx, h.fvx, h.fnew, h.fx.turned t h.fx.lt (by simp; omega), own_turned h.frow t (fun g hg hm => by have := (h.fvx g hg).1; simp at hm; omega), h.fturned.trans (t.mono (by have := h.fsize; omega) (fun k hk _ => by simp at hk; simp [hk])), Nat.le_trans h.fsize t.size⟩
theorem NInv.part {B rb xb M : Nat} {w : World} {pv : Value} {rs : List PR} {x : Sp} {P P' : List Sp} {hs : List Int} {st st' : ByteArray} {pvi : Value} {new : List PR} {vx : Value} {wr w2 w5 : World} {hd : Int} {pv2 : Value} {new2 : List PR} {g' cap' : Nat} {o : Obj}
    (h : NInv B rb xb M w pv rs x P hs st pvi new vx wr) (hrx : rb ≠ xb) (hrbM : rb < M) (hxM : xb < M) (hwM : w.heap.size ≤ M) (hwx : w.heap.size ≤ xb) (hrs : PlanO B rb w pv rs)
    (m2 : ((rs ++ new) ++ new2).map (·.sp) = P') (r2 : RB w2 rb st' pv2) (p2 : PlanO B rb w2 pv2 ((rs ++ new) ++ new2)) (n2 : ∀ r ∈ new2, r.sp.parts ≠ [] → ∀ y, r.pa = some y → wr.heap.size ≤ y.block) (o2 : pv2.ownBlock = pvi.ownBlock ∨ ∀ g, pv2.ownBlock = some g → wr.heap.size ≤ g) (t2 : Turned wr.heap.size (rb :: pvi.ownBlock.toList) wr w2)
    (own5 : w5.ownsRow M 3 1 (.slice (some ⟨g', 0, none⟩) (hs.length + 1) cap') (hs.length + 1) (hs.map (Value.int .i64) ++ [.int .i64 hd])) (g5 : (w2.alloc o).grownBy w5 vx.ownBlock) (h5 : (Value.slice (some ⟨g', 0, none⟩) (hs.length + 1) cap').ownBlock = vx.ownBlock ∨ ∀ g, (Value.slice (some ⟨g', 0, none⟩) (hs.length + 1) cap').ownBlock = some g → (w2.alloc o).heap.size ≤ g) :
    NInv B rb xb M w pv rs x P' (hs ++ [hd]) st' pv2 (new ++ new2) (.slice (some ⟨g', 0, none⟩) (hs.length + 1) cap') (w5.setCell ⟨xb, 10, none⟩ (.slice (some ⟨g', 0, none⟩) (hs.length + 1) cap')) := by
  have z2 := t2.size
  have zr := h.fsize
  have zo : (w2.alloc o).heap.size = w2.heap.size + 1 := by simp
  have hvl : ∀ g, vx.ownBlock = some g → g < wr.heap.size := fun g hg => (h.frow.lt g hg).2
  have hp2l : ∀ g, pv2.ownBlock = some g → g < w2.heap.size := fun g hg => (p2.own.lt g hg).2
  have hvr : vx.ownBlock ≠ some rb := fun e => by have := (h.fvx rb e).1; omega
  have hvxb : vx.ownBlock ≠ some xb := fun e => by have := (h.fvx xb e).1; omega
  have kx2 : Blk w2 xb (vcells x vx) 79 := h.fx.turned t2 h.fx.lt (by
    intro hm
    simp only [List.mem_cons, Option.mem_toList] at hm
    rcases hm with hm | hm
    · omega
    · exact h.fpx hm)
  have hp2x : pv2.ownBlock ≠ some xb := by
    intro e
    rcases o2 with ho | ho
    · rw [ho] at e; exact h.fpx e
    · have := ho xb e; have := h.fx.lt; omega
  have hp2v : ∀ g, vx.ownBlock = some g → pv2.ownBlock ≠ some g := by
    intro g hg e
    rcases o2 with ho | ho
    · rw [ho] at e; exact (h.fvx g hg).2 e
    · have := ho g e; have := hvl g hg; omega
  have t25 : Turned w2.heap.size (xb :: vx.ownBlock.toList) w2 (w5.setCell ⟨xb, 10, none⟩ (.slice (some ⟨g', 0, none⟩) (hs.length + 1) cap')) :=
    ((((Turned.refl _ _ _).alloc (Nat.le_refl _) o).grown g5 (by omega) (fun k hk => Or.inr (by simp [hk])))).setCell (p := ⟨xb, 10, none⟩) (Or.inr (by simp)) _
  have kx5 : Blk w5 xb (vcells x vx) 79 := Blk.grown (w := w2.alloc o) (kx2.alloc o) g5 (fun e => hvxb e.symm)
  have hg'x : g' ≠ xb := by
    intro e
    rcases h5 with e5 | e5
    · exact hvxb (by rw [← e5, ← e]; rfl)
    · have := e5 g' rfl; omega
  have hnb : ∀ r ∈ new ++ new2, r.sp.parts ≠ [] → ∀ y, r.pa = some y → w.heap.size ≤ y.block ∧ y.block ≠ xb ∧ vx.ownBlock ≠ some y.block := by
    intro r hr e y hy
    rcases List.mem_append.1 hr with hr | hr
    · exact h.fnew r hr e y hy
    · have := n2 r hr e y hy
      refine ⟨by omega, by omega, fun e' => ?_⟩
      have := hvl _ e'
      omega
  refine ⟨by rw [← m2, List.append_assoc], ?_, ?_, ?_, hp2x, ?_, ?_, by simpa using kx5.store 10 (.slice (some ⟨g', 0, none⟩) (hs.length + 1) cap'), ?_, ?_, by have := t25.size; omega⟩
  · exact r2.turned t25 r2.lt (by
      intro hm
      simp only [List.mem_cons, Option.mem_toList] at hm
      rcases hm with hm | hm
      · omega
      · exact hvr hm)
  · have p3 := p2.turned2 t25 (by
      intro g hg hm
      simp only [List.mem_cons, Option.mem_toList] at hm
      rcases hm with hm | hm
      · exact hp2x (by rw [hg, hm])
      · exact hp2v g hm hg) (by
      intro r hr e y hy hm
      simp only [List.mem_cons, Option.mem_toList] at hm
      rw [List.append_assoc] at hr
      rcases List.mem_append.1 hr with hr | hr
      · have hl := (hrs.prt r hr).2.1.lt e y hy
        rcases hm with hm | hm
        · omega
        · have := (h.fvx _ hm).1; omega
      · obtain ⟨_, a2, a3⟩ := hnb r hr e y hy
        rcases hm with hm | hm
        · exact a2 hm
        · exact a3 hm)
    rw [List.append_assoc] at p3
    exact p3
  · rcases o2 with ho | ho
    · rw [ho]; exact h.fown
    · exact Or.inr fun g hg => by have := ho g hg; omega
  · intro g hg
    simp [Value.ownBlock] at hg
    subst hg
    rcases h5 with e5 | e5
    · have e6 : vx.ownBlock = some g' := e5.symm
      exact ⟨(h.fvx g' e6).1, hp2v g' e6⟩
    · have := e5 g' rfl
      refine ⟨by omega, fun e => ?_⟩
      have := hp2l _ e
      omega
  · intro r hr e y hy
    obtain ⟨a1, a2, a3⟩ := hnb r hr e y hy
    refine ⟨a1, a2, fun e' => ?_⟩
    rcases h5 with e5 | e5
    · exact a3 (by rw [← e5]; exact e')
    · have h6 := e5 _ e'
      have hl : y.block < w2.heap.size := (p2.prt r (by rw [List.append_assoc]; exact List.mem_append.2 (Or.inr hr))).2.1.lt e y hy
      omega
  · have := own_turned own5 ((Turned.refl w5.heap.size [xb] w5).setCell (p := ⟨xb, 10, none⟩) (Or.inr (by simp)) (.slice (some ⟨g', 0, none⟩) (hs.length + 1) cap')) (fun g hg => by simp [Value.ownBlock] at hg; subst hg; simpa using hg'x)
    rw [List.length_append, List.map_append]
    exact this
  · have ta : Turned w.heap.size (rb :: pv.ownBlock.toList) w w2 := h.fturned.trans (t2.mono (by omega) (fun k hk hlt => by
      simp only [List.mem_cons, Option.mem_toList] at hk ⊢
      rcases hk with hk | hk
      · exact Or.inl hk
      · rcases h.fown with ho | ho
        · exact Or.inr (by rw [← ho]; exact hk)
        · have := ho k hk; omega))
    exact ta.trans (t25.mono (by omega) (fun k hk hlt => by
      simp only [List.mem_cons, Option.mem_toList] at hk
      rcases hk with hk | hk
      · omega
      · have := (h.fvx k hk).1; omega))
end Go.Proofs.YtihmlhjdlpjehaaGreatDoor
