/- Package kinds: leaf and Make at the kinds code, level, wrap, join. -/
import Derived.Test.YtihmlhjdlpjehaaGreatDoorK3
import Derived.Test.YtihmlhjdlpjehaaGreatDoorK1
import Derived.Test.YtihmlhjdlpjehaaGreatDoorK11
set_option linter.unusedVariables false
set_option linter.unusedSimpArgs false
namespace Go.Proofs.YtihmlhjdlpjehaaGreatDoor
open Go.RowKit

set_option maxRecDepth 100000 in
set_option maxHeartbeats 1000000 in
theorem leaf_13 (s : Sp) (hk : s.kind = 1 ∨ s.kind = 3) (ia pa : Option Addr) (ic pc : Nat) (w : World) :
    Calls Tryz.prog 118 #[s.val ia ic pa pc] w fun e w' => (∃ v, e = .returned v ∧ ErrV s.kind v) ∧ Below w.heap.size w w' := by
  obtain ⟨k, nl, text, number, small, re, im, flag, mask, items, parts⟩ := s
  unfold Sp.val
  dsimp only at hk ⊢
  rcases hk with rfl | rfl
  all_goals
    go_enter Tryz.func118, Tryz.ntmps118
    go_wp2
    go_ret
    refine ⟨⟨_, rfl, _, _, rfl, ?_⟩, below_one _ _⟩
    refine ⟨?_, ?_, ?_, ?_⟩ <;> (intro h; exact absurd h (by decide))
/-- Errors that lie one behind the other. -/
def RdE (w : World) (a : Option Addr) (xs : List Value) : Prop := xs = [] ∨ ∃ b off, a = some ⟨b, off, none⟩ ∧ ∀ j, j < xs.length → w.cell? ⟨b, off + j, none⟩ = some (xs.getD j .nilIface)
theorem RdE.below {w w' : World} {a : Option Addr} {xs : List Value} (h : RdE w a xs) (hb : Below w.heap.size w w') : RdE w' a xs := by
  rcases h with h | ⟨b, off, ha, hc⟩
  · exact Or.inl h
  · exact Or.inr ⟨b, off, ha, fun j hj => (hb.cell (p := ⟨b, off + j, none⟩) (World.block_lt_of_cell? _ _ (hc j hj))).trans (hc j hj)⟩
/-- What Make does for a spec at some parts. -/
def MakesE (s : Sp) (es : List Value) : Prop := ∀ (ia pa ea : Option Addr) (ic pc ec : Nat) (w : World), RdS w ia s.items → RdE w ea es →
  Calls Tryz.prog 65 #[s.val ia ic pa pc, .slice ea es.length ec] w fun e w' => (∃ v, e = .returned (.tuple #[v, .int .i64 0]) ∧ ErrV s.kind v) ∧ Below w.heap.size w w'

set_option maxRecDepth 100000 in
set_option maxHeartbeats 2000000 in
theorem Make_13 (s : Sp) (hk : s.kind = 1 ∨ s.kind = 3) (hn : s.nl = false) (hc : checkE s = 0) (es : List Value) (hl : es.length = s.parts.length) : MakesE s es := by
  intro ia pa ea ic pc ec w hi he
  have b0 : Below w.heap.size w (w.alloc (.cells (s.val ia ic pa pc).cells 79)) := below_one _ _
  have kz : Blk (w.alloc (.cells (s.val ia ic pa pc).cells 79)) w.heap.size (s.val ia ic pa pc).cells 79 := Blk.new w _ 79
  have z0 : (w.alloc (.cells (s.val ia ic pa pc).cells 79)).heap.size = w.heap.size + 1 := by simp
  have C := Check_any s ia pa ic pc (w.alloc (.cells (s.val ia ic pa pc).cells 79)) (hi.below b0)
  have L := fun w => leaf_13 s hk ia pa ic pc w
  rw [hc] at C
  obtain ⟨k, nl, text, number, small, re, im, flag, mask, items, parts⟩ := s
  unfold Sp.val at *
  dsimp only at *
  rw [hl]
  subst hn
  generalize parts.length = np at *
  generalize items.length = ni at *
  have HC := Lib.hid C
  have HL := Lib.hid L
  clear C L hc hi he
  rcases hk with rfl | rfl
  · go_enter Tryz.func65, Tryz.ntmps65
    go_wp2_with (first
      | (refine wl79 rfl (.tmp 11) rfl w.heap.size rfl _ 79 kz rfl ?_)
      | (refine wl79 rfl (.tmp 2) rfl w.heap.size rfl _ 79 kz rfl ?_)
      | (refine wl79 rfl (.tmp 2) rfl w.heap.size rfl _ 79 kz1 rfl ?_)
      | (go_at_call 63; refine HC.out.mono ?_; rintro e w1 ⟨rfl, hb1⟩; have kz1 := kz.below hb1 (by omega); have hz1 := hb1.size; have q10 : w1.cell? ⟨w.heap.size, 10, none⟩ = some (.slice pa np pc) := kz1.cell 10; have q1 : w1.cell? ⟨w.heap.size, 1, none⟩ = some (.bool false) := kz1.cell 1; have q0 : w1.cell? ⟨w.heap.size, 0, none⟩ = some (.int .u8 1) := kz1.cell 0)
      | (go_at_call 118; refine (HL.out _).mono ?_; rintro e w2 ⟨⟨v, rfl, hv⟩, hb2⟩))
    go_ret2
    exact ⟨⟨v, rfl, hv⟩, (b0.trans (hb1.mono (by omega))).trans (hb2.mono (by omega))⟩
  · go_enter Tryz.func65, Tryz.ntmps65
    go_wp2_with (first
      | (refine wl79 rfl (.tmp 11) rfl w.heap.size rfl _ 79 kz rfl ?_)
      | (refine wl79 rfl (.tmp 2) rfl w.heap.size rfl _ 79 kz rfl ?_)
      | (refine wl79 rfl (.tmp 2) rfl w.heap.size rfl _ 79 kz1 rfl ?_)
      | (go_at_call 63; refine HC.out.mono ?_; rintro e w1 ⟨rfl, hb1⟩; have kz1 := kz.below hb1 (by omega); have hz1 := hb1.size; have q10 : w1.cell? ⟨w.heap.size, 10, none⟩ = some (.slice pa np pc) := kz1.cell 10; have q1 : w1.cell? ⟨w.heap.size, 1, none⟩ = some (.bool false) := kz1.cell 1; have q0 : w1.cell? ⟨w.heap.size, 0, none⟩ = some (.int .u8 3) := kz1.cell 0)
      | (go_at_call 118; refine (HL.out _).mono ?_; rintro e w2 ⟨⟨v, rfl, hv⟩, hb2⟩))
    go_ret2
    exact ⟨⟨v, rfl, hv⟩, (b0.trans (hb1.mono (by omega))).trans (hb2.mono (by omega))⟩
end Go.Proofs.YtihmlhjdlpjehaaGreatDoor
