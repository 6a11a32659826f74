/- The reader: has, takes. -/
import Derived.Test.YtihmlhjdlpjehaaGreatDoorR1
import Derived.Test.YtihmlhjdlpjehaaGreatDoorShelf
set_option linter.unusedVariables false
set_option linter.unusedSimpArgs false
namespace Go.Proofs.YtihmlhjdlpjehaaGreatDoor
open Go.RowKit

def preB (s p : ByteArray) : Bool := Lib.hasPrefix s.data.toList p.data.toList
def dropS (s p : ByteArray) : ByteArray := ⟨(Lib.trimPrefix s.data.toList p.data.toList).toArray⟩
/-- The reader's two cells. -/
abbrev RB (w : World) (rb : Nat) (s : ByteArray) (pv : Value) : Prop := Blk w rb #[.string s, pv] 165
/-- The world behind a text taken. -/
abbrev rset (w : World) (rb : Nat) (s : ByteArray) : World := w.setCell ⟨rb, 0, none⟩ (.string s)
theorem RB.set {w : World} {rb : Nat} {s : ByteArray} {pv : Value} (h : RB w rb s pv) (s' : ByteArray) : RB (rset w rb s') rb s' pv := by simpa using h.store 0 (.string s')
theorem rset_turned (w : World) (rb : Nat) (s : ByteArray) : Turned w.heap.size [rb] w (rset w rb s) := (Turned.refl _ _ w).setCell (p := ⟨rb, 0, none⟩) (Or.inr (by simp)) _

theorem cut_eq (s p : ByteArray) (w : World) : Calls Tryz.prog 79 #[.string s, .string p] w fun e w' => e = .returned (.tuple #[.string (dropS s p), .bool (preB s p)]) ∧ w' = w := Tryz.strings_CutPrefix s p w

set_option maxRecDepth 100000 in
theorem has_yes (s p : ByteArray) (pv : Value) (rb : Nat) (w : World) (hr : RB w rb s pv) (h : preB s p = true) :
    Calls Tryz.prog 139 #[.pointer (some ⟨rb, 0, none⟩), .string p] w fun e w' => e = .returned (.bool true) ∧ w' = rset w rb (dropS s p) := by
  have hc0 : w.cell? ⟨rb, 0, none⟩ = some (.string s) := hr.cell 0
  have hf0 : w.frozen? ⟨rb, 0, none⟩ = false := hr.frozen 0
  have C := cut_eq s p w
  rw [h] at C
  go_enter Tryz.func139, Tryz.ntmps139
  go_wp2_with (go_at_call 79; refine C.mono ?_; rintro e w1 ⟨rfl, rfl⟩)
  go_ret; exact ⟨rfl, rfl⟩
set_option maxRecDepth 100000 in
theorem has_no (s p : ByteArray) (pv : Value) (rb : Nat) (w : World) (hr : RB w rb s pv) (h : preB s p = false) :
    Calls Tryz.prog 139 #[.pointer (some ⟨rb, 0, none⟩), .string p] w fun e w' => e = .returned (.bool false) ∧ w' = w := by
  have hc0 : w.cell? ⟨rb, 0, none⟩ = some (.string s) := hr.cell 0
  have hf0 : w.frozen? ⟨rb, 0, none⟩ = false := hr.frozen 0
  have C := cut_eq s p w
  rw [h] at C
  go_enter Tryz.func139, Tryz.ntmps139
  go_wp2_with (go_at_call 79; refine C.mono ?_; rintro e w1 ⟨rfl, rfl⟩)
  go_ret; exact ⟨rfl, rfl⟩
set_option maxRecDepth 100000 in
theorem takes_yes (s p : ByteArray) (pv : Value) (rb : Nat) (w : World) (hr : RB w rb s pv) (h : preB s p = true) :
    Calls Tryz.prog 140 #[.pointer (some ⟨rb, 0, none⟩), .string p] w fun e w' => e = .returned (.tuple #[]) ∧ w' = rset w rb (dropS s p) := by
  have C := has_yes s p pv rb w hr h
  go_enter Tryz.func140, Tryz.ntmps140
  go_wp2_with (go_at_call 139; refine C.mono ?_; rintro e w1 ⟨rfl, rfl⟩)
  go_end0; exact ⟨rfl, rfl⟩
set_option maxRecDepth 100000 in
theorem takes_no (s p : ByteArray) (pv : Value) (rb : Nat) (w : World) (hr : RB w rb s pv) (h : preB s p = false) :
    Calls Tryz.prog 140 #[.pointer (some ⟨rb, 0, none⟩), .string p] w fun e w' => e = .panicked [{ v := .iface 161 (.agg #[]), recovered := false }] ∧ w' = w := by
  have C := has_no s p pv rb w hr h
  have D := fun w => fails_any (.pointer (some ⟨rb, 0, none⟩)) w
  go_enter Tryz.func140, Tryz.ntmps140
  go_wp2_with (first | (go_at_call 139; refine C.mono ?_; rintro e w1 ⟨rfl, rfl⟩) | (go_at_call 83; refine (D _).mono ?_; rintro e w1 ⟨rfl, rfl⟩))
  exact ⟨rfl, rfl, rfl⟩
end Go.Proofs.YtihmlhjdlpjehaaGreatDoor
