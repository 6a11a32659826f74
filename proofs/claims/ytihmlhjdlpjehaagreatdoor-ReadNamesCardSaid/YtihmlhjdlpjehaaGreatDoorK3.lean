/- Package kinds: pointer, part, none, around, teller: which type the error of a spec has. -/
import Derived.Test.YtihmlhjdlpjehaaGreatDoorK1
import Derived.WideLaws
import Derived.LaidEql
set_option linter.unusedVariables false
set_option linter.unusedSimpArgs false
namespace Go.Proofs.YtihmlhjdlpjehaaGreatDoor
open Go.RowKit

theorem u137 : Tryz.prog.underlying 137 = some (.interface (Tryz.prog.methodsAt 137)) := by kernel_rfl

/-- An error of a kind: of the two types that a later Make asks for it is just where the kind says so. -/
def ErrV (kind : Int) (v : Value) : Prop := ∃ T x, v = .iface T x ∧ (T = 201 → kind = 9 ∧ ∃ a, x = .pointer a) ∧ (T = 209 → kind = 14 ∧ ∃ a, x = .pointer a) ∧ (kind = 9 → T = 201) ∧ (kind = 14 → T = 209)


theorem asP_yes (w : World) (v : Value) (t : TypeId) : (Instr.typeAssert (.iface 201 v) t 201 true).run Tryz.prog w = .ok (.tuple #[v, .bool true]) w := by kernel_rfl
theorem asW_yes (w : World) (v : Value) (t : TypeId) : (Instr.typeAssert (.iface 209 v) t 209 true).run Tryz.prog w = .ok (.tuple #[v, .bool true]) w := by kernel_rfl
theorem asP_no (w : World) (u : TypeId) (v : Value) (t : TypeId) (h : ¬ u = 201) : (Instr.typeAssert (.iface u v) t 201 true).run Tryz.prog w = .ok (.tuple #[.pointer none, .bool false]) w := by
  have e : (Instr.typeAssert (.iface u v) t 201 true).run Tryz.prog w = (if u = 201 then (pure (Value.tuple #[v, .bool true]) : Sem Value) else (do pure (Value.tuple #[← zeroValue 201, .bool false]))).run Tryz.prog w := by kernel_rfl
  rw [e, if_neg h]
  refine Eq.trans (b := (do pure (Value.tuple #[← zeroValue 201, .bool false]) : Sem Value).run Tryz.prog w) rfl ?_
  kernel_rfl
theorem asW_no (w : World) (u : TypeId) (v : Value) (t : TypeId) (h : ¬ u = 209) : (Instr.typeAssert (.iface u v) t 209 true).run Tryz.prog w = .ok (.tuple #[.pointer none, .bool false]) w := by
  have e : (Instr.typeAssert (.iface u v) t 209 true).run Tryz.prog w = (if u = 209 then (pure (Value.tuple #[v, .bool true]) : Sem Value) else (do pure (Value.tuple #[← zeroValue 209, .bool false]))).run Tryz.prog w := by kernel_rfl
  rw [e, if_neg h]
  refine Eq.trans (b := (do pure (Value.tuple #[← zeroValue 209, .bool false]) : Sem Value).run Tryz.prog w) rfl ?_
  kernel_rfl

set_option maxRecDepth 100000 in
theorem pointerP_nil (w : World) : Calls Tryz.prog 113 #[.nilIface] w fun e w' => e = .returned (.tuple #[.pointer none, .bool true]) ∧ w = w' := by
  have hq := fun (w : World) (T : TypeId) (x : Value) => run_eql_held_nil (P := Tryz.prog) w 137 T x u137
  have hq0 := fun (w : World) => run_eql_nil_nil (P := Tryz.prog) w 137 u137
  go_enter Tryz.func113, Tryz.ntmps113
  go_wp2
  go_ret2; exact ⟨rfl, rfl⟩
set_option maxRecDepth 100000 in
theorem pointerP_yes (a : Option Addr) (w : World) : Calls Tryz.prog 113 #[.iface 201 (.pointer a)] w fun e w' => e = .returned (.tuple #[.pointer a, .bool true]) ∧ w = w' := by
  have hq := fun (w : World) (T : TypeId) (x : Value) => run_eql_held_nil (P := Tryz.prog) w 137 T x u137
  have hq0 := fun (w : World) => run_eql_nil_nil (P := Tryz.prog) w 137 u137
  have ha := fun w v t => asP_yes w v t
  go_enter Tryz.func113, Tryz.ntmps113
  go_wp2
  go_ret2; exact ⟨rfl, rfl⟩
set_option maxRecDepth 100000 in
theorem pointerP_no (T : TypeId) (x : Value) (hT : ¬ T = 201) (w : World) : Calls Tryz.prog 113 #[.iface T x] w fun e w' => e = .returned (.tuple #[.pointer none, .bool false]) ∧ w = w' := by
  have h1 : (T == 201) = false := by simpa using hT
  have hq := fun (w : World) (T : TypeId) (x : Value) => run_eql_held_nil (P := Tryz.prog) w 137 T x u137
  have hq0 := fun (w : World) => run_eql_nil_nil (P := Tryz.prog) w 137 u137
  have ha := fun w t => asP_no w T x t hT
  go_enter Tryz.func113, Tryz.ntmps113
  go_wp2
  go_ret2; exact ⟨rfl, rfl⟩
set_option maxRecDepth 100000 in
theorem pointerW_nil (w : World) : Calls Tryz.prog 115 #[.nilIface] w fun e w' => e = .returned (.tuple #[.pointer none, .bool true]) ∧ w = w' := by
  have hq := fun (w : World) (T : TypeId) (x : Value) => run_eql_held_nil (P := Tryz.prog) w 137 T x u137
  have hq0 := fun (w : World) => run_eql_nil_nil (P := Tryz.prog) w 137 u137
  go_enter Tryz.func115, Tryz.ntmps115
  go_wp2
  go_ret2; exact ⟨rfl, rfl⟩
set_option maxRecDepth 100000 in
theorem pointerW_yes (a : Option Addr) (w : World) : Calls Tryz.prog 115 #[.iface 209 (.pointer a)] w fun e w' => e = .returned (.tuple #[.pointer a, .bool true]) ∧ w = w' := by
  have hq := fun (w : World) (T : TypeId) (x : Value) => run_eql_held_nil (P := Tryz.prog) w 137 T x u137
  have hq0 := fun (w : World) => run_eql_nil_nil (P := Tryz.prog) w 137 u137
  have ha := fun w v t => asW_yes w v t
  go_enter Tryz.func115, Tryz.ntmps115
  go_wp2
  go_ret2; exact ⟨rfl, rfl⟩
set_option maxRecDepth 100000 in
theorem pointerW_no (T : TypeId) (x : Value) (hT : ¬ T = 209) (w : World) : Calls Tryz.prog 115 #[.iface T x] w fun e w' => e = .returned (.tuple #[.pointer none, .bool false]) ∧ w = w' := by
  have h1 : (T == 209) = false := by simpa using hT
  have hq := fun (w : World) (T : TypeId) (x : Value) => run_eql_held_nil (P := Tryz.prog) w 137 T x u137
  have hq0 := fun (w : World) => run_eql_nil_nil (P := Tryz.prog) w 137 u137
  have ha := fun w t => asW_no w T x t hT
  go_enter Tryz.func115, Tryz.ntmps115
  go_wp2
  go_ret2; exact ⟨rfl, rfl⟩

set_option maxRecDepth 100000 in
theorem part_none (a : Option Addr) (c : Nat) (w : World) : Calls Tryz.prog 114 #[.slice a 0 c] w fun e w' => e = .returned .nilIface ∧ w = w' := by
  go_enter Tryz.func114, Tryz.ntmps114
  go_wp2
  go_ret; exact ⟨rfl, rfl⟩
set_option maxRecDepth 100000 in
theorem part_some (b off n c : Nat) (v : Value) (w : World) (h : w.cell? ⟨b, off, none⟩ = some v) : Calls Tryz.prog 114 #[.slice (some ⟨b, off, none⟩) (n + 1) c] w fun e w' => e = .returned v ∧ w = w' := by
  have hn : ((n : Int) + 1 == 0) = false := by simp; omega
  go_enter Tryz.func114, Tryz.ntmps114
  go_wp2
  go_ret; exact ⟨rfl, rfl⟩

set_option maxRecDepth 100000 in
set_option maxHeartbeats 1000000 in
theorem none_any (s : Sp) (ia pa : Option Addr) (ic pc : Nat) (w : World) :
    Calls Tryz.prog 112 #[s.val ia ic pa pc] w fun e w' => (∃ v, e = .returned v ∧ ErrV s.kind v) ∧ Below w.heap.size w w' := by
  obtain ⟨k, nl, text, number, small, re, im, flag, mask, items, parts⟩ := s
  unfold Sp.val
  dsimp only
  go_enter Tryz.func112, Tryz.ntmps112
  go_wp2
  all_goals (go_ret; refine ⟨⟨_, rfl, ?_⟩, below_one _ _⟩; simp_all [ErrV])
  · exact ⟨_, _, ⟨rfl, rfl⟩, fun _ => ⟨_, rfl⟩, by decide, rfl⟩
  · exact ⟨_, _, ⟨rfl, rfl⟩, by decide, fun _ => ⟨_, rfl⟩, rfl⟩
/-- An error, or none. -/
inductive ErrN : Value → Prop
  | nil : ErrN .nilIface
  | one (T : TypeId) (x : Value) : ErrN (.iface T x)
set_option maxRecDepth 100000 in
set_option maxHeartbeats 1000000 in
theorem around_any (s : Sp) (x : Value) (hx : ErrN x) (ia pa : Option Addr) (ic pc : Nat) (w : World) (hk : s.kind = 13 ∨ s.kind = 14 ∨ s.kind = 15 ∨ s.kind = 17 ∨ s.kind = 20) :
    Calls Tryz.prog 116 #[s.val ia ic pa pc, x] w fun e w' => (∃ v, e = .returned v ∧ ErrV s.kind v) ∧ Below w.heap.size w w' := by
  obtain ⟨k, nl, text, number, small, re, im, flag, mask, items, parts⟩ := s
  unfold Sp.val
  dsimp only at hk ⊢
  have Hk := Lib.hid hk
  clear hk
  cases hx
  all_goals
    go_enter Tryz.func116, Tryz.ntmps116
    go_wp2
    all_goals (go_ret; have hk := Hk.out; refine ⟨⟨_, rfl, ?_⟩, ?_⟩)
    all_goals (try first | exact below_one _ _ | exact below_two _ _ _)
    all_goals (simp_all [ErrV])
    all_goals exact ⟨_, _, ⟨rfl, rfl⟩, by decide, fun _ => ⟨_, rfl⟩, rfl⟩
set_option maxRecDepth 100000 in
set_option maxHeartbeats 1000000 in
theorem teller_any (s : Sp) (ia pa : Option Addr) (ic pc : Nat) (w : World) :
    Calls Tryz.prog 162 #[s.val ia ic pa pc] w fun e w' => (∃ v, e = .returned v) ∧ Below w.heap.size w w' := by
  obtain ⟨k, nl, text, number, small, re, im, flag, mask, items, parts⟩ := s
  unfold Sp.val
  dsimp only
  go_enter Tryz.func162, Tryz.ntmps162
  go_wp2
  all_goals (go_ret; exact ⟨⟨_, rfl⟩, below_one _ _⟩)
end Go.Proofs.YtihmlhjdlpjehaaGreatDoor
