/- fails at other functions; the deferred closure of Plan. -/
import Derived.Test.YtihmlhjdlpjehaaGreatDoorR2
import Derived.Test.YtihmlhjdlpjehaaGreatDoorR1
import Derived.Defers
import Derived.Recover
import Derived.WideLaws
import Derived.LaidEql
set_option linter.unusedVariables false
set_option linter.unusedSimpArgs false
namespace Go.Proofs.YtihmlhjdlpjehaaGreatDoor
open Go.RowKit

theorem asOdd (w : World) (v : Value) (t : TypeId) : (Instr.typeAssert (.iface 161 v) t 161 true).run Tryz.prog w = .ok (.tuple #[v, .bool true]) w := by kernel_rfl
theorem u20 : Tryz.prog.underlying 20 = some (.interface (Tryz.prog.methodsAt 20)) := by kernel_rfl
set_option maxRecDepth 100000 in
set_option maxHeartbeats 1000000 in
theorem catch_panicking (p q : Nat) (older : List PanicEntry) (w : World) (x y : Value) (hp : w.cell? ⟨p, 0, none⟩ = some x) (hq : w.cell? ⟨q, 0, none⟩ = some y) (fp : w.frozen? ⟨p, 0, none⟩ = false) (fq : w.frozen? ⟨q, 0, none⟩ = false) (hpq : p ≠ q) (lp : p < w.heap.size) (lq : q < w.heap.size) :
    CallsD Tryz.prog 81 #[.pointer (some ⟨p, 0, none⟩), .pointer (some ⟨q, 0, none⟩)] (.panicking ({ v := .iface 161 (.agg #[]), recovered := false } :: older)) w fun e u' w' =>
      e = .returned (.tuple #[]) ∧ u' = .panicking ({ v := .iface 161 (.agg #[]), recovered := true } :: older) ∧ w'.cell? ⟨p, 0, none⟩ = some (.slice none 0 0) ∧ w'.cell? ⟨q, 0, none⟩ = some (.int .i64 4) ∧ Turned w.heap.size [p, q] w w' := by
  have ho := fun w t => asOdd w (.agg #[]) t
  have hq0 := fun (w : World) (T : TypeId) (x : Value) => run_eql_held_nil (P := Tryz.prog) w 20 T x u20
  refine callsD_of_wpS Tryz.func81 rfl fun c₀ cs hu => ?_
  simp only [Tryz.ntmps81, List.size_toArray, List.length_cons, List.length_nil, Nat.reduceAdd, Nat.reduceSub, Array.replicate_succ, Array.replicate_zero, List.push_toArray, List.append_toArray, List.nil_append, List.cons_append]
  apply wpS_seq
  apply wpS_region
  simp [wpOpsS, go_sem, recoverD, hu, Exit.thenS]
  refine wpS_of_wp ?_
  go_wp2
  have hT : Turned w.heap.size [p, q] w (((w.setCell ⟨p, 0, none⟩ (.slice none 0 0)).setCell ⟨q, 0, none⟩ (.int .i64 4)).alloc (.cells #[] 161)) :=
    ((((Turned.refl _ _ w).setCell (p := ⟨p, 0, none⟩) (Or.inr (by simp)) _).setCell (p := ⟨q, 0, none⟩) (Or.inr (by simp)) _)).alloc (by simp) _
  have e1 : (((w.setCell ⟨p, 0, none⟩ (.slice none 0 0)).setCell ⟨q, 0, none⟩ (.int .i64 4)).alloc (.cells #[] 161)).cell? ⟨p, 0, none⟩ = some (.slice none 0 0) := by
    go_simp
  have e2 : (((w.setCell ⟨p, 0, none⟩ (.slice none 0 0)).setCell ⟨q, 0, none⟩ (.int .i64 4)).alloc (.cells #[] 161)).cell? ⟨q, 0, none⟩ = some (.int .i64 4) := by
    go_simp
  generalize ((w.setCell ⟨p, 0, none⟩ (.slice none 0 0)).setCell ⟨q, 0, none⟩ (.int .i64 4)).alloc (.cells #[] 161) = w9 at *
  simp [bodyPostS, results, Tryz.results81, e1, e2, hT]
theorem catch_idle (p q : Addr) (w : World) :
    CallsD Tryz.prog 81 #[.pointer (some p), .pointer (some q)] .returning w fun e u' w' => e = .returned (.tuple #[]) ∧ u' = .returning ∧ w' = w := by
  have hq0 := fun (w : World) => run_eql_nil_nil (P := Tryz.prog) w 20 u20
  refine callsD_of_wpS Tryz.func81 rfl fun c₀ cs hu => ?_
  simp only [Tryz.ntmps81, List.size_toArray, List.length_cons, List.length_nil, Nat.reduceAdd, Nat.reduceSub, Array.replicate_succ, Array.replicate_zero, List.push_toArray, List.append_toArray, List.nil_append, List.cons_append]
  apply wpS_seq
  apply wpS_region
  simp [wpOpsS, go_sem, recoverD, hu, Exit.thenS]
  refine wpS_of_wp ?_
  go_wp2
  cases c₀
  simp_all [bodyPostS, results, Tryz.results81]
end Go.Proofs.YtihmlhjdlpjehaaGreatDoor
