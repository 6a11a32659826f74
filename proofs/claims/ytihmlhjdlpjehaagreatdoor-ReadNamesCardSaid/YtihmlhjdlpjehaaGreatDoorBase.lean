/- Words that the contracts of this claim share: how a spec, its texts and its parts read in memory. -/
import Derived.Test.YtihmlhjdlpjehaaGreatDoorProg
import Derived.WalkKit
import Derived.WalkSpells
import Derived.WalkLawsBesides
import Derived.OwnWalk
import Derived.Outline
import Derived.Below
import Derived.KernelRfl
import Derived.RegionTactic
import Derived.Deep.QuietTactic
import Derived.Deep.RegionWith
import Derived.BigQuiet
import Derived.Lib.Hide
import Derived.Deep.DeepMust
set_option linter.unusedVariables false
namespace Go.Proofs.YtihmlhjdlpjehaaGreatDoor
open Go.RowKit

/-- An api.Spec. -/
structure Sp where
  kind : Int
  nl : Bool
  text : ByteArray
  number : Int
  small : Int
  re : Nat
  im : Nat
  flag : Bool
  mask : Int
  items : List ByteArray
  parts : List Int

/-- Its fields lie in their types' ranges. -/
structure Sp.Ok (s : Sp) : Prop where
  k0 : 0 ≤ s.kind
  k1 : s.kind ≤ 255
  n0 : -32768 ≤ s.number
  n1 : s.number ≤ 32767
  s0 : -128 ≤ s.small
  s1 : s.small ≤ 127
  m0 : 0 ≤ s.mask
  m1 : s.mask ≤ 4294967295
  re : s.re < 2 ^ 64
  im : s.im < 2 ^ 64

/-- The value of a spec whose two slices lie where they lie. -/
abbrev Sp.val (s : Sp) (ia : Option Addr) (ic : Nat) (pa : Option Addr) (pc : Nat) : Value :=
  .agg #[.int .u8 s.kind, .bool s.nl, .string s.text, .int .i16 s.number, .int .i8 s.small, .float .f64 s.re, .float .f64 s.im, .bool s.flag, .int .u32 s.mask, .slice ia s.items.length ic, .slice pa s.parts.length pc]

/-- Texts that lie one behind the other. -/
def RdS (w : World) (a : Option Addr) (xs : List ByteArray) : Prop :=
  xs = [] ∨ ∃ b off, a = some ⟨b, off, none⟩ ∧ ∀ j, j < xs.length → w.cell? ⟨b, off + j, none⟩ = some (.string (xs.getD j ⟨#[]⟩))
/-- Whole numbers that lie one behind the other. -/
def RdI (w : World) (a : Option Addr) (xs : List Int) : Prop :=
  xs = [] ∨ ∃ b off, a = some ⟨b, off, none⟩ ∧ ∀ j, j < xs.length → w.cell? ⟨b, off + j, none⟩ = some (.int .i64 (xs.getD j 0))

theorem RdS.below {w w' : World} {a : Option Addr} {xs : List ByteArray} (h : RdS w a xs) (hb : Below w.heap.size w w') : RdS w' a xs := by
  rcases h with h | ⟨b, off, ha, hc⟩
  · exact Or.inl h
  · exact Or.inr ⟨b, off, ha, fun j hj => (hb.cell (p := ⟨b, off + j, none⟩) (World.block_lt_of_cell? _ _ (hc j hj))).trans (hc j hj)⟩
theorem RdI.below {w w' : World} {a : Option Addr} {xs : List Int} (h : RdI w a xs) (hb : Below w.heap.size w w') : RdI w' a xs := by
  rcases h with h | ⟨b, off, ha, hc⟩
  · exact Or.inl h
  · exact Or.inr ⟨b, off, ha, fun j hj => (hb.cell (p := ⟨b, off + j, none⟩) (World.block_lt_of_cell? _ _ (hc j hj))).trans (hc j hj)⟩

theorem below_one (w : World) (o : Obj) : Below w.heap.size w (w.alloc o) := (Below.refl _ _).alloc (Nat.le_refl _) _
theorem below_two (w : World) (o p : Obj) : Below w.heap.size w ((w.alloc o).alloc p) := ((Below.refl _ _).alloc (Nat.le_refl _) _).alloc (by simp) _
/-- One call's world behind another's. -/
theorem below_step {B : Nat} {w w1 w2 : World} (h : Below B w w1) (hB : B ≤ w1.heap.size) (k : Below w1.heap.size w1 w2) : Below B w w2 := h.trans (k.mono hB)

/-- Behind a call: the old cells and marks, as two rules. -/
theorem bcell {W w1 : World} (hb : Below W.heap.size W w1) : (∀ b o, b < W.heap.size → w1.cell? ⟨b, o, none⟩ = W.cell? ⟨b, o, none⟩) ∧ (∀ b o, b < W.heap.size → w1.frozen? ⟨b, o, none⟩ = W.frozen? ⟨b, o, none⟩) :=
  ⟨fun b o h => hb.cell (p := ⟨b, o, none⟩) h, fun b o h => hb.frozen (p := ⟨b, o, none⟩) h⟩
theorem ret_int {k : IntKind} {a b : Int} (h : a = b) : Ending.returned (.int k a) = .returned (.int k b) := by rw [h]
theorem ret_bool {a b : Bool} (h : a = b) : Ending.returned (.bool a) = .returned (.bool b) := by rw [h]

/- The three functions without a body that the road comes to. -/
theorem run_f64bits (b : Nat) (w : World) : Sem.run Tryz.prog (callFunc 161 #[.float .f64 b]) w = .ok (.value (.int .u64 b)) w := by kernel_rfl
theorem run_f64bits2 (b : Nat) (w : World) : Sem.run Tryz.prog (callFunc 287 #[.float .f64 b]) w = .ok (.value (.int .u64 b)) w := by kernel_rfl
theorem run_f64frombits (b : Nat) (w : World) : Sem.run Tryz.prog (callFunc 386 #[.int .u64 b]) w = .ok (.value (.float .f64 b)) w := by kernel_rfl

theorem cell_box1 (w : World) (v : Value) (T : TypeId) : (w.alloc (.cells #[v] T)).cell? ⟨w.heap.size, 0, none⟩ = some v := by
  go_simp
theorem cell_box2 (w : World) (o : Obj) (v : Value) (T : TypeId) : ((w.alloc o).alloc (.cells #[v] T)).cell? ⟨w.heap.size + 1, 0, none⟩ = some v := by
  go_simp
end Go.Proofs.YtihmlhjdlpjehaaGreatDoor
