/- What a call leaves of the memory that lay when it began: all blocks but some are as they were (Turned); a block's whole contents (Blk). -/
import Derived.Test.YtihmlhjdlpjehaaGreatDoorBase
set_option linter.unusedVariables false
namespace Go.Proofs.YtihmlhjdlpjehaaGreatDoor
open Go.RowKit

/-- Below block number B, but for the blocks of S, the world w' is as w was. -/
structure Turned (B : Nat) (S : List Nat) (w w' : World) : Prop where
  os : w'.os = w.os
  tape : w'.tape = w.tape
  output : w'.output = w.output
  size : w.heap.size ≤ w'.heap.size
  block : ∀ k, k < B → k ∉ S → w'.heap[k]? = w.heap[k]?

theorem Turned.refl (B : Nat) (S : List Nat) (w : World) : Turned B S w w := ⟨rfl, rfl, rfl, Nat.le_refl _, fun _ _ _ => rfl⟩
theorem Turned.trans {B : Nat} {S : List Nat} {a b c : World} (h : Turned B S a b) (k : Turned B S b c) : Turned B S a c :=
  ⟨k.os.trans h.os, k.tape.trans h.tape, k.output.trans h.output, Nat.le_trans h.size k.size, fun i hi hs => (k.block i hi hs).trans (h.block i hi hs)⟩
theorem Turned.mono {B B' : Nat} {S S' : List Nat} {w w' : World} (h : Turned B S w w') (hB : B' ≤ B) (hS : ∀ k, k ∈ S → k < B' → k ∈ S') : Turned B' S' w w' :=
  ⟨h.os, h.tape, h.output, h.size, fun k hk hn => h.block k (by omega) (fun hm => hn (hS k hm hk))⟩
theorem Turned.of_below {B : Nat} {S : List Nat} {w w' : World} (h : Below B w w') : Turned B S w w' := ⟨h.os, h.tape, h.output, h.size, fun k hk _ => h.block k hk⟩
theorem Turned.below {B : Nat} {S : List Nat} {w w' : World} (h : Turned B S w w') (hS : ∀ k, k ∈ S → B ≤ k) : Below B w w' :=
  ⟨h.os, h.tape, h.output, h.size, fun k hk => h.block k hk (fun hm => by have := hS k hm; omega)⟩
theorem Turned.drew {B : Nat} {S : List Nat} {a w : World} (h : Turned B S a w) : Turned B S a w.drew := ⟨h.os, h.tape, h.output, h.size, h.block⟩
theorem Turned.drewN {B : Nat} {S : List Nat} {a w : World} (h : Turned B S a w) (n : Nat) : Turned B S a (w.drewN n) := ⟨h.os, h.tape, h.output, h.size, h.block⟩
theorem Turned.alloc {B : Nat} {S : List Nat} {a w : World} (h : Turned B S a w) (hB : B ≤ w.heap.size) (o : Obj) : Turned B S a (w.alloc o) :=
  h.trans ⟨rfl, rfl, rfl, by simp, fun k hk _ => Below.heap_alloc _ _ _ (by omega)⟩
theorem Turned.setCell {B : Nat} {S : List Nat} {a w : World} (h : Turned B S a w) {p : Addr} (hp : B ≤ p.block ∨ p.block ∈ S) (u : Value) : Turned B S a (w.setCell p u) :=
  h.trans ⟨rfl, rfl, rfl, by simp [World.setCell], fun k hk hn => Below.heap_setCell _ _ _ _ (fun e => by subst e; rcases hp with hp | hp <;> first | omega | exact hn hp)⟩
theorem Turned.grown {B : Nat} {S : List Nat} {a w w' : World} {row : Option Nat} (h : Turned B S a w) (hg : w.grownBy w' row) (hB : B ≤ w.heap.size) (hr : ∀ k, row = some k → B ≤ k ∨ k ∈ S) : Turned B S a w' :=
  h.trans ⟨hg.os, hg.tape, hg.output, hg.size, fun k hk hn => hg.block k (by omega) (fun e => by rcases hr k e.symm with h | h <;> first | omega | exact hn h)⟩
theorem Turned.cell {B : Nat} {S : List Nat} {w w' : World} (h : Turned B S w w') {p : Addr} (hp : p.block < B) (hn : p.block ∉ S) : w'.cell? p = w.cell? p := World.cell?_of_block (w := w) (h.block p.block hp hn)
theorem Turned.frozen {B : Nat} {S : List Nat} {w w' : World} (h : Turned B S w w') {p : Addr} (hp : p.block < B) (hn : p.block ∉ S) : w'.frozen? p = w.frozen? p := World.frozen?_of_block (w := w) (h.block p.block hp hn)
/-- One call's world behind another's. -/
theorem Turned.step {B : Nat} {S : List Nat} {w w1 w2 : World} (h : Turned B S w w1) (hB : B ≤ w1.heap.size) (k : Turned w1.heap.size S w1 w2) : Turned B S w w2 :=
  h.trans (k.mono hB fun _ hk _ => hk)

/-- A block of cells, whole, not frozen. -/
def Blk (w : World) (b : Nat) (cs : Array Value) (T : TypeId) : Prop := w.heap[b]? = some (.cells cs T (0, 0))
theorem Blk.lt {w : World} {b : Nat} {cs : Array Value} {T : TypeId} (h : Blk w b cs T) : b < w.heap.size := (Array.getElem?_eq_some_iff.1 h).1
theorem Blk.cell {w : World} {b : Nat} {cs : Array Value} {T : TypeId} (h : Blk w b cs T) (o : Nat) : w.cell? ⟨b, o, none⟩ = cs[o]? := by
  have h' : w.heap[b]? = some (.cells cs T (0, 0)) := h
  simp [World.cell?, h']
theorem Blk.frozen {w : World} {b : Nat} {cs : Array Value} {T : TypeId} (h : Blk w b cs T) (o : Nat) : w.frozen? ⟨b, o, none⟩ = false := by
  have h' : w.heap[b]? = some (.cells cs T (0, 0)) := h
  simp [World.frozen?, h']
theorem Blk.turned {w w' : World} {b B : Nat} {S : List Nat} {cs : Array Value} {T : TypeId} (h : Blk w b cs T) (t : Turned B S w w') (hb : b < B) (hn : b ∉ S) : Blk w' b cs T := (t.block b hb hn).trans h
theorem Blk.below {w w' : World} {b B : Nat} {cs : Array Value} {T : TypeId} (h : Blk w b cs T) (t : Below B w w') (hb : b < B) : Blk w' b cs T := (t.block b hb).trans h
theorem Blk.alloc {w : World} {b : Nat} {cs : Array Value} {T : TypeId} (h : Blk w b cs T) (o : Obj) : Blk (w.alloc o) b cs T := (Below.heap_alloc w o b h.lt).trans h
theorem Blk.drew {w : World} {b : Nat} {cs : Array Value} {T : TypeId} (h : Blk w b cs T) : Blk w.drew b cs T := h
theorem Blk.drewN {w : World} {b : Nat} {cs : Array Value} {T : TypeId} (h : Blk w b cs T) (n : Nat) : Blk (w.drewN n) b cs T := h
theorem Blk.new (w : World) (cs : Array Value) (T : TypeId) : Blk (w.alloc (.cells cs T)) w.heap.size cs T := heap_alloc_new w _
theorem Blk.store {w : World} {b : Nat} {cs : Array Value} {T : TypeId} (h : Blk w b cs T) (o : Nat) (u : Value) : Blk (w.setCell ⟨b, o, none⟩ u) b (cs.setIfInBounds o u) T := heap_setCell_same w b o cs T u h
theorem Blk.other {w : World} {b : Nat} {cs : Array Value} {T : TypeId} (h : Blk w b cs T) {p : Addr} (hp : b ≠ p.block) (u : Value) : Blk (w.setCell p u) b cs T := (Below.heap_setCell w p u b hp).trans h
theorem Blk.grown {w w' : World} {b : Nat} {cs : Array Value} {T : TypeId} {row : Option Nat} (h : Blk w b cs T) (hg : w.grownBy w' row) (hn : some b ≠ row) : Blk w' b cs T := (hg.block b h.lt hn).trans h
end Go.Proofs.YtihmlhjdlpjehaaGreatDoor
