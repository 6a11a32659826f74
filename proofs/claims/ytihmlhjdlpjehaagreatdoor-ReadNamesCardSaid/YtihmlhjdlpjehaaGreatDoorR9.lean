/- Package text: the iterator of Runes, at a text of plain bytes. -/
import Derived.RangeFuncNested
import Derived.RangeFuncBound
import Derived.RangeFuncCalls
import Derived.RangeFuncLeaves
import Derived.RangeFuncFrom
import Derived.RangeFuncBox
import Derived.Shelf.Abstract
import Derived.Shelf.RegionOpen
import Derived.WalkKit
import Derived.OwnWalkIn
import Derived.TacticsInMore
import Derived.LoopNIn
import Derived.LoopIn
import Derived.Lib.OthersKept
import Derived.Test.YtihmlhjdlpjehaaGreatDoorR8
import Derived.Test.YtihmlhjdlpjehaaGreatDoorR2
set_option linter.unusedVariables false
set_option linter.unusedSimpArgs false
namespace Go.Proofs.YtihmlhjdlpjehaaGreatDoor
open Go.RowKit Go.Shelf
attribute [local go_sem] Oper.semAt_some

/-- A plain byte (no sign of its own in quotes) at a place. -/
structure PC where
  i : Nat
  c : Nat
  h1 : 32 ≤ c
  h2 : c < 127
  h3 : c ≠ 92
  h4 : c ≠ 34
/-- What a round over a text keeps. -/
def KpR (Bn : Nat) (W W' : World) : Prop := KeepsWalks W W' ∧ W'.heap[Bn]? = W.heap[Bn]?
/-- A text's plain bytes, with their places. -/
def PlainL (s : ByteArray) (L : List PC) : Prop := L.length = s.size ∧ ∀ k (h : k < L.length) (h' : k < s.size), L[k].i = k ∧ L[k].c = (s[k]'h').toNat
theorem iterAt_grown (w : World) (k : Nat) (s : ByteArray) (p : Nat) : w.grownBy (w.iterAt k s p) (some k) :=
  ⟨rfl, rfl, rfl, by rw [Lib.iterAt_size]; exact Nat.le_refl _, fun j _ hj => Lib.iterAt_other w k j s p (fun e => hj (by rw [e]))⟩

set_option maxRecDepth 100000 in
set_option maxHeartbeats 2000000 in
theorem runes_in (n : Nat) (hn : 2 ≤ n) (l Bn : Nat) (s : ByteArray) (L : List PC) (hL : PlainL s L)  (J Jx : List PC → World → Prop) (W : World) (hJ : AbidesFrom W.heap.size J)
    (hY : ∀ pre x W1, J pre W1 → pre.length < L.length → YieldAt Fence.wide (n - 1) Tryz.prog l #[.int .i64 x.i, .int .i32 x.c] W1 fun e W' =>
      (e = .returned (.bool true) ∧ J (pre ++ [x]) W' ∧ KpR Bn W1 W') ∨ (e = .returned (.bool false) ∧ Jx (pre ++ [x]) W'))
    (hB : Bn < W.heap.size) (hBs : W.cell? ⟨Bn, 0, none⟩ = some (.string s)) (h0 : J [] W) :
    CallsIn Fence.wide n Tryz.prog 278 #[.func (.yield l) #[] #[], .pointer (some ⟨Bn, 0, none⟩)] W fun e W' => (∃ v, e = .returned v) ∧
      ((∃ ys, ys = L ∧ J ys W') ∨ (∃ pre, True ∧ Jx pre W')) := by
  have h1 : 1 ≤ n := by omega
  have h2 : 1 ≤ n - 1 := by omega
  refine callsIn_of_wp Tryz.func278 rfl trivial ?_ rfl
  simp only [Tryz.ntmps278, List.size_toArray, List.length_cons, List.length_nil, Nat.reduceAdd, Nat.reduceSub, Array.replicate_succ, Array.replicate_zero, List.push_toArray, List.append_toArray, List.nil_append, List.cons_append]
  gi_wp2
  have hLs := hL.1
  gi_loopw [] (fun wr => ∃ k : Nat, k ≤ L.length ∧ wr.heap[W.heap.size]? = some (.stringIter s k) ∧ J (L.take k) wr ∧ wr.heap[Bn]? = W.heap[Bn]?) (fun wr => s.size - wr.iterPos W.heap.size)
  case atStart =>
    exact ⟨0, Nat.zero_le _, World.iter_heap W s 0, hJ _ _ _ none h0 (World.grownBy_alloc W _ none) (fun r e => by cases e), Below.heap_alloc W _ Bn hB⟩
  case round =>
    obtain ⟨k, hk, hit, hJs, hbw⟩ := hrel
    have hpos0 := iterPos_of' hit
    by_cases hlt : k < L.length
    · have hks : k < s.size := by omega
      obtain ⟨hxi, hxc⟩ := hL.2 k hlt hks
      have hasc : (s[k]'hks).toNat < 128 := by have := L[k].h2; omega
      have hnx : ∀ ty, (Instr.next (.pointer (some ⟨W.heap.size, 0, none⟩)) true ty).run Tryz.prog wr = _ := fun ty => Lib.run_next_ascii_at wr W.heap.size s k ty hit hks hasc
      rw [← hxc] at hnx hasc
      have hit2 := Lib.iterAt_heap wr W.heap.size s k (k + 1) hit
      have hbw2 : (wr.iterAt W.heap.size s (k + 1)).heap[Bn]? = W.heap[Bn]? := (Lib.iterAt_other wr W.heap.size Bn s (k + 1) (by omega)).trans hbw
      have hJ2 : J (L.take k) (wr.iterAt W.heap.size s (k + 1)) := hJ _ _ _ (some W.heap.size) hJs (iterAt_grown _ _ _ _) (fun r e => by cases e; exact ⟨Nat.le_refl _, _, hit, rfl⟩)
      have htk : L.take (k + 1) = L.take k ++ [L[k]] := List.take_succ_eq_append_getElem hlt
      obtain ⟨W1, hW1⟩ : ∃ W1, W1 = wr.iterAt W.heap.size s (k + 1) := ⟨_, rfl⟩
      rw [← hW1] at hnx hit2 hbw2 hJ2
      obtain ⟨fn, tmps, assign, body, hy, hR⟩ := hY _ L[k] W1 hJ2 (by rw [List.length_take]; omega)
      rw [hxi] at hy
      have hb1 : W1.cell? ⟨Bn, 0, none⟩ = some (.string s) := (World.cell?_of_block (w := W) hbw2).trans hBs
      have HTK := Lib.hid htk
      clear hW1 hit hbw hJs htk hY hxi hxc
      generalize L[k].c = c at *
      have HB : ∀ m, CallsIn Fence.wide m Tryz.prog 279 #[.string s, .int .i64 k, .int .i32 c] W1 fun e w' => e = .returned (.bool false) ∧ w' = W1 := fun m => callsIn_wide.2 (broken_plain s k c W1 (by omega))
      gi_wp2_with (refine ⟨trivial, ?_⟩; gi_at_call 279; refine (HB _).mono ?_; clear HB; rintro e w2 ⟨rfl, rfl⟩)

      refine hR.mono ?_
      rintro e W3 (⟨rfl, hJ3, hk3, hb3⟩ | ⟨rfl, hJx3⟩)
      · gi_wp2
        go_roundw
        case rel => exact ⟨k + 1, by omega, hk3.same _ _ hit2 rfl, by rw [HTK.out]; exact hJ3, hb3.trans hbw2⟩
        case measure =>
          have := iterPos_of' (hk3.same _ _ hit2 rfl)
          omega
      · gi_wp2
        refine bodyPost_ret (results_none rfl _ _ _) rfl ?_
        exact ⟨⟨_, rfl⟩, .inr ⟨_, trivial, hJx3⟩⟩
    · have hnx : ∀ ty, (Instr.next (.pointer (some ⟨W.heap.size, 0, none⟩)) true ty).run Tryz.prog wr = _ := fun ty => Lib.run_next_end_at wr W.heap.size s k ty hit (by omega)
      rw [List.take_of_length_le (by omega)] at hJs
      gi_wp2
      go_end0
      exact ⟨⟨_, rfl⟩, .inl ⟨_, rfl, hJs⟩⟩
theorem runes_stops (n : Nat) (hn : 2 ≤ n) (Bn : Nat) (s : ByteArray) (L : List PC) (hL : PlainL s L)  (w : World) (hB : Bn < w.heap.size) (hBs : w.cell? ⟨Bn, 0, none⟩ = some (.string s)) :
    SeqStopsK Fence.wide n Tryz.prog 278 #[.pointer (some ⟨Bn, 0, none⟩)] (fun x : PC => #[.int .i64 x.i, .int .i32 x.c]) (KpR Bn) (fun xs => xs = L) (fun _ => True) L.length w :=
  fun l J Jx W hW hJ hJx hY h0 => runes_in n hn l Bn s L hL J Jx W hJ hY (Nat.lt_of_lt_of_le hB hW.size) ((hW.cell (p := ⟨Bn, 0, none⟩) hB).trans hBs) h0
theorem KpR_t {Bn : Nat} {A B C : World} (h : KpR Bn A B) (k : KpR Bn B C) : KpR Bn A C := ⟨h.1.trans k.1, k.2.trans h.2⟩
theorem KpR_b {Bn : Nat} {w : World} (hB : Bn < w.heap.size) (W : World) (l : Nat) (o o' : Obj) (hl : w.heap.size ≤ l) (h : W.heap[l]? = some o) (hc : o.isCells = false) (hw : o.isWalk = false) : KpR Bn W (W.putObj l o') :=
  ⟨KeepsWalks.putObj _ h hw, World.putObj_heap_other (by omega)⟩
end Go.Proofs.YtihmlhjdlpjehaaGreatDoor
