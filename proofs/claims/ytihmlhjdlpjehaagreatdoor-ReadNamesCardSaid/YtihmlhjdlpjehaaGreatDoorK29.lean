/- Package book: small words for Make's walk. Package read: makes, over a book that has nothing yet, given what book.Make does for each spec of the plan. -/
import Derived.Test.YtihmlhjdlpjehaaGreatDoorK11
import Derived.Test.YtihmlhjdlpjehaaGreatDoorT1
import Derived.OwnWalk
import Derived.Deep.MidRow
set_option linter.unusedVariables false
set_option linter.unusedSimpArgs false
namespace Go.Proofs.YtihmlhjdlpjehaaGreatDoor
open Go.RowKit

theorem run_stf (w : World) (a : Addr) (k : FloatKind) (x : Nat) (m : Mode) : (store a (.float k x) m).run Tryz.prog w = stored Tryz.prog w a (.float k x) m := run_store Tryz.prog w a _ m rfl
theorem RdI.at {w wr : World} {a : Option Addr} {xs : List Int} (h : RdI w a xs) (hb : Below w.heap.size w wr) (j : Nat) (hj : j < xs.length) : ∃ b off, a = some ⟨b, off, none⟩ ∧ wr.cell? ⟨b, off + j, none⟩ = some (.int .i64 (xs.getD j 0)) ∧ b < w.heap.size := by
  rcases h with h | ⟨b, off, ha, hc⟩
  · rw [h] at hj; simp at hj
  · have := hc j hj
    have hl := World.block_lt_of_cell? w _ this
    exact ⟨b, off, ha, (hb.cell (p := ⟨b, off + j, none⟩) hl).trans this, hl⟩
theorem RdS.at {w wr : World} {a : Option Addr} {xs : List ByteArray} (h : RdS w a xs) (hb : Below w.heap.size w wr) (j : Nat) (hj : j < xs.length) : ∃ b off, a = some ⟨b, off, none⟩ ∧ wr.cell? ⟨b, off + j, none⟩ = some (.string (xs.getD j ⟨#[]⟩)) ∧ b < w.heap.size := by
  rcases h with h | ⟨b, off, ha, hc⟩
  · rw [h] at hj; simp at hj
  · have := hc j hj
    have hl := World.block_lt_of_cell? w _ this
    exact ⟨b, off, ha, (hb.cell (p := ⟨b, off + j, none⟩) hl).trans this, hl⟩
theorem u140 : Tryz.prog.underlying 140 = some (.slice 137) := by kernel_rfl
theorem cells_of_oneCell {v : Value} (h : v.oneCell' = true) : v.cells = #[v] := by
  cases v <;> first | rfl | (simp [Value.oneCell'] at h)
theorem getD_mem {xs : List Int} {j : Nat} (hj : j < xs.length) : xs.getD j 0 ∈ xs := by simp [List.getD, hj]
end Go.Proofs.YtihmlhjdlpjehaaGreatDoor
namespace Go.Proofs.YtihmlhjdlpjehaaGreatDoor
open Go.RowKit

theorem run_make1 {P : Program} (w : World) (t e : TypeId) (i : TypeInfo) (z : Value) (h1 : P.underlying t = some (.slice e)) (h2 : P.info? e = some i) (h3 : i.zero = some z) (h4 : i.size = 1) (h5 : i.bytes = 8) (h6 : z.cells = #[z]) (base : Nat) (kl kc : IntKind) (c : Nat) (h63 : c ≤ 65536) (hbase : base ≤ w.heap.size) :
    ∃ w', (Instr.makeSlice t (.int kl 1) (.int kc ((c + 1 : Nat) : Int))).run P w = .ok (.slice (some ⟨w.heap.size, 0, none⟩) 1 (c + 1)) w' ∧
      w'.ownsRow base e 1 (.slice (some ⟨w.heap.size, 0, none⟩) 1 (c + 1)) 1 [z] ∧ w.grownBy w' none := by
  have hr := run_make (P := P) w t e i z h1 h2 h3 kl kc 1 ((c + 1 : Nat) : Int) (by decide) (by omega) (by rw [h5]; omega) (by omega)
  rw [h4] at hr
  simp only [Int.toNat_natCast, Nat.mul_one] at hr
  have h1 : Int.toNat 1 = 1 := rfl
  rw [h1] at hr
  refine ⟨_, hr, ⟨rfl, Or.inr ⟨w.heap.size, c + 1, madeCells z.cells (c + 1), rfl, hbase, heap_alloc_new w _, by omega, by unfold maxLen; omega, by rw [size_madeCells]; omega, ?_⟩⟩, World.grownBy_alloc w _ none⟩
  rw [h6, toList_madeCells_one]
  simp
theorem wpList_make_one {P : Program} (w : World) {ops : Array Oper} {rest : List Oper} {o : Oper} {a : Act} {Q : Exit → Act → World → Prop}
    (hg : o.guard = none) (l c : Operand) (t e : TypeId) (hop : o.op = Op.makeSlice t l c) (i : TypeInfo) (z : Value) (h1 : P.underlying t = some (.slice e)) (h2 : P.info? e = some i) (h3 : i.zero = some z) (h4 : i.size = 1) (h5 : i.bytes = 8) (h6 : z.cells = #[z]) (base : Nat) (kl kc : IntKind) (C : Int) (n : Nat) (hl : a.eval l = .int kl 1) (hc : a.eval c = .int kc C) (hC : C = ((n + 1 : Nat) : Int)) (b3 : n ≤ 65536) (b4 : base ≤ w.heap.size)
    (hK : ∀ w', w'.ownsRow base e 1 (.slice (some ⟨w.heap.size, 0, none⟩) 1 (n + 1)) 1 [z] → w.grownBy w' none → wpList P ops Q rest (a.put o.dst (.slice (some ⟨w.heap.size, 0, none⟩) 1 (n + 1))) w') :
    wpList P ops Q (o :: rest) a w := by
  refine wpList_plain hg fun K hK' => ?_
  obtain ⟨w', hrun, r1, r2⟩ := run_make1 (P := P) w t e i z h1 h2 h3 h4 h5 h6 base kl kc n b3 b4
  subst hC
  unfold Oper.wp
  simp [-Int.natCast_add, execOp, hop, hl, hc, hrun, Result.andThen]
  exact hK' _ _ (hK w' r1 r2)

/-- A plan in memory: the specs one behind the other, their texts and parts outside some blocks. -/
def PlanAt (w : World) (pb : Nat) (S : List Nat) (ss : List Sp) : Prop := ∀ i (hi : i < ss.length), ∃ ia ic pa pc, w.rangeAt pb (i * 11) (ss[i].val ia ic pa pc).cells.toList ∧ RdS w ia ss[i].items ∧ RdI w pa ss[i].parts ∧
  (ss[i].items ≠ [] → ∀ x, ia = some x → x.block ∉ S) ∧ (ss[i].parts ≠ [] → ∀ x, pa = some x → x.block ∉ S)
theorem World.rangeAt.lt {w : World} {b o : Nat} {v : Value} {cs : List Value} (h : w.rangeAt b o (v :: cs)) : b < w.heap.size := World.block_lt_of_cell? w _ (h 0 v rfl)
theorem rangeAt_turned {w w' : World} {b o : Nat} {cs : List Value} {S : List Nat} (h : w.rangeAt b o cs) (t : Turned w.heap.size S w w') (hb : b ∉ S) : w'.rangeAt b o cs := fun j v hj => (t.cell (p := ⟨b, o + j, none⟩) (World.block_lt_of_cell? w _ (h j v hj)) hb).trans (h j v hj)
theorem PlanAt.turned {w w' : World} {pb : Nat} {S : List Nat} {ss : List Sp} (h : PlanAt w pb S ss) (t : Turned w.heap.size S w w') (hb : pb ∉ S) : PlanAt w' pb S ss := fun i hi => by
  obtain ⟨ia, ic, pa, pc, h1, h2, h3, h4, h5⟩ := h i hi
  exact ⟨ia, ic, pa, pc, rangeAt_turned h1 t hb, h2.turn t h4, h3.turn t h5, h4, h5⟩
theorem PlanAt.below {w w' : World} {pb : Nat} {S : List Nat} {ss : List Sp} (h : PlanAt w pb S ss) (t : Below w.heap.size w w') : PlanAt w' pb S ss := fun i hi => by
  obtain ⟨ia, ic, pa, pc, h1, h2, h3, h4, h5⟩ := h i hi
  exact ⟨ia, ic, pa, pc, rangeAt_turned (S := []) h1 (Turned.of_below t) (by simp), h2.below t, h3.below t, h4, h5⟩
/-- The handles 0 .. m - 1. -/
def hnd (m : Nat) : List Value := (List.range m).map fun (k : Nat) => Value.int .i64 (k : Int)
theorem hnd_len (m : Nat) : (hnd m).length = m := by simp [hnd]
theorem hnd_at (m k : Nat) (h : k < m) : (hnd m)[k]? = some (.int .i64 (k : Int)) := by simp [hnd, h]
theorem hnd_succ (m : Nat) : hnd (m + 1) = hnd m ++ [.int .i64 (m : Int)] := by simp [hnd, List.range_succ]
/-- What book.Make leaves where it makes s. -/
def Made (bb : Nat) (s : Sp) (v : Value) (rows : List Rw) (Q : List Rw → Prop) (w w' : World) : Prop := ∃ v' r, r.sp = s ∧ BookV w' bb v' (rows ++ [r]) ∧ Q (rows ++ [r]) ∧
  RdS w' r.ia s.items ∧ RdI w' r.pa s.parts ∧ NewA w.heap.size r.ia ∧ NewA w.heap.size r.pa ∧ (s.items ≠ [] → ∀ x g, r.ia = some x → v'.ownBlock = some g → x.block ≠ g) ∧ (s.parts ≠ [] → ∀ x g, r.pa = some x → v'.ownBlock = some g → x.block ≠ g) ∧
  (v'.ownBlock = v.ownBlock ∨ ∀ g, v'.ownBlock = some g → w.heap.size ≤ g) ∧ Turned w.heap.size (bb :: v.ownBlock.toList) w w'

theorem RowsRd.snoc {w w' : World} {rows : List Rw} {S : List Nat} {bb : Nat} {s : Sp} {v : Value} {r : Rw} {v' : Value} (h : RowsRd w rows (S ++ bb :: v.ownBlock.toList)) (hr : r.sp = s) (hS : ∀ k ∈ S, k < w.heap.size) (hbb : bb < w.heap.size)
    (h1 : RdS w' r.ia s.items) (h2 : RdI w' r.pa s.parts) (n1 : NewA w.heap.size r.ia) (n2 : NewA w.heap.size r.pa) (e1 : s.items ≠ [] → ∀ x g, r.ia = some x → v'.ownBlock = some g → x.block ≠ g) (e2 : s.parts ≠ [] → ∀ x g, r.pa = some x → v'.ownBlock = some g → x.block ≠ g)
    (ho : v'.ownBlock = v.ownBlock ∨ ∀ g, v'.ownBlock = some g → w.heap.size ≤ g) (t : Turned w.heap.size (bb :: v.ownBlock.toList) w w') (b1 : s.items.length ≤ 65536) (b2 : s.parts.length ≤ 65536) : RowsRd w' (rows ++ [r]) (S ++ bb :: v'.ownBlock.toList) := by
  intro q hq
  rcases List.mem_append.1 hq with hq | hq
  · obtain ⟨a1, a2, a3, a4, a5, a6⟩ := h q hq
    have c1 : ∀ {x : Addr}, x.block ∉ S ++ bb :: v.ownBlock.toList → x.block < w.heap.size → x.block ∉ S ++ bb :: v'.ownBlock.toList := by
      intro x hx hlt hm
      simp only [List.mem_append, List.mem_cons, Option.mem_toList] at hx hm
      rcases hm with hm | hm | hm
      · exact hx (Or.inl hm)
      · exact hx (Or.inr (Or.inl hm))
      · rcases ho with ho | ho
        · rw [ho] at hm; exact hx (Or.inr (Or.inr hm))
        · have := ho _ hm; omega
    have t' : Turned w.heap.size (S ++ bb :: v.ownBlock.toList) w w' := t.mono (Nat.le_refl _) (fun k hk _ => by simp at hk ⊢; exact Or.inr hk)
    exact ⟨a1.turn t' a3, a2.turn t' a4, fun e x hx => c1 (a3 e x hx) (a1.lt e x hx), fun e x hx => c1 (a4 e x hx) (a2.lt e x hx), a5, a6⟩
  · simp only [List.mem_singleton] at hq
    subst hq
    rw [hr]
    refine ⟨h1, h2, fun e x hx hm => ?_, fun e x hx hm => ?_, b1, b2⟩
    · have := n1 x hx
      simp only [List.mem_append, List.mem_cons, Option.mem_toList] at hm
      rcases hm with hm | hm | hm
      · have := hS _ hm; omega
      · omega
      · exact e1 e x _ hx hm rfl
    · have := n2 x hx
      simp only [List.mem_append, List.mem_cons, Option.mem_toList] at hm
      rcases hm with hm | hm | hm
      · have := hS _ hm; omega
      · omega
      · exact e2 e x _ hx hm rfl
end Go.Proofs.YtihmlhjdlpjehaaGreatDoor
