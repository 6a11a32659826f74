/- A struct that fills a block, loaded and stored as a whole. A book's row that fills a block, loaded and stored as a whole. Loads and stores of a whole struct or array, of whatever type. -/
import Derived.Test.YtihmlhjdlpjehaaGreatDoorT0
import Derived.Deep.MidRow
import Derived.Laws.Tables
import Derived.Laws.Rows
set_option linter.unusedVariables false
namespace Go.Proofs.YtihmlhjdlpjehaaGreatDoor
open Go.RowKit

theorem i79 : (Tryz.prog.info? 79).map (·.size) = some 11 := by kernel_rfl
theorem i139 : (Tryz.prog.info? 139).map (·.size) = some 16 := by kernel_rfl
def rowB (d : TypeDesc) : Bool := match d with | .struct _ | .array _ _ => true | _ => false
theorem row_of {o : Option TypeDesc} (h : (match o with | some d => d.isRow && rowB d | none => false) = true) : ∃ d, o = some d ∧ d.isRow = true ∧ rowB d = true := by
  cases o with
  | none => cases h
  | some d => exact ⟨d, rfl, by simpa using (Bool.and_eq_true_iff.1 h).1, (Bool.and_eq_true_iff.1 h).2⟩
theorem u79 : ∃ d, Tryz.prog.underlying 79 = some d ∧ d.isRow = true ∧ rowB d = true := row_of (by kernel_rfl)
theorem u139 : ∃ d, Tryz.prog.underlying 139 = some d ∧ d.isRow = true ∧ rowB d = true := row_of (by kernel_rfl)

/-- A spec is loaded out of a block of its own. -/
theorem wl79 {ops : Array Oper} {rest : List Oper} {o : Oper} {a : Act} {w : World} {Q : Exit → Act → World → Prop} (hgd : o.guard = none) (x : Operand) (ho : o.op = .load 79 x) (b : Nat) (hx : a.eval x = .pointer (some ⟨b, 0, none⟩)) (cs : Array Value) (T : TypeId) (hb : Blk w b cs T) (hs : cs.size = 11)
    (h : wpList Tryz.prog ops Q rest (a.put o.dst (.agg cs)) w) : wpList Tryz.prog ops Q (o :: rest) a w := by
  obtain ⟨d, h1, h2, h3⟩ := u79
  exact wpList_load_row hgd 79 x ho b hx T cs (0, 0) d hb h1 (by cases d <;> simp_all [rowB]) (by rw [i79, hs]) h
/-- A spec is stored into a block of its own. -/
theorem ws79 {ops : Array Oper} {rest : List Oper} {o : Oper} {a : Act} {w : World} {Q : Exit → Act → World → Prop} (hgd : o.guard = none) (x y : Operand) (ho : o.op = .store 79 x y) (b : Nat) (cells : Array Value) (hx : a.eval x = .pointer (some ⟨b, 0, none⟩)) (hy : a.eval y = .agg cells) (old : Array Value) (T : TypeId) (hb : Blk w b old T) (hs : cells.size = 11) (hso : old.size = 11) (h1 : cells.toList.all (·.oneCell') = true)
    (h : ∀ w', Blk w' b cells T → Turned w.heap.size [b] w w' → w'.heap.size = w.heap.size → wpList Tryz.prog ops Q rest (a.put o.dst undef) w') : wpList Tryz.prog ops Q (o :: rest) a w :=
  wpList_store_row hgd 79 x y ho b cells hx hy T old hb (by rw [i79, hs]) (by omega) (by rw [← Array.all_toList]; exact h1) (h _ (setRow_heap w b old cells T (0, 0) hb) ⟨rfl, rfl, rfl, by simp [World.setRow], fun k _ hk => setRow_other w b k cells (fun e => hk (by simp [e]))⟩ (by simp [World.setRow]))
/-- A spec is loaded out of the middle of a block. -/
theorem wl79m {ops : Array Oper} {rest : List Oper} {o : Oper} {a : Act} {w : World} {Q : Exit → Act → World → Prop} (hgd : o.guard = none) (x : Operand) (ho : o.op = .load 79 x) (b off : Nat) (hx : a.eval x = .pointer (some ⟨b, off, none⟩)) (cs : List Value) (hc : w.rangeAt b off cs) (hs : cs.length = 11)
    (h : wpList Tryz.prog ops Q rest (a.put o.dst (.agg cs.toArray)) w) : wpList Tryz.prog ops Q (o :: rest) a w := by
  obtain ⟨d, h1, h2, h3⟩ := u79
  exact wpList_load_mid hgd 79 x ho b off hx cs d hc h1 h2 (by rw [i79, hs]) h
/-- The one result, a spec in a block of its own, is read at the return. -/
theorem ret79 {fn : Func} {p : Tmp} (h : fn.results = #[.cell p 79]) (tmps : Array Value) (w : World) (b : Nat) (cs : Array Value) (T : TypeId) (hp : tmps.getD p undef = .pointer (some ⟨b, 0, none⟩)) (hb : Blk w b cs T) (hs : cs.size = 11) : (results fn tmps).run Tryz.prog w = .ok (.agg cs) w := by
  obtain ⟨d, h1, h2, h3⟩ := u79
  exact results_cell_row (P := Tryz.prog) h tmps w b T cs (0, 0) d hp hb h1 (by cases d <;> simp_all [rowB]) (by rw [i79, hs])
/-- .. with a second result in a slot. -/
theorem ret79b {fn : Func} {p q : Tmp} (h : fn.results = #[.cell p 79, .tmp q]) (tmps : Array Value) (w : World) (b : Nat) (cs : Array Value) (T : TypeId) (hp : tmps.getD p undef = .pointer (some ⟨b, 0, none⟩)) (hb : Blk w b cs T) (hs : cs.size = 11) : (results fn tmps).run Tryz.prog w = .ok (.tuple #[.agg cs, tmps.getD q undef]) w := by
  obtain ⟨d, h1, h2, h3⟩ := u79
  have hp' : tmps[p]?.getD undef = .pointer (some ⟨b, 0, none⟩) := by simpa using hp
  simp [results, h, hp', asAddr, run_loadVar_row w b T 79 cs (0, 0) d hb h1 (by cases d <;> simp_all [rowB]) (by rw [i79, hs])]
end Go.Proofs.YtihmlhjdlpjehaaGreatDoor
namespace Go.Proofs.YtihmlhjdlpjehaaGreatDoor
open Go.RowKit

/-- A row is loaded out of a block of its own. -/
theorem wl139 {ops : Array Oper} {rest : List Oper} {o : Oper} {a : Act} {w : World} {Q : Exit → Act → World → Prop} (hgd : o.guard = none) (x : Operand) (ho : o.op = .load 139 x) (b : Nat) (hx : a.eval x = .pointer (some ⟨b, 0, none⟩)) (cs : Array Value) (T : TypeId) (hb : Blk w b cs T) (hs : cs.size = 16)
    (h : wpList Tryz.prog ops Q rest (a.put o.dst (.agg cs)) w) : wpList Tryz.prog ops Q (o :: rest) a w := by
  obtain ⟨d, h1, h2, h3⟩ := u139
  exact wpList_load_row hgd 139 x ho b hx T cs (0, 0) d hb h1 (by cases d <;> simp_all [rowB]) (by rw [i139, hs]) h
/-- A row is stored into a block of its own. -/
theorem ws139 {ops : Array Oper} {rest : List Oper} {o : Oper} {a : Act} {w : World} {Q : Exit → Act → World → Prop} (hgd : o.guard = none) (x y : Operand) (ho : o.op = .store 139 x y) (b : Nat) (cells : Array Value) (hx : a.eval x = .pointer (some ⟨b, 0, none⟩)) (hy : a.eval y = .agg cells) (old : Array Value) (T : TypeId) (hb : Blk w b old T) (hs : cells.size = 16) (hso : old.size = 16) (h1 : cells.toList.all (·.oneCell') = true)
    (h : ∀ w', Blk w' b cells T → Turned w.heap.size [b] w w' → w'.heap.size = w.heap.size → wpList Tryz.prog ops Q rest (a.put o.dst undef) w') : wpList Tryz.prog ops Q (o :: rest) a w :=
  wpList_store_row hgd 139 x y ho b cells hx hy T old hb (by rw [i139, hs]) (by omega) (by rw [← Array.all_toList]; exact h1) (h _ (setRow_heap w b old cells T (0, 0) hb) ⟨rfl, rfl, rfl, by simp [World.setRow], fun k _ hk => setRow_other w b k cells (fun e => hk (by simp [e]))⟩ (by simp [World.setRow]))
end Go.Proofs.YtihmlhjdlpjehaaGreatDoor
set_option linter.unusedSimpArgs false
namespace Go.Proofs.YtihmlhjdlpjehaaGreatDoor
open Go.RowKit

/-- A type whose values are rows of n cells. -/
structure RowT (T : TypeId) (n : Nat) : Prop where
  u : ∃ d, Tryz.prog.underlying T = some d ∧ d.isRow = true ∧ rowB d = true
  i : (Tryz.prog.info? T).map (·.size) = some n
theorem rowT329 : RowT 329 6 := ⟨row_of (by kernel_rfl), by kernel_rfl⟩
theorem rowT464 : RowT 464 5 := ⟨row_of (by kernel_rfl), by kernel_rfl⟩
theorem rowT494 : RowT 494 40 := ⟨row_of (by kernel_rfl), by kernel_rfl⟩
theorem wlR {T : TypeId} {n : Nat} (hR : RowT T n) {ops : Array Oper} {rest : List Oper} {o : Oper} {a : Act} {w : World} {Q : Exit → Act → World → Prop} (hgd : o.guard = none) (x : Operand) (ho : o.op = .load T x) (b : Nat) (hx : a.eval x = .pointer (some ⟨b, 0, none⟩)) (cs : Array Value) (T' : TypeId) (hb : Blk w b cs T') (hs : cs.size = n)
    (h : wpList Tryz.prog ops Q rest (a.put o.dst (.agg cs)) w) : wpList Tryz.prog ops Q (o :: rest) a w := by
  obtain ⟨d, h1, h2, h3⟩ := hR.u
  exact wpList_load_row hgd T x ho b hx T' cs (0, 0) d hb h1 (by cases d <;> simp_all [rowB]) (by rw [hR.i, hs]) h
theorem wsR {T : TypeId} {n : Nat} (hR : RowT T n) {ops : Array Oper} {rest : List Oper} {o : Oper} {a : Act} {w : World} {Q : Exit → Act → World → Prop} (hgd : o.guard = none) (x y : Operand) (ho : o.op = .store T x y) (b : Nat) (cells : Array Value) (hx : a.eval x = .pointer (some ⟨b, 0, none⟩)) (hy : a.eval y = .agg cells) (old : Array Value) (T' : TypeId) (hb : Blk w b old T') (hs : cells.size = n) (hso : old.size = n) (h1 : cells.toList.all (·.oneCell') = true)
    (h : ∀ w', Blk w' b cells T' → Turned w.heap.size [b] w w' → w'.heap.size = w.heap.size → wpList Tryz.prog ops Q rest (a.put o.dst undef) w') : wpList Tryz.prog ops Q (o :: rest) a w :=
  wpList_store_row hgd T x y ho b cells hx hy T' old hb (by rw [hR.i, hs]) (by omega) (by rw [← Array.all_toList]; exact h1) (h _ (setRow_heap w b old cells T' (0, 0) hb) ⟨rfl, rfl, rfl, by simp [World.setRow], fun k _ hk => setRow_other w b k cells (fun e => hk (by simp [e]))⟩ (by simp [World.setRow]))
theorem wlRm {T : TypeId} {n : Nat} (hR : RowT T n) {ops : Array Oper} {rest : List Oper} {o : Oper} {a : Act} {w : World} {Q : Exit → Act → World → Prop} (hgd : o.guard = none) (x : Operand) (ho : o.op = .load T x) (b off : Nat) (hx : a.eval x = .pointer (some ⟨b, off, none⟩)) (cs : List Value) (hc : w.rangeAt b off cs) (hs : cs.length = n)
    (h : wpList Tryz.prog ops Q rest (a.put o.dst (.agg cs.toArray)) w) : wpList Tryz.prog ops Q (o :: rest) a w := by
  obtain ⟨d, h1, h2, h3⟩ := hR.u
  exact wpList_load_mid hgd T x ho b off hx cs d hc h1 h2 (by rw [hR.i, hs]) h
theorem retR {T : TypeId} {n : Nat} (hR : RowT T n) {fn : Func} {p : Tmp} (h : fn.results = #[.cell p T]) (tmps : Array Value) (w : World) (b : Nat) (cs : Array Value) (T' : TypeId) (hp : tmps.getD p undef = .pointer (some ⟨b, 0, none⟩)) (hb : Blk w b cs T') (hs : cs.size = n) : (results fn tmps).run Tryz.prog w = .ok (.agg cs) w := by
  obtain ⟨d, h1, h2, h3⟩ := hR.u
  exact results_cell_row (P := Tryz.prog) h tmps w b T' cs (0, 0) d hp hb h1 (by cases d <;> simp_all [rowB]) (by rw [hR.i, hs])
theorem retRb {T : TypeId} {n : Nat} (hR : RowT T n) {fn : Func} {p q : Tmp} (h : fn.results = #[.cell p T, .tmp q]) (tmps : Array Value) (w : World) (b : Nat) (cs : Array Value) (T' : TypeId) (hp : tmps.getD p undef = .pointer (some ⟨b, 0, none⟩)) (hb : Blk w b cs T') (hs : cs.size = n) : (results fn tmps).run Tryz.prog w = .ok (.tuple #[.agg cs, tmps.getD q undef]) w := by
  obtain ⟨d, h1, h2, h3⟩ := hR.u
  have hp' : tmps[p]?.getD undef = .pointer (some ⟨b, 0, none⟩) := by simpa using hp
  simp [results, h, hp', asAddr, run_loadVar_row w b T' T cs (0, 0) d hb h1 (by cases d <;> simp_all [rowB]) (by rw [hR.i, hs])]
end Go.Proofs.YtihmlhjdlpjehaaGreatDoor
