/- Package book: a book in memory; at, made, Error. -/
import Derived.Test.YtihmlhjdlpjehaaGreatDoorT0
set_option linter.unusedVariables false
set_option linter.unusedSimpArgs false
namespace Go.Proofs.YtihmlhjdlpjehaaGreatDoor
open Go.RowKit

/-- What a handle has. -/
structure Rw where
  err : Value
  sp : Sp
  ia : Option Addr
  ic : Nat
  pa : Option Addr
  pc : Nat
  size : Int
  depth : Int
  long : Int
  words : Int
/-- Its sixteen cells. -/
abbrev Rw.arr (r : Rw) : Array Value := #[r.err, .int .u8 r.sp.kind, .bool r.sp.nl, .string r.sp.text, .int .i16 r.sp.number, .int .i8 r.sp.small, .float .f64 r.sp.re, .float .f64 r.sp.im, .bool r.sp.flag, .int .u32 r.sp.mask, .slice r.ia r.sp.items.length r.ic, .slice r.pa r.sp.parts.length r.pc, .int .i64 r.size, .int .i64 r.depth, .int .i64 r.long, .int .i64 r.words]
/-- The cells of all rows. -/
def rcells (rows : List Rw) : List Value := rows.flatMap fun r => r.arr.toList
theorem rcells_length (rows : List Rw) : (rcells rows).length = rows.length * 16 := by
  induction rows with
  | nil => rfl
  | cons r rows ih =>
    have : rcells (r :: rows) = r.arr.toList ++ rcells rows := rfl
    rw [this, List.length_append, ih]
    simp [Rw.arr]; omega
theorem rcells_at (rows : List Rw) (i : Nat) (hi : i < rows.length) (j : Nat) (hj : j < 16) : (rcells rows)[i * 16 + j]? = (rows[i].arr)[j]? := by
  induction rows generalizing i with
  | nil => simp at hi
  | cons r rows ih =>
    have e : rcells (r :: rows) = r.arr.toList ++ rcells rows := rfl
    have hl : r.arr.toList.length = 16 := rfl
    rw [e]
    cases i with
    | zero =>
      rw [List.getElem?_append_left (by rw [hl]; omega)]
      simp
    | succ i =>
      rw [List.getElem?_append_right (by rw [hl]; omega), hl]
      have : (i + 1) * 16 + j - 16 = i * 16 + j := by omega
      rw [this, ih i (by simpa using hi)]
      simp

/-- A book: its one cell holds a slice that owns the rows' cells. -/
def BookV (w : World) (bb : Nat) (v : Value) (rows : List Rw) : Prop :=
  Blk w bb #[v] 83 ∧ w.ownsRow 25 139 16 v rows.length (rcells rows) ∧ v.ownBlock ≠ some bb
theorem BookV.cases {w : World} {bb : Nat} {v : Value} {rows : List Rw} (h : BookV w bb v rows) : (v = .slice none 0 0 ∧ rows = []) ∨ ∃ g cap, v = .slice (some ⟨g, 0, none⟩) rows.length cap ∧ 25 ≤ g ∧ g ≠ bb ∧ g < w.heap.size ∧ ∀ i (hi : i < rows.length) j, j < 16 → w.cell? ⟨g, i * 16 + j, none⟩ = (rows[i].arr)[j]? := by
  obtain ⟨h1, h2, h3⟩ := h
  rcases h2.2 with ⟨e, hn⟩ | ⟨g, cap, cur, e, hb, hg, hnc, hcm, hcs, htake⟩
  · exact .inl ⟨e, List.length_eq_zero_iff.1 hn⟩
  · refine .inr ⟨g, cap, e, hb, ?_, (Array.getElem?_eq_some_iff.1 hg).1, ?_⟩
    · rintro rfl; exact h3 (by rw [e]; rfl)
    · intro i hi j hj
      subst e
      rw [h2.cellAt (i * 16 + j) (by omega), rcells_at rows i hi j hj]

theorem at_zero (bb : Nat) (w : World) : Calls Tryz.prog 62 #[.pointer (some ⟨bb, 0, none⟩), .int .i64 0] w fun e w' => e = .returned (.tuple #[.pointer (some ⟨w.heap.size, 0, none⟩), .int .i64 0]) ∧ w' = w.alloc (.cells #[.nilIface, .int .u8 0, .bool false, .string ByteArray.empty, .int .i16 0, .int .i8 0, .float .f64 0, .float .f64 0, .bool false, .int .u32 0, .slice none 0 0, .slice none 0 0, .int .i64 0, .int .i64 0, .int .i64 0, .int .i64 0] 139) := by
  go_enter Tryz.func62, Tryz.ntmps62
  go_wp2
  go_ret2; exact ⟨rfl, rfl⟩
theorem at_ok (bb : Nat) (v : Value) (rows : List Rw) (h : Nat) (w : World) (hB : BookV w bb v rows) (h1 : 1 ≤ h) (h2 : h ≤ rows.length) (hm : rows.length ≤ 65536) :
    Calls Tryz.prog 62 #[.pointer (some ⟨bb, 0, none⟩), .int .i64 h] w fun e w' => (∃ g cap, v = .slice (some ⟨g, 0, none⟩) rows.length cap ∧ e = .returned (.tuple #[.pointer (some ⟨g, (h - 1) * 16, none⟩), .int .i64 0])) ∧ w' = w := by
  have hc := hB.1.cell 0
  rcases hB.cases with ⟨_, rfl⟩ | ⟨g, cap, rfl, hg25, hgb, hglt, hcells⟩
  · simp at h2; omega
  clear hcells
  generalize rows.length = n at *
  obtain ⟨k, rfl⟩ : ∃ k, h = k + 1 := ⟨h - 1, by omega⟩
  have hc' : w.cell? ⟨bb, 0, none⟩ = some (.slice (some ⟨g, 0, none⟩) n cap) := hc
  have hk : k < n := by omega
  go_enter Tryz.func62, Tryz.ntmps62
  go_wp2
  go_ret2
  refine ⟨⟨g, cap, rfl, ?_⟩, rfl⟩
  simp

theorem at_bad (bb : Nat) (v : Value) (rows : List Rw) (h : Int) (w : World) (hB : BookV w bb v rows) (h1 : h < 0 ∨ (rows.length : Int) < h) (hm : rows.length ≤ 65536) :
    Calls Tryz.prog 62 #[.pointer (some ⟨bb, 0, none⟩), .int .i64 h] w fun e w' => (∃ a, e = .returned (.tuple #[.pointer (some a), .int .i64 50])) ∧ Below w.heap.size w w' := by
  have hc := hB.1.cell 0
  have hv : ∃ ad cap, v = .slice ad rows.length cap := by
    rcases hB.cases with ⟨e, rfl⟩ | ⟨g, cap, e, _⟩
    · exact ⟨none, 0, e⟩
    · exact ⟨_, cap, e⟩
  obtain ⟨ad, cap, rfl⟩ := hv
  generalize rows.length = n at *
  have hc' : w.cell? ⟨bb, 0, none⟩ = some (.slice ad n cap) := hc
  clear hc
  have hz : (h == 0) = false := by simp; omega
  rcases h1 with h1 | h1
  · go_enter Tryz.func62, Tryz.ntmps62
    go_wp2
    go_ret2
    exact ⟨⟨_, rfl⟩, below_one _ _⟩
  · have hn : ¬ h < 0 := by omega
    go_enter Tryz.func62, Tryz.ntmps62
    go_wp2
    go_ret2
    exact ⟨⟨_, rfl⟩, below_one _ _⟩
theorem BookV.row {w : World} {bb g cap : Nat} {rows : List Rw} {n : Nat} (h : BookV w bb (.slice (some ⟨g, 0, none⟩) n cap) rows) (i : Nat) (hi : i < rows.length) (j : Nat) (hj : j < 16) : w.cell? ⟨g, i * 16 + j, none⟩ = (rows[i].arr)[j]? := by
  rcases h.cases with ⟨e, _⟩ | ⟨g', cap', e, _, _, _, hc⟩
  · cases e
  · cases e; exact hc i hi j hj
theorem Error_zero (bb : Nat) (w : World) : Calls Tryz.prog 96 #[.pointer (some ⟨bb, 0, none⟩), .int .i64 0] w fun e w' => e = .returned (.tuple #[.nilIface, .int .i64 0]) ∧ Below w.heap.size w w' := by
  have C := at_zero bb w
  have hb := below_one w (.cells #[.nilIface, .int .u8 0, .bool false, .string ByteArray.empty, .int .i16 0, .int .i8 0, .float .f64 0, .float .f64 0, .bool false, .int .u32 0, .slice none 0 0, .slice none 0 0, .int .i64 0, .int .i64 0, .int .i64 0, .int .i64 0] 139)
  go_enter Tryz.func96, Tryz.ntmps96
  go_wp2_with (go_at_call 62; refine C.mono ?_; rintro e w1 ⟨rfl, rfl⟩)
  go_ret2; exact ⟨rfl, hb⟩
theorem Error_ok (bb : Nat) (v : Value) (rows : List Rw) (h : Nat) (w : World) (hB : BookV w bb v rows) (h1 : 1 ≤ h) (h2 : h ≤ rows.length) (hm : rows.length ≤ 65536) :
    Calls Tryz.prog 96 #[.pointer (some ⟨bb, 0, none⟩), .int .i64 h] w fun e w' => e = .returned (.tuple #[(rows[h - 1]'(by omega)).err, .int .i64 0]) ∧ w' = w := by
  have C := at_ok bb v rows h w hB h1 h2 hm
  rcases hB.cases with ⟨_, rfl⟩ | ⟨g, cap, rfl, hg25, hgb, hglt, hcells⟩
  · simp at h2; omega
  have hc := hcells (h - 1) (by omega) 0 (by omega)
  simp at hc
  generalize (rows[h - 1]'(by omega)).err = v at *
  go_enter Tryz.func96, Tryz.ntmps96
  go_wp2_with (go_at_call 62; refine C.mono ?_; rintro e w1 ⟨⟨g1, cap1, he, rfl⟩, rfl⟩; cases he)
  go_ret2; exact ⟨rfl, rfl⟩
end Go.Proofs.YtihmlhjdlpjehaaGreatDoor
