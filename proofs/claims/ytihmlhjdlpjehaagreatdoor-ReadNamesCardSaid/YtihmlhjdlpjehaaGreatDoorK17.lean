/- Package kinds: Long at code and level. Package book: Make's plain words: a handle's row, what is reckoned out of the parts; at, for every handle. -/
import Derived.Test.YtihmlhjdlpjehaaGreatDoorK14
import Derived.LoopN
import Derived.Test.YtihmlhjdlpjehaaGreatDoorT1
set_option linter.unusedVariables false
set_option linter.unusedSimpArgs false
namespace Go.Proofs.YtihmlhjdlpjehaaGreatDoor
open Go.RowKit

set_option maxRecDepth 100000 in
set_option maxHeartbeats 4000000 in
theorem Long_code (s : Sp) (hn0 : -32768 ≤ s.number) (hn1 : s.number ≤ 32767) (hk : s.kind = 1) (hc : checkE s = 0) (hp : s.parts = []) (txt : ByteArray) (htx : txt.size ≤ 4096) (ia pa la : Option Addr) (ic pc lc : Nat) (w : World) (hi : RdS w ia s.items)
    (hT : ∀ W, Below w.heap.size w W → Calls Tryz.prog 100 #[.int .i64 s.number] W fun e w' => e = .returned (.string txt) ∧ Below W.heap.size W w') :
    Calls Tryz.prog 66 #[s.val ia ic pa pc, .slice la 0 lc] w fun e w' => e = .returned (.int .i64 (5 + txt.size)) ∧ Below w.heap.size w w' := by
  have b0 : Below w.heap.size w (w.alloc (.cells (s.val ia ic pa pc).cells 79)) := below_one _ _
  have kz : Blk (w.alloc (.cells (s.val ia ic pa pc).cells 79)) w.heap.size (s.val ia ic pa pc).cells 79 := Blk.new w _ 79
  have z0 : (w.alloc (.cells (s.val ia ic pa pc).cells 79)).heap.size = w.heap.size + 1 := by simp
  have C := Check_any s ia pa ic pc (w.alloc (.cells (s.val ia ic pa pc).cells 79)) (hi.below b0)
  rw [hc] at C
  obtain ⟨k, nl, text, number, small, re, im, flag, mask, items, parts⟩ := s
  unfold Sp.val at *
  dsimp only at *
  subst hk hp
  generalize items.length = ni at *
  rw [List.length_nil] at *
  have HC := Lib.hid C
  have HT := Lib.hid hT
  clear C hc hi hT
  go_enter Tryz.func66, Tryz.ntmps66
  go_wp2_with fail
  refine HC.out.mono ?_
  rintro e w1 ⟨rfl, hb1⟩
  have kz1 := kz.below hb1 (by omega)
  have hz1 := hb1.size
  have q10 : w1.cell? ⟨w.heap.size, 10, none⟩ = some (.slice pa 0 pc) := kz1.cell 10
  have q0 : w1.cell? ⟨w.heap.size, 0, none⟩ = some (.int .u8 1) := kz1.cell 0
  have q3 : w1.cell? ⟨w.heap.size, 3, none⟩ = some (.int .i16 number) := kz1.cell 3
  have BW := b0.trans (hb1.mono (by omega))
  have CT := HT.out w1 BW
  have hzw : w.heap.size ≤ w1.heap.size := by omega
  clear kz kz1 b0 HC hb1 z0 HT
  go_wp2_with fail
  refine wp_loop_rounds 1 ?_
  rw [rounds_succ]
  go_wp2
  refine wp_loop_rounds 1 ?_
  rw [rounds_succ]
  go_wp2_with (go_at_call 100; refine CT.mono ?_; rintro e w2 ⟨rfl, hb2⟩)
  go_ret
  refine ⟨?_, BW.trans (hb2.mono (by omega))⟩
  rfl

set_option maxRecDepth 100000 in
set_option maxHeartbeats 4000000 in
theorem Long_level (s : Sp) (hk : s.kind = 3) (hc : checkE s = 0) (hp : s.parts = []) (txt : ByteArray) (htx : txt.size ≤ 4096) (ia pa la : Option Addr) (ic pc lc : Nat) (w : World) (hi : RdS w ia s.items)
    (hT : ∀ W, Below w.heap.size w W → Calls Tryz.prog 121 #[.float .f64 s.re] W fun e w' => e = .returned (.string txt) ∧ Below W.heap.size W w') :
    Calls Tryz.prog 66 #[s.val ia ic pa pc, .slice la 0 lc] w fun e w' => e = .returned (.int .i64 (6 + txt.size)) ∧ Below w.heap.size w w' := by
  have b0 : Below w.heap.size w (w.alloc (.cells (s.val ia ic pa pc).cells 79)) := below_one _ _
  have kz : Blk (w.alloc (.cells (s.val ia ic pa pc).cells 79)) w.heap.size (s.val ia ic pa pc).cells 79 := Blk.new w _ 79
  have z0 : (w.alloc (.cells (s.val ia ic pa pc).cells 79)).heap.size = w.heap.size + 1 := by simp
  have C := Check_any s ia pa ic pc (w.alloc (.cells (s.val ia ic pa pc).cells 79)) (hi.below b0)
  rw [hc] at C
  obtain ⟨k, nl, text, number, small, re, im, flag, mask, items, parts⟩ := s
  unfold Sp.val at *
  dsimp only at *
  subst hk hp
  generalize items.length = ni at *
  rw [List.length_nil] at *
  have HC := Lib.hid C
  have HT := Lib.hid hT
  clear C hc hi hT
  go_enter Tryz.func66, Tryz.ntmps66
  go_wp2_with fail
  refine HC.out.mono ?_
  rintro e w1 ⟨rfl, hb1⟩
  have kz1 := kz.below hb1 (by omega)
  have hz1 := hb1.size
  have q10 : w1.cell? ⟨w.heap.size, 10, none⟩ = some (.slice pa 0 pc) := kz1.cell 10
  have q0 : w1.cell? ⟨w.heap.size, 0, none⟩ = some (.int .u8 3) := kz1.cell 0
  have q5 : w1.cell? ⟨w.heap.size, 5, none⟩ = some (.float .f64 re) := kz1.cell 5
  have BW := b0.trans (hb1.mono (by omega))
  have CT := HT.out w1 BW
  have hzw : w.heap.size ≤ w1.heap.size := by omega
  clear kz kz1 b0 HC hb1 z0 HT
  go_wp2_with fail
  refine wp_loop_rounds 1 ?_
  rw [rounds_succ]
  go_wp2
  refine wp_loop_rounds 1 ?_
  rw [rounds_succ]
  go_wp2_with (go_at_call 121; refine CT.mono ?_; rintro e w2 ⟨rfl, hb2⟩)
  go_ret
  refine ⟨?_, BW.trans (hb2.mono (by omega))⟩
  rfl
end Go.Proofs.YtihmlhjdlpjehaaGreatDoor
namespace Go.Proofs.YtihmlhjdlpjehaaGreatDoor
open Go.RowKit

def zeroSp : Sp := { kind := 0, nl := false, text := ByteArray.empty, number := 0, small := 0, re := 0, im := 0, flag := false, mask := 0, items := [], parts := [] }
def zeroRw : Rw := { err := .nilIface, sp := zeroSp, ia := none, ic := 0, pa := none, pc := 0, size := 0, depth := 0, long := 0, words := 0 }
def rowOf (rows : List Rw) (h : Int) : Rw := if h = 0 then zeroRw else rows.getD (h.toNat - 1) zeroRw
/-- The numbers of all rows lie in their bounds. -/
structure Rw.Ok (r : Rw) : Prop where
  s0 : 0 ≤ r.size
  s1 : r.size ≤ 4096
  d0 : 0 ≤ r.depth
  d1 : r.depth ≤ 64
  l0 : 0 ≤ r.long
  l1 : r.long ≤ 65536
  w0 : 0 ≤ r.words
  w1 : r.words ≤ 1048576
  e1 : ErrN r.err
theorem zeroRw_ok : zeroRw.Ok := ⟨by decide, by decide, by decide, by decide, by decide, by decide, by decide, by decide, ErrN.nil⟩
theorem rowOf_ok {rows : List Rw} (h : ∀ r ∈ rows, r.Ok) (p : Int) : (rowOf rows p).Ok := by
  unfold rowOf
  split
  · exact zeroRw_ok
  · rw [List.getD_eq_getElem?_getD]
    cases he : rows[p.toNat - 1]? with
    | none => exact zeroRw_ok
    | some r => exact h r (List.mem_of_getElem? he)
def sizeF (rows : List Rw) (ps : List Int) : Int := ps.foldl (fun a p => a + (rowOf rows p).size) 1
def depthF (rows : List Rw) (ps : List Int) : Int := ps.foldl (fun a p => max a ((rowOf rows p).depth + 1)) 1
def wordsI (text : ByteArray) (items : List ByteArray) : Int := items.foldl (fun (a : Int) x => a + (x.size : Int)) (text.size : Int)
def wordsF (rows : List Rw) (b : Int) (ps : List Int) : Int := ps.foldl (fun a p => a + (rowOf rows p).words) b
theorem sizeF_snoc (rows : List Rw) (ps : List Int) (p : Int) : sizeF rows (ps ++ [p]) = sizeF rows ps + (rowOf rows p).size := by simp [sizeF]
theorem depthF_snoc (rows : List Rw) (ps : List Int) (p : Int) : depthF rows (ps ++ [p]) = max (depthF rows ps) ((rowOf rows p).depth + 1) := by simp [depthF]
theorem wordsI_snoc (text : ByteArray) (items : List ByteArray) (x : ByteArray) : wordsI text (items ++ [x]) = wordsI text items + x.size := by simp [wordsI]
theorem wordsF_snoc (rows : List Rw) (b : Int) (ps : List Int) (p : Int) : wordsF rows b (ps ++ [p]) = wordsF rows b ps + (rowOf rows p).words := by simp [wordsF]
theorem foldl_le (f : Int → Int) (c : Int) (hf : ∀ p, 0 ≤ f p ∧ f p ≤ c) (ps : List Int) : ∀ a : Int, a ≤ ps.foldl (fun a p => a + f p) a ∧ ps.foldl (fun a p => a + f p) a ≤ a + c * ps.length := by
  induction ps with
  | nil => intro a; simp
  | cons p ps ih =>
    intro a
    have h1 := ih (a + f p)
    have h2 := hf p
    simp only [List.foldl_cons, List.length_cons]
    have e : c * ((ps.length + 1 : Nat) : Int) = c * (ps.length : Int) + c := by rw [Int.natCast_add, Int.mul_add]; simp
    omega
theorem sizeF_bound {rows : List Rw} (h : ∀ r ∈ rows, r.Ok) (ps : List Int) (hl : ps.length ≤ 64) : 1 ≤ sizeF rows ps ∧ sizeF rows ps ≤ 300000 := by
  have := foldl_le (fun p => (rowOf rows p).size) 4096 (fun p => ⟨(rowOf_ok h p).s0, (rowOf_ok h p).s1⟩) ps 1
  unfold sizeF
  omega
theorem wordsF_bound {rows : List Rw} (h : ∀ r ∈ rows, r.Ok) (b : Int) (hb0 : 0 ≤ b) (hb : b ≤ 300000) (ps : List Int) (hl : ps.length ≤ 64) : 0 ≤ wordsF rows b ps ∧ wordsF rows b ps ≤ 70000000 := by
  have := foldl_le (fun p => (rowOf rows p).words) 1048576 (fun p => ⟨(rowOf_ok h p).w0, (rowOf_ok h p).w1⟩) ps b
  unfold wordsF
  omega
theorem depthF_bound {rows : List Rw} (h : ∀ r ∈ rows, r.Ok) (ps : List Int) : ∀ a : Int, 1 ≤ a → a ≤ 65 → 1 ≤ ps.foldl (fun a p => max a ((rowOf rows p).depth + 1)) a ∧ ps.foldl (fun a p => max a ((rowOf rows p).depth + 1)) a ≤ 65 := by
  induction ps with
  | nil => intro a h1 h2; exact ⟨h1, h2⟩
  | cons p ps ih =>
    intro a h1 h2
    have := rowOf_ok h p
    have h0 := this.d0
    have h3 := this.d1
    exact ih (max a ((rowOf rows p).depth + 1)) (by omega) (by omega)
theorem wordsI_bound (text : ByteArray) (ht : text.size ≤ 4096) (items : List ByteArray) (hi : ∀ x ∈ items, x.size ≤ 4096) (hl : items.length ≤ 64) : 0 ≤ wordsI text items ∧ wordsI text items ≤ 300000 := by
  have key : ∀ (l : List ByteArray) (a : Int), (∀ x ∈ l, x.size ≤ 4096) → a ≤ l.foldl (fun (a : Int) x => a + (x.size : Int)) a ∧ l.foldl (fun (a : Int) x => a + (x.size : Int)) a ≤ a + 4096 * l.length := by
    intro l
    induction l with
    | nil => intro a _; simp
    | cons x l ih =>
      intro a hx
      have h1 := ih (a + x.size) fun y hy => hx y (by simp [hy])
      have h2 := hx x (by simp)
      simp only [List.foldl_cons, List.length_cons]
      omega
  have := key items text.size hi
  unfold wordsI
  omega
theorem checkE_zero {s : Sp} (h : checkE s = 0) : s.text.size ≤ 4096 ∧ s.items.length ≤ 64 ∧ (∀ x ∈ s.items, x.size ≤ 4096) ∧ s.parts.length ≤ 64 := by
  rw [checkE] at h
  by_cases c1 : ownB s = false ∨ (4096 : Int) < s.text.size ∨ (64 : Int) < s.items.length
  · rw [if_pos c1] at h; exact absurd h (by decide)
  rw [if_neg c1] at h
  by_cases c2 : longB s.items = true
  · rw [if_pos c2] at h; exact absurd h (by decide)
  rw [if_neg c2] at h
  by_cases c3 : bareB s (fieldsS s.kind s.number) = false
  · rw [if_pos c3] at h; exact absurd h (by decide)
  rw [if_neg c3] at h
  by_cases c4 : s.nl = true ∧ bareB s (if s.kind = 23 then ⟨#[48, 78]⟩ else ⟨#[48]⟩) = false
  · rw [if_pos c4] at h; exact absurd h (by decide)
  rw [if_neg c4] at h
  by_cases c5 : (if s.nl then 0 else partsMost s.kind) < (s.parts.length : Int)
  · rw [if_pos c5] at h; exact absurd h (by decide)
  simp only [not_or, Int.not_lt] at c1 c5
  refine ⟨by omega, by omega, ?_, ?_⟩
  · intro x hx
    have h3 : longB s.items = false := by simpa using c2
    unfold longB at h3
    rw [List.any_eq_false] at h3
    have := h3 x hx
    simp at this
    omega
  · have hm : partsMost s.kind ≤ 64 := by unfold partsMost; split <;> (try split) <;> omega
    by_cases hn : s.nl = true
    · rw [if_pos hn] at c5; omega
    · rw [if_neg hn] at c5; omega

/-- at, at every handle that a book has, and at none. -/
theorem at_any (bb : Nat) (v : Value) (rows : List Rw) (h : Int) (w : World) (hB : BookV w bb v rows) (h1 : 0 ≤ h) (h2 : h ≤ rows.length) (hm : rows.length ≤ 65536) :
    Calls Tryz.prog 62 #[.pointer (some ⟨bb, 0, none⟩), .int .i64 h] w fun e w' => (∃ g o, e = .returned (.tuple #[.pointer (some ⟨g, o, none⟩), .int .i64 0]) ∧ (v.ownBlock = some g ∨ g = w.heap.size) ∧ ∀ j, j < 16 → w'.cell? ⟨g, o + j, none⟩ = (rowOf rows h).arr[j]?) ∧ Below w.heap.size w w' := by
  by_cases h0 : h = 0
  · subst h0
    refine (at_zero bb w).mono ?_
    rintro e w' ⟨rfl, rfl⟩
    refine ⟨⟨w.heap.size, 0, rfl, Or.inr rfl, fun j hj => ?_⟩, below_one _ _⟩
    rw [Nat.zero_add, Blk.cell (Blk.new w _ 139) j]
    simp only [rowOf, if_true]
    rfl
  · obtain ⟨n, rfl⟩ : ∃ n : Nat, h = n := ⟨h.toNat, by omega⟩
    refine (at_ok bb v rows n w hB (by omega) (by omega) hm).mono ?_
    rintro e w' ⟨⟨g, cap, rfl, rfl⟩, rfl⟩
    refine ⟨⟨g, (n - 1) * 16, rfl, Or.inl rfl, fun j hj => ?_⟩, Below.refl _ _⟩
    have hn : n - 1 < rows.length := by omega
    rw [hB.row (n - 1) hn j hj]
    simp only [rowOf, if_neg h0, Int.toNat_natCast]
    simp [List.getD, hn]
end Go.Proofs.YtihmlhjdlpjehaaGreatDoor
