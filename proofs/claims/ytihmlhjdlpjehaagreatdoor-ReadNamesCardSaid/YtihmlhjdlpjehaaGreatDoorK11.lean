/- Package book: twin, Spec. Package book: made, Spec. -/
import Derived.Test.YtihmlhjdlpjehaaGreatDoorK10
import Derived.Test.YtihmlhjdlpjehaaGreatDoorT1
import Derived.Test.YtihmlhjdlpjehaaGreatDoorShelf
import Derived.Deep.RegionWith
set_option linter.unusedVariables false
set_option linter.unusedSimpArgs false
namespace Go.Proofs.YtihmlhjdlpjehaaGreatDoor
open Go.RowKit

theorem RdS.setCell {w : World} {a : Option Addr} {xs : List ByteArray} (h : RdS w a xs) {p : Addr} (hp : ∀ x, a = some x → x.block ≠ p.block) (u : Value) : RdS (w.setCell p u) a xs := by
  rcases h with h | ⟨b, off, ha, hc⟩
  · exact Or.inl h
  · exact Or.inr ⟨b, off, ha, fun j hj => (World.cell?_of_block (w := w) (Below.heap_setCell w p u b (hp ⟨b, off, none⟩ ha))).trans (hc j hj)⟩
theorem RdI.setCell {w : World} {a : Option Addr} {xs : List Int} (h : RdI w a xs) {p : Addr} (hp : ∀ x, a = some x → x.block ≠ p.block) (u : Value) : RdI (w.setCell p u) a xs := by
  rcases h with h | ⟨b, off, ha, hc⟩
  · exact Or.inl h
  · exact Or.inr ⟨b, off, ha, fun j hj => (World.cell?_of_block (w := w) (Below.heap_setCell w p u b (hp ⟨b, off, none⟩ ha))).trans (hc j hj)⟩
theorem RdS.turned {w w' : World} {a : Option Addr} {xs : List ByteArray} {S : List Nat} (h : RdS w a xs) (t : Turned w.heap.size S w w') (hp : ∀ x, a = some x → x.block ∉ S) : RdS w' a xs := by
  rcases h with h | ⟨b, off, ha, hc⟩
  · exact Or.inl h
  · exact Or.inr ⟨b, off, ha, fun j hj => (t.cell (p := ⟨b, off + j, none⟩) (World.block_lt_of_cell? _ _ (hc j hj)) (hp ⟨b, off, none⟩ ha)).trans (hc j hj)⟩
theorem RdI.turned {w w' : World} {a : Option Addr} {xs : List Int} {S : List Nat} (h : RdI w a xs) (t : Turned w.heap.size S w w') (hp : ∀ x, a = some x → x.block ∉ S) : RdI w' a xs := by
  rcases h with h | ⟨b, off, ha, hc⟩
  · exact Or.inl h
  · exact Or.inr ⟨b, off, ha, fun j hj => (t.cell (p := ⟨b, off + j, none⟩) (World.block_lt_of_cell? _ _ (hc j hj)) (hp ⟨b, off, none⟩ ha)).trans (hc j hj)⟩
/-- A slice's address lies beyond the old memory. -/
def NewA (n : Nat) (a : Option Addr) : Prop := ∀ x, a = some x → n ≤ x.block

theorem own_str {w : World} {B : Nat} {v : Value} {n : Nat} {xs : List ByteArray} (hn : n = xs.length) (h : w.ownsRow B 9 1 v n (xs.map Value.string)) : ∃ a c, v = .slice a n c ∧ RdS w a xs ∧ NewA B a := by
  rcases h.2 with ⟨e, h0⟩ | ⟨g, cap, cur, e, hb, hg, hnc, hcm, hcs, htake⟩
  · refine ⟨none, 0, by rw [e, h0], Or.inl ?_, fun x hx => by cases hx⟩
    exact List.length_eq_zero_iff.1 (by omega)
  · subst e
    refine ⟨_, cap, rfl, Or.inr ⟨g, 0, rfl, fun j hj => ?_⟩, fun x hx => by cases hx; exact hb⟩
    have := h.cellAt j (by omega)
    rw [Nat.zero_add, this, List.getElem?_map, List.getElem?_eq_getElem hj]
    simp [List.getD, hj]
theorem own_int {w : World} {B : Nat} {v : Value} {n : Nat} {xs : List Int} (hn : n = xs.length) (h : w.ownsRow B 3 1 v n (xs.map (Value.int .i64))) : ∃ a c, v = .slice a n c ∧ RdI w a xs ∧ NewA B a := by
  rcases h.2 with ⟨e, h0⟩ | ⟨g, cap, cur, e, hb, hg, hnc, hcm, hcs, htake⟩
  · refine ⟨none, 0, by rw [e, h0], Or.inl ?_, fun x hx => by cases hx⟩
    exact List.length_eq_zero_iff.1 (by omega)
  · subst e
    refine ⟨_, cap, rfl, Or.inr ⟨g, 0, rfl, fun j hj => ?_⟩, fun x hx => by cases hx; exact hb⟩
    have := h.cellAt j (by omega)
    rw [Nat.zero_add, this, List.getElem?_map, List.getElem?_eq_getElem hj]
    simp [List.getD, hj]

theorem cloneS (a : Option Addr) (c : Nat) (xs : List ByteArray) (w : World) (h : RdS w a xs) (hb : xs.length ≤ 65536) :
    Calls Tryz.prog 111 #[.slice a xs.length c] w fun e w' => (∃ a' c', e = .returned (.slice a' xs.length c') ∧ RdS w' a' xs ∧ NewA w.heap.size a') ∧ Below w.heap.size w w' := by
  cases a with
  | none =>
    refine (Tryz.slices_Clone_string_nil xs.length c w).mono ?_
    rintro e w' ⟨rfl, rfl⟩
    have hx : xs = [] := by
      rcases h with h | ⟨b, off, h, _⟩
      · exact h
      · cases h
    subst hx
    exact ⟨⟨none, 0, rfl, Or.inl rfl, fun x hx => by cases hx⟩, Below.refl _ _⟩
  | some a =>
    rcases h with h | ⟨b, off, h, hc⟩
    · subst h
      refine (Tryz.slices_Clone_string_zero a c w).mono ?_
      rintro e w' ⟨v', rfl, ho, hne, hb⟩
      obtain ⟨a', c', rfl, hr, hn⟩ := own_str (xs := []) rfl ho
      exact ⟨⟨a', c', rfl, hr, hn⟩, hb⟩
    · cases h
      refine (Tryz.slices_Clone_string b off xs.length c xs w (Nat.le_refl _) (by omega) (fun j hj => hc j hj)).mono ?_
      rintro e w' ⟨v', rfl, ho, hne, hb⟩
      rw [List.take_length] at ho
      obtain ⟨a', c', rfl, hr, hn⟩ := own_str rfl ho
      exact ⟨⟨a', c', rfl, hr, hn⟩, hb⟩
theorem cloneI (a : Option Addr) (c : Nat) (xs : List Int) (w : World) (h : RdI w a xs) (hb : xs.length ≤ 65536) :
    Calls Tryz.prog 93 #[.slice a xs.length c] w fun e w' => (∃ a' c', e = .returned (.slice a' xs.length c') ∧ RdI w' a' xs ∧ NewA w.heap.size a') ∧ Below w.heap.size w w' := by
  cases a with
  | none =>
    refine (Tryz.slices_Clone_int_nil xs.length c w).mono ?_
    rintro e w' ⟨rfl, rfl⟩
    have hx : xs = [] := by
      rcases h with h | ⟨b, off, h, _⟩
      · exact h
      · cases h
    subst hx
    exact ⟨⟨none, 0, rfl, Or.inl rfl, fun x hx => by cases hx⟩, Below.refl _ _⟩
  | some a =>
    rcases h with h | ⟨b, off, h, hc⟩
    · subst h
      refine (Tryz.slices_Clone_int_zero a c w).mono ?_
      rintro e w' ⟨v', rfl, ho, hne, hb⟩
      obtain ⟨a', c', rfl, hr, hn⟩ := own_int (xs := []) rfl ho
      exact ⟨⟨a', c', rfl, hr, hn⟩, hb⟩
    · cases h
      refine (Tryz.slices_Clone_int b off xs.length c xs w (Nat.le_refl _) (by omega) (fun j hj => hc j hj)).mono ?_
      rintro e w' ⟨v', rfl, ho, hne, hb⟩
      rw [List.take_length] at ho
      obtain ⟨a', c', rfl, hr, hn⟩ := own_int rfl ho
      exact ⟨⟨a', c', rfl, hr, hn⟩, hb⟩

set_option maxRecDepth 100000 in
set_option maxHeartbeats 4000000 in
theorem twin_any (s : Sp) (ia pa : Option Addr) (ic pc : Nat) (w : World) (hi : RdS w ia s.items) (hp : RdI w pa s.parts) (hbi : s.items.length ≤ 65536) (hbp : s.parts.length ≤ 65536) :
    Calls Tryz.prog 64 #[s.val ia ic pa pc] w fun e w' => (∃ ia' ic' pa' pc', e = .returned (s.val ia' ic' pa' pc') ∧ RdS w' ia' s.items ∧ RdI w' pa' s.parts ∧ NewA w.heap.size ia' ∧ NewA w.heap.size pa') ∧ Below w.heap.size w w' := by
  obtain ⟨k, nl, text, number, small, re, im, flag, mask, items, parts⟩ := s
  unfold Sp.val
  dsimp only at hi hp hbi hbp ⊢
  have CS := Lib.hid (fun (wr : World) (hb : Below w.heap.size w wr) => cloneS ia ic items wr (hi.below hb) hbi)
  have CI := Lib.hid (fun (wr : World) (hb : Below w.heap.size w wr) => cloneI pa pc parts wr (hp.below hb) hbp)
  have hiN := fun (wr : World) (hb : Below w.heap.size w wr) => hi.below hb
  clear hi hp hiN
  go_enter Tryz.func64, Tryz.ntmps64
  go_wp2
  have BW : Below w.heap.size w ((w.alloc (.cells #[.int .u8 k, .bool nl, .string text, .int .i16 number, .int .i8 small, .float .f64 re, .float .f64 im, .bool flag, .int .u32 mask, .slice ia items.length ic, .slice pa parts.length pc] 79)).alloc (.cells #[.int .u8 0, .bool false, .string { data := #[] }, .int .i16 0, .int .i8 0, .float .f64 0, .float .f64 0, .bool false, .int .u32 0, .slice none 0 0, .slice none 0 0] 79)) := below_two _ _ _
  have K1 := (Blk.new w #[.int .u8 k, .bool nl, .string text, .int .i16 number, .int .i8 small, .float .f64 re, .float .f64 im, .bool flag, .int .u32 mask, .slice ia items.length ic, .slice pa parts.length pc] 79).alloc (.cells #[.int .u8 0, .bool false, .string { data := #[] }, .int .i16 0, .int .i8 0, .float .f64 0, .float .f64 0, .bool false, .int .u32 0, .slice none 0 0, .slice none 0 0] 79)
  have K2 := Blk.new (w.alloc (.cells #[.int .u8 k, .bool nl, .string text, .int .i16 number, .int .i8 small, .float .f64 re, .float .f64 im, .bool flag, .int .u32 mask, .slice ia items.length ic, .slice pa parts.length pc] 79)) #[.int .u8 0, .bool false, .string { data := #[] }, .int .i16 0, .int .i8 0, .float .f64 0, .float .f64 0, .bool false, .int .u32 0, .slice none 0 0, .slice none 0 0] 79
  have hsz : ((w.alloc (.cells #[.int .u8 k, .bool nl, .string text, .int .i16 number, .int .i8 small, .float .f64 re, .float .f64 im, .bool flag, .int .u32 mask, .slice ia items.length ic, .slice pa parts.length pc] 79)).alloc (.cells #[.int .u8 0, .bool false, .string { data := #[] }, .int .i16 0, .int .i8 0, .float .f64 0, .float .f64 0, .bool false, .int .u32 0, .slice none 0 0, .slice none 0 0] 79)).heap.size = w.heap.size + 2 := by simp
  rw [World.size_alloc] at K2
  generalize ((w.alloc (.cells #[.int .u8 k, .bool nl, .string text, .int .i16 number, .int .i8 small, .float .f64 re, .float .f64 im, .bool flag, .int .u32 mask, .slice ia items.length ic, .slice pa parts.length pc] 79)).alloc (.cells #[.int .u8 0, .bool false, .string { data := #[] }, .int .i16 0, .int .i8 0, .float .f64 0, .float .f64 0, .bool false, .int .u32 0, .slice none 0 0, .slice none 0 0] 79)) = W at *
  have K1d : Blk W.drew w.heap.size _ 79 := K1
  have BWd : Below w.heap.size w W.drew := BW.drew
  have hszd : W.drew.heap.size = w.heap.size + 2 := hsz
  have h9 : W.cell? ⟨w.heap.size, 9, none⟩ = some (.slice ia items.length ic) := K1.cell 9
  have h10 : W.cell? ⟨w.heap.size, 10, none⟩ = some (.slice pa parts.length pc) := K1.cell 10
  go_region_with (first
    | (go_at_call 111; refine (CS.out _ (by assumption)).mono ?_; rintro e w1 ⟨⟨a1, c1, rfl, hr1, hn1⟩, hb1⟩; have hb1s := hb1.size; have BW1 : Below w.heap.size w w1 := BWd.trans (hb1.mono (by omega)); have k1 := K1d.below hb1 (by omega); have g10 : w1.cell? ⟨w.heap.size, 10, none⟩ = some (.slice pa parts.length pc) := k1.cell 10)
    | (go_at_call 93; refine (CI.out _ (by assumption)).mono ?_; rintro e w2 ⟨⟨a2, c2, rfl, hr2, hn2⟩, hb2⟩; have hb2s := hb2.size; have BW2 := BW1.trans (hb2.mono (by omega)); have k2 := k1.below hb2 (by omega); have f9 : w2.frozen? ⟨w.heap.size, 9, none⟩ = false := k2.frozen 9; have f10 : w2.frozen? ⟨w.heap.size, 10, none⟩ = false := k2.frozen 10; have q9 : w2.cell? ⟨w.heap.size, 9, none⟩ = some (.slice ia items.length ic) := k2.cell 9;  have q10 : w2.cell? ⟨w.heap.size, 10, none⟩ = some (.slice pa parts.length pc) := k2.cell 10))
  all_goals
    have k3 : Blk ((w2.setCell ⟨w.heap.size, 9, none⟩ (.slice a1 items.length c1)).setCell ⟨w.heap.size, 10, none⟩ (.slice a2 parts.length c2)) w.heap.size #[.int .u8 k, .bool nl, .string text, .int .i16 number, .int .i8 small, .float .f64 re, .float .f64 im, .bool flag, .int .u32 mask, .slice a1 items.length c1, .slice a2 parts.length c2] 79 := (k2.store 9 _).store 10 _
    have B3 : Below w.heap.size w ((w2.setCell ⟨w.heap.size, 9, none⟩ (.slice a1 items.length c1)).setCell ⟨w.heap.size, 10, none⟩ (.slice a2 parts.length c2)) := (BW2.setCell (p := ⟨w.heap.size, 9, none⟩) (Nat.le_refl _) _).setCell (p := ⟨w.heap.size, 10, none⟩) (Nat.le_refl _) _
    have k2b : Blk w2 (w.heap.size + 1) _ 79 := (Blk.below (w := W.drew) K2 hb1 (by omega)).below hb2 (by omega)
    have k3b := (k2b.other (p := ⟨w.heap.size, 9, none⟩) (by simp) (.slice a1 items.length c1)).other (p := ⟨w.heap.size, 10, none⟩) (by simp) (.slice a2 parts.length c2)
    have r1 := ((hr1.below hb2).setCell (p := ⟨w.heap.size, 9, none⟩) (fun x hx => by have := hn1 x hx; show x.block ≠ w.heap.size; omega) (.slice a1 items.length c1)).setCell (p := ⟨w.heap.size, 10, none⟩) (fun x hx => by have := hn1 x hx; show x.block ≠ w.heap.size; omega) (.slice a2 parts.length c2)
    have r2 := (hr2.setCell (p := ⟨w.heap.size, 9, none⟩) (fun x hx => by have := hn2 x hx; show x.block ≠ w.heap.size; omega) (.slice a1 items.length c1)).setCell (p := ⟨w.heap.size, 10, none⟩) (fun x hx => by have := hn2 x hx; show x.block ≠ w.heap.size; omega) (.slice a2 parts.length c2)
    have n1 : NewA (w.heap.size + 2) a1 := fun x hx => by have := hn1 x hx; omega
    have n2 : NewA (w.heap.size + 2) a2 := fun x hx => by have := hn2 x hx; omega
    clear q9 q10 f9 f10 g10 h9 h10 k1 k2 k2b K1 K1d K2 hr1 hr2 hn1 hn2 BW BWd BW1 BW2 hb1 hb2 hb1s hb2s hsz hszd
    generalize (w2.setCell ⟨w.heap.size, 9, none⟩ (.slice a1 items.length c1)).setCell ⟨w.heap.size, 10, none⟩ (.slice a2 parts.length c2) = W3 at *
    have hW3 := B3.size
    go_wp2_with (first
      | (refine wl79 rfl (.tmp 1) rfl w.heap.size rfl _ 79 k3 rfl ?_)
      | (refine ws79 rfl (.tmp 2) (.tmp 11) rfl (w.heap.size + 1) _ rfl rfl _ 79 k3b rfl rfl rfl ?_; intro W4 k4 t4 z4))
    refine bodyPost_ret (ret79 rfl _ _ (w.heap.size + 1) _ 79 rfl k4 rfl) rfl ?_
    exact ⟨⟨a1, _, a2, _, rfl, r1.turned (t4.mono (Nat.le_refl _) (fun _ h _ => h)) (fun x hx => by have := n1 x hx; simp; omega), r2.turned t4 (fun x hx => by have := n2 x hx; simp; omega), fun x hx => by have := n1 x hx; omega, fun x hx => by have := n2 x hx; omega⟩, B3.trans ((t4.mono (B' := w.heap.size) (S' := []) hW3 (fun k hk hlt => by simp at hk; omega)).below (by simp))⟩
end Go.Proofs.YtihmlhjdlpjehaaGreatDoor
namespace Go.Proofs.YtihmlhjdlpjehaaGreatDoor
open Go.RowKit

theorem RdS.lt {w : World} {a : Option Addr} {xs : List ByteArray} (h : RdS w a xs) (hx : xs ≠ []) : ∀ x, a = some x → x.block < w.heap.size := by
  rcases h with h | ⟨b, off, ha, hc⟩
  · exact absurd h hx
  · intro x hxa
    rw [ha] at hxa
    cases hxa
    exact World.block_lt_of_cell? w _ (hc 0 (List.length_pos_iff.2 hx))
theorem RdI.lt {w : World} {a : Option Addr} {xs : List Int} (h : RdI w a xs) (hx : xs ≠ []) : ∀ x, a = some x → x.block < w.heap.size := by
  rcases h with h | ⟨b, off, ha, hc⟩
  · exact absurd h hx
  · intro x hxa
    rw [ha] at hxa
    cases hxa
    exact World.block_lt_of_cell? w _ (hc 0 (List.length_pos_iff.2 hx))
theorem RdS.turn {w w' : World} {a : Option Addr} {xs : List ByteArray} {S : List Nat} (h : RdS w a xs) (t : Turned w.heap.size S w w') (hp : xs ≠ [] → ∀ x, a = some x → x.block ∉ S) : RdS w' a xs := by
  by_cases hx : xs = []
  · exact Or.inl hx
  · exact h.turned t (hp hx)
theorem RdI.turn {w w' : World} {a : Option Addr} {xs : List Int} {S : List Nat} (h : RdI w a xs) (t : Turned w.heap.size S w w') (hp : xs ≠ [] → ∀ x, a = some x → x.block ∉ S) : RdI w' a xs := by
  by_cases hx : xs = []
  · exact Or.inl hx
  · exact h.turned t (hp hx)
/-- The rows' specs read in memory, outside some blocks. -/
def RowsRd (w : World) (rows : List Rw) (S : List Nat) : Prop := ∀ r ∈ rows, RdS w r.ia r.sp.items ∧ RdI w r.pa r.sp.parts ∧ (r.sp.items ≠ [] → ∀ x, r.ia = some x → x.block ∉ S) ∧ (r.sp.parts ≠ [] → ∀ x, r.pa = some x → x.block ∉ S) ∧ r.sp.items.length ≤ 65536 ∧ r.sp.parts.length ≤ 65536
theorem RowsRd.turned {w w' : World} {rows : List Rw} {S : List Nat} (h : RowsRd w rows S) (t : Turned w.heap.size S w w') : RowsRd w' rows S := fun r hr => by
  obtain ⟨h1, h2, h3, h4, h5⟩ := h r hr
  exact ⟨h1.turn t h3, h2.turn t h4, h3, h4, h5⟩
theorem RowsRd.mono {w : World} {rows : List Rw} {S S' : List Nat} (h : RowsRd w rows S) (hS : ∀ k, k ∈ S' → k ∈ S) : RowsRd w rows S' := fun r hr => by
  obtain ⟨h1, h2, h3, h4, h5⟩ := h r hr
  exact ⟨h1, h2, fun e x hx hm => h3 e x hx (hS _ hm), fun e x hx hm => h4 e x hx (hS _ hm), h5⟩
theorem RowsRd.below {w w' : World} {rows : List Rw} {S : List Nat} (h : RowsRd w rows S) (t : Below w.heap.size w w') : RowsRd w' rows S := fun r hr => by
  obtain ⟨h1, h2, h3, h4, h5⟩ := h r hr
  exact ⟨h1.below t, h2.below t, h3, h4, h5⟩

theorem made_ok (bb : Nat) (v : Value) (rows : List Rw) (h : Nat) (w : World) (hB : BookV w bb v rows) (h1 : 1 ≤ h) (h2 : h ≤ rows.length) (hm : rows.length ≤ 65536) :
    Calls Tryz.prog 71 #[.pointer (some ⟨bb, 0, none⟩), .int .i64 h] w fun e w' => (∃ g cap, v = .slice (some ⟨g, 0, none⟩) rows.length cap ∧ e = .returned (.tuple #[.pointer (some ⟨g, (h - 1) * 16, none⟩), .int .i64 0])) ∧ w' = w := by
  have C := at_ok bb v rows h w hB h1 h2 hm
  rcases hB.cases with ⟨_, rfl⟩ | ⟨g, cap, rfl, hg25, hgb, hglt, hcells⟩
  · simp at h2; omega
  clear hcells
  have hz : ((h : Int) == 0) = false := by simp; omega
  go_enter Tryz.func71, Tryz.ntmps71
  go_wp2_with (go_at_call 62; refine C.mono ?_; rintro e w1 ⟨⟨g1, cap1, he, rfl⟩, rfl⟩; cases he)
  go_ret2; exact ⟨⟨_, _, rfl, rfl⟩, rfl⟩
theorem own_turned {w w' : World} {B e size n : Nat} {v : Value} {xs : List Value} {S : List Nat} (h : w.ownsRow B e size v n xs) (t : Turned w.heap.size S w w') (hn : ∀ g, v.ownBlock = some g → g ∉ S) : w'.ownsRow B e size v n xs := by
  refine ⟨h.1, ?_⟩
  rcases h.2 with h2 | ⟨g, cap, cur, rfl, hb, hg, rest⟩
  · exact .inl h2
  · refine .inr ⟨g, cap, cur, rfl, hb, ?_, rest⟩
    rw [t.block g (Array.getElem?_eq_some_iff.1 hg).1 (hn g rfl)]
    exact hg
theorem BookV.turned {w w' : World} {bb : Nat} {v : Value} {rows : List Rw} {S : List Nat} (h : BookV w bb v rows) (t : Turned w.heap.size S w w') (hb : bb ∉ S) (hn : ∀ g, v.ownBlock = some g → g ∉ S) : BookV w' bb v rows :=
  ⟨h.1.turned t h.1.lt hb, own_turned h.2.1 t hn, h.2.2⟩
theorem BookV.below {w w' : World} {bb : Nat} {v : Value} {rows : List Rw} (h : BookV w bb v rows) (t : Below w.heap.size w w') : BookV w' bb v rows := h.turned (S := []) (Turned.of_below t) (by simp) (by simp)

set_option maxRecDepth 100000 in
set_option maxHeartbeats 1000000 in
theorem Spec_ok (bb : Nat) (v : Value) (rows : List Rw) (h : Nat) (w : World) (hB : BookV w bb v rows) (h1 : 1 ≤ h) (h2 : h ≤ rows.length) (hm : rows.length ≤ 65536) (hR : RowsRd w rows []) :
    Calls Tryz.prog 36 #[.pointer (some ⟨bb, 0, none⟩), .int .i64 h] w fun e w' => (∃ ia ic pa pc, e = .returned (.tuple #[(rows[h - 1]'(by omega)).sp.val ia ic pa pc, .int .i64 0]) ∧ RdS w' ia (rows[h - 1]'(by omega)).sp.items ∧ RdI w' pa (rows[h - 1]'(by omega)).sp.parts ∧ NewA w.heap.size ia ∧ NewA w.heap.size pa) ∧ Below w.heap.size w w' := by
  have b0 := below_one w (.cells #[.int .u8 0, .bool false, .string { data := #[] }, .int .i16 0, .int .i8 0, .float .f64 0, .float .f64 0, .bool false, .int .u32 0, .slice none 0 0, .slice none 0 0] 79)
  have kz := Blk.new w #[.int .u8 0, .bool false, .string { data := #[] }, .int .i16 0, .int .i8 0, .float .f64 0, .float .f64 0, .bool false, .int .u32 0, .slice none 0 0, .slice none 0 0] 79
  have z0 : (w.alloc (.cells #[.int .u8 0, .bool false, .string { data := #[] }, .int .i16 0, .int .i8 0, .float .f64 0, .float .f64 0, .bool false, .int .u32 0, .slice none 0 0, .slice none 0 0] 79)).heap.size = w.heap.size + 1 := by simp
  obtain ⟨W, hW⟩ : ∃ W, W = w.alloc (.cells #[.int .u8 0, .bool false, .string { data := #[] }, .int .i16 0, .int .i8 0, .float .f64 0, .float .f64 0, .bool false, .int .u32 0, .slice none 0 0, .slice none 0 0] 79) := ⟨_, rfl⟩
  rw [← hW] at b0 kz z0
  replace hB := hB.below b0
  replace hR := hR.below b0
  have C := made_ok bb v rows h W hB h1 h2 hm
  rcases hB.cases with ⟨_, rfl⟩ | ⟨g, cap, rfl, hg25, hgb, hglt, hcells⟩
  · simp at h2; omega
  have hlt : h - 1 < rows.length := by omega
  have hc := hcells (h - 1) hlt
  obtain ⟨r1, r2, _, _, r5, r6⟩ := hR _ (List.getElem_mem hlt)
  clear hcells hR hB
  generalize rows[h - 1] = r at *
  have T := twin_any r.sp r.ia r.pa r.ic r.pc W r1 r2 r5 r6
  obtain ⟨err, ⟨k, nl, text, number, small, re, im, flag, mask, items, parts⟩, ia, ic, pa, pc, rsize, rdepth, rlong, rwords⟩ := r
  unfold Sp.val at *
  dsimp only at *
  have hra : W.rangeAt g ((h - 1) * 16 + 1) [.int .u8 k, .bool nl, .string text, .int .i16 number, .int .i8 small, .float .f64 re, .float .f64 im, .bool flag, .int .u32 mask, .slice ia items.length ic, .slice pa parts.length pc] := by
    intro j x hj
    have hj2 : j < 11 := by have := (List.getElem?_eq_some_iff.1 hj).1; simpa using this
    have := hc (j + 1) (by omega)
    rw [show (h - 1) * 16 + 1 + j = (h - 1) * 16 + (j + 1) by omega, this]
    match j, hj2, hj with
    | 0, _, hj => exact hj
    | 1, _, hj => exact hj
    | 2, _, hj => exact hj
    | 3, _, hj => exact hj
    | 4, _, hj => exact hj
    | 5, _, hj => exact hj
    | 6, _, hj => exact hj
    | 7, _, hj => exact hj
    | 8, _, hj => exact hj
    | 9, _, hj => exact hj
    | 10, _, hj => exact hj
  clear hc
  generalize items.length = ni at *
  generalize parts.length = np at *
  have HT := Lib.hid T
  clear T
  go_enter Tryz.func36, Tryz.ntmps36
  go_wp2_with fail
  rw [← hW]
  refine C.mono ?_
  rintro e w1 ⟨⟨g1, cap1, he, rfl⟩, rfl⟩
  cases he
  clear hW
  go_wp2_with (first
    | (refine wl79m rfl (.tmp 16) rfl g ((h - 1) * 16 + 1) rfl _ hra rfl ?_)
    | (go_at_call 64; refine HT.out.mono ?_; rintro e w2 ⟨⟨a1, c1, a2, c2, rfl, hr1, hr2, hn1, hn2⟩, hb2⟩; have kz2 := kz.below hb2 (by omega); have hz2 := hb2.size)
    | (refine ws79 rfl (.tmp 4) (.tmp 18) rfl w.heap.size _ rfl rfl _ 79 kz2 rfl rfl rfl ?_; intro W4 k4 t4 z4))
  refine bodyPost_ret (ret79b rfl _ _ w.heap.size _ 79 rfl k4 rfl) rfl ?_
  exact ⟨⟨a1, _, a2, _, rfl, hr1.turned t4 (fun x hx => by have := hn1 x hx; simp; omega), hr2.turned t4 (fun x hx => by have := hn2 x hx; simp; omega), fun x hx => by have := hn1 x hx; omega, fun x hx => by have := hn2 x hx; omega⟩, (b0.trans (hb2.mono (by omega))).trans ((t4.mono (B' := w.heap.size) (S' := []) (by omega) (fun k hk hlt => by simp at hk; omega)).below (by simp))⟩
end Go.Proofs.YtihmlhjdlpjehaaGreatDoor
