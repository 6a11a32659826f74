/- Package kinds: Make at the kinds wrap and join. Package kinds: Long, what it reckons out of the parts' lengths (plain), and the words of its walk. Package kinds: Long at wrap and join, code and level. -/
import Derived.Test.YtihmlhjdlpjehaaGreatDoorShelf
import Derived.Test.YtihmlhjdlpjehaaGreatDoorK13
import Derived.Deep.RegionWith
import Derived.OwnWalk
set_option linter.unusedVariables false
set_option linter.unusedSimpArgs false
namespace Go.Proofs.YtihmlhjdlpjehaaGreatDoor
open Go.RowKit

set_option maxRecDepth 100000 in
set_option maxHeartbeats 2000000 in
theorem Make_wrap (s : Sp) (hk : s.kind = 14) (hn : s.nl = false) (hc : checkE s = 0) (x : Value) (hx : ErrN x) (hl : s.parts.length = 1) : MakesE s [x] := by
  intro ia pa ea ic pc ec w hi he
  have b0 : Below w.heap.size w (w.alloc (.cells (s.val ia ic pa pc).cells 79)) := below_one _ _
  have kz : Blk (w.alloc (.cells (s.val ia ic pa pc).cells 79)) w.heap.size (s.val ia ic pa pc).cells 79 := Blk.new w _ 79
  have z0 : (w.alloc (.cells (s.val ia ic pa pc).cells 79)).heap.size = w.heap.size + 1 := by simp
  have C := Check_any s ia pa ic pc (w.alloc (.cells (s.val ia ic pa pc).cells 79)) (hi.below b0)
  have L := fun w => around_any s x hx ia pa ic pc w (by rw [hk]; decide)
  rw [hc] at C
  obtain ⟨k, nl, text, number, small, re, im, flag, mask, items, parts⟩ := s
  unfold Sp.val at *
  dsimp only at *
  subst hn
  rw [hl] at *
  generalize items.length = ni at *
  obtain ⟨b, off, rfl, hcx⟩ : ∃ b off, ea = some ⟨b, off, none⟩ ∧ w.cell? ⟨b, off, none⟩ = some x := by
    rcases he with he | ⟨b, off, he, hc⟩
    · cases he
    · exact ⟨b, off, he, hc 0 (by simp)⟩
  have hblt := World.block_lt_of_cell? w _ hcx
  dsimp only at hblt
  have HC := Lib.hid C
  have HL := Lib.hid L
  clear C L hc hi he
  subst hk
  dsimp only [List.length_cons, List.length_nil]
  go_enter Tryz.func65, Tryz.ntmps65
  go_wp2_with (first
      | (refine wl79 rfl (.tmp 11) rfl w.heap.size rfl _ 79 kz rfl ?_)
      | (refine wl79 rfl (.tmp 2) rfl w.heap.size rfl _ 79 kz rfl ?_)
      | (refine wl79 rfl (.tmp 2) rfl w.heap.size rfl _ 79 kz1 rfl ?_)
      | (go_at_call 63; refine HC.out.mono ?_; rintro e w1 ⟨rfl, hb1⟩; have kz1 := kz.below hb1 (by omega); have hz1 := hb1.size; have hcx1 : w1.cell? ⟨b, off, none⟩ = some x := (hb1.cell (p := ⟨b, off, none⟩) (by show b < _; omega)).trans ((b0.cell (p := ⟨b, off, none⟩) hblt).trans hcx); have q10 : w1.cell? ⟨w.heap.size, 10, none⟩ = some (.slice pa 1 pc) := kz1.cell 10; have q1 : w1.cell? ⟨w.heap.size, 1, none⟩ = some (.bool false) := kz1.cell 1; have q0 : w1.cell? ⟨w.heap.size, 0, none⟩ = some (.int .u8 14) := kz1.cell 0)
      | (go_at_call 114; refine (part_some b off 0 ec x w1 hcx1).mono ?_; rintro e w2 ⟨rfl, rfl⟩)
      | (go_at_call 116; refine (HL.out _).mono ?_; rintro e w3 ⟨⟨v, rfl, hv⟩, hb3⟩))
  have q0 : w1.cell? ⟨w.heap.size, 0, none⟩ = some (.int .u8 14) := kz1.cell 0
  have q1 : w1.cell? ⟨w.heap.size, 1, none⟩ = some (.bool false) := kz1.cell 1
  have q2 : w1.cell? ⟨w.heap.size, 2, none⟩ = some (.string text) := kz1.cell 2
  have q3 : w1.cell? ⟨w.heap.size, 3, none⟩ = some (.int .i16 number) := kz1.cell 3
  have q4 : w1.cell? ⟨w.heap.size, 4, none⟩ = some (.int .i8 small) := kz1.cell 4
  have q5 : w1.cell? ⟨w.heap.size, 5, none⟩ = some (.float .f64 re) := kz1.cell 5
  have q6 : w1.cell? ⟨w.heap.size, 6, none⟩ = some (.float .f64 im) := kz1.cell 6
  have q7 : w1.cell? ⟨w.heap.size, 7, none⟩ = some (.bool flag) := kz1.cell 7
  have q8 : w1.cell? ⟨w.heap.size, 8, none⟩ = some (.int .u32 mask) := kz1.cell 8
  have q9 : w1.cell? ⟨w.heap.size, 9, none⟩ = some (.slice ia ni ic) := kz1.cell 9
  have q10 : w1.cell? ⟨w.heap.size, 10, none⟩ = some (.slice pa 1 pc) := kz1.cell 10
  have D := fun w1 h => part_some b off 0 ec x w1 h
  go_region_with (first
    | (go_at_call 114; refine (D w1.drew hcx1).mono ?_; rintro e w2 ⟨rfl, rfl⟩)
    | (go_at_call 116; refine (HL.out _).mono ?_; rintro e w3 ⟨⟨v, rfl, hv⟩, hb3⟩))
  all_goals
    go_wp2
    go_ret2
    have hb3' : Below w1.heap.size w1 w3 := (Below.refl w1.heap.size w1).drew.trans hb3
    exact ⟨⟨v, rfl, hv⟩, (b0.trans (hb1.mono (by omega))).trans (hb3'.mono (by omega))⟩

theorem i137 : (Tryz.prog.info? 137).map (fun i => (i.zero, i.size, i.bytes)) = some (some .nilIface, 1, 16) := by kernel_rfl
theorem cloneE (a : Option Addr) (c : Nat) (xs : List Value) (w : World) (h : RdE w a xs) (h1 : ∀ x ∈ xs, x.oneCell' = true) (hb : xs.length ≤ 65536) (hne : xs ≠ []) :
    Calls Tryz.prog 117 #[.slice a xs.length c] w fun e w' => (∃ a' c', e = .returned (.slice a' xs.length c')) ∧ Below w.heap.size w w' := by
  obtain ⟨i0, hi, hz0, hz1, hz2⟩ := info_parts i137
  rcases h with h | ⟨b, off, rfl, hc⟩
  · exact absurd h hne
  refine (Tryz.slices_Clone_f117 i0 .nilIface 1 16 hi hz0 hz1 hz2 rfl (by decide) (fun w => by kernel_rfl) b off xs.length c xs w (by omega) (by unfold maxLen; omega) (by omega) (fun j u hu => ?_) h1).mono ?_
  · have hj : j < xs.length := (List.getElem?_eq_some_iff.1 hu).1
    rw [hc j hj]
    simp [List.getD, hu]
  · rintro e w' ⟨v', rfl, ho, hn, hb⟩
    rcases ho.2 with ⟨e, h0⟩ | ⟨g, cap, cur, e, _⟩
    · exact absurd e hn
    · exact ⟨⟨_, _, by rw [e]⟩, hb⟩
set_option maxRecDepth 100000 in
set_option maxHeartbeats 2000000 in
theorem Make_join (s : Sp) (hk : s.kind = 16) (hn : s.nl = false) (hc : checkE s = 0) (es : List Value) (hl : es.length = s.parts.length) (h1 : ∀ x ∈ es, x.oneCell' = true) (hb : es.length ≤ 65536) (hne : es ≠ []) : MakesE s es := by
  intro ia pa ea ic pc ec w hi he
  have b0 : Below w.heap.size w (w.alloc (.cells (s.val ia ic pa pc).cells 79)) := below_one _ _
  have kz : Blk (w.alloc (.cells (s.val ia ic pa pc).cells 79)) w.heap.size (s.val ia ic pa pc).cells 79 := Blk.new w _ 79
  have z0 : (w.alloc (.cells (s.val ia ic pa pc).cells 79)).heap.size = w.heap.size + 1 := by simp
  have C := Check_any s ia pa ic pc (w.alloc (.cells (s.val ia ic pa pc).cells 79)) (hi.below b0)
  rw [hc] at C
  obtain ⟨k, nl, text, number, small, re, im, flag, mask, items, parts⟩ := s
  unfold Sp.val at *
  dsimp only at *
  rw [hl]
  subst hn
  generalize parts.length = np at *
  generalize items.length = ni at *
  have HC := Lib.hid C
  have HE := Lib.hid (fun wr (hbr : Below w.heap.size w wr) => cloneE ea ec es wr (he.below hbr) h1 hb hne)
  rw [hl] at HE
  clear C hc hi he hl
  subst hk
  go_enter Tryz.func65, Tryz.ntmps65
  go_wp2_with (first
      | (refine wl79 rfl (.tmp 11) rfl w.heap.size rfl _ 79 kz rfl ?_)
      | (refine wl79 rfl (.tmp 2) rfl w.heap.size rfl _ 79 kz rfl ?_)
      | (go_at_call 63; refine HC.out.mono ?_; rintro e w1 ⟨rfl, hb1⟩; have kz1 := kz.below hb1 (by omega); have hz1 := hb1.size; have hbw := b0.trans (hb1.mono (by omega)); have q10 : w1.cell? ⟨w.heap.size, 10, none⟩ = some (.slice pa np pc) := kz1.cell 10; have q1 : w1.cell? ⟨w.heap.size, 1, none⟩ = some (.bool false) := kz1.cell 1; have q0 : w1.cell? ⟨w.heap.size, 0, none⟩ = some (.int .u8 16) := kz1.cell 0)
      | (go_at_call 117; refine (HE.out _ (by assumption)).mono ?_; rintro e w2 ⟨⟨a2, c2, rfl⟩, hb2⟩))
  go_ret2
  refine ⟨⟨_, rfl, _, _, rfl, ?_⟩, (hbw.trans (hb2.mono (by omega))).alloc (by have := hb2.size; omega) _⟩
  refine ⟨?_, ?_, ?_, ?_⟩ <;> (intro h; exact absurd h (by decide))
end Go.Proofs.YtihmlhjdlpjehaaGreatDoor
namespace Go.Proofs.YtihmlhjdlpjehaaGreatDoor
open Go.RowKit

theorem new1 (w : World) (v : Value) (T : TypeId) : ∀ j u, [v][j]? = some u → (w.alloc (.cells #[v] T)).cell? ((⟨w.heap.size, 0, none⟩ : Addr).add j) = some u := by
  intro j u hj
  match j, hj with
  | 0, hj => simp at hj; subst hj; simp [Addr.add]
  | j + 1, hj => simp at hj
theorem i3 : (Tryz.prog.info? 3).map (fun i => (i.zero, i.size, i.bytes)) = some (some (.int .i64 0), 1, 8) := by kernel_rfl
theorem u54 : Tryz.prog.underlying 54 = some (.slice 3) := by kernel_rfl

/-- The lengths that count: of each part that is there, cut. -/
def lensF : List Int → List Int → List Int
  | p :: ps, l :: ls => if p = 0 then lensF ps ls else max 0 (min 65537 l) :: lensF ps ls
  | _, _ => []
theorem lensF_snoc (ps ls : List Int) (p l : Int) (h : ps.length = ls.length) : lensF (ps ++ [p]) (ls ++ [l]) = lensF ps ls ++ (if p = 0 then [] else [max 0 (min 65537 l)]) := by
  induction ps generalizing ls with
  | nil =>
    cases ls with
    | nil => simp only [List.nil_append, lensF]
    | cons _ _ => simp at h
  | cons q ps ih =>
    cases ls with
    | nil => simp at h
    | cons m ls =>
      have := ih ls (by simpa using h)
      simp only [List.cons_append, lensF, this]
      split <;> simp
theorem lensF_len (ps ls : List Int) : (lensF ps ls).length ≤ ps.length := by
  induction ps generalizing ls with
  | nil => cases ls <;> simp [lensF]
  | cons q ps ih =>
    cases ls with
    | nil => simp [lensF]
    | cons m ls =>
      have := ih ls
      simp only [lensF]
      split <;> simp <;> omega
theorem lensF_mem (ps ls : List Int) : ∀ x ∈ lensF ps ls, 0 ≤ x ∧ x ≤ 65537 := by
  induction ps generalizing ls with
  | nil => cases ls <;> simp [lensF]
  | cons q ps ih =>
    cases ls with
    | nil => simp [lensF]
    | cons m ls =>
      intro x hx
      simp only [lensF] at hx
      split at hx
      · exact ih ls x hx
      · rcases List.mem_cons.1 hx with rfl | hx
        · omega
        · exact ih ls x hx
def sumL (l : List Int) : Int := l.foldl (· + ·) 0
theorem sumL_snoc (l : List Int) (x : Int) : sumL (l ++ [x]) = sumL l + x := by simp [sumL]
theorem foldl_bound (l : List Int) : ∀ a : Int, (∀ x ∈ l, 0 ≤ x ∧ x ≤ 65537) → a ≤ l.foldl (· + ·) a ∧ l.foldl (· + ·) a ≤ a + 65537 * l.length := by
  induction l with
  | nil => intro a _; simp
  | cons x l ih =>
    intro a h
    have h1 := ih (a + x) fun y hy => h y (by simp [hy])
    have h2 := h x (by simp)
    simp only [List.foldl_cons, List.length_cons]
    omega
theorem sumL_bound (l : List Int) (h : ∀ x ∈ l, 0 ≤ x ∧ x ≤ 65537) : 0 ≤ sumL l ∧ sumL l ≤ 65537 * l.length := by
  have := foldl_bound l 0 h
  unfold sumL; omega
end Go.Proofs.YtihmlhjdlpjehaaGreatDoor
namespace Go.Proofs.YtihmlhjdlpjehaaGreatDoor
open Go.RowKit

def longV (k : Int) (text : ByteArray) (l : List Int) (t : Int) : Int :=
  if k = 14 then text.size + (sumL l + 2) * l.length else if k = 16 then sumL l + max 0 ((l.length : Int) - 1) else t

set_option maxRecDepth 100000 in
set_option maxHeartbeats 2000000 in
theorem Long_w (s : Sp) (hk : s.kind = 14 ∨ s.kind = 16) (hc : checkE s = 0) (lens : List Int) (hl : lens.length = s.parts.length) (hp : s.parts.length ≤ 64) (ia pa la : Option Addr) (ic pc lc : Nat) (w : World) (hi : RdS w ia s.items) (hpr : RdI w pa s.parts) (hlr : RdI w la lens) (hts : s.text.size ≤ 4096) :
    Calls Tryz.prog 66 #[s.val ia ic pa pc, .slice la lens.length lc] w fun e w' => e = .returned (.int .i64 (longV s.kind s.text (lensF s.parts lens) 0)) ∧ Below w.heap.size w w' := by
  have b0 : Below w.heap.size w (w.alloc (.cells (s.val ia ic pa pc).cells 79)) := below_one _ _
  have kz : Blk (w.alloc (.cells (s.val ia ic pa pc).cells 79)) w.heap.size (s.val ia ic pa pc).cells 79 := Blk.new w _ 79
  have z0 : (w.alloc (.cells (s.val ia ic pa pc).cells 79)).heap.size = w.heap.size + 1 := by simp
  have C := Check_any s ia pa ic pc (w.alloc (.cells (s.val ia ic pa pc).cells 79)) (hi.below b0)
  rw [hc] at C
  obtain ⟨i0, hi0, hz0, hz1, hz2⟩ := info_parts i3
  have HI := Lib.hid (And.intro hi0 (And.intro hz0 (And.intro hz1 hz2)))
  clear hi0 hz0 hz1 hz2
  obtain ⟨k, nl, text, number, small, re, im, flag, mask, items, parts⟩ := s
  unfold Sp.val at *
  dsimp only at *
  rw [hl]
  generalize items.length = ni at *
  obtain ⟨np, hnp⟩ : ∃ np, parts.length = np := ⟨_, rfl⟩
  rw [hnp] at C b0 kz z0 hl hp ⊢
  have HC := Lib.hid C
  have HNP := Lib.hid hnp
  have HL := Lib.hid hl
  have HPR := Lib.hid hpr
  have HLR := Lib.hid hlr
  have HK := Lib.hid hk
  clear C hc hi hl hnp hpr hlr hk
  go_enter Tryz.func66, Tryz.ntmps66
  go_wp2_with fail
  refine HC.out.mono ?_
  rintro e w1 ⟨rfl, hb1⟩
  have kz1 := kz.below hb1 (by omega)
  have hz1 := hb1.size
  have q10 : w1.cell? ⟨w.heap.size, 10, none⟩ = some (.slice pa np pc) := kz1.cell 10
  have q0 : w1.cell? ⟨w.heap.size, 0, none⟩ = some (.int .u8 k) := kz1.cell 0
  have q2 : w1.cell? ⟨w.heap.size, 2, none⟩ = some (.string text) := kz1.cell 2
  have BW := b0.trans (hb1.mono (by omega))
  clear kz kz1 b0 HC
  go_wp2_with fail
  go_loopw [5, 18] (fun v i wr => ∃ m : Nat, m ≤ np ∧ i = .int .i64 m ∧ wr.ownsRow (w.heap.size + 1) 3 1 v (lensF (parts.take m) (lens.take m)).length ((lensF (parts.take m) (lens.take m)).map (Value.int .i64)) ∧ Below (w.heap.size + 1) w1 wr) (fun _ i _ => np - (intOf i).toNat)
  case atStart => exact ⟨0, Nat.zero_le _, rfl, World.ownsRow_nil _ _ _ _, Below.refl _ _⟩
  case round =>
    obtain ⟨m, hm, rfl, hown, hbr⟩ := hrel
    have hbs := hbr.size
    by_cases hlt : m < np
    · have hml : m < parts.length := by rw [HNP.out]; exact hlt
      have hmll : m < lens.length := by rw [HL.out]; exact hlt
      have hbw : Below w.heap.size w wr := BW.trans (hbr.mono (by omega))
      obtain ⟨bp, op, hpa, hcp⟩ : ∃ b off, pa = some ⟨b, off, none⟩ ∧ ∀ j, j < parts.length → w.cell? ⟨b, off + j, none⟩ = some (.int .i64 (parts.getD j 0)) := by
        rcases HPR.out with h | h
        · rw [h] at hml; simp at hml
        · exact h
      obtain ⟨bl, ol, hla, hcl⟩ : ∃ b off, la = some ⟨b, off, none⟩ ∧ ∀ j, j < lens.length → w.cell? ⟨b, off + j, none⟩ = some (.int .i64 (lens.getD j 0)) := by
        rcases HLR.out with h | h
        · rw [h] at hmll; simp at hmll
        · exact h
      subst hpa hla
      have cp := hcp m hml
      have cl := hcl m hmll
      have cp1 : wr.cell? ⟨bp, op + m, none⟩ = some (.int .i64 (parts.getD m 0)) := (hbw.cell (p := ⟨bp, op + m, none⟩) (World.block_lt_of_cell? w _ cp)).trans cp
      have cl1 : wr.cell? ⟨bl, ol + m, none⟩ = some (.int .i64 (lens.getD m 0)) := (hbw.cell (p := ⟨bl, ol + m, none⟩) (World.block_lt_of_cell? w _ cl)).trans cl
      have hsn : lensF (parts.take (m + 1)) (lens.take (m + 1)) = lensF (parts.take m) (lens.take m) ++ (if parts.getD m 0 = 0 then [] else [max 0 (min 65537 (lens.getD m 0))]) := by
        rw [List.take_succ_eq_append_getElem hml, List.take_succ_eq_append_getElem hmll, lensF_snoc _ _ _ _ (by simp; omega)]
        simp [List.getD, hml, hmll]
      have hLl := lensF_len (parts.take m) (lens.take m)
      have hLl2 : (lensF (parts.take m) (lens.take m)).length ≤ 64 := by rw [List.length_take] at hLl; omega
      have HSN := Lib.hid hsn
      clear hsn hcp hcl cp cl hml hmll hLl
      generalize parts.getD m 0 = p at *
      generalize lens.getD m 0 = l at *
      generalize lensF (parts.take m) (lens.take m) = L at *
      by_cases hp0 : p = 0
      · subst hp0
        go_wp2
        go_roundw
        case rel =>
          refine ⟨m + 1, by omega, by go_num, ?_, hbr⟩
          rw [HSN.out]; simpa using hown
        case measure => simp [intOf]; omega
      · have hpne : (p == 0) = false := by simpa using hp0
        have hn1 : w.heap.size + 1 ≤ wr.heap.size := by omega
        clear z0 HPR HLR HNP HL
        obtain ⟨hi0, hz0, hz1, hz2⟩ := HI.out
        go_wp2_with (at_builtin; refine wpList_append_own _ rfl (.tmp 35) (.tmp 37) 54 rfl (w.heap.size + 1) 3 i0 (.int .i64 0) 1 8 u54 hi0 hz0 hz1 hz2 rfl (by decide) _ L.length (L.map (Value.int .i64)) rfl (hown.alloc _) ⟨wr.heap.size, 0, none⟩ 1 1 [.int .i64 (max 0 (min 65537 l))] rfl rfl (new1 _ _ _) (by intro u hu; simp at hu; subst hu; rfl) (by unfold maxLen; omega) (by omega) (by simp; omega) ?_; intro v' w2 hown' hgr _)
        go_wp2
        go_roundw
        case rel =>
          refine ⟨m + 1, by omega, by go_num, ?_, Below.grown (hbr.alloc (by omega) _) hgr (by simp; omega) (fun k hk => (hown.lt k hk).1)⟩
          rw [HSN.out, if_neg hp0, List.length_append, List.map_append]
          exact hown'
        case measure => simp [intOf]; omega
    · have hLe : lensF (parts.take m) (lens.take m) = lensF parts lens := by rw [List.take_of_length_le (by rw [HNP.out]; omega), List.take_of_length_le (by rw [HL.out]; omega)]
      rw [hLe] at hown
      have hLl := lensF_len parts lens
      rw [HNP.out] at hLl
      have hsb := fun j => sumL_bound ((lensF parts lens).take j) (fun x hx => lensF_mem parts lens x (List.mem_of_mem_take hx))
      have hxb := lensF_mem parts lens
      obtain ⟨L, hL⟩ : ∃ L, lensF parts lens = L := ⟨_, rfl⟩
      rw [hL] at hown hLl hsb hxb
      have HLD := Lib.hid hL
      clear hLe HPR HLR HNP HL HI hL
      obtain ⟨a, c, rfl, hrd, _⟩ := own_int (xs := L) rfl hown
      have r0 : wr.cell? ⟨w.heap.size, 0, none⟩ = some (.int .u8 k) := (hbr.cell (p := ⟨w.heap.size, 0, none⟩) (by show w.heap.size < w.heap.size + 1; omega)).trans q0
      have r2 : wr.cell? ⟨w.heap.size, 2, none⟩ = some (.string text) := (hbr.cell (p := ⟨w.heap.size, 2, none⟩) (by show w.heap.size < w.heap.size + 1; omega)).trans q2
      have hbw : Below w.heap.size w wr := BW.trans (hbr.mono (by omega))
      have HSB := Lib.hid hsb
      have HXB := Lib.hid hxb
      have HBW := Lib.hid hbw
      obtain ⟨nl', hnl⟩ : ∃ n, L.length = n := ⟨_, rfl⟩
      have HNL := Lib.hid hnl
      rw [hnl]
      rw [hnl] at hLl
      have hn1 : w.heap.size + 1 ≤ wr.heap.size := by omega
      clear hown hbr hbs hsb hxb hbw BW q0 q2 z0 hnl
      go_wp2
      go_loop [9, 42] (fun sm i => ∃ j : Nat, j ≤ nl' ∧ i = .int .i64 j ∧ sm = .int .i64 (sumL (L.take j))) (fun _ i => nl' - (intOf i).toNat)
      case atStart => exact ⟨0, Nat.zero_le _, rfl, rfl⟩
      case round =>
        obtain ⟨j, hj, rfl, rfl⟩ := hrel
        by_cases hjl : j < nl'
        · obtain ⟨g, o, rfl, hcg⟩ : ∃ b off, a = some ⟨b, off, none⟩ ∧ ∀ j, j < L.length → wr.cell? ⟨b, off + j, none⟩ = some (.int .i64 (L.getD j 0)) := by
            rcases hrd with h | h
            · exfalso; have := HNL.out; rw [h] at this; simp at this; omega
            · exact h
          have hjL : j < L.length := by rw [HNL.out]; exact hjl
          have cj := hcg j hjL
          have hs1 : sumL (L.take (j + 1)) = sumL (L.take j) + L.getD j 0 := by
            rw [List.take_succ_eq_append_getElem hjL, sumL_snoc]; simp [List.getD, hjL]
          have hb1 := HSB.out j
          have hb2 := HSB.out (j + 1)
          have hb3 : ((L.take j).length : Int) ≤ 64 := by rw [List.length_take]; omega
          have hb4 : ((L.take (j + 1)).length : Int) ≤ 64 := by rw [List.length_take]; omega
          rw [hs1] at hb2
          have HS1 := Lib.hid hs1
          clear hs1 hcg hjL
          generalize sumL (L.take j) = S at *
          generalize L.getD j 0 = y at *
          generalize ((L.take j).length : Int) = e1 at *
          generalize ((L.take (j + 1)).length : Int) = e2 at *
          go_wp2
          go_round
          case rel => exact ⟨j + 1, by omega, by go_num, by rw [HS1.out]⟩
          case measure => simp [intOf]; omega
        · have hb1 := HSB.out j
          have htk : L.take j = L := List.take_of_length_le (by rw [HNL.out]; omega)
          rw [htk] at hb1 ⊢
          rw [HNL.out] at hb1
          generalize hS : sumL L = S at *
          have HSS := Lib.hid hS
          clear hS htk hrd
          have hm1 : 0 ≤ (S + 2) * (nl' : Int) ∧ (S + 2) * (nl' : Int) ≤ 65537 * 64 * 128 := by
            constructor
            · exact Int.mul_nonneg (by omega) (by omega)
            · have h1 : (S + 2) * (nl' : Int) ≤ (65537 * 64 + 2) * (nl' : Int) := Int.mul_le_mul_of_nonneg_right (by omega) (by omega)
              omega
          obtain ⟨M, hM⟩ : ∃ M, (S + 2) * (nl' : Int) = M := ⟨_, rfl⟩
          rcases HK.out with rfl | rfl
          · go_wp2
            go_ret
            refine ⟨ret_int ?_, HBW.out⟩
            rw [HLD.out]
            simp only [longV, if_true]
            rw [HSS.out, HNL.out, hM]
          · go_wp2
            go_ret
            refine ⟨ret_int ?_, HBW.out⟩
            rw [HLD.out]
            have e : ¬ ((16 : Int) = 14) := by decide
            simp only [longV, if_true, if_neg e]
            rw [HSS.out, HNL.out]
end Go.Proofs.YtihmlhjdlpjehaaGreatDoor
