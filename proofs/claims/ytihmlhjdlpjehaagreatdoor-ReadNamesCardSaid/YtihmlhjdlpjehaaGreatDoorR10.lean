/- Package text: Quote, at a text of plain bytes. -/
import Derived.Test.YtihmlhjdlpjehaaGreatDoorR9
import Derived.Maps.AppendAt
set_option linter.unusedVariables false
set_option linter.unusedSimpArgs false
namespace Go.Proofs.YtihmlhjdlpjehaaGreatDoor
open Go.RowKit Go.Shelf
attribute [local go_sem] Oper.semAt_some

theorem i5 : (Tryz.prog.info? 5).map (fun i => (i.zero, i.size, i.bytes)) = some (some (.int .u8 0), 1, 1) := by kernel_rfl
theorem u104 : Tryz.prog.underlying 104 = some (.slice 5) := by kernel_rfl
/-- The cells of plain bytes. -/
def pcells (L : List PC) : List Value := L.map fun x => .int .u8 x.c

/-- The quotes of plain bytes. -/
def qB (L : List PC) : List UInt8 := 34 :: L.map (fun x => UInt8.ofNat x.c) ++ [34]
theorem qB_cells (L : List PC) : (qB L).map (fun b => Value.int .u8 (b.toNat : Int)) = (.int .u8 34 :: pcells L) ++ [.int .u8 34] := by
  have h : (L.map (fun x => UInt8.ofNat x.c)).map (fun b => Value.int .u8 (b.toNat : Int)) = pcells L := by
    rw [List.map_map]
    refine List.map_congr_left fun x _ => ?_
    have := x.h2
    simp only [Function.comp, UInt8.toNat_ofNat']
    rw [Nat.mod_eq_of_lt (by omega)]
  simp only [qB, List.map_append, List.map_cons, List.map_nil, h]
  rfl
theorem qB_len (L : List PC) : (qB L).length = L.length + 1 + 1 := by simp [qB]
theorem conv_own {w : World} {base g n cap : Nat} {l : List UInt8} (h : w.ownsRow base 5 1 (.slice (some ⟨g, 0, none⟩) n cap) n (l.map fun b => Value.int .u8 (b.toNat : Int))) (hn : l.length = n) : (convert 104 9 (.slice (some ⟨g, 0, none⟩) n cap)).run Tryz.prog w = .ok (.string ⟨l.toArray⟩) w := by
  subst hn
  refine run_convert_bytes_back w 104 9 5 ⟨g, 0, none⟩ cap l u104 (by kernel_rfl) (by kernel_rfl) fun j hj => ?_
  rw [Addr.add_lit, Nat.zero_add, h.cellAt j (by omega)]
  simp [hj]

theorem own_keeps {W w1 : World} {n₀ : Nat} {e : TypeId} {size : Nat} {v : Value} {k : Nat} {xs : List Value} (tmp : Obj) (hrow : W.ownsRow n₀ e size v k xs) (hn₀ : n₀ ≤ W.heap.size) (hgrow : (W.alloc tmp).grownBy w1 v.ownBlock) : KeepsOthers W w1 ∧ Below n₀ W w1 := by
  refine ⟨(KeepsOthers.alloc W tmp).trans (KeepsOthers.of_grownBy hgrow fun j o ej hj => ?_), ((Below.refl n₀ W).alloc hn₀ tmp).grown hgrow (by simp; omega) fun j ej => (hrow.lt j ej).1⟩
  rcases (hrow.alloc tmp).2 with ⟨rfl, _⟩ | ⟨g, cap, cur, rfl, _, hgb, _⟩
  · simp [Value.ownBlock] at ej
  · obtain rfl : g = j := by simpa [Value.ownBlock] using ej
    rw [hgb] at hj; cases hj; rfl

set_option maxRecDepth 1000000 in
set_option maxHeartbeats 2000000 in
theorem Quote_in (s : ByteArray) (L : List PC) (hL : PlainL s L) (hsz : s.size ≤ 1000000000) (w : World) :
    CallsIn Fence.wide 5 Tryz.prog 210 #[.string s] w fun e W' => e = .returned (.string ⟨(qB L).toArray⟩) ∧ Below w.heap.size w W' := by
  obtain ⟨i0, hi, hz0, hz1, hz2⟩ := info_parts i5
  have U104 := u104
  refine callsIn_of_wp_marks Tryz.func210 rfl trivial ?_ rfl
  simp only [Tryz.ntmps210, List.size_toArray, List.length_cons, List.length_nil, Nat.reduceAdd, Nat.reduceSub, Array.replicate_succ, Array.replicate_zero, List.push_toArray, List.append_toArray, List.nil_append, List.cons_append]
  have HR : ∀ (m : Nat) (W : World), CallsIn Fence.wide m Tryz.prog 248 #[.string s] W fun e w' => e = .returned (.func (.func 278) #[] #[.pointer (some ⟨W.heap.size, 0, none⟩)]) ∧ w' = W.alloc (.cells #[.string s] 9) := fun m W => callsIn_wide.2 (Runes_any s W)
  gi_wp2_with (refine ⟨trivial, ?_⟩; gi_at_call 248; refine (HR _ _).mono ?_; clear HR; rintro e w' ⟨rfl, rfl⟩)
  have bS : Boxed ((((w.alloc (.cells #[.string s] 9)).alloc (.cells #[.int .u8 34] 5)).alloc (.cells #[.slice (some ⟨w.heap.size + 1, 0, none⟩) 1 1] 104)).alloc (.cells #[.string s] 9)) w.heap.size 9 (.string s) := (((Boxed.new w 9 _).alloc _).alloc _).alloc _
  have bB := Boxed.new ((w.alloc (.cells #[.string s] 9)).alloc (.cells #[.int .u8 34] 5)) 104 (.slice (some ⟨w.heap.size + 1, 0, none⟩) 1 1)
  have bR := Boxed.new (((w.alloc (.cells #[.string s] 9)).alloc (.cells #[.int .u8 34] 5)).alloc (.cells #[.slice (some ⟨w.heap.size + 1, 0, none⟩) 1 1] 104)) 9 (.string s)
  have oR := World.ownsRow_lit (base := w.heap.size) (e := 5) (size := 1) (w.alloc (.cells #[.string s] 9)) #[.int .u8 34] 1 (by simp) (by unfold maxLen; omega) rfl
  simp only [World.size_alloc] at bB bR oR
  have hB0 : Below w.heap.size w ((((w.alloc (.cells #[.string s] 9)).alloc (.cells #[.int .u8 34] 5)).alloc (.cells #[.slice (some ⟨w.heap.size + 1, 0, none⟩) 1 1] 104)).alloc (.cells #[.string s] 9)) := ((((Below.refl _ w).alloc (Nat.le_refl _) _).alloc (by simp) _).alloc (by simp; omega) _).alloc (by simp; omega) _
  refine wpIn_rangeFunc_ownF rfl (by omega) (gf := 278) (lb := #[.pointer (some ⟨w.heap.size + 1 + 1 + 1, 0, none⟩)]) rfl trivial (enters_of Tryz.func278 (by kernel_rfl) rfl)
    (runes_stops 4 (by omega) (w.heap.size + 1 + 1 + 1) s L hL _ (by simp) bR.cell) KpR_t (KpR_b (by simp)) (Below.refl _ _) (fun _ => rfl)
    (fun pre W => ((∃ v, Boxed W (w.heap.size + 1 + 1) 104 v ∧ W.ownsRow w.heap.size 5 1 v (pre.length + 1) (.int .u8 34 :: pcells pre) ∧ True) ∧ Boxed W w.heap.size 9 (.string s) ∧ Boxed W (w.heap.size + 1 + 1 + 1) 9 (.string s)) ∧ Below w.heap.size w W)
    (fun _ _ _ => False)
    (OwnFrom.and (OwnFrom.and (Own.from (holdsRow_own w.heap.size (w.heap.size + 1 + 1) 104 5 1 (fun pre => pre.length + 1) (fun pre => .int .u8 34 :: pcells pre) (fun _ _ => True)) _) (OwnFrom.and (Own.from (boxed_own w.heap.size 9 (fun _ => .string s)) _) (Own.from (boxed_own (w.heap.size + 1 + 1 + 1) 9 (fun _ => .string s)) _))) (ownFrom_below (Nat.le_refl _) (by simp; omega)))
    (fun _ _ _ _ _ hs _ _ => hs)
    ⟨⟨⟨_, bB.alloc _, (oR.alloc _).alloc _, trivial⟩, bS, bR⟩, hB0⟩
    (fun x => { tmps := #[.string s, .pointer (some ⟨w.heap.size, 0, none⟩), .string { data := #[] }, .pointer (some ⟨w.heap.size + 1 + 1, 0, none⟩), .int .i64 x.i, .int .i32 x.c, .slice (some ⟨w.heap.size + 1, 0, none⟩) 1 1, .string s, .func (.func 278) #[] #[.pointer (some ⟨w.heap.size + 1 + 1 + 1, 0, none⟩)], .int .i64 x.i, .int .i32 x.c, undef, undef, undef, undef, undef, undef, undef, undef, undef], defers := [] }) ?assign ?body ?done ?stop
  case assign =>
    intro l x W K hK
    gi_wp2
    exact hK
  case body =>
    rintro l pre x W ⟨⟨⟨v, hv, hrow, _⟩, hS, hR⟩, hB⟩ hlt
    have hc := hv.cell
    have hs := hS.cell
    have hLs := hL.1
    have HP : ∀ m, CallsIn (Fence.wide.inRound l) m Tryz.prog 249 #[v, .string s, .int .i64 x.i, .int .i32 x.c, .int .i32 34] W fun e w' => ∃ v', e = .returned v' ∧ w'.ownsRow w.heap.size 5 1 v' (pre.length + 1 + 1) ((.int .u8 34 :: pcells pre) ++ [.int .u8 x.c]) ∧ ∃ o, (W.alloc o).grownBy w' v.ownBlock :=
      fun m => CallsIn.inRound l (callsIn_wide.2 (put_plain w.heap.size v (pre.length + 1) _ s x.i x.c W x.h1 x.h2 x.h3 x.h4 hrow (by omega) hB.size))
    gi_wp2_with (refine ⟨trivial, ?_⟩; gi_at_call 249; refine (HP _).mono ?_; clear HP; rintro e w1 ⟨v', rfl, ho, o, hg⟩; obtain ⟨g', cap', rfl⟩ := ownsRow_succ ho; obtain ⟨hv1, hv2, hr2, hk2, hb2⟩ := hv.appended (by decide) hrow hB.size (by omega) ho hg; have hc1 := hv1.cell; have hf1 := hv1.frozen)
    have hS2 := ((hS.alloc o).kept hg (hS.not_row (by decide) hrow)).other (B' := w.heap.size + 1 + 1) (by omega) (.slice (some ⟨g', 0, none⟩) (pre.length + 1 + 1) cap')
    have hR2 := ((hR.alloc o).kept hg (hR.not_row (by decide) hrow)).other (B' := w.heap.size + 1 + 1) (by omega) (.slice (some ⟨g', 0, none⟩) (pre.length + 1 + 1) cap')
    refine ⟨hk2, ⟨hk2.walks, Eq.trans hR2 (Eq.symm hR)⟩, ⟨⟨_, hv2, ?_, trivial⟩, hS2, hR2⟩, hB.trans hb2⟩
    have e : pcells (pre ++ [x]) = pcells pre ++ [.int .u8 x.c] := by simp [pcells]
    rw [e]
    simpa using hr2
  case done =>
    rintro D ys W hD rfl ⟨⟨⟨v, hv, hrow, _⟩, hS, hR⟩, hB⟩ hK
    have hc := hv.cell
    have hLs := hL.1
    rw [hLs] at hrow
    gi_wp2_with (gi_at_builtin; refine wpListIn_append_own _ rfl (.tmp 16) (.tmp 17) 104 rfl w.heap.size 5 i0 (.int .u8 0) 1 1 U104 hi hz0 hz1 hz2 rfl (by decide) v (s.size + 1) _ rfl (hrow.alloc _) ⟨W.heap.size, 0, none⟩ 1 1 [.int .u8 34] rfl rfl (cell_one_new _ _ _) (by simp [Value.oneCell']) (by unfold maxLen; omega) (by omega) (by have := hB.size; simp; omega) ?_; intro v' w1 hown' hgrow _; obtain ⟨g', cap', rfl⟩ := ownsRow_succ hown'; rw [← qB_cells] at hown'; have hcv := conv_own hown' (by rw [qB_len, hLs]))
    obtain ⟨hk1, hb1⟩ := own_keeps _ hrow hB.size hgrow
    have hK1 := hk1.same D _ hK rfl
    refine ⟨by simp, .inl ⟨_, _, rfl, run_takeDeferred hK1, ?_⟩⟩
    exact ⟨_, results_tmp rfl _ _ _, rfl, (hB.trans hb1).trans (belowK_b (w := w) (Nat.le_refl _) w1 D _ _ (by simp at hD; omega) hK1 rfl rfl)⟩
  case stop =>
    rintro D c pre W _ _ h _
    exact h.elim
/-- Quote, at a text of plain bytes. -/
theorem Quote_plain (s : ByteArray) (L : List PC) (hL : PlainL s L) (hsz : s.size ≤ 1000000000) (w : World) :
    Calls Tryz.prog 210 #[.string s] w fun e W' => e = .returned (.string ⟨(qB L).toArray⟩) ∧ Below w.heap.size w W' := callsIn_wide.1 (Quote_in s L hL hsz w)
end Go.Proofs.YtihmlhjdlpjehaaGreatDoor
