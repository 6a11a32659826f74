/- Package read: makes makes the plan of the one short form, in a book without errors. -/
import Derived.Test.YtihmlhjdlpjehaaGreatDoorV13
import Derived.Test.YtihmlhjdlpjehaaGreatDoorK20
set_option linter.unusedVariables false
set_option linter.unusedSimpArgs false
namespace Go.Proofs.YtihmlhjdlpjehaaGreatDoor
open Go.RowKit

def keyR (r : Rw) : Sp × Int × Int × Int × Int := (r.sp, r.size, r.depth, r.long, r.words)
def tabT : List (Sp × Int × Int × Int × Int) := [(sCode, 1, 1, 6, 0), (sWrap, 2, 2, 9, 1), (sLevel, 1, 1, 9, 0), (sJoin, 4, 3, 19, 1)]
abbrev ssT : List Sp := [sCode, sWrap, sLevel, sJoin]
/-- What the rows are when i specs are made. -/
def QT (i : Nat) (rows : List Rw) : Prop := rows.map keyR = tabT.take i ∧ ∀ r ∈ rows, ErrN r.err
theorem ErrV.n {k : Int} {v : Value} (h : ErrV k v) : ErrN v := by
  obtain ⟨T, x, rfl, _⟩ := h
  exact ErrN.one T x
theorem QT.ok {i : Nat} {rows : List Rw} (h : QT i rows) : ∀ r ∈ rows, r.Ok := by
  intro r hr
  have hm : keyR r ∈ tabT := by
    have : keyR r ∈ rows.map keyR := List.mem_map.2 ⟨r, hr, rfl⟩
    rw [h.1] at this
    exact List.mem_of_mem_take this
  have he := h.2 r hr
  simp only [tabT, List.mem_cons, List.not_mem_nil, or_false] at hm
  rcases hm with hm | hm | hm | hm <;>
  · simp only [keyR, Prod.mk.injEq] at hm
    obtain ⟨_, a, b, c, d⟩ := hm
    exact ⟨by omega, by omega, by omega, by omega, by omega, by omega, by omega, by omega, he⟩
theorem oneCell_err {v : Value} (h : ErrN v) : v.oneCell' = true := by cases h <;> rfl
theorem check_code : checkE sCode = 0 := by kernel_rfl
theorem check_wrap : checkE sWrap = 0 := by kernel_rfl
theorem check_level : checkE sLevel = 0 := by kernel_rfl
theorem check_join : checkE sJoin = 0 := by kernel_rfl
/-- One spec of the plan. -/
theorem mk_plan (b : Nat) (i : Nat) (s : Sp) (sz dp n wd : Int) (hT : tabT.take (i + 1) = tabT.take i ++ [(s, sz, dp, n, wd)]) (v : Value) (rows : List Rw) (wr : World) (ia pa : Option Addr) (ic pc : Nat) (hq : QT i rows) (hl : rows.length = i) (hi : i < 4) (hB : BookV wr b v rows) (h25 : 25 ≤ wr.heap.size) (hri : RdS wr ia s.items) (hrp : RdI wr pa s.parts)
    (hps : ∀ p ∈ s.parts, 0 ≤ p ∧ p ≤ i) (hc : checkE s = 0) (h1 : sizeF rows s.parts = sz) (h2 : depthF rows s.parts = dp) (h3 : wordsF rows (wordsI s.text s.items) s.parts = wd) (hsz : sz ≤ 4096) (hdp : dp ≤ 64) (hn0 : 0 ≤ n) (hn : n ≤ 65536) (hwd : wd ≤ 1048576)
    (hM : MakesE s (s.parts.map fun p => (rowOf rows p).err)) (hL : LongIs s (s.parts.map fun p => (rowOf rows p).long) n wr) :
    Calls Tryz.prog 31 #[.pointer (some ⟨b, 0, none⟩), s.val ia ic pa pc] wr fun e w' => e = .returned (.tuple #[.int .i64 ((i : Int) + 1), .int .i64 0]) ∧ Made b s v rows (QT (i + 1)) wr w' := by
  have M := bookMake_ok b v rows s ia pa ic pc wr hB h25 (by omega) hq.ok hri hrp (fun p hp => by have := hps p hp; omega) hc hM n hL (by omega) (by omega) hn0 hn (by omega)
  refine M.mono ?_
  rintro e w' ⟨rfl, v', err, ia', pa', ic', pc', hev, hB', r1, r2, n1, n2, e1, e2, ho, t⟩
  refine ⟨by rw [hl], v', _, rfl, hB', ⟨?_, ?_⟩, r1, r2, n1, n2, e1, e2, ho, t⟩
  · rw [List.map_append, hq.1, hT, List.map_cons, List.map_nil]
    simp only [keyR, h1, h2, h3]
  · intro r hr
    rcases List.mem_append.1 hr with hr | hr
    · exact hq.2 r hr
    · simp only [List.mem_singleton] at hr
      subst hr
      exact hev.n
theorem dec7 : (⟨(Lib.decDigits 7).toArray⟩ : ByteArray) = ⟨#[55]⟩ := by kernel_rfl
theorem long_code_n (lens : List Int) (hl : lens = []) (w : World) : LongIs sCode lens 6 w := by
  subst hl
  intro ia pa la ic pc lc W hb hi hp hlr
  have hT : ∀ W', Below W.heap.size W W' → Calls Tryz.prog 100 #[.int .i64 sCode.number] W' fun e w' => e = .returned (.string ⟨#[55]⟩) ∧ Below W'.heap.size W' w' := fun W' _ =>
    (Tryz.strconv_Itoa_small 7 (by decide) W').mono fun e w' ⟨h1, h2⟩ => ⟨by rw [h1, dec7], by rw [h2]; exact Below.refl _ _⟩
  exact Long_code sCode (by decide) (by decide) rfl check_code rfl ⟨#[55]⟩ (by decide) ia pa la ic pc lc W hi hT
theorem long_level_n (lens : List Int) (hl : lens = []) (w : World) : LongIs sLevel lens 9 w := by
  subst hl
  intro ia pa la ic pc lc W hb hi hp hlr
  exact Long_level sLevel rfl check_level rfl nanB (by decide) ia pa la ic pc lc W hi (fun W' _ => Float_nan W')
theorem long_wrap_n (lens : List Int) (hl : lens = [6]) (w : World) : LongIs sWrap lens 9 w := by
  subst hl
  intro ia pa la ic pc lc W hb hi hp hlr
  exact Long_w sWrap (Or.inl rfl) check_wrap [6] rfl (by decide) ia pa la ic pc lc W hi hp hlr (by decide)
theorem long_join_n (lens : List Int) (hl : lens = [9, 0, 9]) (w : World) : LongIs sJoin lens 19 w := by
  subst hl
  intro ia pa la ic pc lc W hb hi hp hlr
  exact Long_w sJoin (Or.inr rfl) check_join [9, 0, 9] rfl (by decide) ia pa la ic pc lc W hi hp hlr (by decide)
abbrev Bd (i : Nat) (s : Sp) : Prop := (∀ p ∈ s.parts, 0 ≤ p ∧ p ≤ (i : Int)) ∧ s.parts.length ≤ 60000 ∧ s.items.length ≤ 60000
theorem bd_code : Bd 0 sCode := ⟨by decide, by decide, by decide⟩
theorem bd_wrap : Bd 1 sWrap := ⟨by decide, by decide, by decide⟩
theorem bd_level : Bd 2 sLevel := ⟨by decide, by decide, by decide⟩
theorem bd_join : Bd 3 sJoin := ⟨by decide, by decide, by decide⟩
def StepT (b : Nat) (i : Nat) (s : Sp) : Prop := ∀ (v : Value) (rows : List Rw) (wr : World) (ia pa : Option Addr) (ic pc : Nat), QT i rows → rows.length = i → BookV wr b v rows → 25 ≤ wr.heap.size → RdS wr ia s.items → RdI wr pa s.parts →
  Calls Tryz.prog 31 #[.pointer (some ⟨b, 0, none⟩), s.val ia ic pa pc] wr fun e w' => e = .returned (.tuple #[.int .i64 ((i : Int) + 1), .int .i64 0]) ∧ Made b s v rows (QT (i + 1)) wr w'
theorem len_one {α : Type} (l : List α) (h : l.length = 1) : ∃ a, l = [a] := by
  cases l with
  | nil => cases h
  | cons a l =>
    cases l with
    | nil => exact ⟨a, rfl⟩
    | cons b l => simp at h
theorem len_three {α : Type} (l : List α) (h : l.length = 3) : ∃ a b c, l = [a, b, c] := by
  cases l with
  | nil => cases h
  | cons a l =>
    cases l with
    | nil => simp at h
    | cons b l =>
      cases l with
      | nil => simp at h
      | cons c l =>
        cases l with
        | nil => exact ⟨a, b, c, rfl⟩
        | cons d l => simp at h
theorem step_0 (b : Nat) : StepT b 0 sCode := by
  intro v rows wr ia pa ic pc hq hl hBk h25 hri hrp
  obtain rfl : rows = [] := List.length_eq_zero_iff.1 hl
  have hM : MakesE sCode (sCode.parts.map fun p => (rowOf [] p).err) := Make_13 sCode (Or.inl rfl) rfl check_code _ rfl
  exact mk_plan b 0 sCode 1 1 6 0 rfl v [] wr ia pa ic pc hq hl (by decide) hBk h25 hri hrp bd_code.1 check_code rfl rfl rfl (by decide) (by decide) (by decide) (by decide) (by decide) hM (long_code_n _ rfl wr)
theorem step_1 (b : Nat) : StepT b 1 sWrap := by
  intro v rows wr ia pa ic pc hq hl hBk h25 hri hrp
  obtain ⟨r1, rfl⟩ := len_one rows hl
  have hk := hq.1
  simp only [List.map_cons, List.map_nil, tabT, List.take_succ_cons, List.take_zero, List.cons.injEq, and_true, keyR, Prod.mk.injEq] at hk
  obtain ⟨k1, k2, k3, k4, k5⟩ := hk
  have he := hq.2 r1 (by simp)
  have hM : MakesE sWrap (sWrap.parts.map fun p => (rowOf [r1] p).err) := Make_wrap sWrap rfl rfl check_wrap r1.err he rfl
  have h1 : sizeF [r1] sWrap.parts = 2 := by show (1 : Int) + r1.size = 2; rw [k2]; rfl
  have h2 : depthF [r1] sWrap.parts = 2 := by show max (1 : Int) (r1.depth + 1) = 2; rw [k3]; rfl
  have h3 : wordsF [r1] (wordsI sWrap.text sWrap.items) sWrap.parts = 1 := by show (1 : Int) + r1.words = 1; rw [k5]; rfl
  have h4 : (sWrap.parts.map fun p => (rowOf [r1] p).long) = [6] := by show [r1.long] = [6]; rw [k4]
  exact mk_plan b 1 sWrap 2 2 9 1 rfl v [r1] wr ia pa ic pc hq hl (by decide) hBk h25 hri hrp bd_wrap.1 check_wrap h1 h2 h3 (by decide) (by decide) (by decide) (by decide) (by decide) hM (long_wrap_n _ h4 wr)
theorem step_2 (b : Nat) : StepT b 2 sLevel := by
  intro v rows wr ia pa ic pc hq hl hBk h25 hri hrp
  have hM : MakesE sLevel (sLevel.parts.map fun p => (rowOf rows p).err) := Make_13 sLevel (Or.inr rfl) rfl check_level _ rfl
  exact mk_plan b 2 sLevel 1 1 9 0 rfl v rows wr ia pa ic pc hq hl (by decide) hBk h25 hri hrp bd_level.1 check_level rfl rfl rfl (by decide) (by decide) (by decide) (by decide) (by decide) hM (long_level_n _ rfl wr)
theorem step_3 (b : Nat) : StepT b 3 sJoin := by
  intro v rows wr ia pa ic pc hq hl hBk h25 hri hrp
  obtain ⟨r1, r2, r3, rfl⟩ := len_three rows hl
  have hk := hq.1
  simp only [List.map_cons, List.map_nil, tabT, List.take_succ_cons, List.take_zero, List.cons.injEq, and_true, keyR, Prod.mk.injEq] at hk
  obtain ⟨⟨a1, a2, a3, a4, a5⟩, ⟨b1, b2, b3, b4, b5⟩, c1, c2, c3, c4, c5⟩ := hk
  have he2 := hq.2 r2 (by simp)
  have he3 := hq.2 r3 (by simp)
  have hM : MakesE sJoin (sJoin.parts.map fun p => (rowOf [r1, r2, r3] p).err) := by
    have h : (sJoin.parts.map fun p => (rowOf [r1, r2, r3] p).err) = [r2.err, .nilIface, r3.err] := rfl
    rw [h]
    refine Make_join sJoin rfl rfl check_join [r2.err, .nilIface, r3.err] rfl (fun x hx => ?_) (by simp) (by simp)
    simp only [List.mem_cons, List.not_mem_nil, or_false] at hx
    rcases hx with rfl | rfl | rfl
    · exact oneCell_err he2
    · rfl
    · exact oneCell_err he3
  have h1 : sizeF [r1, r2, r3] sJoin.parts = 4 := by show (1 : Int) + r2.size + 0 + r3.size = 4; rw [b2, c2]; rfl
  have h2 : depthF [r1, r2, r3] sJoin.parts = 3 := by show max (max (max (1 : Int) (r2.depth + 1)) (0 + 1)) (r3.depth + 1) = 3; rw [b3, c3]; rfl
  have h3 : wordsF [r1, r2, r3] (wordsI sJoin.text sJoin.items) sJoin.parts = 1 := by show (0 : Int) + r2.words + 0 + r3.words = 1; rw [b5, c5]; rfl
  have h4 : (sJoin.parts.map fun p => (rowOf [r1, r2, r3] p).long) = [9, 0, 9] := by show [r2.long, 0, r3.long] = [9, 0, 9]; rw [b4, c4]
  exact mk_plan b 3 sJoin 4 3 19 1 rfl v [r1, r2, r3] wr ia pa ic pc hq hl (by decide) hBk h25 hri hrp bd_join.1 check_join h1 h2 h3 (by decide) (by decide) (by decide) (by decide) (by decide) hM (long_join_n _ h4 wr)
theorem bd_all : ∀ i (hi : i < ssT.length), Bd i ssT[i] := by
  intro i hi
  have h : i = 0 ∨ i = 1 ∨ i = 2 ∨ i = 3 := by simp [ssT] at hi; omega
  rcases h with rfl | rfl | rfl | rfl
  · exact bd_code
  · exact bd_wrap
  · exact bd_level
  · exact bd_join
theorem step_all (b : Nat) : ∀ i (hi : i < ssT.length), StepT b i ssT[i] := by
  intro i hi
  have h : i = 0 ∨ i = 1 ∨ i = 2 ∨ i = 3 := by simp [ssT] at hi; omega
  rcases h with rfl | rfl | rfl | rfl
  · exact step_0 b
  · exact step_1 b
  · exact step_2 b
  · exact step_3 b
theorem makes_plan : MakesTo ssT QT := by
  intro b pb cap W hg h25 hb hB hP hpb hpl
  exact makes_ok b pb cap ssT QT W h25 hB ⟨rfl, by simp⟩ (by decide) hP hpb hpl bd_all (fun i hi v rows wr ia pa ic pc hq hl hBk hsz tr hri hrp => step_all b i hi v rows wr ia pa ic pc hq hl hBk (Nat.le_trans h25 hsz) hri hrp)
end Go.Proofs.YtihmlhjdlpjehaaGreatDoor
