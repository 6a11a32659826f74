/- Package lines: Short: its text. Package lines: Short. -/
import Derived.Test.YtihmlhjdlpjehaaGreatDoorL5
import Derived.Lib.UnsafeStr
import Derived.RegionTactic
set_option linter.unusedVariables false
set_option linter.unusedSimpArgs false
namespace Go.Proofs.YtihmlhjdlpjehaaGreatDoor
open Go.RowKit

set_option maxRecDepth 1000000 in
set_option maxHeartbeats 2000000 in
theorem String_ok (B sb : Nat) (bp buf : Value) (wide : Int) (s : ByteArray) (w : World) (h : ShO B sb w bp wide s buf) (h0 : s.size ≠ 0) :
    Calls Tryz.prog 45 #[.pointer (some ⟨sb, 1, none⟩)] w fun e w' => e = .returned (.string s) ∧ Below B w w' := by
  obtain ⟨⟨ad, hblk, had⟩, hown⟩ := h
  have hl : s.data.toList.length = s.size := by rw [Array.length_toList]; rfl
  rw [← hl] at hown
  have hsl : (⟨s.data.toList.toArray⟩ : ByteArray) = s := by cases s; simp
  obtain ⟨l, hlv⟩ : ∃ l, l = s.data.toList := ⟨_, rfl⟩
  have hsc : Lib.strCells s = Lib.byteCells l := by rw [hlv]; rfl
  rw [hsc] at hown
  rw [← hlv] at hown hsl hl
  have hl0 : l ≠ [] := by intro e; rw [e] at hl; simp at hl; omega
  obtain ⟨g, cap, cur, rfl, hbg, hg, hnc, hcm, hcs, htake⟩ : ∃ g cap cur, buf = .slice (some ⟨g, 0, none⟩) l.length cap ∧ B ≤ g ∧ w.heap[g]? = some (.cells cur 5 (0, 0)) ∧ l.length ≤ cap ∧ cap ≤ maxLen ∧ cur.size = cap * 1 ∧ cur.toList.take (l.length * 1) = Lib.byteCells l := by
    rcases hown.2 with ⟨_, hz⟩ | ⟨g, cap, cur, hv, r⟩
    · exact absurd (List.length_eq_zero_iff.1 hz) hl0
    · exact ⟨g, cap, cur, hv, r⟩
  have c1 : w.drew.cell? ⟨sb, 2, none⟩ = some (.slice (some ⟨g, 0, none⟩) l.length cap) := hblk.drew.cell 2
  have hSD : (Builtin.unsafeSliceData_ #[104] 168 #[.slice (some ⟨g, 0, none⟩) l.length cap]).run Tryz.prog w.drew = .ok (.pointer (some ⟨g, 0, none⟩)) w.drew :=
    Lib.run_unsafeSliceData_row _ _ _ _ _ _ (by have : l.length ≠ 0 := fun e => hl0 (List.length_eq_zero_iff.1 e); omega)
  have hUS : (Builtin.unsafeString_ #[168, 3] 9 #[.pointer (some ⟨g, 0, none⟩), .int .i64 l.length]).run Tryz.prog w.drew = .ok (.string ⟨l.toArray⟩) (w.drew.freeze ⟨g, 0, none⟩ l.length) := by
    refine Lib.run_unsafeString_row w.drew 168 3 9 5 (by kernel_rfl) (by kernel_rfl) g cur.size (by have hg' : w.drew.heap[g]? = some (.cells cur 5 (0, 0)) := hg; simp [World.shape?, hg']) l hl0 (by omega) (by unfold maxLen at hcm; omega) ?_
    intro j x hx
    exact hown.cells (g := g) rfl j (.int .u8 x.toNat) (by simp [Lib.byteCells, hx])
  rw [hsl] at hUS
  have hfin : Below B w (w.drew.freeze ⟨g, 0, none⟩ l.length) := Lib.below_freeze (Below.drew (Below.refl B w)) (p := ⟨g, 0, none⟩) hbg _
  clear hown hsl hblk hlv hsc htake hg had hl hcs
  go_enter Tryz.func45, Tryz.ntmps45
  go_wp2
  go_region
  all_goals
    go_wp2
    go_ret
    exact ⟨rfl, hfin⟩
end Go.Proofs.YtihmlhjdlpjehaaGreatDoor
namespace Go.Proofs.YtihmlhjdlpjehaaGreatDoor
open Go.RowKit

set_option maxRecDepth 1000000 in
set_option maxHeartbeats 2000000 in
theorem Short_ok (bb : Nat) (v : Value) (rows : List Rw) (h : Nat) (T : ByteArray) (w : World) (hB : BookV w bb v rows) (h1 : 1 ≤ h) (h2 : h ≤ rows.length) (hm : rows.length ≤ 65536) (D : Nat) (hD : D ≤ 1000) (hN : NodeTo w bb h T D) (hT : T.size ≤ 1000000) (hT0 : T.size ≠ 0) :
    Calls Tryz.prog 28 #[.pointer (some ⟨bb, 0, none⟩), .int .i64 h] w fun e w' => e = .returned (.tuple #[.string T, .int .i64 0]) ∧ Below w.heap.size w w' := by
  have C := known_ok bb v rows h w hB h1 h2 hm
  have kb : Blk (w.alloc (.cells #[.pointer (some ⟨bb, 0, none⟩), .pointer none, .slice none 0 0, .int .i64 0, .func (.func 60) #[] #[]] 131)) w.heap.size (shC (.pointer (some ⟨bb, 0, none⟩)) (.pointer none) (.slice none 0 0) 0) 131 := Blk.new w _ 131
  have sh : ShO w.heap.size w.heap.size (w.alloc (.cells #[.pointer (some ⟨bb, 0, none⟩), .pointer none, .slice none 0 0, .int .i64 0, .func (.func 60) #[] #[]] 131)) (.pointer (some ⟨bb, 0, none⟩)) 0 ⟨#[]⟩ (.slice none 0 0) := ⟨⟨_, kb, Or.inl rfl⟩, World.ownsRow_nil _ _ _ _⟩
  have N := hN w.heap.size ⟨#[]⟩ (.slice none 0 0) 0 ⟨#[]⟩ _ (below_one w _) (Nat.le_refl _) sh (by simp [Value.ownBlock]) (Int.le_refl _) (by decide) (by show 0 + T.size ≤ 1000000; omega) (by show 0 + D ≤ 1000; omega)
  have eT : (⟨#[]⟩ : ByteArray) ++ T = T := by show ByteArray.empty ++ T = T; simp
  rw [eT] at N
  have HN := Lib.hid N
  clear N hN hB kb sh eT
  go_enter Tryz.func28, Tryz.ntmps28
  go_wp2_with fail
  refine C.mono ?_
  rintro e w1 ⟨rfl, rfl⟩
  clear C
  go_wp2_with fail
  refine HN.out.mono ?_
  rintro e w2 ⟨rfl, buf2, wide2, sh2, _, _, _, _, t2⟩
  have S := String_ok w1.heap.size w1.heap.size _ buf2 wide2 T w2 sh2 hT0
  have b2 : Below w1.heap.size w1 w2 := (below_one w1 _).trans ((t2.mono (B' := w1.heap.size) (S' := []) (by simp) (fun k hk hlt => by simp [Value.ownBlock] at hk; omega)).below (by simp))
  clear sh2 t2 HN
  go_wp2_with fail
  refine S.mono ?_
  rintro e w3 ⟨rfl, b3⟩
  go_wp2_with fail
  go_ret2
  exact ⟨rfl, b2.trans b3⟩
end Go.Proofs.YtihmlhjdlpjehaaGreatDoor
