/- anyAt: where one of some ASCII bytes first stands. The reader: until. -/
import Derived.Test.YtihmlhjdlpjehaaGreatDoorT0
import Derived.LoopN
import Derived.Lib.OthersKept
import Derived.Deep.LoopGhost
set_option linter.unusedVariables false
set_option linter.unusedSimpArgs false
namespace Go.Proofs.YtihmlhjdlpjehaaGreatDoor
open Go.RowKit

/-- Is a rune one of a text's bytes? -/
def isIn (any : ByteArray) (c : Nat) : Bool := any.data.toList.any fun b => b.toNat == c
/-- Where the first of some runes stands from a place on. -/
def anyS (s any : ByteArray) : Nat → Nat → Int
  | 0, _ => -1
  | f + 1, pos => if pos < s.size then (if isIn any (Utf8.decode s pos).1 then (pos : Int) else anyS s any f (pos + (Utf8.decode s pos).2)) else -1

theorem iterPos_of' {w : World} {k : Nat} {s : ByteArray} {p : Nat} (h : w.heap[k]? = some (.stringIter s p)) : w.iterPos k = p := by simp [World.iterPos, h]
theorem width_pos' (s : ByteArray) (pos : Nat) (h : pos < s.size) : 1 ≤ (Utf8.decode s pos).2 := by
  by_cases ha : (s[pos]'h).toNat < 128
  · rw [decode_ascii s pos h ha]; exact Nat.le_refl _
  · exact (decode_high s pos h (by omega)).2

set_option maxRecDepth 1000000 in
set_option maxHeartbeats 2000000 in
theorem anyAt_any (s any : ByteArray) (w : World) (ha : ∀ i (h : i < any.size), (any[i]'h).toNat < 128) (hsz : s.size ≤ 8796093022207) :
    Calls Tryz.prog 195 #[.string s, .string any] w fun e w' => e = .returned (.int .i64 (anyS s any s.size 0)) ∧ Below w.heap.size w w' := by
  go_enter Tryz.func195, Tryz.ntmps195
  go_wp2
  go_loopw [] (fun wr => ∃ (pos fuel : Nat), wr.heap[w.heap.size]? = some (.stringIter s pos) ∧ Below w.heap.size w wr ∧ Hid (anyS s any fuel pos = anyS s any s.size 0) ∧ s.size ≤ pos + fuel) (fun wr => s.size - wr.iterPos w.heap.size)
  case atStart => exact ⟨0, s.size, World.iter_heap w s 0, (Below.refl _ _).alloc (Nat.le_refl _) _, rfl, by omega⟩
  case round =>
    obtain ⟨pos, fuel, hit, hbw, HS, hb⟩ := hrel
    have hpos0 := iterPos_of' hit
    by_cases hp : pos < s.size
    · have hnx : ∀ ty, (Instr.next (.pointer (some ⟨w.heap.size, 0, none⟩)) true ty).run Tryz.prog wr = _ := fun ty => Lib.run_next_any_at wr w.heap.size s pos ty hit hp
      have hwd := width_pos' s pos hp
      obtain ⟨fuel, rfl⟩ : ∃ f', fuel = f' + 1 := ⟨fuel - 1, by omega⟩
      have hit2 := Lib.iterAt_heap wr w.heap.size s pos (pos + (Utf8.decode s pos).2) hit
      have hbw2 := Lib.below_iterAt hbw (k := w.heap.size) (Nat.le_refl _) s (pos + (Utf8.decode s pos).2)
      obtain ⟨W1, hW1⟩ : ∃ W1, W1 = wr.iterAt w.heap.size s (pos + (Utf8.decode s pos).2) := ⟨_, rfl⟩
      rw [← hW1] at hnx hit2 hbw2
      have hdl := decode_le s pos
      clear hW1 hit hbw
      have hstep : anyS s any (fuel + 1) pos = (if isIn any (Utf8.decode s pos).1 then (pos : Int) else anyS s any fuel (pos + (Utf8.decode s pos).2)) := by
        rw [anyS, if_pos hp]
      generalize (Utf8.decode s pos).1 = c at *
      generalize (Utf8.decode s pos).2 = wd at *
      have HST := Lib.hid hstep
      clear hstep
      go_wp2
      go_loopw [] (fun wr => ∃ q : Nat, q ≤ any.size ∧ wr.heap[W1.heap.size]? = some (.stringIter any q) ∧ Below W1.heap.size W1 wr ∧ Hid ((any.data.toList.take q).any (fun b => b.toNat == c) = false)) (fun wr => any.size - wr.iterPos W1.heap.size)
      case atStart => exact ⟨0, Nat.zero_le _, World.iter_heap W1 any 0, (Below.refl _ _).alloc (Nat.le_refl _) _, by simp [Hid]⟩
      case round =>
        obtain ⟨q, hq, hiti, hbi, HI⟩ := hrel
        have hposi := iterPos_of' hiti
        have hBl : w.heap.size < W1.heap.size := (Array.getElem?_eq_some_iff.1 hit2).1
        by_cases hqs : q < any.size
        · have hnxi : ∀ ty, (Instr.next (.pointer (some ⟨W1.heap.size, 0, none⟩)) true ty).run Tryz.prog wr = _ := fun ty => Lib.run_next_ascii_at wr W1.heap.size any q ty hiti hqs (ha q hqs)
          have hit3 := Lib.iterAt_heap wr W1.heap.size any q (q + 1) hiti
          have hb3 := Lib.below_iterAt hbi (k := W1.heap.size) (Nat.le_refl _) any (q + 1)
          have hany : (any.data.toList.take (q + 1)).any (fun b => b.toNat == c) = ((any.data.toList.take q).any (fun b => b.toNat == c) || ((any[q]'hqs).toNat == c)) := by
            have e : any.data.toList.take (q + 1) = any.data.toList.take q ++ [any[q]'hqs] := by
              rw [List.take_succ_eq_append_getElem (by simpa using hqs)]; rfl
            rw [e, List.any_append]; simp
          have hd := ha q hqs
          obtain ⟨W2, hW2⟩ : ∃ W2, W2 = wr.iterAt W1.heap.size any (q + 1) := ⟨_, rfl⟩
          rw [← hW2] at hnxi hit3 hb3
          generalize (any[q]'hqs).toNat = d at *
          have HA := Lib.hid hany
          clear hany hW2 hiti hbi hnx
          by_cases hdc : d = c
          · subst hdc
            go_wp2
            go_ret
            refine ⟨ret_int ?_, ?_⟩
            · rw [← HS.out, HST.out, if_pos]
              unfold isIn
              have h1 := HA.out
              rw [List.any_eq_true]
              have h2 : (any.data.toList.take (q + 1)).any (fun b => b.toNat == d) = true := by rw [h1]; simp
              rw [List.any_eq_true] at h2
              obtain ⟨x, hx, hx2⟩ := h2
              exact ⟨x, List.mem_of_mem_take hx, hx2⟩
            · exact hbw2.trans (hb3.mono (by omega))
          · have hne : ((c : Int) == (d : Int)) = false := by simp; omega
            go_wp2
            go_roundw
            case rel =>
              refine ⟨q + 1, by omega, hit3, hb3, ?_⟩
              show _ = false
              have h1 := HA.out
              have h2 : _ = false := HI
              rw [h1, h2]
              simp; omega
            case measure =>
              have := iterPos_of' hit3
              omega
        · have hnxi : ∀ ty, (Instr.next (.pointer (some ⟨W1.heap.size, 0, none⟩)) true ty).run Tryz.prog wr = _ := fun ty => Lib.run_next_end_at wr W1.heap.size any q ty hiti hqs
          have hno : isIn any c = false := by
            have h2 : _ = false := HI
            rw [List.take_of_length_le (by simp; omega)] at h2
            exact h2
          have hit4 : wr.heap[w.heap.size]? = some (.stringIter s (pos + wd)) := by rw [hbi.block _ hBl]; exact hit2
          have hb4 : Below w.heap.size w wr := hbw2.trans (hbi.mono (by omega))
          have HN := Lib.hid hno
          clear hno hnx
          go_wp2
          go_roundw
          case rel =>
            refine ⟨pos + wd, fuel, hit4, hb4, ?_, by omega⟩
            show _ = _
            have h1 := HST.out
            rw [if_neg (by rw [HN.out]; simp)] at h1
            rw [← h1]; exact HS
          case measure =>
            have := iterPos_of' hit4
            omega
    · have hnx : ∀ ty, (Instr.next (.pointer (some ⟨w.heap.size, 0, none⟩)) true ty).run Tryz.prog wr = _ := fun ty => Lib.run_next_end_at wr w.heap.size s pos ty hit hp
      go_wp2
      go_ret
      refine ⟨ret_int ?_, hbw⟩
      rw [← HS.out]
      cases fuel with
      | zero => rfl
      | succ f => rw [anyS, if_neg hp]
end Go.Proofs.YtihmlhjdlpjehaaGreatDoor
namespace Go.Proofs.YtihmlhjdlpjehaaGreatDoor
open Go.RowKit

def cutN (s any : ByteArray) : Nat := if anyS s any s.size 0 < 0 then s.size else (anyS s any s.size 0).toNat
theorem anyS_le (s any : ByteArray) : ∀ f pos, anyS s any f pos ≤ s.size := by
  intro f
  induction f with
  | zero => intro pos; simp [anyS]
  | succ f ih =>
    intro pos
    rw [anyS]
    split
    · split
      · omega
      · exact ih _
    · omega
theorem cutN_le (s any : ByteArray) : cutN s any ≤ s.size := by
  unfold cutN
  have := anyS_le s any s.size 0
  split <;> omega

set_option maxRecDepth 1000000 in
set_option maxHeartbeats 2000000 in
theorem until_any (s any : ByteArray) (pv : Value) (rb : Nat) (w : World) (ha : ∀ i (h : i < any.size), (any[i]'h).toNat < 128) (hsz : s.size ≤ 8796093022207) (hr : Blk w rb #[.string s, pv] 165) :
    Calls Tryz.prog 137 #[.pointer (some ⟨rb, 0, none⟩), .string any] w fun e w' => e = .returned (.string (s.extract 0 (cutN s any))) ∧ Blk w' rb #[.string (s.extract (cutN s any) s.size), pv] 165 ∧ Turned w.heap.size [rb] w w' := by
  have hc0 : w.cell? ⟨rb, 0, none⟩ = some (.string s) := hr.cell 0
  have hlt := hr.lt
  have CA := anyAt_any s any w ha hsz
  have hle := anyS_le s any s.size 0
  have hcl := cutN_le s any
  have hcut : cutN s any = if anyS s any s.size 0 < 0 then s.size else (anyS s any s.size 0).toNat := rfl
  generalize anyS s any s.size 0 = r at *
  generalize cutN s any = cn at *
  have HCA := Lib.hid CA
  clear CA
  have hfin : ∀ w1 : World, Below w.heap.size w w1 → Blk (w1.setCell ⟨rb, 0, none⟩ (.string (s.extract cn s.size))) rb #[.string (s.extract cn s.size), pv] 165 ∧ Turned w.heap.size [rb] w (w1.setCell ⟨rb, 0, none⟩ (.string (s.extract cn s.size))) := fun w1 hb1 => ⟨by simpa using (hr.below hb1 hlt).store 0 (.string (s.extract cn s.size)), (Turned.of_below hb1).setCell (p := ⟨rb, 0, none⟩) (Or.inr (by simp)) _⟩
  have HF := Lib.hid hfin
  clear hfin
  go_enter Tryz.func137, Tryz.ntmps137
  go_wp2_with fail
  refine HCA.out.mono ?_
  rintro e w1 ⟨rfl, hb1⟩
  have hr1 := hr.below hb1 hlt
  have hc1 : w1.cell? ⟨rb, 0, none⟩ = some (.string s) := hr1.cell 0
  have hf1 : w1.frozen? ⟨rb, 0, none⟩ = false := hr1.frozen 0
  by_cases hneg : r < 0
  · have hcn : cn = s.size := by rw [hcut, if_pos hneg]
    subst hcn
    clear hcut
    go_wp2
    go_ret
    have h := HF.out w1 hb1
    have e : s.extract s.size s.size = ByteArray.empty := by simp
    rw [e] at h ⊢
    exact ⟨by simp, h⟩
  · obtain ⟨m, rfl⟩ : ∃ m : Nat, r = m := ⟨r.toNat, by omega⟩
    have hcn : cn = m := by rw [hcut, if_neg hneg]; rfl
    subst hcn
    clear hcut
    go_wp2
    go_ret
    exact ⟨rfl, HF.out w1 hb1⟩
end Go.Proofs.YtihmlhjdlpjehaaGreatDoor
