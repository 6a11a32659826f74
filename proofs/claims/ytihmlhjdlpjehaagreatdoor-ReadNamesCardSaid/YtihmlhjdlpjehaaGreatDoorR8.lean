/- Package text: broken, put at a plain byte; Runes' maker. -/
import Derived.Test.YtihmlhjdlpjehaaGreatDoorT0
import Derived.Test.YtihmlhjdlpjehaaGreatDoorShelf
import Derived.OwnWalk
set_option linter.unusedVariables false
set_option linter.unusedSimpArgs false
namespace Go.Proofs.YtihmlhjdlpjehaaGreatDoor
open Go.RowKit

/-- broken, at an ASCII byte. -/
theorem broken_plain (s : ByteArray) (i : Nat) (r : Nat) (w : World) (hr : r < 128) : Calls Tryz.prog 279 #[.string s, .int .i64 i, .int .i32 r] w fun e w' => e = .returned (.bool false) ∧ w' = w := by
  have hne : ((r : Int) == (65533 : Int)) = false := by simp; omega
  go_enter Tryz.func279, Tryz.ntmps279
  go_wp2
  go_ret
  exact ⟨rfl, rfl⟩
theorem Runes_any (s : ByteArray) (w : World) : Calls Tryz.prog 248 #[.string s] w fun e w' => e = .returned (.func (.func 278) #[] #[.pointer (some ⟨w.heap.size, 0, none⟩)]) ∧ w' = w.alloc (.cells #[.string s] 9) := by
  go_enter Tryz.func248, Tryz.ntmps248
  go_wp2
  go_ret
  exact ⟨rfl, rfl⟩
theorem runeCells_ascii (r : Nat) (hr : r < 128) : Lib.runeCells (r : Int) = [.int .u8 r] := by
  rw [Lib.runeCells, Lib.encodeRuneZ_one (by omega) (by omega)]; rfl
/-- put, at a plain byte. -/
theorem put_plain (B : Nat) (v : Value) (n : Nat) (xs : List Value) (s : ByteArray) (i r : Nat) (w : World) (h1 : 32 ≤ r) (h2 : r < 127) (h3 : r ≠ 92) (h4 : r ≠ 34) (hown : w.ownsRow B 5 1 v n xs) (hlen : n + 4 ≤ 140737488355328) (hBw : B ≤ w.heap.size) :
    Calls Tryz.prog 249 #[v, .string s, .int .i64 i, .int .i32 r, .int .i32 34] w fun e w' => ∃ v', e = .returned v' ∧ w'.ownsRow B 5 1 v' (n + 1) (xs ++ [.int .u8 r]) ∧ ∃ o, (w.alloc o).grownBy w' v.ownBlock := by
  have C := Tryz.utf8_AppendRune_plain B v n xs r (by omega) (by omega) w hown hlen hBw
  rw [runeCells_ascii r (by omega)] at C
  have HC := Lib.hid C
  clear C hown
  have t1 : ¬ (r : Int) < 32 := by omega
  have t2 : ((r : Int) == 127) = false := by simp; omega
  have t3 : ((r : Int) == 92) = false := by simp; omega
  have t4 : ((r : Int) == 34) = false := by simp; omega
  go_enter Tryz.func249, Tryz.ntmps249
  go_wp2_with (go_at_call 280; refine HC.out.mono ?_; rintro e w1 ⟨v', rfl, ho, hg⟩)
  go_ret
  exact ⟨v', rfl, ho, hg⟩
end Go.Proofs.YtihmlhjdlpjehaaGreatDoor
