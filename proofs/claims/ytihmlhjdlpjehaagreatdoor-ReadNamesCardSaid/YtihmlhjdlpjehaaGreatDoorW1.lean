/- The package-level variables that the road reads; Word, Kind. -/
import Derived.Test.YtihmlhjdlpjehaaGreatDoorT0
import Derived.Test.YtihmlhjdlpjehaaGreatDoorShelf
set_option linter.unusedVariables false
set_option linter.unusedSimpArgs false
namespace Go.Proofs.YtihmlhjdlpjehaaGreatDoor
open Go.RowKit

theorem toL (b : ByteArray) : b.toList = b.data.toList := ByteArray.toList_eq b
theorem bytes_inj' {a b : ByteArray} (h : a.data.toList = b.data.toList) : a = b := by
  obtain ⟨⟨x⟩⟩ := a
  obtain ⟨⟨y⟩⟩ := b
  simp at h
  rw [h]
theorem beqL_no {a b : ByteArray} (h : ¬ a = b) : (a.toList == b.toList) = false := by
  rw [toL, toL, beq_eq_false_iff_ne]
  intro e
  exact h (bytes_inj' e)
/-- What the road reads of package-level variables. -/
structure Glob (w : World) : Prop where
  asp : Lib.TabIs Tryz.prog w "strings.asciiSpace" .u8 Lib.asciiSpaceTab
  esx : ∃ te pe, w.cell? ⟨6, 0, none⟩ = some (.iface te pe)
  size : 25 ≤ w.heap.size

def namesB : ByteArray := ⟨#[0x6e,0x6f,0x6e,0x65,0x20,0x63,0x6f,0x64,0x65,0x20,0x6e,0x6f,0x74,0x65,0x20,0x6c,0x65,0x76,0x65,0x6c,0x20,0x73,0x77,0x61,0x79,0x20,0x6d,0x61,0x72,0x6b,0x20,0x74,0x61,0x67,0x73,0x20,0x6c,0x61,0x7a,0x79,0x20,0x6c,0x69,0x6e,0x65,0x20,0x70,0x6c,0x61,0x69,0x6e,0x20,0x71,0x75,0x69,0x65,0x74,0x20,0x63,0x6f,0x64,0x65,0x64,0x20,0x62,0x61,0x67,0x20,0x68,0x6f,0x6c,0x64,0x20,0x77,0x72,0x61,0x70,0x20,0x6f,0x76,0x65,0x72,0x20,0x6a,0x6f,0x69,0x6e,0x20,0x74,0x69,0x6d,0x65,0x64,0x20,0x70,0x6c,0x61,0x63,0x65,0x64,0x20,0x74,0x77,0x69,0x6e,0x20,0x76,0x65,0x69,0x6c,0x20,0x65,0x63,0x68,0x6f,0x20,0x67,0x75,0x69,0x73,0x65,0x20,0x62,0x6f,0x78,0x20,0x73,0x6c,0x6f,0x77,0x20,0x66,0x75,0x6c,0x6c,0x20,0x6f,0x70,0x61,0x71,0x75,0x65]⟩

/-- The kinds' names. -/
def knames : List ByteArray := [⟨#[110, 111, 110, 101]⟩, ⟨#[99, 111, 100, 101]⟩, ⟨#[110, 111, 116, 101]⟩, ⟨#[108, 101, 118, 101, 108]⟩, ⟨#[115, 119, 97, 121]⟩, ⟨#[109, 97, 114, 107]⟩, ⟨#[116, 97, 103, 115]⟩, ⟨#[108, 97, 122, 121]⟩, ⟨#[108, 105, 110, 101]⟩, ⟨#[112, 108, 97, 105, 110]⟩, ⟨#[113, 117, 105, 101, 116]⟩, ⟨#[99, 111, 100, 101, 100]⟩, ⟨#[98, 97, 103]⟩, ⟨#[104, 111, 108, 100]⟩, ⟨#[119, 114, 97, 112]⟩, ⟨#[111, 118, 101, 114]⟩, ⟨#[106, 111, 105, 110]⟩, ⟨#[116, 105, 109, 101, 100]⟩, ⟨#[112, 108, 97, 99, 101, 100]⟩, ⟨#[116, 119, 105, 110]⟩, ⟨#[118, 101, 105, 108]⟩, ⟨#[101, 99, 104, 111]⟩, ⟨#[103, 117, 105, 115, 101]⟩, ⟨#[98, 111, 120]⟩, ⟨#[115, 108, 111, 119]⟩, ⟨#[102, 117, 108, 108]⟩, ⟨#[111, 112, 97, 113, 117, 101]⟩]
theorem fields_knames : (Lib.fields namesB.data.toList).map (fun l => (⟨l.toArray⟩ : ByteArray)) = knames := by kernel_rfl
theorem fields_length : (Lib.fields namesB.data.toList).length = 27 := by kernel_rfl
theorem ascii_of (s : ByteArray) (h : s.data.toList.all (fun b => decide (b.toNat < 128)) = true) : ∀ (j : Nat) b, s.data.toList[j]? = some b → b.toNat < 128 := by
  intro j b hj
  have h1 := List.all_eq_true.1 h b (List.mem_of_getElem? hj)
  simpa using h1
def kname (k : Int) : ByteArray := knames.getD k.toNat ⟨#[]⟩

theorem Fields_names (w : World) (g : Glob w) : Calls Tryz.prog 51 #[.string namesB] w fun e w' => e = .returned (.slice (some ⟨w.heap.size, 0, none⟩) 27 27) ∧ w' = w.alloc (.cells (knames.map Value.string).toArray 9) := by
  refine (Tryz.strings_Fields_laid namesB w (by rw [show namesB.size = 142 from by kernel_rfl]; decide) (ascii_of _ (by kernel_rfl)) g.asp).mono ?_
  rintro e w' ⟨rfl, rfl⟩
  rw [fields_length, ← fields_knames, List.map_map]
  exact ⟨rfl, rfl⟩

set_option maxRecDepth 100000 in
theorem Word_any (k : Int) (w : World) (h1 : 1 ≤ k) (h2 : k ≤ 26) (g : Glob w) :
    Calls Tryz.prog 23 #[.int .u8 k] w fun e w' => e = .returned (.tuple #[.string (kname k), .int .i64 0]) ∧ Below w.heap.size w w' := by
  have C := Fields_names w g
  obtain ⟨m, rfl⟩ : ∃ m : Nat, k = m := ⟨k.toNat, by omega⟩
  have hcell : (w.alloc (.cells (knames.map Value.string).toArray 9)).cell? ⟨w.heap.size, m, none⟩ = some (.string (kname m)) := by
    rw [Blk.cell (Blk.new w _ 9) m]
    have hl : m < knames.length := by show m < 27; omega
    simp [kname, hl]
  have hb := below_one w (.cells (knames.map Value.string).toArray 9)
  generalize w.alloc (.cells (knames.map Value.string).toArray 9) = w1 at *
  generalize kname m = nm at *
  go_enter Tryz.func23, Tryz.ntmps23
  go_wp2_with fail
  refine C.mono ?_
  rintro e w' ⟨rfl, rfl⟩
  go_wp2
  go_ret2
  exact ⟨rfl, hb⟩
theorem Word_zero (w : World) : Calls Tryz.prog 23 #[.int .u8 0] w fun e w' => e = .returned (.tuple #[.string ⟨#[]⟩, .int .i64 40]) ∧ w' = w := by
  go_enter Tryz.func23, Tryz.ntmps23
  go_wp2
  go_ret2; exact ⟨rfl, rfl⟩
theorem Glob.turned {w w' : World} {B : Nat} {S : List Nat} (g : Glob w) (t : Turned B S w w') (hB : 25 ≤ B) (hS : ∀ k ∈ S, 25 ≤ k) : Glob w' := by
  have hn : ∀ k, k < 25 → w'.heap[k]? = w.heap[k]? := fun k hk => t.block k (by omega) (fun hm => by have := hS k hm; omega)
  refine ⟨?_, ?_, Nat.le_trans g.size t.size⟩
  · have h := g.asp
    have hg : Tryz.prog.globalNamed "strings.asciiSpace" = some 0 := by kernel_rfl
    unfold Lib.TabIs World.var? at h ⊢
    rw [hg] at h ⊢
    simp only [Option.bind_some] at h ⊢
    rw [hn 0 (by omega)]
    exact h
  · obtain ⟨te, pe, he⟩ := g.esx
    exact ⟨te, pe, (World.cell?_of_block (w := w) (hn 6 (by omega))).trans he⟩
theorem Glob.below {w w' : World} {B : Nat} (g : Glob w) (t : Below B w w') (hB : 25 ≤ B) : Glob w' := g.turned (S := []) (Turned.of_below t) hB (by simp)

/-- The first kind from k on (n of them) that bears a name. -/
def kindF (name : ByteArray) : Nat → Int → Int
  | 0, _ => 0
  | n + 1, k => if kname k = name then k else kindF name n (k + 1)

set_option maxRecDepth 100000 in
set_option maxHeartbeats 1000000 in
theorem Kind_any (name : ByteArray) (w : World) (g : Glob w) :
    Calls Tryz.prog 24 #[.string name] w fun e w' => e = .returned (.tuple #[.int .u8 (kindF name 26 1), .bool (decide (0 < kindF name 26 1))]) ∧ Below w.heap.size w w' := by
  have hW : ∀ (k : Int) (wr : World), Below w.heap.size w wr → 1 ≤ k → k ≤ 26 → Calls Tryz.prog 23 #[.int .u8 k] wr fun e w' => e = .returned (.tuple #[.string (kname k), .int .i64 0]) ∧ Below w.heap.size wr w' := fun k wr hb h1 h2 =>
    (Word_any k wr h1 h2 (g.below hb g.size)).mono fun e w' h => ⟨h.1, h.2.mono hb.size⟩
  have HW := Lib.hid hW
  clear hW g
  obtain ⟨r, hr0⟩ : ∃ r, kindF name 26 1 = r := ⟨_, rfl⟩
  rw [hr0]
  have HR0 : Hid (kindF name 26 1 = r) := hr0
  clear hr0
  go_enter Tryz.func24, Tryz.ntmps24
  go_wp2
  go_loopw [4] (fun i wr => ∃ m n : Nat, i = .int .u8 (m : Int) ∧ m + n = 27 ∧ 1 ≤ m ∧ Below w.heap.size w wr ∧ Hid (kindF name n m = r)) (fun i _ => 27 - (intOf i).toNat)
  case atStart => exact ⟨1, 26, rfl, rfl, by omega, Below.refl _ _, HR0⟩
  case round =>
    obtain ⟨m, n, rfl, hmn, h1, hb, HK⟩ := hrel
    clear HR0
    cases n with
    | zero =>
      have hm : m = 27 := by omega
      have HR : Hid (r = 0) := by rw [← HK.out]; rfl
      have hlt : ¬ m ≤ 26 := by omega
      go_wp2
      go_ret2
      refine ⟨?_, hb⟩
      rw [HR.out]; rfl
    | succ n =>
      have hm : m ≤ 26 := by omega
      have C := HW.out m wr hb (by omega) (by omega)
      have hk := HK.out
      clear HK
      rw [kindF] at hk
      have HKK := Lib.hid hk
      clear hk
      generalize kname m = nm at *
      go_wp2_with fail
      refine C.mono ?_
      rintro e w1 ⟨rfl, hb1⟩
      have hb2 := hb.trans hb1
      clear C
      by_cases he : nm = name
      · subst he
        have hr : r = m := by have := HKK.out; rw [if_pos rfl] at this; exact this.symm
        have HR := Lib.hid hr
        clear hr HKK
        have hee : (nm.toList == nm.toList) = true := beq_self_eq_true _
        go_wp2
        go_ret2
        refine ⟨?_, hb2⟩
        rw [HR.out]
        have : decide (0 < (m : Int)) = true := decide_eq_true (by omega)
        rw [this]; rfl
      · have HKN : Hid (kindF name n ((m : Int) + 1) = r) := by have := HKK.out; rw [if_neg he] at this; exact this
        have hne : (nm.toList == name.toList) = false := beqL_no he
        go_wp2
        go_roundw
        case rel => exact ⟨m + 1, n, by go_num, by omega, by omega, hb2, by rw [Int.natCast_add]; exact HKN⟩
        case measure => simp [intOf]; omega
end Go.Proofs.YtihmlhjdlpjehaaGreatDoor
