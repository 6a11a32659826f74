/- Package lines: own, known. Package lines: node. -/
import Derived.Test.YtihmlhjdlpjehaaGreatDoorL3
import Derived.Test.YtihmlhjdlpjehaaGreatDoorT4
import Derived.Test.YtihmlhjdlpjehaaGreatDoorV12
import Derived.Test.YtihmlhjdlpjehaaGreatDoorK29
set_option linter.unusedVariables false
set_option linter.unusedSimpArgs false
namespace Go.Proofs.YtihmlhjdlpjehaaGreatDoor
open Go.RowKit

theorem enter102 : ∀ args w, (callFunc 102 args).run Tryz.prog w = .ok (.enter 102 args) w := by
  intro args w
  exact enters_of Tryz.func102 (by kernel_rfl) rfl args w
theorem known_ok (bb : Nat) (v : Value) (rows : List Rw) (h : Nat) (w : World) (hB : BookV w bb v rows) (h1 : 1 ≤ h) (h2 : h ≤ rows.length) (hm : rows.length ≤ 65536) :
    Calls Tryz.prog 54 #[.pointer (some ⟨bb, 0, none⟩), .int .i64 h] w fun e w' => e = .returned (.int .i64 0) ∧ w' = w := by
  have C := Error_ok bb v rows h w hB h1 h2 hm
  clear hB
  generalize (rows[h - 1]'(by omega)).err = er at *
  go_enter Tryz.func54, Tryz.ntmps54
  go_wp2_with fail
  refine C.mono ?_
  rintro e w1 ⟨rfl, rfl⟩
  go_wp2_with fail
  go_ret
  exact ⟨rfl, rfl⟩
theorem own_zero (bp : Value) (w : World) : Calls Tryz.prog 58 #[bp, .int .i64 0] w fun e w' => e = .returned (.tuple #[.string ⟨#[110, 111, 110, 101]⟩, .slice none 0 0]) ∧ w' = w := by
  go_enter Tryz.func58, Tryz.ntmps58
  go_wp2
  go_ret2
  exact ⟨rfl, rfl⟩
set_option maxRecDepth 1000000 in
set_option maxHeartbeats 4000000 in
theorem own_ok (bb : Nat) (v : Value) (rows : List Rw) (h : Nat) (s : Sp) (txt : ByteArray) (w : World) (hB : BookV w bb v rows) (h1 : 1 ≤ h) (h2 : h ≤ rows.length) (hm : rows.length ≤ 65536) (hR : RowsRd w rows []) (hs : (rows[h - 1]'(by omega)).sp = s)
    (hW : ∀ (ia pa : Option Addr) (ic pc : Nat) (W : World), Below w.heap.size w W → Calls Tryz.prog 102 #[s.val ia ic pa pc] W fun e w' => e = .returned (.string txt) ∧ Below W.heap.size W w') :
    Calls Tryz.prog 58 #[.pointer (some ⟨bb, 0, none⟩), .int .i64 h] w fun e w' => (∃ pa pc, e = .returned (.tuple #[.string txt, .slice pa s.parts.length pc]) ∧ RdI w' pa s.parts ∧ NewA w.heap.size pa) ∧ Below w.heap.size w w' := by
  have C := Spec_ok bb v rows h w hB h1 h2 hm hR
  rw [hs] at C
  have HW := Lib.hid hW
  have hz : ((h : Int) == 0) = false := by simp; omega
  obtain ⟨np, hnp⟩ : ∃ np, s.parts.length = np := ⟨_, rfl⟩
  obtain ⟨ni, hni⟩ : ∃ ni, s.items.length = ni := ⟨_, rfl⟩
  have hval : ∀ a c b d, s.val a c b d = .agg #[.int .u8 s.kind, .bool s.nl, .string s.text, .int .i16 s.number, .int .i8 s.small, .float .f64 s.re, .float .f64 s.im, .bool s.flag, .int .u32 s.mask, .slice a ni c, .slice b np d] := fun a c b d => by rw [← hnp, ← hni]
  rw [hnp]
  have HNP := Lib.hid hnp
  clear hB hR hs hW hnp hni
  have HC := Lib.hid C
  clear C
  go_enter Tryz.func58, Tryz.ntmps58
  go_wp2_with fail
  refine HC.out.mono ?_
  rintro e w1 ⟨⟨ia, ic, pa, pc, rfl, hri, hrp, hni2, hnp2⟩, b1⟩
  rw [hval]
  have z1 := b1.size
  have HV := Lib.hid hval
  have HRP := Lib.hid hrp
  have HNP2 := Lib.hid hnp2
  clear hval hri hrp hni2 hnp2
  go_wp2_with (first
    | (refine ws79 rfl (.tmp 6) (.tmp 14) rfl w1.heap.size _ rfl rfl _ 79 (Blk.new w1 _ 79) rfl rfl rfl ?_; intro w2 k2 t2 z2)
    | fail)
  have z2b : w2.heap.size = w1.heap.size + 1 := by rw [z2]; simp
  have bw2 : Below w.heap.size w w2 := (b1.alloc z1 _).trans ((t2.mono (B' := w.heap.size) (S' := []) (by simp; omega) (fun k hk hlt => by simp at hk; omega)).below (by simp))
  have b12 : Below w1.heap.size w1 w2 := ((Below.refl _ w1).alloc (Nat.le_refl _) _).trans ((t2.mono (B' := w1.heap.size) (S' := []) (by simp) (fun k hk hlt => by simp at hk; omega)).below (by simp))
  have hx2 : w1.heap.size < w2.heap.size := by omega
  have xc0 : w2.cell? ⟨w1.heap.size, 0, none⟩ = some (.int .u8 s.kind) := k2.cell 0
  have xc1 : w2.cell? ⟨w1.heap.size, 1, none⟩ = some (.bool s.nl) := k2.cell 1
  have xc2 : w2.cell? ⟨w1.heap.size, 2, none⟩ = some (.string s.text) := k2.cell 2
  have xc3 : w2.cell? ⟨w1.heap.size, 3, none⟩ = some (.int .i16 s.number) := k2.cell 3
  have xc4 : w2.cell? ⟨w1.heap.size, 4, none⟩ = some (.int .i8 s.small) := k2.cell 4
  have xc5 : w2.cell? ⟨w1.heap.size, 5, none⟩ = some (.float .f64 s.re) := k2.cell 5
  have xc6 : w2.cell? ⟨w1.heap.size, 6, none⟩ = some (.float .f64 s.im) := k2.cell 6
  have xc7 : w2.cell? ⟨w1.heap.size, 7, none⟩ = some (.bool s.flag) := k2.cell 7
  have xc8 : w2.cell? ⟨w1.heap.size, 8, none⟩ = some (.int .u32 s.mask) := k2.cell 8
  have xc9 : w2.cell? ⟨w1.heap.size, 9, none⟩ = some (.slice ia ni ic) := k2.cell 9
  have xc10 : w2.cell? ⟨w1.heap.size, 10, none⟩ = some (.slice pa np pc) := k2.cell 10
  have CD := HW.out ia pa ic pc w2.drew bw2.drew
  rw [HV.out] at CD
  have HCD := Lib.hid CD
  have HK2 := Lib.hid k2
  have E102 := enter102
  clear k2 t2 z2 CD
  go_region_law (refine step_call rfl 102 #[.tmp 16] #[79] rfl #[.agg #[.int .u8 s.kind, .bool s.nl, .string s.text, .int .i16 s.number, .int .i8 s.small, .float .f64 s.re, .float .f64 s.im, .bool s.flag, .int .u32 s.mask, .slice ia ni ic, .slice pa np pc]] rfl (fun w => E102 _ w) HCD.out ?_; rintro e w3 ⟨rfl, b3⟩; refine ⟨_, rfl, ?_⟩; have d10 : w3.cell? ⟨w1.heap.size, 10, none⟩ = some (.slice pa np pc) := (b3.cell (p := ⟨w1.heap.size, 10, none⟩) hx2).trans xc10)
  all_goals
    go_wp2_with fail
    go_ret2
    have b23 : Below w2.heap.size w2 w3 := ((Below.refl _ w2).drew).trans b3
    exact ⟨⟨pa, pc, rfl, (HRP.out.below b12).below b23, HNP2.out⟩, bw2.trans (b23.mono bw2.size)⟩
end Go.Proofs.YtihmlhjdlpjehaaGreatDoor
namespace Go.Proofs.YtihmlhjdlpjehaaGreatDoor
open Go.RowKit

def upT (T : Nat → ByteArray) (s0 : ByteArray) : Nat → ByteArray
  | 0 => s0
  | i + 1 => upT T s0 i ++ (if i = 0 then openB else sepB) ++ T i
theorem upT_append (T : Nat → ByteArray) (s t : ByteArray) (n : Nat) : upT T (s ++ t) n = s ++ upT T t n := by
  induction n with
  | zero => rfl
  | succ n ih => simp only [upT, ih, ByteArray.append_assoc]
theorem upT_le (T : Nat → ByteArray) (s : ByteArray) (n i : Nat) (h : i ≤ n) : (upT T s i).size ≤ (upT T s n).size := by
  induction n with
  | zero =>
    have e : i = 0 := by omega
    rw [e]
    exact Nat.le_refl _
  | succ n ih =>
    by_cases h2 : i ≤ n
    · have := ih h2
      have e : (upT T s (n + 1)).size = (upT T s n).size + (if n = 0 then openB else sepB).size + (T n).size := by simp [upT, ByteArray.size_append]
      omega
    · have e : i = n + 1 := by omega
      rw [e]
      exact Nat.le_refl _
/-- What node writes at a handle. -/
def NodeTo (W0 : World) (bb : Nat) (h : Int) (T : ByteArray) (D : Nat) : Prop := ∀ (sb : Nat) (path : ByteArray) (buf : Value) (wide : Int) (s : ByteArray) (w : World), Below W0.heap.size W0 w → W0.heap.size ≤ sb → ShO W0.heap.size sb w (.pointer (some ⟨bb, 0, none⟩)) wide s buf → buf.ownBlock ≠ some sb → 0 ≤ wide → wide ≤ s.size → s.size + T.size ≤ 1000000 → path.size + D ≤ 1000 →
  Calls Tryz.prog 61 #[.pointer (some ⟨sb, 0, none⟩), .int .i64 h, .string path] w fun e w' => e = .returned (.tuple #[]) ∧ ∃ buf' wide', ShO W0.heap.size sb w' (.pointer (some ⟨bb, 0, none⟩)) wide' (s ++ T) buf' ∧ buf'.ownBlock ≠ some sb ∧ 0 ≤ wide' ∧ wide' ≤ (s ++ T).size ∧ (buf'.ownBlock = buf.ownBlock ∨ ∀ g, buf'.ownBlock = some g → w.heap.size ≤ g) ∧ Turned w.heap.size (sb :: buf.ownBlock.toList) w w'
/-- What own says of a handle. -/
def OwnTo (W0 : World) (bb : Nat) (h : Int) (txt : ByteArray) (ps : List Int) : Prop := ∀ w, Below W0.heap.size W0 w → Calls Tryz.prog 58 #[.pointer (some ⟨bb, 0, none⟩), .int .i64 h] w fun e w' => (∃ pa pc, e = .returned (.tuple #[.string txt, .slice pa ps.length pc]) ∧ RdI w' pa ps ∧ NewA w.heap.size pa) ∧ Below w.heap.size w w'
theorem seen_any (path : ByteArray) (a b : Int) (w : World) : Calls Tryz.prog 60 #[.string path, .int .i64 a, .int .i64 b] w fun e w' => e = .returned (.tuple #[]) ∧ w' = w := by
  go_enter Tryz.func60, Tryz.ntmps60
  go_wp2
  go_end0
  exact ⟨rfl, rfl⟩
theorem byteStr (w : World) (i : Nat) (hi : i < 256) : (convert 104 9 (.slice (some ⟨w.heap.size, 0, none⟩) 1 1)).run Tryz.prog (w.alloc (.cells #[.int .u8 (i : Int)] 5)) = .ok (.string ⟨#[UInt8.ofNat i]⟩) (w.alloc (.cells #[.int .u8 (i : Int)] 5)) := by
  have h := World.ownsRow_lit (base := 0) (e := 5) (size := 1) w #[.int .u8 (i : Int)] 1 (Nat.zero_le _) (by unfold maxLen; omega) rfl
  have e : (#[Value.int .u8 (i : Int)]).toList = [UInt8.ofNat i].map fun b => Value.int .u8 (b.toNat : Int) := by
    simp only [List.map_cons, List.map_nil, UInt8.toNat_ofNat']
    rw [Nat.mod_eq_of_lt hi]
  rw [e] at h
  exact conv_own h rfl
/-- What holds between two parts. -/
structure LInv (B sb : Nat) (w : World) (bp buf : Value) (pa : Option Addr) (ps : List Int) (s : ByteArray) (bufi : Value) (widei : Int) (wr : World) : Prop where
  sh : ShO B sb wr bp widei s bufi
  ne : bufi.ownBlock ≠ some sb
  w0 : 0 ≤ widei
  w1 : widei ≤ s.size
  ow : bufi.ownBlock = buf.ownBlock ∨ ∀ g, bufi.ownBlock = some g → w.heap.size ≤ g
  np : ps ≠ [] → ∀ y, pa = some y → bufi.ownBlock ≠ some y.block
  rd : RdI wr pa ps
  tr : Turned w.heap.size (sb :: buf.ownBlock.toList) w wr
theorem LInv.step {B sb : Nat} {w : World} {bp buf : Value} {pa : Option Addr} {ps : List Int} {s s' : ByteArray} {bufi buf' : Value} {widei wide' : Int} {wr w' : World} (h : LInv B sb w bp buf pa ps s bufi widei wr) (hsb : sb < w.heap.size) (hpa : NewA w.heap.size pa)
    (sh : ShO B sb w' bp wide' s' buf') (ne : buf'.ownBlock ≠ some sb) (w0 : 0 ≤ wide') (w1 : wide' ≤ s'.size) (ho : buf'.ownBlock = bufi.ownBlock ∨ ∀ g, buf'.ownBlock = some g → wr.heap.size ≤ g) (t : Turned wr.heap.size (sb :: bufi.ownBlock.toList) wr w') : LInv B sb w bp buf pa ps s' buf' wide' w' := by
  have z := h.tr.size
  refine ⟨sh, ne, w0, w1, ?_, ?_, ?_, ?_⟩
  · rcases ho with ho | ho
    · rw [ho]; exact h.ow
    · exact Or.inr fun g hg => by have := ho g hg; omega
  · intro e y hy e2
    rcases ho with ho | ho
    · rw [ho] at e2; exact h.np e y hy e2
    · have h5 := ho _ e2
      have h6 := h.rd.lt e y hy
      omega
  · exact h.rd.turn t (fun e y hy hm => by
      have h5 := hpa y hy
      simp only [List.mem_cons, Option.mem_toList] at hm
      rcases hm with hm | hm
      · omega
      · exact h.np e y hy hm)
  · exact h.tr.trans (t.mono z (fun k hk hlt => by
      simp only [List.mem_cons, Option.mem_toList] at hk ⊢
      rcases hk with hk | hk
      · exact Or.inl hk
      · rcases h.ow with h5 | h5
        · exact Or.inr (by rw [← h5]; exact hk)
        · have := h5 k hk; omega))
set_option maxRecDepth 1000000 in
set_option maxHeartbeats 4000000 in
theorem node_ok (W0 : World) (bb : Nat) (h : Int) (txt : ByteArray) (ps : List Int) (T : Nat → ByteArray) (hO : OwnTo W0 bb h txt ps) (hn : ps.length ≤ 64) (D : Nat) (hT : ∀ i, i < ps.length → NodeTo W0 bb (ps.getD i 0) (T i) D) :
    NodeTo W0 bb h (upT T txt ps.length ++ (if 0 < ps.length then closeB else ⟨#[]⟩)) (D + 1) := by
  intro sb path buf wide s w hbw hsb hsh hne hw0 hw1 hsz hpz
  have HO := Lib.hid hO
  have HT := Lib.hid hT
  have HSH := Lib.hid hsh
  have hW0 := hbw.size
  have hsbl : sb < w.heap.size := by obtain ⟨⟨ad, h1, _⟩, _⟩ := hsh; exact h1.lt
  have hbl : ∀ g, buf.ownBlock = some g → g < w.heap.size := fun g hg => (hsh.own.lt g hg).2
  obtain ⟨n, hnl⟩ : ∃ n, ps.length = n := ⟨_, rfl⟩
  have HN := Lib.hid hnl
  rw [hnl] at hn hsz ⊢
  have hup : (upT T (s ++ txt) n).size ≤ 1000000 := by
    rw [upT_append, ByteArray.size_append]
    rw [ByteArray.size_append] at hsz
    omega
  obtain ⟨⟨ad, hblk, had⟩, hown⟩ := hsh
  have c0 : w.cell? ⟨sb, 0, none⟩ = some (.pointer (some ⟨bb, 0, none⟩)) := hblk.cell 0
  have c3 : w.cell? ⟨sb, 3, none⟩ = some (.int .i64 wide) := hblk.cell 3
  clear hO hT hblk had hown hnl
  go_enter Tryz.func61, Tryz.ntmps61
  go_wp2_with fail
  refine (HO.out w hbw).mono ?_
  rintro e w1 ⟨⟨pa, pc, rfl, hrp, hna⟩, b1⟩
  rw [HN.out]
  have z1 := b1.size
  have sh1 := HSH.out.turned (S := []) (Turned.of_below b1) (by simp) (by simp)
  have P1 := put_ok W0.heap.size sb (.pointer (some ⟨bb, 0, none⟩)) buf wide s txt w1 sh1 (by omega) (by
    have h5 := upT_le T (s ++ txt) n 0 (Nat.zero_le _)
    have h6 : (upT T (s ++ txt) 0).size = s.size + txt.size := by simp [upT, ByteArray.size_append]
    omega) hne hw0 (by
    have h6 : s.size ≤ 1000000 := by omega
    omega)
  have HRP := Lib.hid hrp
  clear sh1 hrp
  go_wp2_with fail
  refine P1.mono ?_
  rintro e w2 ⟨rfl, buf2, wide2, sh2, hne2, hw02, hw12, ho2, t2⟩
  clear P1
  have hst : (s ++ txt).size = s.size + txt.size := ByteArray.size_append
  have hL0 : LInv W0.heap.size sb w (.pointer (some ⟨bb, 0, none⟩)) buf pa ps s buf wide w1 :=
    ⟨HSH.out.turned (S := []) (Turned.of_below b1) (by simp) (by simp), hne, hw0, hw1, Or.inl rfl, (fun e y hy e2 => by have := hna y hy; have := hbl _ e2; omega), HRP.out, Turned.of_below b1⟩
  have hL2 := hL0.step hsbl hna sh2 hne2 hw02 (by rw [hst]; omega) ho2 t2
  have z2 := t2.size
  have HL2 := Lib.hid hL2
  clear hL0 hL2 sh2 ho2 t2 b1 c0 c3 hw12 hne2
  go_wp2_with fail
  go_loopw [29] (fun iv wr => ∃ (i : Nat) (bufi : Value) (widei : Int), i ≤ n ∧ iv = .int .i64 i ∧ LInv W0.heap.size sb w (.pointer (some ⟨bb, 0, none⟩)) buf pa ps (upT T (s ++ txt) i) bufi widei wr) (fun iv _ => n - (intOf iv).toNat)
  case atStart => exact ⟨0, buf2, wide2, Nat.zero_le _, rfl, HL2.out⟩
  case round =>
    obtain ⟨i, bufi, widei, hi, rfl, hL⟩ := hrel
    have zri := hL.tr.size
    have hui := upT_le T (s ++ txt) n i hi
    have hbB : ∀ (b : Value) (wd : Int) (ss : ByteArray) (wx : World), LInv W0.heap.size sb w (.pointer (some ⟨bb, 0, none⟩)) buf pa ps ss b wd wx → Below W0.heap.size W0 wx := fun b wd ss wx h => hbw.trans ((h.tr.mono (B' := W0.heap.size) (S' := []) hW0 (fun k hk hlt => by
      simp only [List.mem_cons, Option.mem_toList] at hk
      rcases hk with hk | hk
      · omega
      · have := (HSH.out.own.lt k hk).1; omega)).below (by simp))
    have HBB := Lib.hid hbB
    have HL := Lib.hid hL
    clear hbB
    by_cases hlt : i < n
    · have hil : i < ps.length := by rw [HN.out]; exact hlt
      obtain ⟨bp, op, hpa, cp, hbpl⟩ := hL.rd.at (Below.refl _ _) i hil
      subst hpa
      have hui1 := upT_le T (s ++ txt) n (i + 1) (by omega)
      have hue : (upT T (s ++ txt) (i + 1)).size = (upT T (s ++ txt) i).size + (if i = 0 then openB else sepB).size + (T i).size := by simp [upT, ByteArray.size_append]
      have NT := HT.out i hil
      have hw1i := hL.w1
      have hw0i := hL.w0
      have hnei := hL.ne
      clear hL
      generalize ps.getD i 0 = p at *
      have key : ∀ (sep : ByteArray), (if i = 0 then openB else sepB) = sep → Calls Tryz.prog 106 #[.pointer (some ⟨sb, 0, none⟩), .string sep] wr fun e w' => e = .returned (.tuple #[]) ∧ ∃ buf' wide', LInv W0.heap.size sb w (.pointer (some ⟨bb, 0, none⟩)) buf (some ⟨bp, op, none⟩) ps (upT T (s ++ txt) i ++ sep) buf' wide' w' := fun sep hsep =>
        (put_ok W0.heap.size sb _ bufi widei _ sep wr HL.out.sh (by omega) (by rw [hsep] at hue; omega) hnei hw0i (by omega)).mono fun e w' ⟨h1, buf', wide', h2, h3, h4, h5, h6, h7⟩ =>
          ⟨h1, buf', wide', HL.out.step hsbl hna h2 h3 h4 (by rw [ByteArray.size_append]; omega) h6 h7⟩
      have key2 : ∀ (sep path' : ByteArray) (b3 : Value) (wd3 : Int) (w3 : World), (if i = 0 then openB else sepB) = sep → LInv W0.heap.size sb w (.pointer (some ⟨bb, 0, none⟩)) buf (some ⟨bp, op, none⟩) ps (upT T (s ++ txt) i ++ sep) b3 wd3 w3 → path'.size + D ≤ 1000 → ∀ o : Obj, Calls Tryz.prog 61 #[.pointer (some ⟨sb, 0, none⟩), .int .i64 p, .string path'] (w3.alloc o) fun e w' => e = .returned (.tuple #[]) ∧ ∃ buf' wide', LInv W0.heap.size sb w (.pointer (some ⟨bb, 0, none⟩)) buf (some ⟨bp, op, none⟩) ps (upT T (s ++ txt) (i + 1)) buf' wide' w' := by
        intro sep path' b3 wd3 w3 hsep h3 hpz' o
        have z3 := h3.tr.size
        have b3' := (HBB.out _ _ _ _ h3)
        have ta : Turned w3.heap.size (sb :: b3.ownBlock.toList) w3 (w3.alloc o) := (Turned.refl _ _ _).alloc (Nat.le_refl _) o
        have sh4 : ShO W0.heap.size sb (w3.alloc o) (.pointer (some ⟨bb, 0, none⟩)) wd3 (upT T (s ++ txt) i ++ sep) b3 := h3.sh.turned (S := []) ((Turned.refl _ _ _).alloc (Nat.le_refl _) o) (by simp) (by simp)
        have h4 := h3.step hsbl hna sh4 h3.ne h3.w0 h3.w1 (Or.inl rfl) ta
        refine (NT sb path' b3 wd3 (upT T (s ++ txt) i ++ sep) (w3.alloc o) (HBB.out _ _ _ _ h4) hsb sh4 h3.ne h3.w0 h3.w1 (by rw [hsep] at hue; rw [ByteArray.size_append]; omega) hpz').mono ?_
        rintro e w' ⟨h1, buf', wide', h2, h5, h6, h7, h8, h9⟩
        refine ⟨h1, buf', wide', ?_⟩
        have e2 : upT T (s ++ txt) (i + 1) = upT T (s ++ txt) i ++ sep ++ T i := by simp only [upT, hsep]
        rw [e2]
        exact h4.step hsbl hna h2 h5 h6 h7 h8 h9
      by_cases hi0 : i = 0
      · subst hi0
        rw [Nat.add_zero] at cp
        have K0 := key openB (if_pos rfl)
        have K2 := fun path' b3 wd3 w3 => key2 openB path' b3 wd3 w3 (if_pos rfl)
        have HK2 := Lib.hid K2
        clear key key2 K2
        go_wp2_with fail
        refine K0.mono ?_
        rintro e w3 ⟨rfl, buf3, wide3, h3⟩
        have hcv : (convert 104 9 (.slice (some ⟨w3.heap.size, 0, none⟩) 1 1)).run Tryz.prog (w3.alloc (.cells #[.int .u8 0] 5)) = .ok (.string ⟨#[UInt8.ofNat 0]⟩) (w3.alloc (.cells #[.int .u8 0] 5)) := by simpa using byteStr w3 0 (by decide)
        have HL3 := Lib.hid h3
        have hps1 : path.size ≤ 1000 := by omega
        have hb1 : (⟨#[UInt8.ofNat 0]⟩ : ByteArray).size = 1 := rfl
        clear h3 K0
        go_wp2_with fail
        refine (HK2.out _ _ _ _ HL3.out (by rw [ByteArray.size_append]; show path.size + 1 + D ≤ 1000; omega) _).mono ?_
        rintro e w5 ⟨rfl, buf5, wide5, h5⟩
        go_wp2_with fail
        go_roundw
        case rel => exact ⟨0 + 1, buf5, wide5, by omega, by go_num, h5⟩
        case measure => simp [intOf]; omega
      · have hz : ((i : Int) == 0) = false := by simp; omega
        have K0 := key sepB (if_neg hi0)
        have K2 := fun path' b3 wd3 w3 => key2 sepB path' b3 wd3 w3 (if_neg hi0)
        have HK2 := Lib.hid K2
        clear key key2 K2
        go_wp2_with fail
        refine K0.mono ?_
        rintro e w3 ⟨rfl, buf3, wide3, h3⟩
        have hcv := byteStr w3 i (by omega)
        have HL3 := Lib.hid h3
        have hps1 : path.size ≤ 1000 := by omega
        have hb1 : (⟨#[UInt8.ofNat i]⟩ : ByteArray).size = 1 := rfl
        clear h3 K0
        go_wp2_with fail
        refine (HK2.out _ _ _ _ HL3.out (by rw [ByteArray.size_append]; show path.size + 1 + D ≤ 1000; omega) _).mono ?_
        rintro e w5 ⟨rfl, buf5, wide5, h5⟩
        go_wp2_with fail
        go_roundw
        case rel => exact ⟨i + 1, buf5, wide5, by omega, by go_num, h5⟩
        case measure => simp [intOf]; omega
    · have hin : i = n := by omega
      subst hin
      have hw1i := hL.w1
      have hw0i := hL.w0
      have hnei := hL.ne
      clear hL
      have fin : ∀ (x : ByteArray) (b5 : Value) (wd5 : Int) (w5 : World), LInv W0.heap.size sb w (.pointer (some ⟨bb, 0, none⟩)) buf pa ps (upT T (s ++ txt) i ++ x) b5 wd5 w5 → ∃ buf' wide', ShO W0.heap.size sb w5.drew (.pointer (some ⟨bb, 0, none⟩)) wide' (s ++ (upT T txt i ++ x)) buf' ∧ buf'.ownBlock ≠ some sb ∧ 0 ≤ wide' ∧ wide' ≤ (s ++ (upT T txt i ++ x)).size ∧ (buf'.ownBlock = buf.ownBlock ∨ ∀ g, buf'.ownBlock = some g → w.heap.size ≤ g) ∧ Turned w.heap.size (sb :: buf.ownBlock.toList) w w5.drew := by
        intro x b5 wd5 w5 h5
        have e2 : upT T (s ++ txt) i ++ x = s ++ (upT T txt i ++ x) := by rw [upT_append, ByteArray.append_assoc]
        rw [e2] at h5
        exact ⟨b5, wd5, h5.sh.turned (S := []) ((Turned.refl _ _ _).drew) (by simp) (by simp), h5.ne, h5.w0, h5.w1, h5.ow, h5.tr.drew⟩
      have cells : ∀ (x : ByteArray) (b5 : Value) (wd5 : Int) (w5 : World), LInv W0.heap.size sb w (.pointer (some ⟨bb, 0, none⟩)) buf pa ps x b5 wd5 w5 → w5.cell? ⟨sb, 3, none⟩ = some (.int .i64 wd5) ∧ w5.cell? ⟨sb, 4, none⟩ = some (.func (.func 60) #[] #[]) := by
        intro x b5 wd5 w5 h5
        obtain ⟨⟨ad, k5, _⟩, _⟩ := h5.sh
        exact ⟨k5.cell 3, k5.cell 4⟩
      by_cases hn0 : 0 < i
      · have hg : (0 : Int) < (i : Int) := by omega
        rw [if_pos hn0] at hsz
        have K := put_ok W0.heap.size sb (.pointer (some ⟨bb, 0, none⟩)) bufi widei (upT T (s ++ txt) i) closeB wr HL.out.sh (by omega) (by have : closeB.size = 1 := rfl; omega) hnei hw0i (by omega)
        go_wp2_with fail
        refine K.mono ?_
        rintro e w5 ⟨rfl, buf5, wide5, h2, h3, h4, h5, h6, h7⟩
        have hL5 := HL.out.step hsbl hna h2 h3 h4 (by rw [ByteArray.size_append]; omega) h6 h7
        obtain ⟨d3, d4⟩ := cells _ _ _ _ hL5
        have HF := Lib.hid (fin _ _ _ _ hL5)
        clear K h2 h3 h4 h5 h6 h7 hL5 fin cells
        go_wp2_with fail
        go_region_with (go_at_call 60; refine (seen_any _ _ _ _).mono ?_; rintro e w6 ⟨rfl, rfl⟩)
        all_goals
          go_end0
          obtain ⟨buf', wide', f1, f2, f3, f4, f5, f6⟩ := HF.out
          rw [if_pos hn0]
          exact ⟨rfl, buf', wide', f1, f2, f3, f4, f5, f6⟩
      · have hi0 : i = 0 := by omega
        have hg : ¬ (0 : Int) < (i : Int) := by omega
        have hL5 := HL.out
        have e0 : upT T (s ++ txt) i = upT T (s ++ txt) i ++ (⟨#[]⟩ : ByteArray) := by show _ = _ ++ ByteArray.empty; simp
        rw [e0] at hL5
        obtain ⟨d3, d4⟩ := cells _ _ _ _ hL5
        have HF := Lib.hid (fin _ _ _ _ hL5)
        clear hL5 fin cells hi0 e0
        go_wp2_with fail
        go_region_with (go_at_call 60; refine (seen_any _ _ _ _).mono ?_; rintro e w6 ⟨rfl, rfl⟩)
        all_goals
          go_end0
          obtain ⟨buf', wide', f1, f2, f3, f4, f5, f6⟩ := HF.out
          rw [if_neg hn0]
          exact ⟨rfl, buf', wide', f1, f2, f3, f4, f5, f6⟩
end Go.Proofs.YtihmlhjdlpjehaaGreatDoor
