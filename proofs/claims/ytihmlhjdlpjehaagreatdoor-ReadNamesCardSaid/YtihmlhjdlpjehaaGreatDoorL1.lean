/- Package lines: put: its Builder lies in the middle of a struct. Package lines: put. -/
import Derived.Test.YtihmlhjdlpjehaaGreatDoorR10
import Derived.Test.YtihmlhjdlpjehaaGreatDoorR2
import Derived.Test.YtihmlhjdlpjehaaGreatDoorT1
import Derived.Test.YtihmlhjdlpjehaaGreatDoorK11
import Derived.Lib.AppendStr
import Derived.Lib.Builder
import Derived.Test.YtihmlhjdlpjehaaGreatDoorV8
set_option linter.unusedVariables false
set_option linter.unusedSimpArgs false
namespace Go.Proofs.YtihmlhjdlpjehaaGreatDoor
open Go.RowKit

/-- The cells of what Short writes into: the book, the Builder's two, how wide it is, what is told. -/
abbrev shC (bp ad buf : Value) (wide : Int) : Array Value := #[bp, ad, buf, .int .i64 wide, .func (.func 60) #[] #[]]
theorem Blk.shape {w : World} {b : Nat} {cs : Array Value} {T : TypeId} (h : Blk w b cs T) : w.shape? b = some (T, cs.size) := by
  have h' : w.heap[b]? = some (.cells cs T (0, 0)) := h
  simp [World.shape?, h']
theorem i106 : ∃ j, Tryz.prog.info? 106 = some j ∧ j.size = 2 := by
  have h : (Tryz.prog.info? 106).map (·.size) = some 2 := by kernel_rfl
  obtain ⟨j, hj, hs⟩ := Option.map_eq_some_iff.1 h
  exact ⟨j, hj, hs⟩
theorem U103 : Tryz.prog.underlying 103 = some (.pointer 106) := by kernel_rfl
theorem U343 : Tryz.prog.underlying 343 = some .unsafePointer := by kernel_rfl
theorem lies106 : liesAt Tryz.prog Tryz.prog.depth 131 (5 / Tryz.prog.cellsOf 131) 1 106 1 = true := by kernel_rfl
set_option maxRecDepth 1000000 in
set_option maxHeartbeats 2000000 in
theorem copyCheck_used (sb : Nat) (w : World) (h0 : w.cell? ⟨sb, 1, none⟩ = some (.pointer (some ⟨sb, 1, none⟩))) : Calls Tryz.prog 141 #[.pointer (some ⟨sb, 1, none⟩)] w fun e w' => e = .returned (.tuple #[]) ∧ w' = w := by
  obtain ⟨j, hj, hjs⟩ := i106
  go_enter Tryz.func141, Tryz.ntmps141
  go_wp2
  rw [Lib.run_neq_ptr_same w _ U103 hj]
  go_wp2
  go_end0
  exact ⟨rfl, rfl⟩
set_option maxRecDepth 1000000 in
set_option maxHeartbeats 2000000 in
theorem copyCheck_fresh (sb : Nat) (bp buf : Value) (wide : Int) (w : World) (hB : Blk w sb (shC bp (.pointer none) buf wide) 131) : Calls Tryz.prog 141 #[.pointer (some ⟨sb, 1, none⟩)] w fun e w' => e = .returned (.tuple #[]) ∧ w' = w.setCell ⟨sb, 1, none⟩ (.pointer (some ⟨sb, 1, none⟩)) := by
  obtain ⟨j, hj, hjs⟩ := i106
  have h0 : w.cell? ⟨sb, 1, none⟩ = some (.pointer none) := hB.cell 1
  have f0 := hB.frozen 1
  have hsh := hB.shape
  go_enter Tryz.func141, Tryz.ntmps141
  go_wp2
  rw [Lib.run_to_unsafe w ⟨sb, 1, none⟩ U103 U343 hj (by rw [hjs]; decide) hsh (by show 1 < 5; omega)]
  simp only [Result.andThen]
  rw [Oper.upon_value]
  go_wp2

  rw [run_callFunc_extern Tryz.func204 (by kernel_rfl) (by kernel_rfl) (by kernel_rfl) (e := Extern.AbiNoEscape.same) (by kernel_rfl)]
  rw [Lib.run_noEscape]
  simp only [Result.andThen]
  rw [Oper.upon_value]
  go_wp2
  rw [Lib.run_from_unsafe w ⟨sb, 1, none⟩ U343 U103 hj hsh lies106]
  simp only [Result.andThen]
  rw [Oper.upon_value]
  go_wp2
  go_end0
  exact ⟨rfl, rfl⟩
section
variable {P : Program} (w : World)
open Go.Lib
theorem run_append_str3 (base : Nat) (t u ty e : TypeId) (i : TypeInfo) (ht : P.underlying t = some (.slice e)) (hu : P.underlying u = some .string) (hi : P.info? e = some i) (hz : i.zero = some (.int .u8 0))
    (hsize : i.size = 1) (hby : i.bytes = 1) (v : Value) (n : Nat) (xs : List Value) (hown : w.ownsRow base e 1 v n xs) (s : ByteArray) (h63 : n + s.size ≤ maxLen) (hbytes : n + s.size ≤ 140737488355328) (hbase : base ≤ w.heap.size) :
    ∃ v' w', (Builtin.append_ #[t, u] ty #[v, .string s]).run P w = .ok v' w' ∧ w'.ownsRow base e 1 v' (n + s.size) (xs ++ strCells s) ∧ w.grownBy w' v.ownBlock ∧
      (v'.ownBlock = v.ownBlock ∨ ∀ g, v'.ownBlock = some g → w.heap.size ≤ g) := by
  have hsmall : n + s.size ≤ 9223372036854775807 := by simp only [maxLen] at h63; omega
  have hxl : xs.length = n := by simpa using hown.1
  obtain ⟨v', w', hr, h1, h2, h3⟩ := run_append_own_string (P := P) w base t u ty e i ht hu hi hz hsize hby v n xs hown s h63 hbytes hbase
  refine ⟨v', w', hr, h1, h2, ?_⟩
  rcases hown.2 with ⟨rfl, rfl⟩ | ⟨g, cap, cur, rfl, hbg, hg, hnc, hcm, hcs, htake⟩
  · by_cases hm : s.size = 0
    · exact Or.inl (by rw [h3.2 ⟨rfl, hm⟩])
    · have hr2 := run_append_nil_string (P := P) w t u ty e i (.int .u8 0) ht hu hi hz s (by omega) (by omega) (by rw [hby]; omega)
      rw [hr] at hr2
      simp only [Result.ok.injEq] at hr2
      exact Or.inr fun k hk => by rw [hr2.1] at hk; simp [Value.ownBlock] at hk; omega
  · by_cases hroom : n + s.size ≤ cap
    · have hcs' : cur.size = cap := by simpa using hcs
      have hr2 := run_append_room_string (P := P) w t u ty e i ht hu hi hsize g n cap cur hg s hroom (by omega)
      rw [hr] at hr2
      simp only [Result.ok.injEq] at hr2
      exact Or.inl (by rw [hr2.1]; rfl)
    · have holds : ∀ j u, xs[j]? = some u → w.cell? ((⟨g, 0, none⟩ : Addr).add j) = some u := hown.cells (g := g) rfl
      have hr2 := run_append_grow_string (P := P) w t u ty e i (.int .u8 0) ht hu hi hz ⟨g, 0, none⟩ n cap xs (by rw [hsize]; simpa using hxl) holds s (by omega) (by omega) (by rw [hby]; exact growslice_fits (by omega) (by omega))
      rw [hr] at hr2
      simp only [Result.ok.injEq] at hr2
      exact Or.inr fun k hk => by rw [hr2.1] at hk; simp [Value.ownBlock] at hk; omega
theorem wpList_append_str3 {ops : Array Oper} {rest : List Oper} {o : Oper} {a : Act} {Q : Exit → Act → World → Prop} (hgd : o.guard = none) (sl x : Operand) (t u : TypeId)
    (ho : o.op = .call { callee := .builtin .append, args := #[sl, x], argTypes := #[t, u] })
    (base : Nat) (e : TypeId) (i : TypeInfo) (ht : P.underlying t = some (.slice e)) (hu : P.underlying u = some .string) (hi : P.info? e = some i) (hz : i.zero = some (.int .u8 0))
    (hsize : i.size = 1) (hby : i.bytes = 1) (v : Value) (n : Nat) (xs : List Value) (hs : a.eval sl = v) (hown : w.ownsRow base e 1 v n xs) (s : ByteArray) (hx : a.eval x = .string s)
    (h63 : n + s.size ≤ maxLen) (hbytes : n + s.size ≤ 140737488355328) (hbase : base ≤ w.heap.size)
    (h : ∀ v' w', w'.ownsRow base e 1 v' (n + s.size) (xs ++ strCells s) → w.grownBy w' v.ownBlock → (v'.ownBlock = v.ownBlock ∨ ∀ g, v'.ownBlock = some g → w.heap.size ≤ g) → wpList P ops Q rest (a.put o.dst v') w') : wpList P ops Q (o :: rest) a w := by
  refine wpList_plain hgd fun K hK => ?_
  obtain ⟨v', w', hr, h2, h3, h4⟩ := run_append_str3 (P := P) w base t u o.type e i ht hu hi hz hsize hby v n xs hown s h63 hbytes hbase
  unfold Oper.wp execOp
  simp only [ho, resolve, invoke, builtin, Sem.run_bind, Sem.run_pure, Result.andThen_ok, List.map_toArray, List.map_cons, List.map_nil, hs, hx, hr]
  exact hK _ _ (h v' w' h2 h3 h4)
end
theorem copyCheck_ok (sb : Nat) (bp ad buf : Value) (wide : Int) (w : World) (hB : Blk w sb (shC bp ad buf wide) 131) (had : ad = .pointer none ∨ ad = .pointer (some ⟨sb, 1, none⟩)) :
    Calls Tryz.prog 141 #[.pointer (some ⟨sb, 1, none⟩)] w fun e w' => e = .returned (.tuple #[]) ∧ Blk w' sb (shC bp (.pointer (some ⟨sb, 1, none⟩)) buf wide) 131 ∧ Turned w.heap.size [sb] w w' ∧ w'.heap.size = w.heap.size := by
  rcases had with rfl | rfl
  · refine (copyCheck_fresh sb bp buf wide w hB).mono ?_
    rintro e w' ⟨rfl, rfl⟩
    exact ⟨rfl, by simpa using hB.store 1 (.pointer (some ⟨sb, 1, none⟩)), (Turned.refl _ _ _).setCell (p := ⟨sb, 1, none⟩) (Or.inr (by simp)) _, by simp⟩
  · refine (copyCheck_used sb w (hB.cell 1)).mono ?_
    rintro e w' ⟨rfl, rfl⟩
    exact ⟨rfl, hB, Turned.refl _ _ _, rfl⟩
/-- What Short has written: the struct at sb, its text in memory of its own. -/
structure ShO (B sb : Nat) (w : World) (bp : Value) (wide : Int) (s : ByteArray) (buf : Value) : Prop where
  blk : ∃ ad, Blk w sb (shC bp ad buf wide) 131 ∧ (ad = .pointer none ∨ ad = .pointer (some ⟨sb, 1, none⟩))
  own : w.ownsRow B 5 1 buf s.size (Lib.strCells s)
theorem ShO.turned {B sb : Nat} {w w' : World} {bp buf : Value} {wide : Int} {s : ByteArray} {S : List Nat} (h : ShO B sb w bp wide s buf) (t : Turned w.heap.size S w w') (hs : sb ∉ S) (hb : ∀ g, buf.ownBlock = some g → g ∉ S) : ShO B sb w' bp wide s buf := by
  obtain ⟨⟨ad, h1, h2⟩, h3⟩ := h
  exact ⟨⟨ad, h1.turned t h1.lt hs, h2⟩, own_turned h3 t hb⟩
end Go.Proofs.YtihmlhjdlpjehaaGreatDoor
namespace Go.Proofs.YtihmlhjdlpjehaaGreatDoor
open Go.RowKit

theorem strCells_append (s x : ByteArray) : Lib.strCells (s ++ x) = Lib.strCells s ++ Lib.strCells x := by
  simp [Lib.strCells]
set_option maxRecDepth 1000000 in
set_option maxHeartbeats 2000000 in
theorem WriteString_ok (B sb : Nat) (bp buf : Value) (wide : Int) (s x : ByteArray) (w : World) (h : ShO B sb w bp wide s buf) (hB : B ≤ w.heap.size) (hs : s.size + x.size ≤ 1000000000) (hne : buf.ownBlock ≠ some sb) :
    Calls Tryz.prog 84 #[.pointer (some ⟨sb, 1, none⟩), .string x] w fun e w' => e = .returned (.tuple #[.int .i64 x.size, .nilIface]) ∧ ∃ buf', ShO B sb w' bp wide (s ++ x) buf' ∧ (buf'.ownBlock = buf.ownBlock ∨ ∀ g, buf'.ownBlock = some g → w.heap.size ≤ g) ∧ Turned w.heap.size (sb :: buf.ownBlock.toList) w w' := by
  obtain ⟨⟨ad, hblk, had⟩, hown⟩ := h
  have C := copyCheck_ok sb bp ad buf wide w hblk had
  obtain ⟨i0, hi, hz0, hz1, hz2⟩ := info_parts i5
  have U104 := u104
  have U9 : Tryz.prog.underlying 9 = some .string := by kernel_rfl
  have hsl := hblk.lt
  clear hblk
  go_enter Tryz.func84, Tryz.ntmps84
  go_wp2_with fail
  refine C.mono ?_
  rintro e w1 ⟨rfl, k1, t1, z1⟩
  have z1b : w.heap.size ≤ w1.heap.size := by omega
  have z1c : w1.heap.size ≤ w.heap.size := by omega
  clear z1
  have own1 := own_turned hown t1 (fun g hg hm => by simp at hm; exact hne (by rw [hg, hm]))
  have c2 : w1.cell? ⟨sb, 2, none⟩ = some buf := k1.cell 2
  have f2 := k1.frozen 2
  have hbe : some sb ≠ buf.ownBlock := fun e => hne e.symm
  clear C hown
  go_wp2_with (at_builtin; refine wpList_append_str3 _ rfl (.tmp 12) (.tmp 13) 104 9 rfl B 5 i0 U104 U9 hi hz0 hz1 hz2 buf s.size (Lib.strCells s) rfl own1 x rfl (by unfold maxLen; omega) (by omega) (by omega) ?_; intro v' w2 ho2 hg2 hw2; obtain ⟨ad2, cap2, rfl⟩ := own_slice ho2; have k2 := k1.grown hg2 hbe; have d2 : w2.cell? ⟨sb, 2, none⟩ = some buf := k2.cell 2; have g2 := k2.frozen 2)
  go_ret2
  have hbx : (Value.slice ad2 (s.size + x.size) cap2).ownBlock ≠ some sb := by
    intro e
    rcases hw2 with h6 | h6
    · rw [h6] at e; exact hne e
    · have := h6 sb e; omega
  refine ⟨rfl, _, ⟨⟨.pointer (some ⟨sb, 1, none⟩), by simpa using k2.store 2 (.slice ad2 (s.size + x.size) cap2), Or.inr rfl⟩, ?_⟩, ?_, ?_⟩
  · have h5 := own_turned ho2 ((Turned.refl w2.heap.size [sb] w2).setCell (p := ⟨sb, 2, none⟩) (Or.inr (by simp)) (.slice ad2 (s.size + x.size) cap2)) (fun g hg hm => by simp at hm; exact hbx (by rw [hg, hm]))
    rw [strCells_append, ByteArray.size_append]
    exact h5
  · rcases hw2 with h6 | h6
    · exact Or.inl h6
    · exact Or.inr fun g hg => by have := h6 g hg; omega
  · have h7 : Turned w.heap.size (sb :: buf.ownBlock.toList) w w2 := (t1.mono (S' := sb :: buf.ownBlock.toList) (Nat.le_refl _) (fun k hk _ => by simp at hk; simp [hk])).grown hg2 (by omega) (fun k hk => Or.inr (by simp [hk]))
    exact h7.setCell (p := ⟨sb, 2, none⟩) (Or.inr (by simp)) _
set_option maxRecDepth 1000000 in
set_option maxHeartbeats 2000000 in
/-- put: words behind what there is. -/
theorem put_ok (B sb : Nat) (bp buf : Value) (wide : Int) (s x : ByteArray) (w : World) (h : ShO B sb w bp wide s buf) (hB : B ≤ w.heap.size) (hs : s.size + x.size ≤ 1000000000) (hne : buf.ownBlock ≠ some sb) (hw0 : 0 ≤ wide) (hw1 : wide ≤ 4000000000) :
    Calls Tryz.prog 106 #[.pointer (some ⟨sb, 0, none⟩), .string x] w fun e w' => e = .returned (.tuple #[]) ∧ ∃ buf' wide', ShO B sb w' bp wide' (s ++ x) buf' ∧ buf'.ownBlock ≠ some sb ∧ 0 ≤ wide' ∧ wide' ≤ wide + x.size ∧ (buf'.ownBlock = buf.ownBlock ∨ ∀ g, buf'.ownBlock = some g → w.heap.size ≤ g) ∧ Turned w.heap.size (sb :: buf.ownBlock.toList) w w' := by
  have C := WriteString_ok B sb bp buf wide s x w h hB hs hne
  have hsb : sb < w.heap.size := by obtain ⟨⟨ad, h1, _⟩, _⟩ := h; exact h1.lt
  clear h
  go_enter Tryz.func106, Tryz.ntmps106
  go_wp2_with fail
  refine C.mono ?_
  rintro e w1 ⟨rfl, buf', h1, ho1, t1⟩
  have z1 := t1.size
  have hbx : buf'.ownBlock ≠ some sb := by
    intro e
    rcases ho1 with h6 | h6
    · rw [h6] at e; exact hne e
    · have := h6 sb e; omega
  clear C
  have HO := Lib.hid ho1
  have HT1 := Lib.hid t1
  have HH1 := Lib.hid h1
  clear ho1 t1 h1
  go_wp2_with fail
  go_loopw [] (fun wr => ∃ pos c : Nat, c ≤ pos ∧ c ≤ x.size ∧ wr.heap[w1.heap.size]? = some (.stringIter x pos) ∧ ShO B sb wr bp (wide + c) (s ++ x) buf' ∧ Turned w1.heap.size [sb] w1 wr) (fun wr => x.size - wr.iterPos w1.heap.size)
  case atStart =>
    refine ⟨0, 0, Nat.le_refl _, Nat.zero_le _, World.iter_heap w1 x 0, ?_, (Turned.refl _ _ _).alloc (Nat.le_refl _) _⟩
    have h2 := HH1.out.turned (S := []) ((Turned.refl w1.heap.size [] w1).alloc (Nat.le_refl _) (.stringIter x 0)) (by simp) (by simp)
    have h3 : ShO B sb (w1.alloc (.stringIter x 0)) bp (wide + ((0 : Nat) : Int)) (s ++ x) buf' := by simpa using h2
    exact h3
  case round =>
    obtain ⟨pos, c, hc, hpx, hit, hsh, tr⟩ := hrel
    have hpos0 := iterPos_of' hit
    by_cases hp : pos < x.size
    · have hnx : ∀ ty, (Instr.next (.pointer (some ⟨w1.heap.size, 0, none⟩)) true ty).run Tryz.prog wr = _ := fun ty => Lib.run_next_any_at wr w1.heap.size x pos ty hit hp
      have hwd := width_pos' x pos hp
      have hdl := decode_le x pos
      have hit2 := Lib.iterAt_heap wr w1.heap.size x pos (pos + (Utf8.decode x pos).2) hit
      have tri : Turned wr.heap.size [w1.heap.size] wr (wr.iterAt w1.heap.size x (pos + (Utf8.decode x pos).2)) := ⟨rfl, rfl, rfl, by rw [Lib.iterAt_size]; exact Nat.le_refl _, fun k hk hn => Lib.iterAt_other wr w1.heap.size k x _ (fun e => hn (by simp [e]))⟩
      have trs := tr.size
      have hbl : ∀ g, buf'.ownBlock = some g → g < w1.heap.size := fun g hg => (HH1.out.own.lt g hg).2
      have tr2 : Turned w1.heap.size [sb] w1 (wr.iterAt w1.heap.size x (pos + (Utf8.decode x pos).2)) := tr.trans (tri.mono trs (fun k hk hlt => by simp at hk; omega))
      have hsh2 : ShO B sb (wr.iterAt w1.heap.size x (pos + (Utf8.decode x pos).2)) bp (wide + c) (s ++ x) buf' := hsh.turned tri (by simp; omega) (fun g hg hm => by simp at hm; have := hbl g hg; omega)
      obtain ⟨W1, hW1⟩ : ∃ W1, W1 = wr.iterAt w1.heap.size x (pos + (Utf8.decode x pos).2) := ⟨_, rfl⟩
      rw [← hW1] at hnx hit2 tr2 hsh2
      clear hW1 tri hit hsh tr
      generalize (Utf8.decode x pos).1 = cc at *
      generalize (Utf8.decode x pos).2 = wd at *
      obtain ⟨⟨ad, k1, had⟩, hown⟩ := hsh2
      have c3 : W1.cell? ⟨sb, 3, none⟩ = some (.int .i64 (wide + c)) := k1.cell 3
      have f3 := k1.frozen 3
      have hb1 : wide + c ≤ 5000000000 := by omega
      have hb0 : 0 ≤ wide + c := by omega
      have k2 : Blk (W1.setCell ⟨sb, 3, none⟩ (.int .i64 (wide + c + 1))) sb (shC bp ad buf' (wide + c + 1)) 131 := by simpa using k1.store 3 (.int .i64 (wide + c + 1))
      have hsbW : sb < W1.heap.size := k1.lt
      have own2 := own_turned hown ((Turned.refl W1.heap.size [sb] W1).setCell (p := ⟨sb, 3, none⟩) (Or.inr (by simp)) (.int .i64 (wide + c + 1))) (fun g hg hm => by simp at hm; exact hbx (by rw [hg, hm]))
      have tr3 : Turned w1.heap.size [sb] w1 (W1.setCell ⟨sb, 3, none⟩ (.int .i64 (wide + c + 1))) := tr2.setCell (p := ⟨sb, 3, none⟩) (Or.inr (by simp)) _
      have hit3 : (W1.setCell ⟨sb, 3, none⟩ (.int .i64 (wide + c + 1))).heap[w1.heap.size]? = some (.stringIter x (pos + wd)) := (Below.heap_setCell W1 ⟨sb, 3, none⟩ _ w1.heap.size (by show w1.heap.size ≠ sb; omega)).trans hit2
      have HK := Lib.hid (And.intro k2 (And.intro own2 (And.intro tr3 hit3)))
      clear k2 own2 tr3 hit3 k1 hown tr2 hit2
      go_wp2_with fail
      go_roundw
      case rel =>
        obtain ⟨k2, own2, tr3, hit3⟩ := HK.out
        refine ⟨pos + wd, c + 1, by omega, by omega, hit3, ⟨⟨ad, ?_, had⟩, own2⟩, tr3⟩
        have e : wide + ((c + 1 : Nat) : Int) = wide + c + 1 := by omega
        rw [e]
        exact k2
      case measure =>
        have := iterPos_of' HK.out.2.2.2
        omega
    · have hnx : ∀ ty, (Instr.next (.pointer (some ⟨w1.heap.size, 0, none⟩)) true ty).run Tryz.prog wr = _ := fun ty => Lib.run_next_end_at wr w1.heap.size x pos ty hit hp
      go_wp2_with fail
      go_end0
      refine ⟨rfl, buf', wide + c, hsh, hbx, by omega, by omega, HO.out, HT1.out.trans (tr.mono z1 (fun k hk _ => by simp at hk; simp [hk]))⟩
end Go.Proofs.YtihmlhjdlpjehaaGreatDoor
