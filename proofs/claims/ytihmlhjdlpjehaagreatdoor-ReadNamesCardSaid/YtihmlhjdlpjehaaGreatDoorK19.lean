/- A row's block filled cell by cell. book.Make: what its last append leaves (to be joined with K20). -/
import Derived.Test.YtihmlhjdlpjehaaGreatDoorK17
import Derived.ArgAppend
set_option linter.unusedVariables false
set_option linter.unusedSimpArgs false
namespace Go.Proofs.YtihmlhjdlpjehaaGreatDoor
open Go.RowKit

/-- Some cells of a block stored one by one. -/
def stc (w : World) (b : Nat) (l : List (Nat × Value)) : World := l.foldl (fun w p => w.setCell ⟨b, p.1, none⟩ p.2) w
theorem stc_other {w : World} {b b' : Nat} {cs : Array Value} {T : TypeId} (h : Blk w b cs T) (hn : b ≠ b') (l : List (Nat × Value)) : Blk (stc w b' l) b cs T := by
  induction l generalizing w with
  | nil => exact h
  | cons p l ih => exact ih (h.other (p := ⟨b', p.1, none⟩) hn p.2)
theorem stc_turned (b : Nat) (l : List (Nat × Value)) : ∀ w : World, Turned w.heap.size [b] w (stc w b l) ∧ (stc w b l).heap.size = w.heap.size := by
  induction l with
  | nil => intro w; exact ⟨Turned.refl _ _ _, rfl⟩
  | cons p l ih =>
    intro w
    have h1 := (Turned.refl w.heap.size [b] w).setCell (p := ⟨b, p.1, none⟩) (Or.inr (by simp)) p.2
    have hs : (w.setCell ⟨b, p.1, none⟩ p.2).heap.size = w.heap.size := by simp [World.setCell]
    have h2 := ih (w.setCell ⟨b, p.1, none⟩ p.2)
    rw [hs] at h2
    exact ⟨h1.trans h2.1, h2.2⟩
theorem stc_blk {b : Nat} {T : TypeId} (l : List (Nat × Value)) : ∀ (w : World) (cs : Array Value), Blk w b cs T → Blk (stc w b l) b (l.foldl (fun c p => c.setIfInBounds p.1 p.2) cs) T := by
  induction l with
  | nil => intro w cs h; exact h
  | cons p l ih => intro w cs h; exact ih _ _ (h.store p.1 p.2)

theorem stc_16 {w : World} {b : Nat} {T : TypeId} {z0 z1 z2 z3 z4 z5 z6 z7 z8 z9 z10 z11 z12 z13 z14 z15 v0 v1 v2 v3 v4 v5 v6 v7 v8 v9 v10 v11 v12 v13 v14 v15 : Value} (h : Blk w b #[z0, z1, z2, z3, z4, z5, z6, z7, z8, z9, z10, z11, z12, z13, z14, z15] T) : Blk (stc w b [(0, v0), (1, v1), (2, v2), (3, v3), (4, v4), (5, v5), (6, v6), (7, v7), (8, v8), (9, v9), (10, v10), (11, v11), (12, v12), (13, v13), (14, v14), (15, v15)]) b #[v0, v1, v2, v3, v4, v5, v6, v7, v8, v9, v10, v11, v12, v13, v14, v15] T := by
  have := stc_blk [(0, v0), (1, v1), (2, v2), (3, v3), (4, v4), (5, v5), (6, v6), (7, v7), (8, v8), (9, v9), (10, v10), (11, v11), (12, v12), (13, v13), (14, v14), (15, v15)] w _ h
  have e : (([(0, v0), (1, v1), (2, v2), (3, v3), (4, v4), (5, v5), (6, v6), (7, v7), (8, v8), (9, v9), (10, v10), (11, v11), (12, v12), (13, v13), (14, v14), (15, v15)] : List (Nat × Value)).foldl (fun c p => c.setIfInBounds p.1 p.2) #[z0, z1, z2, z3, z4, z5, z6, z7, z8, z9, z10, z11, z12, z13, z14, z15]) = #[v0, v1, v2, v3, v4, v5, v6, v7, v8, v9, v10, v11, v12, v13, v14, v15] := by
    simp [List.foldl]
  rw [e] at this
  exact this
theorem row_built (s : Sp) (ni np : Nat) (w w1 w2 Wst : World) (a2 d2 : Option Addr) (c2 e2 : Nat) (hlt1 : w.heap.size < w1.heap.size) (hs2 : w1.heap.size + 1 ≤ w2.heap.size)
    (kn : Blk w2 w1.heap.size #[.nilIface, .int .u8 0, .bool false, .string { data := #[] }, .int .i16 0, .int .i8 0, .float .f64 0, .float .f64 0, .bool false, .int .u32 0, .slice none 0 0, .slice none 0 0, .int .i64 0, .int .i64 0, .int .i64 0, .int .i64 0] 139) (hW : Wst = stc w2 w1.heap.size [(0, .nilIface), (1, .int .u8 s.kind), (2, .bool s.nl), (3, .string s.text), (4, .int .i16 s.number), (5, .int .i8 s.small), (6, .float .f64 s.re), (7, .float .f64 s.im), (8, .bool s.flag), (9, .int .u32 s.mask), (10, .slice a2 ni c2), (11, .slice d2 np e2), (12, .int .i64 1), (13, .int .i64 1), (14, .int .i64 0), (15, .int .i64 s.text.size)]) (sp : Array Value) (kst : Blk Wst w.heap.size sp 79)
    (hr1 : RdS w2 a2 s.items) (hr2 : RdI w2 d2 s.parts) (l1 : NewA (w1.heap.size + 1) a2) (l2 : NewA (w1.heap.size + 1) d2) (hb : Below w.heap.size w w2) :
    ∃ (nb : Nat) (a b : Option Addr) (c d : Nat), Value.pointer (some ⟨w1.heap.size, 0, none⟩) = .pointer (some ⟨nb, 0, none⟩) ∧ w.heap.size < nb ∧ Blk Wst nb #[.nilIface, .int .u8 s.kind, .bool s.nl, .string s.text, .int .i16 s.number, .int .i8 s.small, .float .f64 s.re, .float .f64 s.im, .bool s.flag, .int .u32 s.mask, .slice a ni c, .slice b np d, .int .i64 1, .int .i64 1, .int .i64 0, .int .i64 s.text.size] 139 ∧ Blk Wst w.heap.size sp 79 ∧ RdS Wst a s.items ∧ RdI Wst b s.parts ∧ NewA (w.heap.size + 1) a ∧ NewA (w.heap.size + 1) b ∧ (s.items ≠ [] → ∀ x, a = some x → x.block ≠ nb) ∧ (s.parts ≠ [] → ∀ x, b = some x → x.block ≠ nb) ∧ Below w.heap.size w Wst := by
  have kr := stc_16 (v0 := .nilIface) kn (v1 := .int .u8 s.kind) (v2 := .bool s.nl) (v3 := .string s.text) (v4 := .int .i16 s.number) (v5 := .int .i8 s.small) (v6 := .float .f64 s.re) (v7 := .float .f64 s.im) (v8 := .bool s.flag) (v9 := .int .u32 s.mask) (v10 := .slice a2 ni c2) (v11 := .slice d2 np e2) (v12 := .int .i64 1) (v13 := .int .i64 1) (v14 := .int .i64 0) (v15 := .int .i64 s.text.size)
  have tr := stc_turned w1.heap.size [(0, .nilIface), (1, .int .u8 s.kind), (2, .bool s.nl), (3, .string s.text), (4, .int .i16 s.number), (5, .int .i8 s.small), (6, .float .f64 s.re), (7, .float .f64 s.im), (8, .bool s.flag), (9, .int .u32 s.mask), (10, .slice a2 ni c2), (11, .slice d2 np e2), (12, .int .i64 1), (13, .int .i64 1), (14, .int .i64 0), (15, .int .i64 s.text.size)] w2
  rw [← hW] at kr tr
  exact ⟨w1.heap.size, a2, d2, c2, e2, rfl, hlt1, kr, kst, hr1.turned tr.1 (fun x hx => by have := l1 x hx; simp; omega), hr2.turned tr.1 (fun x hx => by have := l2 x hx; simp; omega), fun x hx => by have := l1 x hx; omega, fun x hx => by have := l2 x hx; omega,
    fun _ x hx => by have := l1 x hx; omega, fun _ x hx => by have := l2 x hx; omega, hb.trans ((tr.1.mono (B' := w.heap.size) (S' := []) (by omega) (fun k hk hlt => by simp at hk; omega)).below (by simp))⟩

set_option maxHeartbeats 2000000 in
theorem mk_step {w2 wr W6 : World} {nb eb lb m np : Nat} {xs ys : List Value} {pe pl A B C v0 v1 v2 v3 v4 v5 v6 v7 v8 v9 v10 v11 v12 v13 v14 v15 : Value} (k2 : Blk w2 nb #[v0, v1, v2, v3, v4, v5, v6, v7, v8, v9, v10, v11, v12, v13, v14, v15] 139)
    (oe : w2.ownsRow (nb + 1) 137 1 (.slice (some ⟨eb, 0, none⟩) np np) np xs) (ol : w2.ownsRow (nb + 1) 3 1 (.slice (some ⟨lb, 0, none⟩) np np) np ys)
    (h1 : nb ≠ eb) (h2 : nb ≠ lb) (h3 : eb ≠ lb) (tr : Turned W6.heap.size [nb, eb, lb] W6 wr) (hs : W6.heap.size ≤ wr.heap.size) (hb : Below wr.heap.size wr w2) :
    ∃ Wf, Wf = (((((w2.setCell ⟨eb, m, none⟩ pe).setCell ⟨lb, m, none⟩ pl).setCell ⟨nb, 12, none⟩ A).setCell ⟨nb, 15, none⟩ B).setCell ⟨nb, 13, none⟩ C).drew.drew.drew.drew ∧ Blk Wf nb #[v0, v1, v2, v3, v4, v5, v6, v7, v8, v9, v10, v11, A, C, v14, B] 139 ∧
      Wf.ownsRow (nb + 1) 137 1 (.slice (some ⟨eb, 0, none⟩) np np) np (xs.set m pe) ∧ Wf.ownsRow (nb + 1) 3 1 (.slice (some ⟨lb, 0, none⟩) np np) np (ys.set m pl) ∧ Turned W6.heap.size [nb, eb, lb] W6 Wf := by
  refine ⟨_, rfl, ?_, ?_, ?_, ?_⟩
  · have k3 := (k2.other (p := ⟨eb, m, none⟩) h1 pe).other (p := ⟨lb, m, none⟩) h2 pl
    have k4 := ((k3.store 12 A).store 15 B).store 13 C
    have e : (((#[v0, v1, v2, v3, v4, v5, v6, v7, v8, v9, v10, v11, v12, v13, v14, v15] : Array Value).setIfInBounds 12 A).setIfInBounds 15 B).setIfInBounds 13 C = #[v0, v1, v2, v3, v4, v5, v6, v7, v8, v9, v10, v11, A, C, v14, B] := by simp
    rw [e] at k4
    exact k4.drew.drew.drew.drew
  · have o1 := (oe.stored m pe).1
    have t : Turned (w2.setCell ⟨eb, m, none⟩ pe).heap.size [lb, nb] (w2.setCell ⟨eb, m, none⟩ pe) (((((w2.setCell ⟨eb, m, none⟩ pe).setCell ⟨lb, m, none⟩ pl).setCell ⟨nb, 12, none⟩ A).setCell ⟨nb, 15, none⟩ B).setCell ⟨nb, 13, none⟩ C).drew.drew.drew.drew :=
      ((((((((Turned.refl _ _ _).setCell (p := ⟨lb, m, none⟩) (Or.inr (by simp)) _).setCell (p := ⟨nb, 12, none⟩) (Or.inr (by simp)) _).setCell (p := ⟨nb, 15, none⟩) (Or.inr (by simp)) _).setCell (p := ⟨nb, 13, none⟩) (Or.inr (by simp)) _).drew).drew).drew).drew
    exact own_turned o1 t (fun g hg => by simp [Value.ownBlock] at hg; subst hg; simp; omega)
  · have t0 : Turned w2.heap.size [eb] w2 (w2.setCell ⟨eb, m, none⟩ pe) := (Turned.refl _ _ _).setCell (p := ⟨eb, m, none⟩) (Or.inr (by simp)) _
    have o0 := own_turned ol t0 (fun g hg => by simp [Value.ownBlock] at hg; subst hg; simp; omega)
    have o1 := (o0.stored m pl).1
    have t : Turned ((w2.setCell ⟨eb, m, none⟩ pe).setCell ⟨lb, m, none⟩ pl).heap.size [nb] ((w2.setCell ⟨eb, m, none⟩ pe).setCell ⟨lb, m, none⟩ pl) (((((w2.setCell ⟨eb, m, none⟩ pe).setCell ⟨lb, m, none⟩ pl).setCell ⟨nb, 12, none⟩ A).setCell ⟨nb, 15, none⟩ B).setCell ⟨nb, 13, none⟩ C).drew.drew.drew.drew :=
      (((((((Turned.refl _ _ _).setCell (p := ⟨nb, 12, none⟩) (Or.inr (by simp)) _).setCell (p := ⟨nb, 15, none⟩) (Or.inr (by simp)) _).setCell (p := ⟨nb, 13, none⟩) (Or.inr (by simp)) _).drew).drew).drew).drew
    exact own_turned o1 t (fun g hg => by simp [Value.ownBlock] at hg; subst hg; simp; omega)
  · have t2 := tr.trans (Turned.of_below (S := [nb, eb, lb]) (hb.mono hs))
    exact (((((((((t2.setCell (p := ⟨eb, m, none⟩) (Or.inr (by simp)) _).setCell (p := ⟨lb, m, none⟩) (Or.inr (by simp)) _).setCell (p := ⟨nb, 12, none⟩) (Or.inr (by simp)) _).setCell (p := ⟨nb, 15, none⟩) (Or.inr (by simp)) _).setCell (p := ⟨nb, 13, none⟩) (Or.inr (by simp)) _)).drew).drew).drew).drew

theorem own_base {w : World} {B B' e size n : Nat} {v : Value} {xs : List Value} (h : w.ownsRow B e size v n xs) (hB : B' ≤ B) : w.ownsRow B' e size v n xs := by
  refine ⟨h.1, ?_⟩
  rcases h.2 with h2 | ⟨g, cap, cur, a, b, c⟩
  · exact .inl h2
  · exact .inr ⟨g, cap, cur, a, Nat.le_trans hB b, c⟩
theorem run_append_own3 {P : Program} (w : World) (base : Nat) (t ty e : TypeId) (i : TypeInfo) (z : Value) (size bytes : Nat) (h1 : P.underlying t = some (.slice e)) (h2 : P.info? e = some i) (h3 : i.zero = some z) (h4 : i.size = size) (h5 : i.bytes = bytes) (h6 : z.cells.size = size) (h7 : 0 < size)
    (v : Value) (n : Nat) (xs : List Value) (hown : w.ownsRow base e size v n xs)
    (ad : Addr) (m c : Nat) (news : List Value) (hn : news.length = m * size) (hc : ∀ j u, news[j]? = some u → w.cell? (ad.add j) = some u) (h1c : ∀ u ∈ news, u.oneCell' = true)
    (b1 : n + m ≤ maxLen) (b2 : (n + m) * bytes ≤ 140737488355328) (hbase : base ≤ w.heap.size) :
    ∃ v' w', (Builtin.append_ #[t, t] ty #[v, .slice (some ad) m c]).run P w = .ok v' w' ∧ w'.ownsRow base e size v' (n + m) (xs ++ news) ∧ w.grownBy w' v.ownBlock ∧ (v'.ownBlock = v.ownBlock ∨ ∀ g, v'.ownBlock = some g → w.heap.size ≤ g) := by
  have hown0 := hown
  rcases hown.2 with ⟨rfl, rfl⟩ | ⟨g, cap, cur, rfl, hb, hg, hnc, hcm, hcs, htake⟩
  · have hx : xs = [] := List.eq_nil_of_length_eq_zero (by simpa using hown.1)
    subst hx
    obtain ⟨v', w', hrun, r1, r2, _⟩ := run_append_own (P := P) w w.heap.size t ty e i z size bytes h1 h2 h3 h4 h5 h6 h7 (.slice none 0 0) 0 [] (World.ownsRow_nil w _ e size) ad m c news hn hc h1c b1 b2 (Nat.le_refl _)
    exact ⟨v', w', hrun, own_base r1 hbase, r2, Or.inr fun g hg => (r1.lt g hg).1⟩
  · by_cases hroom : n + m ≤ cap
    · obtain ⟨w', hrun, r1, r2⟩ := run_append_fits (P := P) w base t ty e i size h1 h2 h4 g n cap xs hown0 ad m c news hn hc h1c hroom
      exact ⟨_, w', hrun, r1, r2, Or.inl rfl⟩
    · obtain ⟨v', w', hrun, r1, r2⟩ := run_append_arg_grows (P := P) w t ty e i z size bytes h1 h2 h3 h4 h5 h6 h7 ⟨g, 0, none⟩ n cap xs hown.1 (hown0.cells rfl) ad m c news hn hc (by omega) b1 b2
      exact ⟨v', w', hrun, own_base r1 hbase, ⟨r2.os, r2.tape, r2.output, r2.size, fun k hk _ => r2.block k hk (by simp)⟩, Or.inr fun g hg => (r1.lt g hg).1⟩
theorem step_append_own {P : Program} {ops : Array Oper} {o : Oper} {a : Act} {w : World} {K : Act → World → Prop} {Q : Exit → Act → World → Prop} {E : Prop}
    (hg : o.guard = none) (s x : Operand) (t : TypeId) (hop : o.op = Op.call { callee := Callee.builtin Builtin.append, args := #[s, x], argTypes := #[t, t] })
    (base : Nat) (e : TypeId) (i : TypeInfo) (z : Value) (size bytes : Nat) (h1 : P.underlying t = some (.slice e)) (h2 : P.info? e = some i) (h3 : i.zero = some z) (h4 : i.size = size) (h5 : i.bytes = bytes) (h6 : z.cells.size = size) (h7 : 0 < size)
    (v : Value) (n : Nat) (xs : List Value) (hs : a.eval s = v) (hown : w.ownsRow base e size v n xs)
    (ad : Addr) (m c : Nat) (news : List Value) (hx : a.eval x = .slice (some ad) m c) (hn : news.length = m * size) (hc : ∀ j u, news[j]? = some u → w.cell? (ad.add j) = some u) (h1c : ∀ u ∈ news, u.oneCell' = true)
    (b1 : n + m ≤ maxLen) (b2 : (n + m) * bytes ≤ 140737488355328) (hbase : base ≤ w.heap.size)
    (hK : ∀ v' w', w'.ownsRow base e size v' (n + m) (xs ++ news) → w.grownBy w' v.ownBlock → (v'.ownBlock = v.ownBlock ∨ ∀ g, v'.ownBlock = some g → w.heap.size ≤ g) → K (a.put o.dst v') w') :
    if Region.wanted o (yielded ops a.tmps) = true then Oper.wp P o a w K Q else E := by
  have hw : Region.wanted o (yielded ops a.tmps) = true := by simp [Region.wanted, hg]
  rw [if_pos hw]
  obtain ⟨v', w', hrun, r1, r2, r3⟩ := run_append_own3 (P := P) w base t o.type e i z size bytes h1 h2 h3 h4 h5 h6 h7 v n xs hown ad m c news hn hc h1c b1 b2 hbase
  unfold Oper.wp
  simp [execOp, hop, resolve, invoke, builtin, hs, hx, hrun, Result.andThen]
  exact hK v' w' r1 r2 r3
theorem own_form {w : World} {base n size : Nat} {e : TypeId} {v : Value} {xs : List Value} (h : w.ownsRow base e size v (n + 1) xs) : ∃ g cap, v = .slice (some ⟨g, 0, none⟩) (n + 1) cap := by
  rcases h.2 with ⟨_, h0⟩ | ⟨g, cap, cur, e, _⟩
  · omega
  · exact ⟨g, cap, e⟩
theorem new_row (w : World) (cs : Array Value) (T : TypeId) : ∀ j u, cs.toList[j]? = some u → (w.alloc (.cells cs T)).cell? ((⟨w.heap.size, 0, none⟩ : Addr).add j) = some u := by
  intro j u hj
  have hadd : (⟨w.heap.size, 0, none⟩ : Addr).add j = ⟨w.heap.size, j, none⟩ := by unfold Addr.add; split <;> simp_all
  rw [hadd, Blk.cell (Blk.new w cs T) j]
  simpa using hj
theorem i139b : (Tryz.prog.info? 139).map (fun i => (i.size, i.bytes)) = some (16, 152) := by kernel_rfl
theorem su81 : Tryz.prog.underlying 81 = some (.slice 139) := by kernel_rfl
theorem z139 : ((Tryz.prog.info? 139).bind (·.zero)).map (fun z => z.cells.size) = some 16 := by kernel_rfl
theorem info139 : ∃ i z, Tryz.prog.info? 139 = some i ∧ i.zero = some z ∧ i.size = 16 ∧ i.bytes = 152 ∧ z.cells.size = 16 := by
  have h1 := i139b
  have h2 := z139
  cases hi : Tryz.prog.info? 139 with
  | none => rw [hi] at h1; cases h1
  | some i =>
    rw [hi] at h1 h2
    simp only [Option.map_some, Option.some.injEq, Prod.mk.injEq, Option.bind_some] at h1 h2
    cases hz : i.zero with
    | none => rw [hz] at h2; cases h2
    | some z =>
      rw [hz] at h2
      simp only [Option.map_some, Option.some.injEq] at h2
      exact ⟨i, z, rfl, hz, h1.1, h1.2, h2⟩
end Go.Proofs.YtihmlhjdlpjehaaGreatDoor
namespace Go.Proofs.YtihmlhjdlpjehaaGreatDoor
open Go.RowKit

theorem rcells_snoc (rows : List Rw) (r : Rw) : rcells (rows ++ [r]) = rcells rows ++ r.arr.toList := by simp [rcells]
set_option maxHeartbeats 2000000 in
theorem book_post {s : Sp} {rows : List Rw} {r : Rw} {bb nb g cap : Nat} {V : Value} {w w10 W11 w' : World} {o : Obj} {a b : Option Addr}
    (hB : BookV W11 bb V rows) (hVl : ∀ k, V.ownBlock = some k → k < w.heap.size) (hbb : bb < w.heap.size) (hnb : w.heap.size < nb)
    (hown : w'.ownsRow 25 139 16 (.slice (some ⟨g, 0, none⟩) (rows.length + 1) cap) (rows.length + 1) (rcells rows ++ r.arr.toList))
    (hgr : (W11.alloc o).drew.grownBy w' V.ownBlock) (hwh : (Value.slice (some ⟨g, 0, none⟩) (rows.length + 1) cap).ownBlock = V.ownBlock ∨ ∀ k, (Value.slice (some ⟨g, 0, none⟩) (rows.length + 1) cap).ownBlock = some k → (W11.alloc o).drew.heap.size ≤ k)
    (h10 : w.heap.size ≤ w10.heap.size) (t11 : Turned w10.heap.size [nb] w10 W11) (hbw : Below w.heap.size w W11)
    (s1 : RdS w10 a s.items) (s2 : RdI w10 b s.parts) (n1 : NewA (w.heap.size + 1) a) (n2 : NewA (w.heap.size + 1) b) (e1 : s.items ≠ [] → ∀ x, a = some x → x.block ≠ nb) (e2 : s.parts ≠ [] → ∀ x, b = some x → x.block ≠ nb) :
    BookV (w'.setCell ⟨bb, 0, none⟩ (.slice (some ⟨g, 0, none⟩) (rows.length + 1) cap)) bb (.slice (some ⟨g, 0, none⟩) (rows.length + 1) cap) (rows ++ [r]) ∧
      RdS (w'.setCell ⟨bb, 0, none⟩ (.slice (some ⟨g, 0, none⟩) (rows.length + 1) cap)) a s.items ∧ RdI (w'.setCell ⟨bb, 0, none⟩ (.slice (some ⟨g, 0, none⟩) (rows.length + 1) cap)) b s.parts ∧ NewA w.heap.size a ∧ NewA w.heap.size b ∧
      (s.items ≠ [] → ∀ x k, a = some x → (Value.slice (some ⟨g, 0, none⟩) (rows.length + 1) cap).ownBlock = some k → x.block ≠ k) ∧ (s.parts ≠ [] → ∀ x k, b = some x → (Value.slice (some ⟨g, 0, none⟩) (rows.length + 1) cap).ownBlock = some k → x.block ≠ k) ∧
      ((Value.slice (some ⟨g, 0, none⟩) (rows.length + 1) cap).ownBlock = V.ownBlock ∨ ∀ k, (Value.slice (some ⟨g, 0, none⟩) (rows.length + 1) cap).ownBlock = some k → w.heap.size ≤ k) ∧
      Turned w.heap.size (bb :: V.ownBlock.toList) w (w'.setCell ⟨bb, 0, none⟩ (.slice (some ⟨g, 0, none⟩) (rows.length + 1) cap)) := by
  have z11 := t11.size
  have zX : (W11.alloc o).drew.heap.size = W11.heap.size + 1 := by show (W11.alloc o).heap.size = _; simp
  have kb : Blk w' bb #[V] 83 := Blk.grown (w := (W11.alloc o).drew) (hB.1.alloc o) hgr (fun h => hB.2.2 h.symm)
  have hgb : g ≠ bb := by
    intro e
    subst e
    rcases hown.2 with ⟨h, _⟩ | ⟨g', cap', cur, h, _, hg, _⟩
    · cases h
    · cases h
      have hk : w'.heap[g]? = some (.cells #[V] 83 (0, 0)) := kb
      rw [hk] at hg
      cases hg
  have tb : Turned w'.heap.size [bb] w' (w'.setCell ⟨bb, 0, none⟩ (.slice (some ⟨g, 0, none⟩) (rows.length + 1) cap)) := (Turned.refl _ _ _).setCell (p := ⟨bb, 0, none⟩) (Or.inr (by simp)) _
  have tX : Turned w10.heap.size (nb :: bb :: V.ownBlock.toList) w10 w' := by
    have h1 : Turned w10.heap.size (nb :: bb :: V.ownBlock.toList) w10 (W11.alloc o).drew := ((t11.mono (Nat.le_refl _) (fun k hk _ => by simp at hk; simp [hk])).alloc (by omega) o).drew
    exact h1.grown hgr (by omega) (fun k hk => Or.inr (by simp [hk]))
  have tF : Turned w10.heap.size (nb :: bb :: V.ownBlock.toList) w10 (w'.setCell ⟨bb, 0, none⟩ (.slice (some ⟨g, 0, none⟩) (rows.length + 1) cap)) := tX.setCell (p := ⟨bb, 0, none⟩) (Or.inr (by simp)) _
  have far : ∀ {c : Option Addr}, NewA (w.heap.size + 1) c → ∀ x, c = some x → x.block ≠ nb → x.block ∉ nb :: bb :: V.ownBlock.toList := by
    intro c hc x hx hxn hm
    have h1 := hc x hx
    simp only [List.mem_cons, Option.mem_toList] at hm
    rcases hm with h | h | h
    · exact hxn h
    · omega
    · have := hVl _ h; omega
  refine ⟨⟨by simpa using kb.store 0 _, ?_, by simp [Value.ownBlock]; exact hgb⟩, ?_, ?_, fun x hx => by have := n1 x hx; omega, fun x hx => by have := n2 x hx; omega, ?_, ?_, ?_, ?_⟩
  · rw [rcells_snoc]
    have := own_turned hown tb (fun k hk => by simp [Value.ownBlock] at hk; subst hk; simpa using hgb)
    simpa using this
  · exact s1.turn tF (fun e x hx => far n1 x hx (e1 e x hx))
  · exact s2.turn tF (fun e x hx => far n2 x hx (e2 e x hx))
  · intro e x k hx hk
    have h1 := n1 x hx
    have h2 := s1.lt e x hx
    rcases hwh with h | h
    · rw [h] at hk; have := hVl k hk; omega
    · have := h k hk; omega
  · intro e x k hx hk
    have h1 := n2 x hx
    have h2 := s2.lt e x hx
    rcases hwh with h | h
    · rw [h] at hk; have := hVl k hk; omega
    · have := h k hk; omega
  · rcases hwh with h | h
    · exact Or.inl h
    · exact Or.inr fun k hk => by have := h k hk; have := hbw.size; omega
  · have h1 : Turned w.heap.size (bb :: V.ownBlock.toList) w (W11.alloc o).drew := ((Turned.of_below hbw).alloc (by have := hbw.size; omega) o).drew
    have h2 := h1.grown hgr (by have := hbw.size; omega) (fun k hk => Or.inr (by simp [hk]))
    exact h2.setCell (p := ⟨bb, 0, none⟩) (Or.inr (by simp)) _
end Go.Proofs.YtihmlhjdlpjehaaGreatDoor
