/- The statement ReadNames returns true: its row, for every start at which the listed variables read as listed. -/
import Derived.Test.YtihmlhjdlpjehaaGreatDoorRows
import Derived.Test.YtihmlhjdlpjehaaGreatDoorL9
import Derived.ProofKit
import Derived.OpenShut
import Derived.LaidMore
import Derived.LaidSub
import Derived.Lay
import Derived.Lib.LaidTab
import Derived.Stop.Joined
namespace Go.Proofs.YtihmlhjdlpjehaaGreatDoor
open Go.ChangeShapes Go.WideShapes Go.ChangeAt Go.RowKit

theorem own_knob : ownKnob Tryz.prog.godebug = none := by kernel_rfl

/-- An interface variable that reads as a value of a named type holds a value. -/
theorem iface_of_trod {H : Type} {enc : TypeId × Value → H} {P : Program} {w : World} {base : Nat} {sp : Nat → Bool} {fuel : Nat} {t : TypeId} {cs : List Value} {name : String} {d : DataW H} {p : List MemPlace} {ms : Array (String × TypeId)}
    (hu : P.underlying t = some (.interface ms)) (h : DataW.trod enc P w base sp false fuel t cs = some (.iface name d, p)) : ∃ u v, cs = [.iface u v] := by
  cases fuel with
  | zero => simp [DataW.trod] at h
  | succ fuel =>
    match cs, h with
    | [], h => simp [DataW.trod, hu] at h
    | [v], h => cases v <;> simp [DataW.trod, hu] at h ⊢
    | _ :: _ :: _, h => simp [DataW.trod, hu] at h

/-- Of a list of variables that read as listed, one. -/
theorem laid_one {P : Program} {w : World} {l : List (String × DataW Unit)} (h : laidMetH P l w) (x : String × DataW Unit)
    (e : (l.filter fun y => y.1 == x.1) = [x]) (hp : x.2.handleName?.isNone = true) : laidMet P [x] w := by
  have h1 := h.filter (fun y => y.1 == x.1)
  rw [e, MakeChecks.laidMetH_plain _ _ _ (by simp [hp])] at h1
  exact h1

theorem g_syntax : Tryz.prog.globalNamed "strconv.ErrSyntax" = some 6 := by kernel_rfl
theorem t_syntax : (Tryz.prog.globals[6]?).map (·.type) = some 137 := by kernel_rfl
theorem u_syntax : ∃ ms, Tryz.prog.underlying 137 = some (.interface ms) := ⟨_, Tryz.underlying137⟩

/-- What the listed variables give the walk. -/
theorem glob_of_laid {W : World} (h : laidMetH Tryz.prog Rows.readNamesRow.laid W) (hs : 25 ≤ W.heap.size) : Glob W := by
  refine ⟨?_, ?_, hs⟩
  · have h1 := laid_one h ("strings.asciiSpace", Rows.laid_strings_asciiSpace) (by kernel_rfl) (by kernel_rfl)
    have e : (Rows.laid_strings_asciiSpace : DataW Unit) = Lib.tabData .u8 Lib.asciiSpaceTab := by kernel_rfl
    rw [e] at h1
    exact Lib.tabIs_of_head (show Tryz.prog.globalNamed "strings.asciiSpace" = some 0 by kernel_rfl) (show (Tryz.prog.globals[0]?).map (·.type) = some 177 by kernel_rfl) Tryz.underlying177 Tryz.underlying5 (by kernel_rfl) (by kernel_rfl) h1
  · have h1 := laid_one h ("strconv.ErrSyntax", Rows.laid_strconv_ErrSyntax) (by kernel_rfl) (by kernel_rfl)
    obtain ⟨ps, ⟨g, t, cs, fuel, p, q, hg, ht, hv, hd, _, _⟩, _, _⟩ := h1
    obtain rfl := Option.some.inj (g_syntax.symm.trans hg)
    obtain rfl := Option.some.inj (t_syntax.symm.trans ht)
    obtain ⟨ms, hu⟩ := u_syntax
    obtain ⟨u, v, hc⟩ := iface_of_trod hu hd
    refine ⟨u, v, ?_⟩
    rw [World.var?_cell hg hv 0, ← Array.getElem?_toList, hc]
    rfl

/-- A world of the program's shape holds the program's 25 variables. -/
theorem size_of_shaped {W : World} (h : W.ShapedOpen Tryz.prog) : 25 ≤ W.heap.size := by
  have e : ∃ zero t, (((begin Tryz.prog (fun _ _ => 0) default).world.heap[24]?).bind Obj.row?) = some (zero, t) := by
    have : ((((begin Tryz.prog (fun _ _ => 0) default).world.heap[24]?).bind Obj.row?).isSome) = true := by kernel_rfl
    obtain ⟨⟨z, t⟩, hz⟩ := Option.isSome_iff_exists.1 this
    exact ⟨z, t, hz⟩
  obtain ⟨z, t, hz⟩ := e
  have hg : 24 < Tryz.prog.globals.size := by
    have : Tryz.prog.globals.size = 25 := by kernel_rfl
    omega
  obtain ⟨cs, hc, _⟩ := h.1 24 z t hg hz
  have := (Array.getElem?_eq_some_iff.1 hc).1
  omega

/-- As the kit's builder, and the world's shape is handed on. -/
theorem handed_shaped {H : Type} {enc : TypeId × Value → H} {a : Assume} {C : Checked} {os : Os} {f : FuncId} {fn : Func} {s : ChangeSpec} {conds : List PathCond} {apart fresh handsOn again : Bool} {X : World → Array Value → Prop}
    (own : ownKnob C.prog.godebug = none) (started : os.Started) (noInit : C.prog.inits.idxOf? f = none)
    (witness : ∃ (w : World) (tape : Tape) (i : Input), w.os = os ∧ (w.forCall tape i).Shaped C.prog ∧ i.vars = [] ∧ Input.okWide C.prog (w.forCall tape i) .any w.heap.size f i ∧
      ((s.pre enc C.prog fn conds apart (w.forCall tape i).memory i.args ∧ X (w.forCall tape i).memory i.args) ∧ sizedMet enc C.prog fn (OpenSpec.ofChange s) apart (w.forCall tape i).memory i.args) ∧ a.holds C.prog (lone (Frame.enter C.prog f i.args .normal) [] (w.forCall tape i)))
    (contract : ∀ (W : World) (args : Array Value) (ds gs : List (DataW H)) (before : List MemPlace), W.ShapedOpen C.prog →
      DataW.Whole enc C.prog fn.params.toList s.vars apart W args.toList ds gs before → X W.memory args →
      Calls C.prog f args W fun e W' => ∃ v, e = .returned v ∧ s.post enc C.prog fn apart fresh handsOn again W args v W') :
    ReturnsInHanded a C os f .any (fun w args => (s.pre enc C.prog fn conds apart w args ∧ X w args) ∧ sizedMet enc C.prog fn (OpenSpec.ofChange s) apart w args) (s.post enc C.prog fn apart fresh handsOn again) := by
  refine returnsInHanded_of_calls own started noInit witness ?_
  intro w tape i _ hsh _ _ hpre _
  obtain ⟨⟨⟨ds, gs, before, hw, _⟩, hx⟩, _⟩ := hpre
  have hw' := DataW.Whole.of_heap (w' := w.forCall tape i) (by rfl) hw
  refine (contract (w.forCall tape i) i.args ds gs before hsh hw' hx).mono fun e W' ⟨v, he, hp⟩ => ?_
  subst he
  exact ChangeSpec.post_blind hp

set_option maxRecDepth 100000 in
theorem names_met (os : Os) : laidMetH Tryz.prog Rows.readNamesRow.laid ((World.laidAll Tryz.prog os Rows.readNamesRow.laid).forCall (fun _ _ => 0) ⟨#[], #[], []⟩).memory := by
  rw [MakeChecks.laidMetH_plain _ _ _ (by kernel_rfl)]
  exact laidMet_laidAll _ (by kernel_rfl) (by kernel_rfl)
set_option maxRecDepth 100000 in
theorem names_shaped (os : Os) : ((World.laidAll Tryz.prog os Rows.readNamesRow.laid).forCall (fun _ _ => 0) ⟨#[], #[], []⟩).Shaped Tryz.prog :=
  World.shaped_of_ZipB (by kernel_rfl) (by kernel_rfl)

set_option maxRecDepth 100000 in
theorem names_lifted (os : Os) (started : os.Started) (H : Type) (enc : TypeId × Value → H) :
    ReturnsInHanded {} Tryz.checked os 5 .any (fun w args => (Rows.readNamesSpec.pre enc Tryz.prog Tryz.f5 Rows.readNamesRow.domain false w args ∧ laidMetH Tryz.prog Rows.readNamesRow.laid w) ∧ sizedMet enc Tryz.prog Tryz.f5 (OpenSpec.ofChange Rows.readNamesSpec) false w args)
      (Rows.readNamesSpec.post enc Tryz.prog Tryz.f5 false true false false) := by
  refine handed_shaped (C := Tryz.checked) (X := fun w _ => laidMetH Tryz.prog Rows.readNamesRow.laid w) own_knob started (by kernel_rfl)
    (ChangeSpec.witness_shaped (enc := enc) (C := Tryz.checked) (os := os) (X := fun w _ => laidMetH Tryz.prog Rows.readNamesRow.laid w) false (World.laidAll Tryz.prog os Rows.readNamesRow.laid) #[] 8 (World.laidAll_os _ _ _)
      (names_shaped os) (by kernel_rfl) (by kernel_rfl) (by kernel_rfl) (names_met os)) ?_
  intro W args ds gs before hsh hW hL
  have hsh' : W.ShapedOpen Tryz.prog := hsh
  have hL' : laidMetH Tryz.prog Rows.readNamesRow.laid W := laidMetH.of_heap (by rfl) hL
  have hg := glob_of_laid hL' (size_of_shaped hsh')
  have hW' := hW
  obtain ⟨p, q, hA0, hV, rfl, _, _⟩ := hW
  have hA : DataW.TrodAll enc Tryz.prog W 0 (fun _ => true) true Tryz.f5.params.toList args.toList ds p := hA0
  rw [Tryz.params5] at hA
  obtain ⟨rfl, rfl, rfl⟩ := trodAll_none hA
  obtain ⟨rfl, rfl⟩ := trodVars_none hV
  simp only [List.append_nil] at hW'
  have e1 : Rows.readNamesSpec.fn H ([] ++ []) = { results := [.lit (.bool true)], args := [] } := rfl
  refine (ReadNames_ok W hg).mono fun e W' ⟨he, hb⟩ => ?_
  subst he
  refine ⟨_, rfl, _, _, _, [], [], [], hW', ?_, ?_, ?_, hb.frame _, fun h => by cases h⟩
  · rw [e1]; exact trodAll_mk1 (shut_bool Tryz.underlying4 true)
  · rw [e1]; exact trodAll_mk0
  · rw [e1]; rfl
end Go.Proofs.YtihmlhjdlpjehaaGreatDoor
