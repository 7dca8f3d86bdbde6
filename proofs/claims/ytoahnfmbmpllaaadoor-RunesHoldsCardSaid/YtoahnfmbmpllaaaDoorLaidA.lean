/-
  Runes: from the rows' listed variables to what the walks ask; and the cards' last facts.
-/
import Derived.Test.YtoahnfmbmpllaaaDoorWalkL
import Derived.Test.YtoahnfmbmpllaaaDoorTie
import Derived.Test.YtoahnfmbmpllaaaDoorCards
import Derived.ProofKit
import Derived.LaidMore
import Derived.Lay
import Derived.OpenShut
import Derived.Carry
import Derived.Deep.Slices
import Derived.SliceStrings
import Derived.SevenTiedAt
import Derived.Lib.LaidU8T
import Derived.PinnedBridge
import Derived.Shelf.Vars
set_option linter.unusedVariables false
set_option linter.unusedSimpArgs false
namespace Go.Proofs.YtoahnfmbmpllaaaDoor
open Go.ChangeShapes Go.WideShapes Go.ChangeAt Go.RowKit Go.Zn Go.Deep

theorem own : ownKnob Tryd.prog.godebug = none := by kernel_rfl
theorem laidOut : laidOutB Tryd.prog = true := by kernel_rfl
theorem cells83 : Tryd.prog.cellsOf 83 = 2 := by kernel_rfl
theorem cells21 : Tryd.prog.cellsOf 21 = 1 := by kernel_rfl
theorem cells9 : Tryd.prog.cellsOf 9 = 1 := by kernel_rfl
def spanD (p : Nat × Nat) : DataW Unit := .agg ([(p.1 : Int), (p.2 : Int)].map fun z => .lit (.int .i32 z))
theorem spans_of {w : World} {n : String} {g : Nat} {L : List (Nat × Nat)} (hg : Tryd.prog.globalNamed n = some g) (hty : (Tryd.prog.globals[g]?).map (·.type) = some 57) (hL : L ≠ []) (h : Lib.VarReads Tryd.prog w n (.slice (L.map spanD) [])) :
    ∃ b off cap, w.cell? ⟨g, 0, none⟩ = some (.slice (some ⟨b, off, none⟩) L.length cap) ∧ L.length ≤ cap ∧ Spans w b off L := by
  obtain ⟨g', t, cs, fuel, p, hg', hty', hvar, hd⟩ := h
  obtain rfl := Option.some.inj (hg.symm.trans hg')
  obtain rfl := Option.some.inj (hty.symm.trans hty')
  have hc0 := World.var?_cell hg hvar 0
  rcases open_slice Tryd.underlying57 hd with ⟨hcs, hx⟩ | ⟨a, len, cap, m, k, D, Pl, hcs, hb, hl, hm, hmm, hx, hi⟩
  · cases hx
  have hx1 := congrArg Prod.fst hx
  injection hx1 with e1 e2
  have hlen : L.length = len := by
    have := congrArg List.length e1
    simpa using this
  have hmc : m = cap := by simpa using hmm
  subst hmc
  have hD : ∀ i q, L[i]? = some q → D i = spanD q := fun i q hq => by
    have h1 := congrArg (·[i]?) e1
    have hil : i < len := by rw [← hlen]; exact (List.getElem?_eq_some_iff.1 hq).1
    simp only [List.getElem?_map, hq, List.getElem?_range hil, Option.map_some, Option.some.injEq] at h1
    exact h1.symm
  have hc1 : w.cell? ⟨g, 0, none⟩ = some (.slice (some a) len m) := by
    rw [hc0, ← Array.getElem?_toList, hcs]
    rfl
  obtain ⟨b, off, sp⟩ := a
  have hlp : 0 < L.length := List.length_pos_iff.mpr hL
  have hsp : sp = none := by
    obtain ⟨cs', hc', ht'⟩ := hi 0 (by omega)
    rw [cells83] at hc'
    obtain ⟨_, hl3, hat⟩ := World.cells?_some hc'
    have h1 := hat 0 (by omega)
    rw [List.getElem?_eq_getElem (show 0 < cs'.length by omega)] at h1
    have := World.cell?_spot h1
    simpa [Addr.add] using this
  subst hsp
  refine ⟨b, off, m, by rw [hlen]; exact hc1, by omega, fun i q hq => ?_⟩
  have hil : i < len := by rw [← hlen]; exact (List.getElem?_eq_some_iff.1 hq).1
  obtain ⟨cs', hc', ht'⟩ := hi i (by omega)
  rw [hD i q hq] at ht'
  have hcs' := Lib.ints_of_struct Tryd.underlying83 (fun j f hj => by
    match j, hj with
    | 0, hj => simp at hj; subst hj; exact ⟨Tryd.underlying21, rfl, cells21⟩
    | 1, hj => simp at hj; subst hj; exact ⟨Tryd.underlying21, rfl, cells21⟩
    | j + 2, hj => simp at hj) (by rw [cells83]; rfl) ht'
  rw [cells83] at hc'
  obtain ⟨_, _, hat⟩ := World.cells?_some hc'
  have a0 := hat 0 (by omega)
  have a1 := hat 1 (by omega)
  rw [hcs'] at a0 a1
  simp only [Addr.add_lit] at a0 a1
  exact ⟨a0, a1⟩
theorem strs_of {w : World} {n : String} {g : Nat} {L : List (List UInt8)} (hg : Tryd.prog.globalNamed n = some g) (hty : (Tryd.prog.globals[g]?).map (·.type) = some 58) (hL : L ≠ []) (h : Lib.VarReads Tryd.prog w n (.slice (L.map fun l => .lit (.string l)) [])) :
    ∃ b off cap, w.cell? ⟨g, 0, none⟩ = some (.slice (some ⟨b, off, none⟩) L.length cap) ∧ ∀ (i : Nat) (l : List UInt8), L[i]? = some l → w.cell? ⟨b, off + i, none⟩ = some (.string (strOf l)) := by
  obtain ⟨g', t, cs, fuel, p, hg', hty', hvar, hd⟩ := h
  obtain rfl := Option.some.inj (hg.symm.trans hg')
  obtain rfl := Option.some.inj (hty.symm.trans hty')
  have hc0 := World.var?_cell hg hvar 0
  rcases open_slice1 Tryd.underlying58 cells9 hd with ⟨hcs, hx⟩ | ⟨a, len, cap, m, k, V, D, Pl, hcs, hb, hl, hm, hmm, hx, hi⟩
  · cases hx
  have hx1 := congrArg Prod.fst hx
  injection hx1 with e1 e2
  have hlen : L.length = len := by
    have := congrArg List.length e1
    simpa using this
  have hmc : m = cap := by simpa using hmm
  subst hmc
  have hc1 : w.cell? ⟨g, 0, none⟩ = some (.slice (some a) len m) := by
    rw [hc0, ← Array.getElem?_toList, hcs]
    rfl
  obtain ⟨b, off, sp⟩ := a
  have hlp : 0 < L.length := List.length_pos_iff.mpr hL
  have hsp : sp = none := by
    have := World.cell?_spot (hi 0 (by omega)).1
    simpa [Addr.add] using this
  subst hsp
  refine ⟨b, off, m, by rw [hlen]; exact hc1, fun i l hq => ?_⟩
  have hil : i < len := by rw [← hlen]; exact (List.getElem?_eq_some_iff.1 hq).1
  obtain ⟨h1, h2⟩ := hi i (by omega)
  have hDi : D i = .lit (.string l) := by
    have h1 := congrArg (·[i]?) e1
    simp only [List.getElem?_map, hq, List.getElem?_range hil, Option.map_some, Option.some.injEq] at h1
    exact h1.symm
  obtain ⟨s, hs, hs2, _⟩ := DataW.trod_string Tryd.underlying9 h2
  have hs3 := congrArg Prod.fst hs2
  rw [hDi] at hs3
  injection hs3 with hs3
  injection hs3 with hs3
  have hV : V i = .string s := by injection hs
  rw [Addr.add_lit] at h1
  rw [h1, hV, hs3]
  simp [Zn.strOf]
def theLaid : List (String × DataW Unit) := Rows.runesFitsRow.laid
def foldsB : List (List UInt8) := wordsR.map enc
theorem of_laid {W : World} (h0 : laidMetH Tryd.prog theLaid W) (hsh : W.ShapedOpen Tryd.prog) : VS W := by
  have h : laidMet Tryd.prog theLaid W := by
    rw [MakeChecks.laidMetH_plain _ _ _ (by kernel_rfl)] at h0
    exact h0
  have r1 := Lib.laidMet.reads h (.head _)
  have r2 := Lib.laidMet.reads h (.tail _ (.head _))
  have r3 := Lib.laidMet.reads h (.tail _ (.tail _ (.head _)))
  have r4 := Lib.laidMet.reads h (.tail _ (.tail _ (.tail _ (.head _))))
  have r5 := Lib.laidMet.reads h (.tail _ (.tail _ (.tail _ (.tail _ (.head _)))))
  obtain ⟨b2, o2, c2, h2, k2, s2⟩ := spans_of (L := letL) (by kernel_rfl) (g := 2) (by kernel_rfl) (by decide) r2
  obtain ⟨b3, o3, c3, h3, k3, s3⟩ := spans_of (L := wideL) (by kernel_rfl) (g := 0) (by kernel_rfl) (by decide) r3
  obtain ⟨b4, o4, c4, h4, s4⟩ := strs_of (L := foldsB) (by kernel_rfl) (g := 1) (by kernel_rfl) (by decide) r4
  refine ⟨⟨b3, o3, c3, h3, s3⟩, ⟨b4, o4, c4, h4, fun i hi => ?_⟩, ⟨b2, o2, c2, h2, k2, s2⟩, ?_, cell_of_shapedOpen_int (zero := #[.int .i64 0]) (t := 3) hsh (of_decide_eq_true (by kernel_rfl)) (by kernel_rfl) rfl (by kernel_rfl) (by kernel_rfl) Tryd.underlying3⟩
  · have hw : wordsR.length = 32 := rfl
    rw [s4 i (enc (wordsR.getD i [])) (by
      unfold foldsB
      rw [List.getElem?_map, List.getD_eq_getElem?_getD, List.getElem?_eq_getElem (by rw [hw]; exact hi)]
      rfl)]
  · exact utf8Tabs_of_readsT (U8Types.of196 Tryd.lays196) ⟨by kernel_rfl, by kernel_rfl, by kernel_rfl, by kernel_rfl, by kernel_rfl, by kernel_rfl, by kernel_rfl⟩ (Pinned.utf8First_eq ▸ r5) r1
theorem all_met (os : Os) (args : Array Value) : laidMetH Tryd.prog theLaid ((World.laidAll Tryd.prog os theLaid).forCall (fun _ _ => 0) ⟨#[], args, []⟩).memory := by
  rw [MakeChecks.laidMetH_plain _ _ _ (by kernel_rfl)]
  exact laidMet_laidAll _ (by kernel_rfl) (by kernel_rfl)
theorem no_stand {P : Program} {ts : Array TypeId} (h : (ts.toList.all fun t => !P.wantsStandIn t) = true) (j : Nat) (t : TypeId) (ht : ts[j]? = some t) : P.wantsStandIn t = false := by
  have h1 : t ∈ ts.toList := by
    rw [← Array.getElem?_toList] at ht
    exact List.mem_of_getElem? ht
  simpa using List.all_eq_true.1 h t h1
/-- the frame of a card whose contract wants the world's shape, too -/
theorem handed_shaped {H : Type} {enc : TypeId × Value → H} {a : Assume} {C : Checked} {os : Os} {f : FuncId} {fn : Func} {s : ChangeSpec} {conds : List PathCond} {apart fresh handsOn again : Bool} {X : World → Array Value → Prop}
    (hX : ∀ (w w' : World) (args : Array Value), w.heap = w'.heap → X w args → X w' args)
    (hown : ownKnob C.prog.godebug = none) (started : os.Started) (noInit : C.prog.inits.idxOf? f = none) (hfn : C.prog.funcs[f]? = some fn)
    (witness : ∃ (w : World) (tape : Tape) (i : Input), w.os = os ∧ (w.forCall tape i).Shaped C.prog ∧ i.vars = [] ∧ Input.okWide C.prog (w.forCall tape i) .any w.heap.size f i ∧
      ((s.pre enc C.prog fn conds apart (w.forCall tape i).memory i.args ∧ X (w.forCall tape i).memory i.args) ∧ sizedMet enc C.prog fn (OpenSpec.ofChange s) apart (w.forCall tape i).memory i.args) ∧ a.holds C.prog (lone (Frame.enter C.prog f i.args .normal) [] (w.forCall tape i)))
    (contract : ∀ (W : World) (base : Nat) (args : Array Value) (ds gs : List (DataW H)) (before : List MemPlace),
      (∀ (j : Nat) t v, fn.params[j]? = some t → args[j]? = some v → Value.okWide C.prog W .any base t v) →
      DataW.Whole enc C.prog fn.params.toList s.vars apart W args.toList ds gs before →
      X W args → W.ShapedOpen C.prog →
      Calls C.prog f args W fun e W' => ∃ v, e = .returned v ∧ s.post enc C.prog fn apart fresh handsOn again W args v W') :
    ReturnsInHanded a C os f .any (fun w args => (s.pre enc C.prog fn conds apart w args ∧ X w args) ∧ sizedMet enc C.prog fn (OpenSpec.ofChange s) apart w args) (s.post enc C.prog fn apart fresh handsOn again) := by
  refine returnsInHanded_of_calls hown started noInit witness fun w tape i _ hsh _ hok hpre _ => ?_
  obtain ⟨_, _, _, fn2, hfn2, _, _, _, _, hv⟩ := hok
  obtain rfl : fn2 = fn := Option.some.inj (hfn2.symm.trans hfn)
  obtain ⟨⟨⟨ds, gs, before, hw, _⟩, hx⟩, _⟩ := hpre
  refine (contract _ w.heap.size i.args ds gs before hv (DataW.Whole.of_heap (w' := w.forCall tape i) (by rfl) hw) (hX _ _ _ (by rfl) hx) hsh).mono fun e W' ⟨v, he, hp⟩ => ?_
  subst he
  exact ChangeSpec.post_blind hp
end Go.Proofs.YtoahnfmbmpllaaaDoor
