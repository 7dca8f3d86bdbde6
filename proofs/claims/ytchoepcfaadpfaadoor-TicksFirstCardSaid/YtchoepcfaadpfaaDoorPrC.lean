/-
  TicksFirst: the earliest deadline of any list is the reference's, or the error. For every list; the listed package variables hold what the program's text lays (the tied card).
-/
import Derived.Test.YtchoepcfaadpfaaDoorLaidA
import Derived.Deep.Slices
namespace Go.Proofs.YtchoepcfaadpfaaDoor.ticksFirst
open Go.ChangeShapes Go.WideShapes Go.ChangeAt Go.RowKit Go.Zn
open Go.ChangeMaps (open_string shut_string)
set_option linter.unusedVariables false
theorem cells23 : Tryd.prog.cellsOf 23 = 1 := by kernel_rfl
theorem walk_all {H : Type} {enc : TypeId × Value → H} {ad : Option Addr} {len cap : Nat} {w : World} {d : DataW H} {ps : List MemPlace} (h : DataW.Trod enc Tryd.prog w 0 (fun _ => true) true 27 (.slice ad len cap) d ps) (hl : Laid w) :
    Calls Tryd.prog 5 #[.slice ad len cap] w fun e w' => e = .returned (.bool true) ∧ Kept No w w' := by
  obtain ⟨fuel, hf⟩ := h
  rcases open_ints Tryd.underlying27 Tryd.underlying23 cells23 hf with ⟨hcs, hx⟩ | ⟨a, len', cap', zs, hcs, _, hll, hm, hz, hx, hcell, hwz⟩
  · cases hcs
    exact walk_first _ 0 X1 w (tms_nil w X1) (by omega) hl
  · cases hcs
    by_cases h40 : 40 < len
    · exact walk_first_big _ _ _ w h40 (by omega) hl
    · by_cases h0 : len = 0
      · subst h0
        exact walk_first _ 0 X1 w ⟨by omega, fun k hk => by omega, .inl ⟨rfl, _, _, rfl⟩⟩ (by omega) hl
      · have hz' : zs.length = cap := by simpa using hz
        obtain ⟨b, off, sp⟩ := a
        have hsp : sp = none := by
          have := World.cell?_spot (hcell 0 (by omega))
          simpa [Addr.add] using this
        subst hsp
        refine walk_first _ len (fun k => zs.getD k 0) w ⟨by omega, fun k hk => ?_, .inr ⟨b, off, cap, rfl, fun k hk => ?_⟩⟩ (by omega) hl
        · have hk2 : k < zs.length := by omega
          have : zs.getD k 0 = zs[k] := by rw [List.getD_eq_getElem?_getD, List.getElem?_eq_getElem hk2]; rfl
          show Tm (zs.getD k 0)
          rw [this]
          exact tm_of_wf (hwz _ (List.getElem_mem hk2))
        · have := hcell k (by omega)
          rw [Addr.add_lit] at this
          exact this
set_option maxRecDepth 100000 in
theorem lifted (os : Os) (started : os.Started) (H : Type) (enc : TypeId × Value → H) :
    ReturnsInHanded {} Tryd.checked os 5 .any (fun w args => (Rows.ticksFirstSpec.pre enc Tryd.prog Tryd.f5 [] false w args ∧ laidMetH Tryd.prog theLaid w) ∧ sizedMet enc Tryd.prog Tryd.f5 (OpenSpec.ofChange Rows.ticksFirstSpec) false w args)
      (Rows.ticksFirstSpec.post enc Tryd.prog Tryd.f5 false true false false) := by
  refine returnsInHanded_of_change_and (C := Tryd.checked) (X := fun w _ => laidMetH Tryd.prog theLaid w) (fun _ _ _ hh h => h.of_heap hh) own started (by kernel_rfl) Tryd.func5
    (ChangeSpec.witness_shaped (enc := enc) (C := Tryd.checked) (os := os) (X := fun w _ => laidMetH Tryd.prog theLaid w) false (World.doorLaid Tryd.prog 400 os) #[.slice none 0 0] 8 rfl (World.shaped_of_RefB (by kernel_rfl) (by kernel_rfl)) (by kernel_rfl) (by kernel_rfl) (by kernel_rfl) (door_met os _)) ?_
  intro W base args ds gs before hval0 hW _ _ hL _
  have hval : ∀ (j : Nat) t v, Tryd.f5.params[j]? = some t → args[j]? = some v → Value.okWide Tryd.prog W .any base t v := hval0
  have hW' := hW
  obtain ⟨p, q, hA0, hV, rfl, hfz, hnd⟩ := hW
  have hA : DataW.TrodAll enc Tryd.prog W 0 (fun _ => true) true Tryd.f5.params.toList args.toList ds p := hA0
  rw [Tryd.params5] at hA hval
  obtain ⟨v0, vs0, d0, ds0, p0, q0, hargs, rfl, rfl, h0, r0⟩ := trodAll_cons hA
  obtain ⟨rfl, rfl, rfl⟩ := trodAll_nil r0
  obtain rfl : args = #[v0] := by cases args; simp_all
  obtain ⟨rfl, rfl⟩ := trodVars_none hV
  obtain ⟨ad, len, cap, rfl⟩ := okWide_slice Tryd.underlying27 (hval 0 27 v0 rfl rfl)
  have hlt : ∀ x ∈ p0, x.block < W.heap.size := fun x hx => by simpa using hW'.lt x (by simpa using hx)
  clear hA0 hval0
  simp only [List.append_nil, List.nil_append] at hW'
  have hlaid := of_laid hL
  refine (walk_all h0 hlaid).mono fun e W' ⟨he, hg⟩ => ?_
  subst he
  refine ⟨_, rfl, _, _, _, [], p0, [], by simpa using hW', trodAll_cons_mk (shut_bool Tryd.underlying4 _) trodAll_mk0, ?_, ?_, hg.to_below.frame _, fun h => by cases h⟩
  · have h9 := trodAll_cons_mk (Below.trod laidOut (by kernel_rfl) (of_decide_eq_true (by kernel_rfl)) h0 hg.to_below hlt) trodAll_mk0
    simp only [List.nil_append, List.append_nil] at h9
    exact h9
  · rfl

theorem over : Rows.ticksFirstRow.holds Tryd.pinned (OpenSpec.ofChange Rows.ticksFirstSpec) :=
  OpenClaim.holds_of_wide 5 Tryd.f5 rfl rfl rfl rfl rfl rfl rfl ⟨rfl, rfl, rfl, rfl, rfl⟩ rfl rfl rfl rfl rfl (by kernel_rfl) Tryd.func5 (by kernel_rfl)
    (of_decide_eq_true (by kernel_rfl)) (by unfold Func.isWrapper; first | (rw [if_pos (by decide +kernel)]; kernel_rfl) | (rw [if_neg (by decide +kernel)]; exact ⟨rfl, rfl⟩))
    (fun os started H enc _ => lifted os started H enc)
end Go.Proofs.YtchoepcfaadpfaaDoor.ticksFirst
namespace Go.Proofs.YtchoepcfaadpfaaDoor
open Go.ChangeShapes Go.WideShapes Go.ChangeAt Go.RowKit
/-- The statement. -/
theorem ticksFirst_proved : Rows.TicksFirstCardSaid :=
  Claim7.holds_tied_plain_at .later [] [.data, .data, .data, .sentinel, .sentinel] true (true, "e73b1022ca702316ccc79ff8ccac71123c8fcfb916ca0146cdb9b64e7613e653") true
    ticksFirst.over (fun _ h => by cases h) (by kernel_rfl) (fun _ h => by cases h) ticksFirst_row_tie rfl ⟨rfl, rfl⟩ (by kernel_rfl) rfl
    (fun f fn hf hfn => by
      obtain rfl : f = 5 := (Option.some.inj ((show Tryd.prog.funcNamed Rows.ticksFirstRow.func = some 5 by kernel_rfl).symm.trans hf)).symm
      obtain rfl : fn = Tryd.f5 := (Option.some.inj (Tryd.func5.symm.trans hfn)).symm
      exact ⟨by kernel_rfl, no_stand (by kernel_rfl)⟩)
    (by kernel_rfl)
#print axioms ticksFirst_proved
end Go.Proofs.YtchoepcfaadpfaaDoor
