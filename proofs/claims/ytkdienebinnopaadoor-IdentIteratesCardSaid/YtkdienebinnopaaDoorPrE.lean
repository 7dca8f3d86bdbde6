/-
  IdentIterates: a loop over the ids that is left early, and then again, while ids are freed and claimed, goes over the ids that there were, in order. For every n, run and number; the listed package variable holds what the program's text lays (the tied card).
-/
import Derived.Test.YtkdienebinnopaaDoorLaidA
import Derived.Test.YtkdienebinnopaaDoorActs
import Derived.Test.YtkdienebinnopaaDoorWalkU
import Derived.Deep.Slices
namespace Go.Proofs.YtkdienebinnopaaDoor.identIterates
open Go.ChangeShapes Go.WideShapes Go.ChangeAt Go.RowKit Go.Zn
set_option linter.unusedVariables false
theorem walk_all {H : Type} {enc : TypeId × Value → H} {ad : Option Addr} {len cap : Nat} {w : World} {d : DataW H} {ps : List MemPlace} (a : Int) (at_ : Int) (h : DataW.Trod enc Tryd.prog w 0 (fun _ => true) true 33 (.slice ad len cap) d ps) (hl : Laid w) :
    Calls Tryd.prog 6 #[.int .i64 a, .slice ad len cap, .int .i64 at_] w fun e w' => e = .returned (.bool true) ∧ Kept No w w' := by
  obtain ⟨X, hX⟩ := acts_open h
  by_cases hb : a < 1 ∨ 200 < a ∨ 60 < len
  · exact iter_bad a at_ len ad cap w hl hb
  · obtain ⟨n, rfl⟩ := Int.eq_ofNat_of_zero_le (show 0 ≤ a by omega)
    exact iter_ok n len at_ _ X w hl (by omega) (by omega) (by omega) hX
set_option maxRecDepth 100000 in
theorem lifted (os : Os) (started : os.Started) (H : Type) (enc : TypeId × Value → H) :
    ReturnsInHanded {} Tryd.checked os 6 .any (fun w args => (Rows.identIteratesSpec.pre enc Tryd.prog Tryd.f6 [] false w args ∧ laidMetH Tryd.prog theLaid w) ∧ sizedMet enc Tryd.prog Tryd.f6 (OpenSpec.ofChange Rows.identIteratesSpec) false w args)
      (Rows.identIteratesSpec.post enc Tryd.prog Tryd.f6 false true false false) := by
  refine returnsInHanded_of_change_and (C := Tryd.checked) (X := fun w _ => laidMetH Tryd.prog theLaid w) (fun _ _ _ hh h => h.of_heap hh) own started (by kernel_rfl) Tryd.func6
    (ChangeSpec.witness_shaped (enc := enc) (C := Tryd.checked) (os := os) (X := fun w _ => laidMetH Tryd.prog theLaid w) false (World.doorLaid Tryd.prog 400 os) #[.int .i64 0, .slice none 0 0, .int .i64 0] 8 rfl (World.shaped_of_RefB (by kernel_rfl) (by kernel_rfl)) (by kernel_rfl) (by kernel_rfl) (by kernel_rfl) (door_met os _)) ?_
  intro W base args ds gs before hval0 hW _ _ hL _
  have hval : ∀ (j : Nat) t v, Tryd.f6.params[j]? = some t → args[j]? = some v → Value.okWide Tryd.prog W .any base t v := hval0
  have hW' := hW
  obtain ⟨p, q, hA0, hV, rfl, hfz, hnd⟩ := hW
  have hA : DataW.TrodAll enc Tryd.prog W 0 (fun _ => true) true Tryd.f6.params.toList args.toList ds p := hA0
  rw [Tryd.params6] at hA hval
  obtain ⟨v0, vs0, d0, ds0, p0, q0, hargs, rfl, rfl, h0, r0⟩ := trodAll_cons hA
  obtain ⟨v1, vs1, d1, ds1, p1, q1, rfl, rfl, rfl, h1, r1⟩ := trodAll_cons r0
  obtain ⟨v2, vs2, d2, ds2, p2, q2, rfl, rfl, rfl, h2, r2⟩ := trodAll_cons r1
  obtain ⟨rfl, rfl, rfl⟩ := trodAll_nil r2
  obtain rfl : args = #[v0, v1, v2] := by cases args; simp_all
  obtain ⟨rfl, rfl⟩ := trodVars_none hV
  obtain ⟨a0, rfl, rfl, rfl, w0⟩ := open_int Tryd.underlying3 (hval 0 3 v0 rfl rfl) h0
  obtain ⟨a2, rfl, rfl, rfl, w2⟩ := open_int Tryd.underlying3 (hval 2 3 v2 rfl rfl) h2
  obtain ⟨ad, len, cap, rfl⟩ := okWide_slice Tryd.underlying33 (hval 1 33 v1 rfl rfl)
  have hlt : ∀ x ∈ p1, x.block < W.heap.size := fun x hx => by simpa using hW'.lt x (by simpa using hx)
  clear hA0 hval0
  simp only [List.append_nil, List.nil_append] at hW'
  have hlaid := of_laid hL
  refine (walk_all a0 a2 h1 hlaid).mono fun e W' ⟨he, hg⟩ => ?_
  subst he
  refine ⟨_, rfl, _, _, _, [], p1, [], by simpa using hW', trodAll_cons_mk (shut_bool Tryd.underlying4 _) trodAll_mk0, ?_, ?_, hg.to_below.frame _, fun h => by cases h⟩
  · have h9 := trodAll_cons_mk (shut_int Tryd.underlying3 w0) (trodAll_cons_mk (Below.trod laidOut (by kernel_rfl) (of_decide_eq_true (by kernel_rfl)) h1 hg.to_below hlt) (trodAll_cons_mk (shut_int Tryd.underlying3 w2) trodAll_mk0))
    simp only [List.nil_append, List.append_nil] at h9
    exact h9
  · rfl

theorem over : Rows.identIteratesRow.holds Tryd.pinned (OpenSpec.ofChange Rows.identIteratesSpec) :=
  OpenClaim.holds_of_wide 6 Tryd.f6 rfl rfl rfl rfl rfl rfl rfl ⟨rfl, rfl, rfl, rfl, rfl⟩ rfl rfl rfl rfl rfl (by kernel_rfl) Tryd.func6 (by kernel_rfl)
    (of_decide_eq_true (by kernel_rfl)) (by unfold Func.isWrapper; first | (rw [if_pos (by decide +kernel)]; kernel_rfl) | (rw [if_neg (by decide +kernel)]; exact ⟨rfl, rfl⟩))
    (fun os started H enc _ => lifted os started H enc)
end Go.Proofs.YtkdienebinnopaaDoor.identIterates
namespace Go.Proofs.YtkdienebinnopaaDoor
open Go.ChangeShapes Go.WideShapes Go.ChangeAt Go.RowKit
/-- The statement. -/
theorem identIterates_proved : Rows.IdentIteratesCardSaid :=
  Claim7.holds_tied_plain_at .later [] [.data] true (true, "048f45a2c4fb00416b8fed000c7e70d70f2346de6498b81f3c0fbdc98b7e51d2") false
    identIterates.over (fun _ h => by cases h) (by kernel_rfl) (fun _ h => by cases h) identIterates_row_tie rfl ⟨rfl, rfl⟩ (by kernel_rfl) rfl
    (fun f fn hf hfn => by
      obtain rfl : f = 6 := (Option.some.inj ((show Tryd.prog.funcNamed Rows.identIteratesRow.func = some 6 by kernel_rfl).symm.trans hf)).symm
      obtain rfl : fn = Tryd.f6 := (Option.some.inj (Tryd.func6.symm.trans hfn)).symm
      exact ⟨by kernel_rfl, no_stand (by kernel_rfl)⟩)
    (by kernel_rfl)
#print axioms identIterates_proved
end Go.Proofs.YtkdienebinnopaaDoor
