/-
  IdentHolds: take hands out the lowest free id, claim and free go as a map says, and count and room add up. For every n and run; the listed package variable holds what the program's text lays (the tied card).
-/
import Derived.Test.YtkdienebinnopaaDoorLaidA
import Derived.Test.YtkdienebinnopaaDoorActs
import Derived.Test.YtkdienebinnopaaDoorWalkQ
import Derived.Deep.Slices
namespace Go.Proofs.YtkdienebinnopaaDoor.identHolds
open Go.ChangeShapes Go.WideShapes Go.ChangeAt Go.RowKit Go.Zn
set_option linter.unusedVariables false
theorem walk_all {H : Type} {enc : TypeId × Value → H} {ad : Option Addr} {len cap : Nat} {w : World} {d : DataW H} {ps : List MemPlace} (a : Int) (h : DataW.Trod enc Tryd.prog w 0 (fun _ => true) true 33 (.slice ad len cap) d ps) (hl : Laid w) :
    Calls Tryd.prog 4 #[.int .i64 a, .slice ad len cap] w fun e w' => e = .returned (.bool true) ∧ Kept No w w' := by
  obtain ⟨X, hX⟩ := acts_open h
  by_cases hb : a < 1 ∨ 200 < a ∨ 100 < len
  · exact holds_bad a len ad cap w hl hb
  · obtain ⟨n, rfl⟩ := Int.eq_ofNat_of_zero_le (show 0 ≤ a by omega)
    exact holds_ok n len _ X w hl (by omega) (by omega) (by omega) hX
set_option maxRecDepth 100000 in
theorem lifted (os : Os) (started : os.Started) (H : Type) (enc : TypeId × Value → H) :
    ReturnsInHanded {} Tryd.checked os 4 .any (fun w args => (Rows.identHoldsSpec.pre enc Tryd.prog Tryd.f4 [] false w args ∧ laidMetH Tryd.prog theLaid w) ∧ sizedMet enc Tryd.prog Tryd.f4 (OpenSpec.ofChange Rows.identHoldsSpec) false w args)
      (Rows.identHoldsSpec.post enc Tryd.prog Tryd.f4 false true false false) := by
  refine returnsInHanded_of_change_and (C := Tryd.checked) (X := fun w _ => laidMetH Tryd.prog theLaid w) (fun _ _ _ hh h => h.of_heap hh) own started (by kernel_rfl) Tryd.func4
    (ChangeSpec.witness_shaped (enc := enc) (C := Tryd.checked) (os := os) (X := fun w _ => laidMetH Tryd.prog theLaid w) false (World.doorLaid Tryd.prog 400 os) #[.int .i64 0, .slice none 0 0] 8 rfl (World.shaped_of_RefB (by kernel_rfl) (by kernel_rfl)) (by kernel_rfl) (by kernel_rfl) (by kernel_rfl) (door_met os _)) ?_
  intro W base args ds gs before hval0 hW _ _ hL _
  have hval : ∀ (j : Nat) t v, Tryd.f4.params[j]? = some t → args[j]? = some v → Value.okWide Tryd.prog W .any base t v := hval0
  have hW' := hW
  obtain ⟨p, q, hA0, hV, rfl, hfz, hnd⟩ := hW
  have hA : DataW.TrodAll enc Tryd.prog W 0 (fun _ => true) true Tryd.f4.params.toList args.toList ds p := hA0
  rw [Tryd.params4] at hA hval
  obtain ⟨v0, vs0, d0, ds0, p0, q0, hargs, rfl, rfl, h0, r0⟩ := trodAll_cons hA
  obtain ⟨v1, vs1, d1, ds1, p1, q1, rfl, rfl, rfl, h1, r1⟩ := trodAll_cons r0
  obtain ⟨rfl, rfl, rfl⟩ := trodAll_nil r1
  obtain rfl : args = #[v0, v1] := by cases args; simp_all
  obtain ⟨rfl, rfl⟩ := trodVars_none hV
  obtain ⟨a0, rfl, rfl, rfl, w0⟩ := open_int Tryd.underlying3 (hval 0 3 v0 rfl rfl) h0
  obtain ⟨ad, len, cap, rfl⟩ := okWide_slice Tryd.underlying33 (hval 1 33 v1 rfl rfl)
  have hlt : ∀ x ∈ p1, x.block < W.heap.size := fun x hx => by simpa using hW'.lt x (by simpa using hx)
  clear hA0 hval0
  simp only [List.append_nil, List.nil_append] at hW'
  have hlaid := of_laid hL
  refine (walk_all a0 h1 hlaid).mono fun e W' ⟨he, hg⟩ => ?_
  subst he
  refine ⟨_, rfl, _, _, _, [], p1, [], by simpa using hW', trodAll_cons_mk (shut_bool Tryd.underlying4 _) trodAll_mk0, ?_, ?_, hg.to_below.frame _, fun h => by cases h⟩
  · have h9 := trodAll_cons_mk (shut_int Tryd.underlying3 w0) (trodAll_cons_mk (Below.trod laidOut (by kernel_rfl) (of_decide_eq_true (by kernel_rfl)) h1 hg.to_below hlt) trodAll_mk0)
    simp only [List.nil_append, List.append_nil] at h9
    exact h9
  · rfl

theorem over : Rows.identHoldsRow.holds Tryd.pinned (OpenSpec.ofChange Rows.identHoldsSpec) :=
  OpenClaim.holds_of_wide 4 Tryd.f4 rfl rfl rfl rfl rfl rfl rfl ⟨rfl, rfl, rfl, rfl, rfl⟩ rfl rfl rfl rfl rfl (by kernel_rfl) Tryd.func4 (by kernel_rfl)
    (of_decide_eq_true (by kernel_rfl)) (by unfold Func.isWrapper; first | (rw [if_pos (by decide +kernel)]; kernel_rfl) | (rw [if_neg (by decide +kernel)]; exact ⟨rfl, rfl⟩))
    (fun os started H enc _ => lifted os started H enc)
end Go.Proofs.YtkdienebinnopaaDoor.identHolds
namespace Go.Proofs.YtkdienebinnopaaDoor
open Go.ChangeShapes Go.WideShapes Go.ChangeAt Go.RowKit
/-- The statement. -/
theorem identHolds_proved : Rows.IdentHoldsCardSaid :=
  Claim7.holds_tied_plain_at .later [] [.data] true (true, "048f45a2c4fb00416b8fed000c7e70d70f2346de6498b81f3c0fbdc98b7e51d2") false
    identHolds.over (fun _ h => by cases h) (by kernel_rfl) (fun _ h => by cases h) identHolds_row_tie rfl ⟨rfl, rfl⟩ (by kernel_rfl) rfl
    (fun f fn hf hfn => by
      obtain rfl : f = 4 := (Option.some.inj ((show Tryd.prog.funcNamed Rows.identHoldsRow.func = some 4 by kernel_rfl).symm.trans hf)).symm
      obtain rfl : fn = Tryd.f4 := (Option.some.inj (Tryd.func4.symm.trans hfn)).symm
      exact ⟨by kernel_rfl, no_stand (by kernel_rfl)⟩)
    (by kernel_rfl)
#print axioms identHolds_proved
end Go.Proofs.YtkdienebinnopaaDoor
