/-
  FeedPlays: a feed answers every list of calls as the reference does, also after a copy, whatever is changed afterwards. For every input, no condition.
-/
import Derived.Test.YtkdienebinnopaaPlayB
import Derived.Carry
namespace Go.Proofs.Ytkdienebinnopaa
open Go.ChangeShapes Go.WideShapes Go.ChangeAt Go.RowKit Go.Zn Go.Deep
theorem laidF : laidOutB Try.prog = true := by kernel_rfl
end Go.Proofs.Ytkdienebinnopaa
namespace Go.Proofs.Ytkdienebinnopaa.feedPlays
open Go.ChangeShapes Go.WideShapes Go.ChangeAt Go.RowKit Go.Zn Go.Deep
set_option linter.unusedVariables false

theorem own : ownKnob Try.prog.godebug = none := by kernel_rfl
theorem walk (a : Int) {w : World} {v : Value} {len : Nat} {X : Nat → Int} {N : Nat → Nat} {BS : Nat → List UInt8} (h : Acts w v len X N BS) : Calls Try.prog 6 #[.int .i64 a, v] w fun e w' => e = .returned (.bool true) ∧ Kept No w w' := by
  by_cases hb : a < 1 ∨ 1000 < a
  · exact walk_bad a v w hb
  · obtain ⟨k, rfl⟩ := Int.eq_ofNat_of_zero_le (show 0 ≤ a by omega)
    exact walk_ok k (by omega) (by omega) h
set_option maxRecDepth 100000 in
theorem lifted (os : Os) (started : os.Started) (H : Type) (enc : TypeId × Value → H) :
    ReturnsInHanded {} Try.checked os 6 .any (Rows.feedPlaysSpec.pre6 enc Try.prog Try.f6 Rows.feedPlaysRow.domain false) (Rows.feedPlaysSpec.post enc Try.prog Try.f6 false true false false) := by
  refine returnsInHanded_of_change (C := Try.checked) own started (by kernel_rfl) Try.func6
    (ChangeSpec.witness6 (enc := enc) (C := Try.checked) false ⟨#[], #[.int .i64 0, .slice none 0 0], []⟩ 8 (by kernel_rfl) (by kernel_rfl) (by kernel_rfl) (by kernel_rfl)) ?_
  intro W base args ds gs before hval0 hW hcnd _
  have hval : ∀ (j : Nat) t v, Try.f6.params[j]? = some t → args[j]? = some v → Value.okWide Try.prog W .any base t v := hval0
  have hW' := hW
  obtain ⟨p, q, hA0, hV, rfl, hfz, hnd⟩ := hW
  have hA : DataW.TrodAll enc Try.prog W 0 (fun _ => true) true Try.f6.params.toList args.toList ds p := hA0
  rw [Try.params6] at hA hval
  obtain ⟨v0, vs0, d0, ds0, p0, q0, hargs, rfl, rfl, h0, r0⟩ := trodAll_cons hA
  obtain ⟨v1, vs1, d1, ds1, p1, q1, rfl, rfl, rfl, h1, r1⟩ := trodAll_cons r0
  obtain ⟨rfl, rfl, rfl⟩ := trodAll_nil r1
  obtain rfl : args = #[v0, v1] := by cases args; simp_all
  obtain ⟨rfl, rfl⟩ := trodVars_none hV
  obtain ⟨a0, rfl, rfl, rfl, w0⟩ := open_int Try.underlying3 (hval 0 3 v0 rfl rfl) h0
  obtain ⟨ad, len, cap, rfl⟩ := okWide_slice Try.underlying42 (hval 1 42 v1 rfl rfl)
  clear hA0 hval0
  simp only [List.append_nil, List.nil_append] at hW'
  have hlt : ∀ x ∈ p1, x.block < W.heap.size := fun x hx => by simpa using hW'.lt x (by simpa using hx)
  obtain ⟨X, N, BS, hacts⟩ := acts_open h1
  refine (walk a0 hacts).mono fun e W' ⟨he, hg⟩ => ?_
  subst he
  refine ⟨_, rfl, _, _, _, [], p1, [], by simpa using hW', trodAll_cons_mk (shut_bool Try.underlying4 _) trodAll_mk0, ?_, ?_, hg.to_below.frame _, fun h => by cases h⟩
  · have h9 := trodAll_cons_mk (shut_int Try.underlying3 w0) (trodAll_cons_mk (Below.trod laidF (by kernel_rfl) (of_decide_eq_true (by kernel_rfl)) h1 hg.to_below hlt) trodAll_mk0)
    simp only [List.nil_append, List.append_nil] at h9
    exact h9
  · rfl

theorem over : Rows.feedPlaysRow.holds Try.pinned (OpenSpec.ofChange Rows.feedPlaysSpec) :=
  OpenClaim.holds_of_wide 6 Try.f6 rfl rfl rfl rfl rfl rfl rfl ⟨rfl, rfl, rfl, rfl, rfl⟩ rfl rfl rfl rfl rfl (by kernel_rfl) Try.func6 (by kernel_rfl)
    (of_decide_eq_true (by kernel_rfl)) (by unfold Func.isWrapper; first | (rw [if_pos (by decide +kernel)]; kernel_rfl) | (rw [if_neg (by decide +kernel)]; exact ⟨rfl, rfl⟩))
    (fun os started H enc _ => lifted os started H enc)

end Go.Proofs.Ytkdienebinnopaa.feedPlays
namespace Go.Proofs.Ytkdienebinnopaa
/-- The statement. -/
theorem feedPlays_proved : Rows.FeedPlaysSaid := feedPlays.over
#print axioms feedPlays_proved
end Go.Proofs.Ytkdienebinnopaa
