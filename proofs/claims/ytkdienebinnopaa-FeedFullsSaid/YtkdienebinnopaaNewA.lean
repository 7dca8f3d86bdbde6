/-
  FeedNew answers true for every number: a new feed looks like the reference's, or New returns the error; and the chapter's examples hold. No condition.
-/
import Derived.Test.YtkdienebinnopaaWalkK
import Derived.ProofKit
import Derived.OpenShut
namespace Go.Proofs.Ytkdienebinnopaa.feedNew
open Go.ChangeShapes Go.WideShapes Go.ChangeAt Go.RowKit Go.Zn
set_option linter.unusedVariables false

theorem own : ownKnob Try.prog.godebug = none := by kernel_rfl

set_option maxHeartbeats 800000 in
theorem walk_bad (n : Int) (w : World) (hn : n < 1 ∨ 1000 < n) :
    Calls Try.prog 3 #[.int .i64 n] w fun e w' => e = .returned (.bool true) ∧ Kept No w w' := by
  by_cases h1 : n < 1
  · go_enter Try.func3, Try.ntmps3
    go_wp2_with fail
    refine (new_bad n _ hn).mono ?_
    rintro e w1 ⟨rfl, rfl⟩
    go_wp2_with fail
    refine (known_ok _).mono ?_
    rintro e w2 ⟨rfl, hk⟩
    go_wp2_with fail
    go_ret
    exact ⟨rfl, hk⟩
  · have h2 : 1000 < n := by omega
    go_enter Try.func3, Try.ntmps3
    go_wp2_with fail
    refine (new_bad n _ hn).mono ?_
    rintro e w1 ⟨rfl, rfl⟩
    go_wp2_with fail
    refine (known_ok _).mono ?_
    rintro e w2 ⟨rfl, hk⟩
    go_wp2_with fail
    go_ret
    exact ⟨rfl, hk⟩
theorem from_init (k : Nat) : (FS.init k).from 0 = [] := rfl
set_option maxHeartbeats 800000 in
theorem walk_ok (k : Nat) (w : World) (h1 : 1 ≤ k) (h2 : k ≤ 1000) :
    Calls Try.prog 3 #[.int .i64 k] w fun e w' => e = .returned (.bool true) ∧ Kept No w w' := by
  have g1 : ¬ (k : Int) < 1 := by omega
  have g2 : ¬ 1000 < (k : Int) := by omega
  go_enter Try.func3, Try.ntmps3
  go_wp2_with fail
  refine (new_fs k _ h1 h2).mono ?_
  rintro e w1 ⟨b, rb, rfl, hf, hr1, hr2, hk1⟩
  have HF := Lib.hid hf
  have HK1 := Lib.hid hk1
  clear hf hk1 hr1 hr2
  go_wp2_with fail
  have hc := looks_ok HF.out (C := fun _ => True) (most := (k : Int)) (kv := .slice none 0 0) (by rw [from_init]; exact rev_nil _)
  refine hc.mono ?_
  rintro e w2 ⟨rfl, hk2⟩
  have HK2 := Lib.hid (HK1.out.and hk2)
  clear hk2
  go_wp2_with fail
  refine (known_ok _).mono ?_
  rintro e w3 ⟨rfl, hk3⟩
  have HK3 := Lib.hid (HK2.out.and hk3)
  clear hk3
  go_wp2_with fail
  go_ret
  exact ⟨rfl, HK3.out⟩
theorem walk (a0 : Int) (w : World) :
    Calls Try.prog 3 #[.int .i64 a0] w fun e w' => e = .returned (.bool true) ∧ Kept No w w' := by
  by_cases h : a0 < 1 ∨ 1000 < a0
  · exact walk_bad a0 w h
  · obtain ⟨k, rfl⟩ := Int.eq_ofNat_of_zero_le (show 0 ≤ a0 by omega)
    exact walk_ok k w (by omega) (by omega)

set_option maxRecDepth 100000 in
theorem lifted (os : Os) (started : os.Started) (H : Type) (enc : TypeId × Value → H) :
    ReturnsInHanded {} Try.checked os 3 .any (Rows.feedNewSpec.pre6 enc Try.prog Try.f3 Rows.feedNewRow.domain false) (Rows.feedNewSpec.post enc Try.prog Try.f3 false true false false) := by
  refine returnsInHanded_of_change (C := Try.checked) own started (by kernel_rfl) Try.func3
    (ChangeSpec.witness6 (enc := enc) (C := Try.checked) false ⟨#[], #[.int .i64 0], []⟩ 8 (by kernel_rfl) (by kernel_rfl) (by kernel_rfl) (by kernel_rfl)) ?_
  intro W base args ds gs before hval0 hW hcnd _
  have hval : ∀ (j : Nat) t v, Try.f3.params[j]? = some t → args[j]? = some v → Value.okWide Try.prog W .any base t v := hval0
  have hW' := hW
  obtain ⟨p, q, hA0, hV, rfl, hfz, hnd⟩ := hW
  have hA : DataW.TrodAll enc Try.prog W 0 (fun _ => true) true Try.f3.params.toList args.toList ds p := hA0
  rw [Try.params3] at hA hval
  obtain ⟨v0, vs0, d0, ds0, p0, q0, hargs, rfl, rfl, h0, r0⟩ := trodAll_cons hA
  obtain ⟨rfl, rfl, rfl⟩ := trodAll_nil r0
  obtain rfl : args = #[v0] := by cases args; simp_all
  obtain ⟨rfl, rfl⟩ := trodVars_none hV
  obtain ⟨a0, rfl, rfl, rfl, w0⟩ := open_int Try.underlying3 (hval 0 3 v0 rfl rfl) h0
  clear hA0 hval0
  simp only [List.append_nil] at hW'
  refine (walk a0 W).mono fun e W' ⟨he, hg⟩ => ?_
  subst he
  refine ⟨_, rfl, _, _, _, [], [], [], hW', trodAll_cons_mk (shut_bool Try.underlying4 _) trodAll_mk0, trodAll_cons_mk (shut_int Try.underlying3 w0) trodAll_mk0, ?_, hg.to_below.frame _, fun h => by cases h⟩
  rfl

theorem over : Rows.feedNewRow.holds Try.pinned (OpenSpec.ofChange Rows.feedNewSpec) :=
  OpenClaim.holds_of_wide 3 Try.f3 rfl rfl rfl rfl rfl rfl rfl ⟨rfl, rfl, rfl, rfl, rfl⟩ rfl rfl rfl rfl rfl (by kernel_rfl) Try.func3 (by kernel_rfl)
    (of_decide_eq_true (by kernel_rfl)) (by unfold Func.isWrapper; first | (rw [if_pos (by decide +kernel)]; kernel_rfl) | (rw [if_neg (by decide +kernel)]; exact ⟨rfl, rfl⟩))
    (fun os started H enc _ => lifted os started H enc)

end Go.Proofs.Ytkdienebinnopaa.feedNew
namespace Go.Proofs.Ytkdienebinnopaa
/-- The statement. -/
theorem feedNew_proved : Rows.FeedNewSaid := feedNew.over
#print axioms feedNew_proved
end Go.Proofs.Ytkdienebinnopaa
