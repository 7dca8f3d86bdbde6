/-
  FeedNone answers true for every string and number: the results for nil and zero feeds. No condition.
-/
import Derived.Test.YtkdienebinnopaaNewB
namespace Go.Proofs.Ytkdienebinnopaa.feedNone
open Go.ChangeShapes Go.WideShapes Go.ChangeAt Go.RowKit Go.Zn
set_option linter.unusedVariables false

theorem own : ownKnob Try.prog.godebug = none := by kernel_rfl
/-- a nil or zero feed -/
def ZP (w : World) (p : Option Addr) : Prop := p = none ∨ ∃ b, p = some ⟨b, 0, none⟩ ∧ w.cell? ⟨b, 2, none⟩ = some (.int .u32 0)
theorem ZP.kept {w w' : World} {p : Option Addr} (h : ZP w p) (hk : Kept No w w') : ZP w' p := by
  rcases h with h | ⟨b, h, hc⟩
  · exact .inl h
  · exact .inr ⟨b, h, hk.cell hc (not_no _)⟩
theorem ZP.zero {w : World} {p : Option Addr} (h : ZP w p) : Calls Try.prog 28 #[.pointer p] w fun e w' => e = .returned (.bool true) ∧ w = w' := by
  rcases h with rfl | ⟨b, rfl, hc⟩
  · exact zero_nil w
  · exact zero_zero b w hc
set_option maxHeartbeats 800000 in
theorem since_zero (p : Option Addr) (x : Int) (w : World) (hz : Calls Try.prog 28 #[.pointer p] w fun e w' => e = .returned (.bool true) ∧ w = w') :
    Calls Try.prog 14 #[.pointer p, .int .u32 x] w fun e w' => e = .returned (.tuple #[.slice none 0 0, .int .i64 1]) ∧ w = w' := by
  have HZ := Lib.hid hz
  clear hz
  go_enter Try.func14, Try.ntmps14
  go_wp2_with (go_at_call 28; refine HZ.out.mono ?_; rintro e w' ⟨rfl, rfl⟩)
  go_ret2
  exact ⟨rfl, rfl⟩
set_option maxHeartbeats 800000 in
theorem sinces_zero (p : Option Addr) (x : Int) (w : World) (hz : Calls Try.prog 28 #[.pointer p] w fun e w' => e = .returned (.bool true) ∧ w = w') :
    Calls Try.prog 22 #[.pointer p, .int .u32 x, .slice none 0 0, .int .i64 1] w fun e w' => e = .returned (.bool true) ∧ Kept No w w' := by
  have HZ := Lib.hid hz
  clear hz
  go_enter Try.func22, Try.ntmps22
  go_wp2_with fail
  refine (since_zero p x _ HZ.out).mono ?_
  rintro e w1 ⟨rfl, rfl⟩
  go_wp2_with fail
  refine (same_any _ _ _ _ _ [] (rev_nil _) (rev_nil _) (by simp)).mono ?_
  rintro e w' ⟨rfl, q, rfl⟩
  go_wp2
  go_ret
  exact ⟨rfl, (Kept.refl _ _).drewN _⟩
def NoneR (w : World) (g b : Nat) (i : Value) (wr : World) : Prop :=
  (i = .int .i64 0 ∨ i = .int .i64 1 ∨ i = .int .i64 2) ∧ wr.cell? ⟨g, 0, none⟩ = some (.pointer none) ∧ wr.cell? ⟨g, 1, none⟩ = some (.pointer (some ⟨b, 0, none⟩)) ∧ wr.cell? ⟨b, 2, none⟩ = some (.int .u32 0) ∧ Kept No w wr
theorem walk_long (s : ByteArray) (x : Int) (w : World) (hs : 100 < s.size) (hm : s.size ≤ maxLen) :
    Calls Try.prog 7 #[.string s, .int .u32 x] w fun e w' => e = .returned (.bool true) ∧ Kept No w w' := by
  have d : decide ((100 : Int) < (s.size : Int)) = true := by simp; omega
  unfold maxLen at hm
  go_enter Try.func7, Try.ntmps7
  go_wp2_with fail
  refine (known_ok _).mono ?_
  rintro e w2 ⟨rfl, hk⟩
  go_wp2_with fail
  go_ret
  exact ⟨rfl, hk⟩
set_option maxRecDepth 100000 in
set_option maxHeartbeats 3200000 in
theorem walk_ok (s : ByteArray) (x : Int) (w : World) (hs : s.size ≤ 100) :
    Calls Try.prog 7 #[.string s, .int .u32 x] w fun e w' => e = .returned (.bool true) ∧ Kept No w w' := by
  have d : decide ((100 : Int) < (s.size : Int)) = false := by simp; omega
  go_enter Try.func7, Try.ntmps7
  go_wp2_with fail
  obtain ⟨w1, hw1⟩ : ∃ w1, ((w.alloc (.cells #[.slice none 0 0, .int .u32 0, .int .u32 0, .int .u32 0, .int .u32 0] 61)).alloc (.cells #[.pointer none, .pointer (some ⟨w.heap.size, 0, none⟩)] 22)) = w1 := ⟨_, rfl⟩
  have hk1 : Kept No w w1 := by rw [← hw1]; exact ((Kept.refl No w).alloc _).alloc _
  have hb1 : w1.heap[w.heap.size]? = some (.cells #[.slice none 0 0, .int .u32 0, .int .u32 0, .int .u32 0, .int .u32 0] 61 (0, 0)) := by rw [← hw1]; exact obj_alloc (heap_alloc_new w _) _
  have hb2 : w1.heap[w.heap.size + 1]? = some (.cells #[.pointer none, .pointer (some ⟨w.heap.size, 0, none⟩)] 22 (0, 0)) := by rw [← hw1]; exact World.alloc_at (by simp) _
  rw [hw1]
  have hc0 : w1.cell? ⟨w.heap.size + 1, 0, none⟩ = some (.pointer none) := obj_cell hb2 0
  have hc1 : w1.cell? ⟨w.heap.size + 1, 1, none⟩ = some (.pointer (some ⟨w.heap.size, 0, none⟩)) := obj_cell hb2 1
  have hc2 : w1.cell? ⟨w.heap.size, 2, none⟩ = some (.int .u32 0) := obj_cell hb1 2
  have HK1 := Lib.hid hk1
  have HC0 := Lib.hid hc0
  have HC1 := Lib.hid hc1
  have HC2 := Lib.hid hc2
  clear hw1 hk1 hb1 hb2 hc0 hc1 hc2
  go_loopw [17] (fun i wr => NoneR w (w.heap.size + 1) w.heap.size i wr) (fun i _ => 2 - (intOf i).toNat)
  case atStart => exact ⟨.inl rfl, HC0.out, HC1.out, HC2.out, HK1.out⟩
  case round =>
    obtain ⟨hi, g0, g1, g2, hk⟩ := hrel
    have G0 := Lib.hid g0
    have G1 := Lib.hid g1
    have G2 := Lib.hid g2
    have HK := Lib.hid hk
    clear hk g2
    rcases hi with rfl | rfl | rfl
    · have HZ : Hid (ZP wr none) := .inl rfl
      clear g1
      go_wp2_with fail
      refine (adds_none (fun w' hk => (HZ.out.kept hk).zero) s).mono ?_
      rintro e w2 ⟨rfl, hk2⟩
      have HK2 := Lib.hid hk2
      clear hk2 g0
      go_wp2_with fail
      refine (acks_none ⟨_, rfl⟩ (HZ.out.kept HK2.out).zero).mono ?_
      rintro e w3 ⟨rfl, rfl⟩
      go_wp2_with fail
      refine (sinces_zero _ _ _ (HZ.out.kept HK2.out).zero).mono ?_
      rintro e w3 ⟨rfl, hk3⟩
      have HK3 := Lib.hid (HK2.out.and hk3)
      clear hk3
      go_wp2_with fail
      refine (ranges_none (HZ.out.kept HK3.out).zero).mono ?_
      rintro e w4 ⟨rfl, rfl⟩
      go_wp2_with fail
      refine (acked_none _ _ (HZ.out.kept HK3.out).zero).mono ?_
      rintro e w4 ⟨rfl, rfl⟩
      go_wp2_with fail
      refine (lost_none _ _ (HZ.out.kept HK3.out).zero).mono ?_
      rintro e w4 ⟨rfl, rfl⟩
      go_wp2_with fail
      refine (copy_none _ _ (HZ.out.kept HK3.out).zero).mono ?_
      rintro e w4 ⟨rfl, rfl⟩
      go_wp2_with fail
      exact ⟨⟨.inr (.inl rfl), HK3.out.cell G0.out (not_no _), HK3.out.cell G1.out (not_no _), HK3.out.cell G2.out (not_no _), HK.out.and HK3.out⟩, by simp [intOf]⟩
    · have HZ : Hid (ZP wr (some ⟨w.heap.size, 0, none⟩)) := .inr ⟨_, rfl, G2.out⟩
      clear g0
      go_wp2_with fail
      refine (adds_none (fun w' hk => (HZ.out.kept hk).zero) s).mono ?_
      rintro e w2 ⟨rfl, hk2⟩
      have HK2 := Lib.hid hk2
      clear hk2 g1
      go_wp2_with fail
      refine (acks_none ⟨_, rfl⟩ (HZ.out.kept HK2.out).zero).mono ?_
      rintro e w3 ⟨rfl, rfl⟩
      go_wp2_with fail
      refine (sinces_zero _ _ _ (HZ.out.kept HK2.out).zero).mono ?_
      rintro e w3 ⟨rfl, hk3⟩
      have HK3 := Lib.hid (HK2.out.and hk3)
      clear hk3
      go_wp2_with fail
      refine (ranges_none (HZ.out.kept HK3.out).zero).mono ?_
      rintro e w4 ⟨rfl, rfl⟩
      go_wp2_with fail
      refine (acked_none _ _ (HZ.out.kept HK3.out).zero).mono ?_
      rintro e w4 ⟨rfl, rfl⟩
      go_wp2_with fail
      refine (lost_none _ _ (HZ.out.kept HK3.out).zero).mono ?_
      rintro e w4 ⟨rfl, rfl⟩
      go_wp2_with fail
      refine (copy_none _ _ (HZ.out.kept HK3.out).zero).mono ?_
      rintro e w4 ⟨rfl, rfl⟩
      go_wp2_with fail
      exact ⟨⟨.inr (.inr rfl), HK3.out.cell G0.out (not_no _), HK3.out.cell G1.out (not_no _), HK3.out.cell G2.out (not_no _), HK.out.and HK3.out⟩, by simp [intOf]⟩
    · clear g0 g1
      go_wp2_with fail
      refine (known_ok _).mono ?_
      rintro e w2 ⟨rfl, hk2⟩
      go_wp2_with fail
      go_ret
      exact ⟨rfl, HK.out.and hk2⟩
theorem walk (s : ByteArray) (x : Int) (w : World) (hm : s.size ≤ maxLen) : Calls Try.prog 7 #[.string s, .int .u32 x] w fun e w' => e = .returned (.bool true) ∧ Kept No w w' := by
  by_cases h : s.size ≤ 100
  · exact walk_ok s x w h
  · exact walk_long s x w (by omega) hm

open Go.WideMaps Go.WideElems
open Go.ChangeMaps (open_string shut_string)
set_option maxRecDepth 100000 in
theorem lifted (os : Os) (started : os.Started) (H : Type) (enc : TypeId × Value → H) :
    ReturnsInHanded {} Try.checked os 7 .any (Rows.feedNoneSpec.pre6 enc Try.prog Try.f7 Rows.feedNoneRow.domain false) (Rows.feedNoneSpec.post enc Try.prog Try.f7 false true false false) := by
  refine returnsInHanded_of_change (C := Try.checked) own started (by kernel_rfl) Try.func7
    (ChangeSpec.witness6 (enc := enc) (C := Try.checked) false ⟨#[], #[.string ByteArray.empty, .int .u32 0], []⟩ 8 (by kernel_rfl) (by kernel_rfl) (by kernel_rfl) (by kernel_rfl)) ?_
  intro W base args ds gs before hval0 hW hcnd _
  have hval : ∀ (j : Nat) t v, Try.f7.params[j]? = some t → args[j]? = some v → Value.okWide Try.prog W .any base t v := hval0
  have hW' := hW
  obtain ⟨p, q, hA0, hV, rfl, hfz, hnd⟩ := hW
  have hA : DataW.TrodAll enc Try.prog W 0 (fun _ => true) true Try.f7.params.toList args.toList ds p := hA0
  rw [Try.params7] at hA hval
  obtain ⟨v0, vs0, d0, ds0, p0, q0, hargs, rfl, rfl, h0, r0⟩ := trodAll_cons hA
  obtain ⟨v1, vs1, d1, ds1, p1, q1, rfl, rfl, rfl, h1, r1⟩ := trodAll_cons r0
  obtain ⟨rfl, rfl, rfl⟩ := trodAll_nil r1
  obtain rfl : args = #[v0, v1] := by cases args; simp_all
  obtain ⟨rfl, rfl⟩ := trodVars_none hV
  obtain ⟨s, rfl, rfl, rfl, hs⟩ := open_string Try.underlying9 (hval 0 9 v0 rfl rfl) h0
  obtain ⟨a1, rfl, rfl, rfl, w1⟩ := open_int Try.underlying29 (hval 1 29 v1 rfl rfl) h1
  clear hA0 hval0
  simp only [List.append_nil] at hW'
  refine (walk s a1 W hs).mono fun e W' ⟨he, hg⟩ => ?_
  subst he
  refine ⟨_, rfl, _, _, _, [], [], [], hW', trodAll_cons_mk (shut_bool Try.underlying4 _) trodAll_mk0, (trodAll_cons_mk (shut_string Try.underlying9 hs) (trodAll_cons_mk (shut_int Try.underlying29 w1) trodAll_mk0)), ?_, hg.to_below.frame _, fun h => by cases h⟩
  rfl

theorem over : Rows.feedNoneRow.holds Try.pinned (OpenSpec.ofChange Rows.feedNoneSpec) :=
  OpenClaim.holds_of_wide 7 Try.f7 rfl rfl rfl rfl rfl rfl rfl ⟨rfl, rfl, rfl, rfl, rfl⟩ rfl rfl rfl rfl rfl (by kernel_rfl) Try.func7 (by kernel_rfl)
    (of_decide_eq_true (by kernel_rfl)) (by unfold Func.isWrapper; first | (rw [if_pos (by decide +kernel)]; kernel_rfl) | (rw [if_neg (by decide +kernel)]; exact ⟨rfl, rfl⟩))
    (fun os started H enc _ => lifted os started H enc)
end Go.Proofs.Ytkdienebinnopaa.feedNone
namespace Go.Proofs.Ytkdienebinnopaa
/-- The statement. -/
theorem feedNone_proved : Rows.FeedNoneSaid := feedNone.over
#print axioms feedNone_proved
end Go.Proofs.Ytkdienebinnopaa
