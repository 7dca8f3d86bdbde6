/-
  FeedFulls answers true for all numbers: a feed with as many events as it keeps, and some more, and the longest data. No condition.
-/
import Derived.Test.YtkdienebinnopaaNewA
namespace Go.Proofs.Ytkdienebinnopaa.feedFulls
open Go.ChangeShapes Go.WideShapes Go.ChangeAt Go.RowKit Go.Zn
set_option linter.unusedVariables false

theorem own : ownKnob Try.prog.godebug = none := by kernel_rfl
set_option maxRecDepth 100000 in
set_option maxHeartbeats 3200000 in
theorem walk_bad (a b c : Int) (w : World) (h : a < 1 ∨ (1 ≤ a ∧ 1000 < a) ∨ (1 ≤ a ∧ a ≤ 1000 ∧ b < 0) ∨ (1 ≤ a ∧ a ≤ 1000 ∧ 0 ≤ b ∧ 50 < b) ∨ (1 ≤ a ∧ a ≤ 1000 ∧ 0 ≤ b ∧ b ≤ 50 ∧ c < -2) ∨ (1 ≤ a ∧ a ≤ 1000 ∧ 0 ≤ b ∧ b ≤ 50 ∧ -2 ≤ c ∧ 2 < c)) :
    Calls Try.prog 4 #[.int .i64 a, .int .i64 b, .int .i64 c] w fun e w' => e = .returned (.bool true) ∧ Kept No w w' := by
  rcases h with h | ⟨h, h1⟩ | ⟨h, h1, h2⟩ | ⟨h, h1, h2, h3⟩ | ⟨h, h1, h2, h3, h4⟩ | ⟨h, h1, h2, h3, h4, h5⟩
  all_goals
    go_enter Try.func4, Try.ntmps4
    go_wp2_with fail
    refine (known_ok _).mono ?_
    rintro e w2 ⟨rfl, hk⟩
    go_wp2_with fail
    go_ret
    exact ⟨rfl, hk⟩

def LoopR (w : World) (b rb k m : Nat) (i : Value) (wr : World) : Prop :=
  ∃ (j f a l : Nat) (d : Nat → List UInt8), i = .int .i64 j ∧ 1 ≤ j ∧ j ≤ k + m + 1 ∧ FOk wr b rb ⟨k, f, j, a, l, d⟩ ∧ f = max 1 (j - k) ∧ l = f - 1 ∧ Kept No w wr
theorem bts_zeros (z : Nat) : (madeCells (Value.int .u8 0).cells (z * 1)).toList = bts (List.replicate z 0) := by
  rw [Nat.mul_one]
  show (madeCells #[.int .u8 0] z).toList = _
  rw [toList_madeCells_one, bts, List.map_replicate]
  rfl
set_option maxRecDepth 100000 in
set_option maxHeartbeats 6400000 in
theorem walk_ok (k m : Nat) (c : Int) (w : World) (h1 : 1 ≤ k) (h2 : k ≤ 1000) (h3 : m ≤ 50) (h4 : -2 ≤ c) (h5 : c ≤ 2) :
    Calls Try.prog 4 #[.int .i64 k, .int .i64 m, .int .i64 c] w fun e w' => e = .returned (.bool true) ∧ Kept No w w' := by
  have g1 : (1 : Int) ≤ (k : Int) := by omega
  have g2 : (k : Int) ≤ 1000 := by omega
  have g3 : (0 : Int) ≤ (m : Int) := by omega
  have g4 : (m : Int) ≤ 50 := by omega
  have b1 : decide ((k : Int) < 1) = false := by simp; omega
  have b2 : decide ((1000 : Int) < (k : Int)) = false := by simp; omega
  have b3 : decide ((m : Int) < 0) = false := by simp
  have b4 : decide ((50 : Int) < (m : Int)) = false := by simp; omega
  have b5 : decide (c < -2) = false := by simp; omega
  have b6 : decide (2 < c) = false := by simp; omega
  go_enter Try.func4, Try.ntmps4
  go_wp2_with fail
  refine (new_fs k _ h1 h2).mono ?_
  rintro e w1 ⟨b, rb, rfl, hf, hr1, hr2, hk1⟩
  have HF := Lib.hid hf
  have HK1 := Lib.hid hk1
  have HR1 := Lib.hid (show w.heap.size ≤ rb from hr1)
  have HR2 := Lib.hid hr2
  clear hf hk1 hr1 hr2 b1 b2 b3 b4 b5 b6
  go_wp2_with fail
  go_loopw [9] (fun i wr => LoopR w b rb k m i wr) (fun i _ => k + m + 1 - (intOf i).toNat)
  case atStart => exact ⟨1, 1, 0, 0, fun _ => [], rfl, by omega, by omega, HF.out, by omega, rfl, HK1.out⟩
  case round =>
    obtain ⟨j, f, a, l, d, rfl, hj1, hj2, hs, hsf, hsl, hk⟩ := hrel
    have i1 : (1 : Int) ≤ (j : Int) := by omega
    have i2 : (j : Int) ≤ 1051 := by omega
    have HS := Lib.hid hs
    have HE := Lib.hid (And.intro hsf hsl)
    have HK := Lib.hid hk
    have HJ := Lib.hid hj2
    clear hs hsf hsl hk hj1 hj2
    by_cases hlt : j ≤ k + m
    · have d1 : decide (j ≤ k + m) = true := by simp; exact hlt
      have d2 : decide ((j : Int) ≤ (k : Int) + (m : Int)) = true := by simp; omega
      have HL := Lib.hid hlt
      clear hlt
      go_wp2_with fail
      refine (adds_ok HS.out (by show j + 1 < 4294967295; omega) _ (by decide) _ rfl).mono ?_
      rintro e w2 ⟨rfl, hf2, hk2⟩
      have HF2 := Lib.hid hf2
      have HK2 := Lib.hid hk2
      clear hf2 hk2 d1 d2
      go_wp2_with fail
      have e1 : (j : Int) + 1 = ((j + 1 : Nat) : Int) := by omega
      rw [e1]
      have hl := HL.out
      obtain ⟨q3, q4⟩ := HE.out
      have r1 := HR1.out
      have r2 := HR2.out
      refine ⟨⟨j + 1, _, _, _, _, rfl, by omega, by omega, HF2.out, ?_, ?_, HK.out.new HK2.out (fun i e => by rcases e with e | e <;> omega)⟩, by simp [intOf]; omega⟩
      · dsimp only; split <;> omega
      · dsimp only; split <;> omega
    · have d1 : decide (j ≤ k + m) = false := by simp; omega
      have d2 : decide ((j : Int) ≤ (k : Int) + (m : Int)) = false := by simp; omega
      obtain ⟨q3, q4⟩ := HE.out
      have hjk : j = k + m + 1 := by have := HJ.out; omega
      obtain rfl : f = m + 1 := by omega
      obtain rfl : m = l := by omega
      have hs := HS.out
      clear HE q3 q4 hlt
      have HS := Lib.hid hs
      have c2 := hs.1.hf.c2
      have c4 := hs.1.hf.c4
      have HJK := Lib.hid hjk
      clear hs hjk
      go_wp2_with fail
      refine (ranges_ok HS.out _ _ (by have := HJK.out; simp only [rangeFirst]; rw [if_neg (by omega)]; omega) (by have := HJK.out; show _ = (j : Int) - 1; omega)).mono ?_
      rintro e w2 ⟨rfl, q, rfl⟩
      go_wp2_with fail
      refine (lost_any b _ _ (wr.drewN q) c2 c4 (by omega)).mono ?_
      rintro e w2 ⟨rfl, rfl⟩
      obtain ⟨z, hz⟩ := Int.eq_ofNat_of_zero_le (show 0 ≤ 65535 - c by omega)
      obtain ⟨iz, hiz, hz0, hz1, hz2⟩ := ei36.hi
      have hbz : iz.bytes * z ≤ 281474976710656 := by rw [hz2]; omega
      have HZB := Lib.hid hbz
      have HZ := Lib.hid hz
      clear hz2 hbz hz
      obtain ⟨str, hstr⟩ : ∃ str, Zn.strOf (List.replicate z 0) = str := ⟨_, rfl⟩
      have hsz : str.size = z := by rw [← hstr]; show (List.replicate z (0 : UInt8)).toArray.size = z; simp
      have hsz2 : (str.size : Int) = 65535 - c := by rw [hsz]; exact HZ.out.symm
      have HSZ2 := Lib.hid hsz2
      have HCV : Hid (∀ w2 : World, w2.ownsRow (wr.drewN q).heap.size 5 1 (.slice (some ⟨wr.heap.size, 0, none⟩) z z) z (bts (List.replicate z 0)) → (convert 36 9 (.slice (some ⟨wr.heap.size, 0, none⟩) z z)).run Try.prog w2 = .ok (.string str) w2) := fun w2 h => by
        rw [← hstr]
        exact run_string_rd (P := Try.prog) (src := 36) (e := 5) (dst := 9) Try.underlying36 Try.underlying5 Try.underlying9 (rd_owned h)
      clear hsz hsz2 hstr
      by_cases hneg : c < 0
      · have d3 : decide (c < 0) = true := by simp; exact hneg
        go_wp2_with (at_make; (refine wpList_make_full _ rfl _ _ 36 rfl (wr.drewN q).heap.size 5 iz (.int .u8 0) 1 Try.underlying36 hiz hz0 hz1 _ _ _ _ z rfl rfl HZ.out HZ.out HZB.out (by have := HZ.out; unfold maxLen; omega) (Nat.le_refl _) ?_); intro w2 hown hg; rw [bts_zeros] at hown; have hcv := HCV.out w2 hown; have HOWN := Lib.hid hown; have HG := Lib.hid hg; clear hown hg)
        have hk2 : Kept No wr w2 := ((Kept.refl No wr).drewN q).grown HG.out (fun k e => by cases e)
        have HK2 := Lib.hid hk2
        clear hk2 hcv
        refine (adds_long (HS.out.no HK2.out) str (by have := HSZ2.out; omega) (by have := HSZ2.out; unfold maxLen; omega)).mono ?_
        rintro e w3 ⟨rfl, hf3, hk3⟩
        have HF3 := Lib.hid hf3
        have HK3 := Lib.hid hk3
        clear hf3 hk3
        go_wp2_with fail
        refine (ranges_ok HF3.out _ _ (by have := HJK.out; simp only [rangeFirst]; rw [if_neg (by omega)]; omega) (by have := HJK.out; show _ = (j : Int) - 1; omega)).mono ?_
        rintro e w4 ⟨rfl, q4, rfl⟩
        go_wp2_with fail
        refine (known_ok _).mono ?_
        rintro e w5 ⟨rfl, hk5⟩
        have HK5 := Lib.hid hk5
        clear hk5
        go_wp2_with fail
        go_ret
        have r1 := HR1.out
        have r2 := HR2.out
        exact ⟨rfl, (((HK.out.and HK2.out).new HK3.out (fun i e => by rcases e with e | e <;> omega)).drewN _).and HK5.out⟩
      · have d3 : decide (c < 0) = false := by simp; omega
        go_wp2_with (at_make; (refine wpList_make_full _ rfl _ _ 36 rfl (wr.drewN q).heap.size 5 iz (.int .u8 0) 1 Try.underlying36 hiz hz0 hz1 _ _ _ _ z rfl rfl HZ.out HZ.out HZB.out (by have := HZ.out; unfold maxLen; omega) (Nat.le_refl _) ?_); intro w2 hown hg; rw [bts_zeros] at hown; have hcv := HCV.out w2 hown; have HOWN := Lib.hid hown; have HG := Lib.hid hg; clear hown hg)
        have hk2 : Kept No wr w2 := ((Kept.refl No wr).drewN q).grown HG.out (fun k e => by cases e)
        have HK2 := Lib.hid hk2
        clear hk2 hcv
        refine (adds_ok (HS.out.no HK2.out) (by show j + 1 < 4294967295; omega) str (by have := HSZ2.out; omega) _ (by have := HJK.out; show _ = (j : Int); omega)).mono ?_
        rintro e w3 ⟨rfl, hf3, hk3⟩
        have hadd : FS.add ⟨k, m + 1, j, a, m, d⟩ str.data.toList = ⟨k, m + 2, k + m + 2, a, m + 1, upd d j str.data.toList⟩ := by
          have := HJK.out
          simp only [FS.add]
          rw [if_pos (by omega), if_pos (by omega)]
          congr 1
          omega
        rw [hadd] at hf3
        have HUP : Hid (upd d j str.data.toList (k + m + 1) = str.data.toList) := by have := HJK.out; show _ = _; simp [upd, this]
        have HF3 := Lib.hid hf3
        have HK3 := Lib.hid hk3
        have e2 := hf3.1.hf.c2
        have e4 := hf3.1.hf.c4
        clear hf3 hk3 hadd c2 c4
        go_wp2_with fail
        refine (lost_any b _ _ _ e2 e4 (by omega)).mono ?_
        rintro e w4 ⟨rfl, rfl⟩
        clear e2 e4
        go_wp2_with fail
        have ex : ((k : Int) + (m : Int) + 1) = ((k + m + 1 : Nat) : Int) := by omega
        rw [ex]
        refine (since_any b rb _ _ _ _ _ (k + m + 1) _ _ HF3.out.1 (by omega)).mono ?_
        rintro e w5 ⟨v5, rfl, hev, hk5⟩
        have hl : (List.range' (max (k + m + 1) (m + 2)) (k + m + 2 - max (k + m + 1) (m + 2))).map (fun x => (x, upd d j str.data.toList x)) = [(k + m + 1, str.data.toList)] := by
          rw [show max (k + m + 1) (m + 2) = k + m + 1 by omega, show k + m + 2 - (k + m + 1) = 1 by omega]
          simp [HUP.out]
        rw [hl] at hev
        have hrd := hev.rd
        obtain ⟨ad5, cap5, rfl⟩ := hrd.slice
        obtain ⟨g5, off5, e5, dd5, dc5, rfl, hle, hc1, hc2, hr5⟩ := hrd.at (i := 0) (by simp)
        obtain rfl : (k + m + 1, str.data.toList) = e5 := by simpa using hle
        simp only [Nat.zero_mul, Nat.add_zero, List.length_singleton, bsize] at hc2 ⊢
        have HK5 := Lib.hid hk5
        clear hev hrd hle hc1 hr5 hk5 hl ex
        go_wp2_with fail
        refine (known_ok _).mono ?_
        rintro e w6 ⟨rfl, hk6⟩
        have HK6 := Lib.hid hk6
        clear hk6
        go_wp2_with fail
        go_ret
        have r1 := HR1.out
        have r2 := HR2.out
        exact ⟨rfl, ((((HK.out.and HK2.out).new HK3.out (fun i e => by rcases e with e | e <;> omega))).and HK5.out).and HK6.out⟩
theorem walk (a b c : Int) (w : World) : Calls Try.prog 4 #[.int .i64 a, .int .i64 b, .int .i64 c] w fun e w' => e = .returned (.bool true) ∧ Kept No w w' := by
  by_cases h : a < 1 ∨ (1 ≤ a ∧ 1000 < a) ∨ (1 ≤ a ∧ a ≤ 1000 ∧ b < 0) ∨ (1 ≤ a ∧ a ≤ 1000 ∧ 0 ≤ b ∧ 50 < b) ∨ (1 ≤ a ∧ a ≤ 1000 ∧ 0 ≤ b ∧ b ≤ 50 ∧ c < -2) ∨ (1 ≤ a ∧ a ≤ 1000 ∧ 0 ≤ b ∧ b ≤ 50 ∧ -2 ≤ c ∧ 2 < c)
  · exact walk_bad a b c w h
  · obtain ⟨k, rfl⟩ := Int.eq_ofNat_of_zero_le (show 0 ≤ a by omega)
    obtain ⟨m, rfl⟩ := Int.eq_ofNat_of_zero_le (show 0 ≤ b by omega)
    exact walk_ok k m c w (by omega) (by omega) (by omega) (by omega) (by omega)
set_option maxRecDepth 100000 in
theorem lifted (os : Os) (started : os.Started) (H : Type) (enc : TypeId × Value → H) :
    ReturnsInHanded {} Try.checked os 4 .any (Rows.feedFullsSpec.pre6 enc Try.prog Try.f4 Rows.feedFullsRow.domain false) (Rows.feedFullsSpec.post enc Try.prog Try.f4 false true false false) := by
  refine returnsInHanded_of_change (C := Try.checked) own started (by kernel_rfl) Try.func4
    (ChangeSpec.witness6 (enc := enc) (C := Try.checked) false ⟨#[], #[.int .i64 0, .int .i64 0, .int .i64 0], []⟩ 8 (by kernel_rfl) (by kernel_rfl) (by kernel_rfl) (by kernel_rfl)) ?_
  intro W base args ds gs before hval0 hW hcnd _
  have hval : ∀ (j : Nat) t v, Try.f4.params[j]? = some t → args[j]? = some v → Value.okWide Try.prog W .any base t v := hval0
  have hW' := hW
  obtain ⟨p, q, hA0, hV, rfl, hfz, hnd⟩ := hW
  have hA : DataW.TrodAll enc Try.prog W 0 (fun _ => true) true Try.f4.params.toList args.toList ds p := hA0
  rw [Try.params4] at hA hval
  obtain ⟨v0, vs0, d0, ds0, p0, q0, hargs, rfl, rfl, h0, r0⟩ := trodAll_cons hA
  obtain ⟨v1, vs1, d1, ds1, p1, q1, rfl, rfl, rfl, h1, r1⟩ := trodAll_cons r0
  obtain ⟨v2, vs2, d2, ds2, p2, q2, rfl, rfl, rfl, h2, r2⟩ := trodAll_cons r1
  obtain ⟨rfl, rfl, rfl⟩ := trodAll_nil r2
  obtain rfl : args = #[v0, v1, v2] := by cases args; simp_all
  obtain ⟨rfl, rfl⟩ := trodVars_none hV
  obtain ⟨a0, rfl, rfl, rfl, w0⟩ := open_int Try.underlying3 (hval 0 3 v0 rfl rfl) h0
  obtain ⟨a1, rfl, rfl, rfl, w1⟩ := open_int Try.underlying3 (hval 1 3 v1 rfl rfl) h1
  obtain ⟨a2, rfl, rfl, rfl, w2⟩ := open_int Try.underlying3 (hval 2 3 v2 rfl rfl) h2
  clear hA0 hval0
  simp only [List.append_nil] at hW'
  refine (walk a0 a1 a2 W).mono fun e W' ⟨he, hg⟩ => ?_
  subst he
  refine ⟨_, rfl, _, _, _, [], [], [], hW', trodAll_cons_mk (shut_bool Try.underlying4 _) trodAll_mk0, (trodAll_cons_mk (shut_int Try.underlying3 w0) (trodAll_cons_mk (shut_int Try.underlying3 w1) (trodAll_cons_mk (shut_int Try.underlying3 w2) trodAll_mk0))), ?_, hg.to_below.frame _, fun h => by cases h⟩
  rfl

theorem over : Rows.feedFullsRow.holds Try.pinned (OpenSpec.ofChange Rows.feedFullsSpec) :=
  OpenClaim.holds_of_wide 4 Try.f4 rfl rfl rfl rfl rfl rfl rfl ⟨rfl, rfl, rfl, rfl, rfl⟩ rfl rfl rfl rfl rfl (by kernel_rfl) Try.func4 (by kernel_rfl)
    (of_decide_eq_true (by kernel_rfl)) (by unfold Func.isWrapper; first | (rw [if_pos (by decide +kernel)]; kernel_rfl) | (rw [if_neg (by decide +kernel)]; exact ⟨rfl, rfl⟩))
    (fun os started H enc _ => lifted os started H enc)

end Go.Proofs.Ytkdienebinnopaa.feedFulls
namespace Go.Proofs.Ytkdienebinnopaa
/-- The statement. -/
theorem feedFulls_proved : Rows.FeedFullsSaid := feedFulls.over
#print axioms feedFulls_proved
end Go.Proofs.Ytkdienebinnopaa
