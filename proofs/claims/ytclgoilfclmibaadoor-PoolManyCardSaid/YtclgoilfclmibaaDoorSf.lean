/-
  Pool: PoolMany: the greatest pool, and one card more.
-/
import Derived.Test.YtclgoilfclmibaaDoorSe
set_option linter.unusedVariables false
set_option linter.unusedSimpArgs false
namespace Go.Proofs.YtclgoilfclmibaaDoor
open Go Go.RowKit Go.Zn
attribute [local go_sem] Oper.semAt_some

theorem penc_le {l : List Crd} (hw : wrongF l = 0) : (penc l).length ≤ 500000 := by
  obtain ⟨h400, hval, _⟩ := wrong_out hw
  have := cencs_len hval
  rw [penc_len]
  unfold body
  rw [List.length_append, be2_len]; omega
def MnRel (r : Int) (n : Nat) (w : World) (lv iv : Value) (W : World) : Prop := ∃ i : Nat, iv = .int .i64 (i : Nat) ∧ i ≤ n ∧ ManyS r w i lv W
set_option maxRecDepth 100000 in
set_option maxHeartbeats 16000000 in
theorem poolmany_any (more r : Int) (w : World) : Calls Tryd.prog 3 #[.int .i64 more, .int .i64 r] w fun e w' => e = .returned (.bool true) ∧ Kept No w w' := by
  by_cases t1 : more < -2
  · go_enter Tryd.func3, Tryd.ntmps3
    go_wp2_with fail
    refine (known_any _).mono ?_
    rintro e w99 ⟨rfl, hk99⟩
    have HK99 := Lib.hid hk99
    clear hk99
    go_wp2_with fail
    go_ret
    exact ⟨rfl, HK99.out⟩
  by_cases t2 : 2 < more
  · go_enter Tryd.func3, Tryd.ntmps3
    go_wp2_with fail
    refine (known_any _).mono ?_
    rintro e w99 ⟨rfl, hk99⟩
    have HK99 := Lib.hid hk99
    clear hk99
    go_wp2_with fail
    go_ret
    exact ⟨rfl, HK99.out⟩
  by_cases t3 : r < 1
  · go_enter Tryd.func3, Tryd.ntmps3
    go_wp2_with fail
    refine (known_any _).mono ?_
    rintro e w99 ⟨rfl, hk99⟩
    have HK99 := Lib.hid hk99
    clear hk99
    go_wp2_with fail
    go_ret
    exact ⟨rfl, HK99.out⟩
  by_cases t4 : 4 < r
  · go_enter Tryd.func3, Tryd.ntmps3
    go_wp2_with fail
    refine (known_any _).mono ?_
    rintro e w99 ⟨rfl, hk99⟩
    have HK99 := Lib.hid hk99
    clear hk99
    go_wp2_with fail
    go_ret
    exact ⟨rfl, HK99.out⟩
  obtain ⟨n, hn⟩ : ∃ n : Nat, 400 + more = (n : Nat) := ⟨(400 + more).toNat, by omega⟩
  have hw : wrap64 (400 + more) = (n : Nat) := by rw [hn]; exact IntWalk.wrap64_in _ (by omega)
  have hw2 : wrap64 ((n : Nat) : Int) = (n : Nat) := IntWalk.wrap64_in _ (by omega)
  have HN := Lib.hid (show 398 ≤ n ∧ n ≤ 402 by omega)
  have HMR := Lib.hid (show more = (n : Int) - 400 by omega)
  have HR := Lib.hid (show 1 ≤ r ∧ r ≤ 4 by omega)
  go_enter Tryd.func3, Tryd.ntmps3
  go_wp2_with fail
  clear t1 t2 t3 t4
  go_loopw [5, 6] (fun lv iv wr => MnRel r n w lv iv wr) (fun _ iv _ => n - (intOf iv).toNat)
  case atStart =>
    exact ⟨0, rfl, Nat.zero_le _, ⟨rfl, .inl ⟨rfl, rfl⟩⟩, Kept.refl No w⟩
  case round =>
    obtain ⟨i, rfl, hi, hs⟩ := hrel
    have HS := Lib.hid hs
    obtain ⟨ad, cap, rfl⟩ := owned_slice hs.1
    by_cases hlt : i < n
    · have hi0 : (0 : Int) ≤ (i : Int) := by omega
      have hin : (i : Int) < (n : Int) := by omega
      have hn2 := HN.out
      have q0 : wrap64 ((i : Int) / 26) = (i : Int) / 26 := IntWalk.wrap64_in _ (by omega)
      have q1 : wrap64 (97 + (i : Int) / 26) = 97 + (i : Int) / 26 := IntWalk.wrap64_in _ (by omega)
      have q3 : (97 + (i : Int) / 26) % 256 = 97 + (i : Int) / 26 := by omega
      have q4 : IntKind.i64.wrap ((i : Int) + 1) = (i : Int) + 1 := IntWalk.i64_in _ (by omega)
      have hcv := run_string_rd (P := Tryd.prog) Tryd.underlying24 Tryd.underlying5 Tryd.underlying9 (rd_b2 wr (b0 := bt (97 + (i : Int) / 26)) (b1 := bt (97 + (i : Int) % 26)) (bt_in (by omega) (by omega)).symm (bt_in (by omega) (by omega)).symm rfl)
      have HSZ := Lib.hid hs.2.size
      have HLE := Lib.hid (show (i + 1) * 152 ≤ 140737488355328 by omega)
      have HRD := Lib.hid (show Rd ((wr.alloc (.cells #[.int .u8 (97 + (i : Int) / 26), .int .u8 (97 + (i : Int) % 26)] 5)).alloc (.cells #[.string (strOf [bt (97 + (i : Int) / 26), bt (97 + (i : Int) % 26)]), .int .i64 1, .int .i64 0, .int .i64 0, .int .i64 0, .int .i64 0, .int .i64 0, .int .i64 ((i : Int) % 4), .int .i64 0, .int .i64 0, .int .i64 0, .slice none 0 0, .slice none 0 0, .int .i64 r] 35)) (fun j => j = wr.heap.size + 1) 14 (.slice (some ⟨wr.heap.size + 1, 0, none⟩) 1 1) 1 (crdCs (cardM r i) (.slice none 0 0) (.slice none 0 0)) from by
        have := rd_newC (wr.alloc (.cells #[.int .u8 (97 + (i : Int) / 26), .int .u8 (97 + (i : Int) % 26)] 5)) (cardM r i) (.slice none 0 0) (.slice none 0 0)
        simp only [World.size_alloc] at this
        exact this)
      have HI := Lib.hid hlt
      clear hs hlt hi hn2
      go_wp2_with (at_builtin; refine wpList_append_rd rfl rfl rfl rfl eiC (owned_kept HS.out.1 (((Kept.refl No wr).alloc _).alloc _) fun _ _ _ => not_no _) HRD.out (crd_one _ rfl rfl) HLE.out (by have := HSZ.out; simp; omega) ?_; intro v2 w2 hown hg _)
      have hI := HI.out
      refine ⟨⟨i + 1, by go_num, by omega, ?_, ?_⟩, by simp [intOf]; omega⟩
      · have e : bareCs (manyM r (i + 1)) = bareCs (manyM r i) ++ crdCs (cardM r i) (.slice none 0 0) (.slice none 0 0) := by
          rw [many_snoc]; unfold bareCs; rw [List.flatMap_append]; simp
        rw [e]; exact hown
      · exact ((HS.out.2.alloc _).alloc _).grown hg (fun k e h => absurd (HS.out.1.lt k e).1 (by omega))
    · obtain rfl : i = n := by omega
      have hin : ¬ ((i : Int) < (i : Int)) := by omega
      have HCR := Lib.hid (fun W (hk : Kept No wr W) => hs.at.no hk)
      have HK0 := Lib.hid hs.2
      have HLEN := Lib.hid (many_len r i)
      clear hs hlt hi
      by_cases c1 : 0 < more
      · have HC1 := Lib.hid c1
        have H400 := Lib.hid (show 400 < i by have := HMR.out; omega)
        have HWR := Lib.hid (fun W (hk : Kept No wr W) => many_long r H400.out ▸ wrong_any (by rw [HLEN.out]; have := HN.out; omega) (many_sm HR.out.1 HR.out.2 (by have := HN.out; omega)) (by rw [many_long r H400.out]; decide) (HCR.out W hk))
        have HEN := Lib.hid (rencode_any (HCR.out wr (Kept.refl No wr)) (by rw [HLEN.out]; have := HN.out; omega) (many_valid HR.out.1 HR.out.2 (by have := HN.out; omega)))
        have HPL := Lib.hid (show (penc (manyM r i)).length ≤ 1000000 by
          have h1 := penc_len (manyM r i)
          have h2 := cencs_len (many_valid HR.out.1 HR.out.2 (n := i) (by have := HN.out; omega))
          have h3 : (body (manyM r i)).length = 2 + ((manyM r i).flatMap cenc).length := by unfold body; rw [List.length_append, be2_len]
          rw [HLEN.out] at h2
          have := HN.out
          omega)
        go_wp2_with fail
        refine HEN.out.mono ?_
        rintro e w2 ⟨vb, rfl, hb, hk2⟩
        have HB := Lib.hid hb
        have HK2 := Lib.hid hk2
        clear hb hk2
        go_wp2_with fail
        refine (HWR.out _ HK2.out).mono ?_
        rintro e w3 ⟨rfl, hk3⟩
        have HK3 := Lib.hid (HK2.out.and hk3)
        have HD := Lib.hid (decodes_any HPL.out (by rw [many_enc (by rw [HLEN.out]; exact H400.out) (by rw [HLEN.out]; have := HN.out; omega)]; decide) (rd_no (rd_owned HB.out) hk3))
        rw [many_enc (by rw [HLEN.out]; exact H400.out) (by rw [HLEN.out]; have := HN.out; omega)] at HD
        clear hk3
        go_wp2_with fail
        refine HD.out.mono ?_
        rintro e w4 ⟨rfl, hk4⟩
        have HK4 := Lib.hid (HK3.out.and hk4)
        clear hk4
        go_wp2_with fail
        refine (known_any _).mono ?_
        rintro e w99 ⟨rfl, hk99⟩
        have HK99 := Lib.hid hk99
        clear hk99
        go_wp2_with fail
        go_ret
        exact ⟨rfl, (HK0.out.and HK4.out).and HK99.out⟩
      · have H400 := Lib.hid (show i ≤ 400 by have := HMR.out; omega)
        have HW := Lib.hid (many_wrong HR.out.1 HR.out.2 H400.out)
        have q5 : IntKind.i64.wrap (5 - r) = 5 - r := IntWalk.i64_in _ (by have := HR.out; omega)
        have HSM := Lib.hid (many_sm HR.out.1 HR.out.2 (n := i) (by have := H400.out; omega))
        have HLM := Lib.hid (show (manyM r i).length ≤ 1000000 by rw [HLEN.out]; have := H400.out; omega)
        have HPL := Lib.hid (penc_le HW.out)
        have HS1 := Lib.hid (many_sel (r := r) (n := i))
        have HS2 := Lib.hid (many_none HR.out.1 HR.out.2 (n := i))
        obtain ⟨l, hl⟩ : ∃ l, manyM r i = l := ⟨_, rfl⟩
        rw [hl] at HCR HLEN HW HSM HLM HPL HS1 HS2
        clear hl
        go_wp2_with fail
        refine (pnew_any HLM.out HSM.out (HCR.out wr (Kept.refl No wr))).mono ?_
        rintro e w8 ⟨hk8, ⟨_, p, rfl, hp⟩ | ⟨hw8, _⟩⟩
        rotate_left
        · exact absurd HW.out hw8
        obtain ⟨pg, pm, pv, rfl, hpis⟩ := hp
        have HP8 := Lib.hid (show PoolAt w8 (fun _ => True) (.pointer (some ⟨pg, 0, none⟩)) l from PoolAt.mono ⟨pg, pm, pv, rfl, hpis⟩ (fun _ _ _ => trivial))
        have HK8 := Lib.hid hk8
        clear hk8 hpis
        go_wp2_with fail
        refine (looks_any HW.out HP8.out (HCR.out _ HK8.out)).mono ?_
        rintro e w9 ⟨rfl, hk9⟩
        have HK9 := Lib.hid (HK8.out.and hk9)
        have HP9 := Lib.hid (HP8.out.no hk9)
        clear hk9
        go_wp2_with fail
        refine (select_any 0 r HP9.out HLM.out).mono ?_
        rintro e w10 ⟨v10, rfl, h10, hk10⟩
        obtain ⟨ad10, cap10, rfl⟩ := owned_slice h10
        rw [HS1.out]
        have HK10 := Lib.hid (HK9.out.and hk10)
        have HP10 := Lib.hid (HP9.out.no hk10)
        clear hk10 h10
        go_wp2_with fail
        refine (select_any 0 (5 - r) HP10.out HLM.out).mono ?_
        rintro e w11 ⟨v11, rfl, h11, hk11⟩
        obtain ⟨ad11, cap11, rfl⟩ := owned_slice h11
        rw [HS2.out]
        have HK11 := Lib.hid (HK10.out.and hk11)
        have HP11 := Lib.hid (HP10.out.no hk11)
        clear hk11 h11
        go_wp2_with fail
        refine (pencode_any HP11.out HW.out).mono ?_
        rintro e w12 ⟨vx, rfl, hx, hk12⟩
        have HK12 := Lib.hid (HK11.out.and hk12)
        have HD := Lib.hid (pdecode_any (by have := HPL.out; omega) (rd_owned hx))
        clear hx hk12
        go_wp2_with fail
        refine HD.out.mono ?_
        rintro e w13 ⟨hk13, hq⟩
        rw [pdec_enc HW.out] at hq
        obtain ⟨_, q, rfl, hq⟩ | ⟨h0, _⟩ := hq
        rotate_left
        · exact absurd rfl h0
        obtain ⟨qg, qm, qv, rfl, hqis⟩ := hq
        have HQ := Lib.hid (show PoolAt w13 (fun _ => True) (.pointer (some ⟨qg, 0, none⟩)) l from PoolAt.mono ⟨qg, qm, qv, rfl, hqis⟩ (fun _ _ _ => trivial))
        have HK13 := Lib.hid (HK12.out.and hk13)
        clear hk13 hqis
        go_wp2_with fail
        refine (looks_any HW.out HQ.out (HCR.out _ HK13.out)).mono ?_
        rintro e w14 ⟨rfl, hk14⟩
        have HK14 := Lib.hid (HK13.out.and hk14)
        clear hk14
        go_wp2_with fail
        refine (known_any _).mono ?_
        rintro e w99 ⟨rfl, hk99⟩
        have HK99 := Lib.hid hk99
        clear hk99
        go_wp2_with fail
        go_ret
        exact ⟨rfl, (HK0.out.and HK14.out).and HK99.out⟩
end Go.Proofs.YtclgoilfclmibaaDoor
