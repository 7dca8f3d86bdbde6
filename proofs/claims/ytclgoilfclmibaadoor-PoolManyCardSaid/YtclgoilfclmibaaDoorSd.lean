/-
  Pool: the document's bytes of a pool.
-/
import Derived.Test.YtclgoilfclmibaaDoorSc
set_option linter.unusedVariables false
set_option linter.unusedSimpArgs false
namespace Go.Proofs.YtclgoilfclmibaaDoor
open Go Go.RowKit Go.Zn
attribute [local go_sem] Oper.semAt_some

set_option maxRecDepth 100000 in
set_option maxHeartbeats 4000000 in
theorem rencode_any {w : World} {B : Nat → Prop} {vl : Value} {l : List Crd} (hl : CrdsAt w B vl l) (h400 : l.length ≤ 900) (hval : ∀ c ∈ l, cvalid c = true) : Calls Tryd.prog 7 #[vl] w (RowPost (penc l) w) := by
  obtain ⟨ad, cap, rfl⟩ := hl.slice
  have HP := Lib.hid hl
  have HVAL := Lib.hid hval
  obtain ⟨n, hn⟩ : ∃ n, l.length = n := ⟨_, rfl⟩
  have HN := Lib.hid hn
  have HB0 := Lib.hid (show (body l).length ≤ 1000000 by
    have := cencs_len hval
    unfold body
    rw [List.length_append, be2_len]; omega)
  rw [hn] at h400 HP ⊢
  have HL := Lib.hid h400
  clear hn hval hl
  go_enter Tryd.func7, Tryd.ntmps7
  go_wp2_with fail
  go_loopw [3, 4] (fun ov iv wr => PeRel l w ov iv wr) (fun _ iv _ => n - (intOf iv).toNat)
  case atStart =>
    refine ⟨0, rfl, Nat.zero_le _, ?_, (Kept.refl No w).alloc _⟩
    rw [HN.out, List.take_zero, List.flatMap_nil, List.append_nil]
    refine own_b2 w ?_ ?_ (Nat.le_refl _)
    all_goals
      rw [bt_nat] <;> omega
  case round =>
    obtain ⟨i, rfl, hi, ho, hk⟩ := hrel
    rw [HN.out] at hi
    obtain ⟨ado, cpo, rfl⟩ := owned_slice ho
    have HK := Lib.hid hk
    by_cases hlt : i < n
    · have hil : i < l.length := by rw [HN.out]; exact hlt
      obtain ⟨c, hc⟩ : ∃ c, l[i]? = some c := ⟨_, List.getElem?_eq_getElem hil⟩
      obtain ⟨b, off, cap1, ev, tv, hs, hcap, hrg, hca⟩ := (HP.out.no hk).at hc
      obtain ⟨ade, cape, rfl⟩ := rd_slice hca.effs
      obtain ⟨adt, capt, rfl⟩ := hca.trgs.slice
      rw [HN.out] at hs
      cases hs
      have hcv := HVAL.out c (List.mem_of_getElem? hc)
      have HRG := Lib.hid (show wr.rangeAt b (off + i * 14) [.string (strOf c.name), .int .i64 c.kind, .int .i64 c.o0, .int .i64 c.o1, .int .i64 c.o2, .int .i64 c.o3, .int .i64 c.any, .int .i64 c.makes, .int .i64 c.power, .int .i64 c.tough, .int .i64 c.keys, .slice ade c.effs.length cape, .slice adt c.trgs.length capt, .int .i64 c.rarity] from hrg)
      have HCE := Lib.hid (rcencode_any hcv hca)
      have hcl := cenc_len hcv
      have htl := cencs_len (l := l.take i) (fun x hx => HVAL.out x (List.mem_of_mem_take hx))
      rw [List.length_take] at htl
      have HTK := Lib.hid (show (l.take (i + 1)).flatMap cenc = (l.take i).flatMap cenc ++ cenc c by rw [List.take_add_one, hc]; simp)
      obtain ⟨bs, hbs⟩ : ∃ bs, be2 l.length ++ (l.take i).flatMap cenc = bs := ⟨_, rfl⟩
      have hbl : bs.length ≤ 2 + 1000 * n := by
        rw [← hbs, List.length_append, be2_len]; omega
      rw [hbs] at ho ⊢
      obtain ⟨mb, hmb⟩ : ∃ mb, bs.length = mb := ⟨_, rfl⟩
      obtain ⟨mc, hmc⟩ : ∃ mc, (cenc c).length = mc := ⟨_, rfl⟩
      have HMC := Lib.hid hmc
      have HMB := Lib.hid hmb
      have HBS := Lib.hid hbs
      have ho2 : wr.ownsRow w.heap.size 5 1 (.slice ado bs.length cpo) bs.length (bts bs) := ho
      rw [hmb] at ho2 hbl ⊢
      rw [hmc] at hcl
      have HO := Lib.hid ho2
      have HLE := Lib.hid (show (mb + mc) * 1 ≤ 140737488355328 by have := HL.out; omega)
      have d1 : decide (i < n) = true := decide_eq_true hlt
      have hi0 : (0 : Int) ≤ (i : Int) := by omega
      have hin : (i : Int) < (n : Int) := by omega
      have q4 : IntKind.i64.wrap ((i : Int) + 1) = (i : Int) + 1 := IntWalk.i64_in _ (by have := HL.out; omega)
      have HI := Lib.hid hlt
      clear ho ho2 hk hlt hil hc hrg hca htl hcap hcv hcl hbs hmb hmc hbl
      go_wp2_with (with_reducible refine wpList_load_mid rfl 35 _ rfl b (off + i * 14) rfl [.string (strOf c.name), .int .i64 c.kind, .int .i64 c.o0, .int .i64 c.o1, .int .i64 c.o2, .int .i64 c.o3, .int .i64 c.any, .int .i64 c.makes, .int .i64 c.power, .int .i64 c.tough, .int .i64 c.keys, .slice ade c.effs.length cape, .slice adt c.trgs.length capt, .int .i64 c.rarity] _ HRG.out Tryd.underlying35 rfl (by kernel_rfl) ?_)
      refine HCE.out.mono ?_
      rintro e w2 ⟨vc, rfl, hc2, hk2⟩
      obtain ⟨adc, cpc, rfl⟩ := owned_slice hc2
      have hc3 : w2.ownsRow wr.heap.size 5 1 (.slice adc (cenc c).length cpc) (cenc c).length (bts (cenc c)) := hc2
      rw [HMC.out] at hc3 ⊢
      have HC2 := Lib.hid (rd_owned hc3)
      have HK2 := Lib.hid (HK.out.and hk2)
      have HO2 := Lib.hid (owned_kept HO.out hk2 fun _ _ _ => not_no _)
      have HSZ := Lib.hid (HK2.out.size)
      clear hk2 hc2 hc3
      go_wp2_with (at_builtin; refine wpList_append_rd rfl rfl rfl rfl ei8 HO2.out HC2.out (bts_one _) HLE.out HSZ.out ?_; intro v5 w5 hown5 hg5 _)
      have hI := HI.out
      refine ⟨⟨i + 1, by go_num, by rw [HN.out]; omega, ?_, ?_⟩, by simp [intOf]; omega⟩
      · rw [HTK.out, ← List.append_assoc, HBS.out]
        show w5.ownsRow _ _ _ _ (bs ++ cenc c).length (bts (bs ++ cenc c))
        rw [List.length_append, HMB.out, HMC.out, bts_app]
        exact hown5
      · exact HK2.out.grown hg5 (fun k e h => absurd (HO2.out.lt k e).1 (by omega))
    · have d1 : decide (i < n) = false := decide_eq_false hlt
      have hR : be2 l.length ++ (l.take i).flatMap cenc = body l := by rw [List.take_of_length_le (by rw [HN.out]; omega)]; rfl
      rw [hR] at ho ⊢
      have HO := Lib.hid (show wr.ownsRow w.heap.size 5 1 (.slice ado (body l).length cpo) (body l).length (bts (body l)) from ho)
      have HS := Lib.hid (rsum_any (by have := HB0.out; omega) (rd_owned ho))
      have HPT := Lib.hid (fun w' => rword_any (sumF_lt (body l)) w')
      obtain ⟨mb, hmb⟩ : ∃ mb, (body l).length = mb := ⟨_, rfl⟩
      have HMB := Lib.hid hmb
      obtain ⟨s, hs⟩ : ∃ s, sumF (body l) = s := ⟨_, rfl⟩
      have HSS := Lib.hid hs
      rw [hmb] at HS HO ⊢
      rw [hs] at HS HPT
      clear hlt hk ho hmb hs hR
      go_wp2_with fail
      refine HS.out.mono ?_
      rintro e w2 ⟨rfl, rfl⟩
      go_wp2_with fail
      refine (HPT.out _).mono ?_
      rintro e w3 ⟨v4, rfl, hb4, hk4⟩
      have HB4 := Lib.hid (rd_owned hb4)
      have HK4 := Lib.hid hk4
      have HO4 := Lib.hid (owned_kept HO.out hk4 fun _ _ _ => not_no _)
      rw [be4_len] at HB4
      have HSZ := Lib.hid (HK.out.and hk4).size
      clear hb4 hk4
      go_wp2_with (at_builtin; refine wpList_append_rd (xv := v4) rfl rfl rfl rfl ei8 HO4.out HB4.out (bts_one _) (by have := HB0.out; rw [HMB.out] at this; omega) HSZ.out ?_; intro v5 w5 hown5 hg5 _)
      go_ret
      refine ⟨_, rfl, ?_, (HK.out.and HK4.out).grown hg5 (fun k e h => absurd (HO4.out.lt k e).1 (by omega))⟩
      have hp : penc l = body l ++ be4 s := by unfold penc; rw [HSS.out]
      rw [hp]
      show w5.ownsRow _ _ _ _ (body l ++ be4 s).length _
      rw [List.length_append, HMB.out, be4_len, bts_app]
      exact hown5
end Go.Proofs.YtclgoilfclmibaaDoor
