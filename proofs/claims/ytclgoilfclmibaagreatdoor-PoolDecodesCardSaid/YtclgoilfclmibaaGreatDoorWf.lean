/-
  Pool: PoolDecodes: the pool with any bytes, or the errors, and check sums.
-/
import Derived.Test.YtclgoilfclmibaaGreatDoorWd
set_option linter.unusedVariables false
set_option linter.unusedSimpArgs false
namespace Go.Proofs.YtclgoilfclmibaaGreatDoor
open Go Go.RowKit Go.Zn
attribute [local go_sem] Oper.semAt_some

theorem rd_b4 (w : World) {y0 y1 y2 y3 : Int} {b0 b1 b2 b3 : UInt8} (h0 : y0 = (b0.toNat : Int)) (h1 : y1 = (b1.toNat : Int)) (h2 : y2 = (b2.toNat : Int)) (h3 : y3 = (b3.toNat : Int)) {k : Nat} (hk : k = w.heap.size) : Rd (w.alloc (.cells #[.int .u8 y0, .int .u8 y1, .int .u8 y2, .int .u8 y3] 5)) (fun i => i = k) 1 (.slice (some ⟨k, 0, none⟩) 4 4) 4 (bts [b0, b1, b2, b3]) := by
  subst h0 h1 h2 h3 hk
  exact ⟨rfl, by simp [maxLen], .inr ⟨_, 0, 4, rfl, Nat.le_refl _, fun _ => rfl, fun j u hj => by
    rw [Nat.zero_add, obj_cell (heap_alloc_new w _)]
    match j, hj with
    | 0, hj => exact hj
    | 1, hj => exact hj
    | 2, hj => exact hj
    | 3, hj => exact hj⟩⟩
theorem own_take {W : World} {base m : Nat} {v : Value} {b : List UInt8} (h : W.ownsRow base 5 1 v m (bts b)) (hm : 0 < m) {k : Nat} (hk : k ≤ m) : ∃ g cap, v = .slice (some ⟨g, 0, none⟩) m cap ∧ m ≤ cap ∧ W.ownsRow base 5 1 (.slice (some ⟨g, 0, none⟩) k cap) k (bts (b.take k)) := by
  obtain ⟨hx, ⟨hv, hn⟩ | ⟨g, cap, cur, hv, hg, hh, hnc, hcm, hcs, hct⟩⟩ := h
  · omega
  · refine ⟨g, cap, hv, hnc, ?_, .inr ⟨g, cap, cur, rfl, hg, hh, by omega, hcm, hcs, ?_⟩⟩
    · rw [bts_length] at hx ⊢
      rw [List.length_take]; omega
    · have e : bts (b.take k) = (bts b).take k := by simp [bts]
      rw [e, ← hct, List.take_take, Nat.mul_one, Nat.mul_one, Nat.min_eq_left hk]
theorem slice_own {g m cap : Nat} {k : Nat} (hk : k ≤ m) (hc : m ≤ cap) (hm : 0 < m) (W : World) : (Instr.sliceAt 51 (.slice (some ⟨g, 0, none⟩) m cap) none (some (.int .i64 (k : Nat))) none).run Tryz.prog W = .ok (.slice (some ⟨g, 0, none⟩) k cap) W := by
  have hsz : ∀ W, (sizeOf (Tryz.prog.elem 51)).run Tryz.prog W = .ok 1 W := fun W => by kernel_rfl
  have hel : Tryz.prog.underlying 51 = some (.slice (Tryz.prog.elem 51)) := by kernel_rfl
  rw [run_sliceAt_slice W _ _ _ _ _ hel, run_slice_h W _ _ _ _ hel .i64 _ (by omega) (by omega), hsz]
  show Result.ok _ W = _
  unfold sliced
  rw [Int.toNat_natCast]
  by_cases e : cap = 0
  · omega
  · rw [if_neg e]
    show Result.ok (Value.slice (some ((⟨g, 0, none⟩ : Addr).add (0 * 1))) _ _) W = _
    rw [Addr.add_mid]; rfl
set_option maxRecDepth 100000 in
set_option maxHeartbeats 16000000 in
theorem pooldecodes_any {b : List UInt8} {w : World} {B : Nat → Prop} {v : Value} (hb : Rd w B 1 v b.length (bts b)) (right : Bool) : Calls Tryz.prog 5 #[v, .bool right] w fun e w' => e = .returned (.bool true) ∧ Kept No w w' := by
  obtain ⟨ad, cap, rfl⟩ := rd_slice hb
  obtain ⟨m, hm⟩ : ∃ m, b.length = m := ⟨_, rfl⟩
  have HM := Lib.hid hm
  rw [hm] at hb ⊢
  have HB := Lib.hid hb
  by_cases h3 : 3000 < m
  · have h3' : 3000 < (m : Int) := by omega
    clear hb hm
    go_enter Tryz.func5, Tryz.ntmps5
    go_wp2_with fail
    refine (known_any _).mono ?_
    rintro e w99 ⟨rfl, hk99⟩
    have HK99 := Lib.hid hk99
    clear hk99
    go_wp2_with fail
    go_ret
    exact ⟨rfl, HK99.out⟩
  have h3' : ¬ (3000 < (m : Int)) := by omega
  have H3 := Lib.hid (show m ≤ 3000 by omega)
  have HLB := Lib.hid (show (0 + m) * 1 ≤ 140737488355328 by omega)
  clear hb hm h3
  cases right
  · go_enter Tryz.func5, Tryz.ntmps5
    go_upto_region 7 with (at_builtin; refine wpList_append_rd rfl rfl rfl rfl ei8 (World.ownsRow_nil w w.heap.size 5 1) HB.out (bts_one _) HLB.out (Nat.le_refl _) ?_; intro v2 w2 hown hg _; have HOWN := Lib.hid (show w2.ownsRow w.heap.size 5 1 v2 m (bts b) by have h := hown; rw [Nat.zero_add] at h; exact h); obtain ⟨adx, cpx, hvx⟩ := owned_slice HOWN.out; subst hvx; have HK2 := Lib.hid (show Kept No w w2 from (Kept.refl No w).grown hg (fun k e h => by cases e)); clear hown hg)
    have HLEN := Lib.hid (And.intro HM.out H3.out)
    clear h3'
    have HLL := Lib.hid (show b.length = m ∧ m ≤ 3000 from HLEN.out)
    have HRD := Lib.hid (fun W (hk : Kept No w2 W) => rd_no (rd_owned HOWN.out) hk)
    have HPS := Lib.hid (fun W (hk : Kept No w2 W) => psum_any (l := b) (by have := HLL.out; omega) (by rw [HLL.out.1]; exact HRD.out W hk))
    have HRS := Lib.hid (fun W (hk : Kept No w2 W) => rsum_any (l := b) (by have := HLL.out; omega) (by rw [HLL.out.1]; exact HRD.out W hk))
    have HDE := Lib.hid (fun W (hk : Kept No w2 W) => rpdec_any (b := b) (by have := HLL.out; omega) (by rw [HLL.out.1]; exact HRD.out W hk))
    have HPD := Lib.hid (fun W (hk : Kept No w2 W) => pdecode_any (b := b) (by have := HLL.out; omega) (by rw [HLL.out.1]; exact HRD.out W hk))
    have HDD := Lib.hid (fun (h : (pdecF b).1 ≠ 0) W (hk : Kept No w2 W) => decodes_any (b := b) (by have := HLL.out; omega) h (by rw [HLL.out.1]; exact HRD.out W hk))
    obtain ⟨S, hS⟩ : ∃ S, sumF b = S := ⟨_, rfl⟩
    rw [hS] at HPS HRS
    clear hS
    go_wp2_with fail
    refine (HPS.out _ (Kept.refl No _)).mono ?_
    rintro e w8 ⟨rfl, rfl⟩
    go_wp2_with fail
    refine (HRS.out _ (Kept.refl No _)).mono ?_
    rintro e w8 ⟨rfl, rfl⟩
    go_wp2_with fail
    refine (HDE.out _ (Kept.refl No _)).mono ?_
    rintro e w10 ⟨hk10, vl, rfl, hown10⟩
    obtain ⟨er, her⟩ : ∃ er, (pdecF b).1 = er := ⟨_, rfl⟩
    rw [her] at HDD ⊢
    have HK10 := Lib.hid hk10
    by_cases h0 : er = 0
    rotate_left
    · have dz : (er != 0) = true := by simpa using h0
      have HD1 := Lib.hid (HDD.out h0 _ HK10.out)
      clear h0 hk10 hown10 her
      go_wp2_with fail
      refine HD1.out.mono ?_
      rintro e w11 ⟨rfl, hk11⟩
      have HK11 := Lib.hid (HK10.out.and hk11)
      clear hk11
      go_wp2_with fail
      refine (known_any _).mono ?_
      rintro e w99 ⟨rfl, hk99⟩
      have HK99 := Lib.hid hk99
      clear hk99
      go_wp2_with fail
      go_ret
      exact ⟨rfl, (HK2.out.and HK11.out).and HK99.out⟩
    subst h0
    obtain ⟨l, hpl⟩ : ∃ l, pdecF b = (0, l) := ⟨(pdecF b).2, by rw [← her]⟩
    have HOK := Lib.hid (pdec_ok hpl)
    have HCR := Lib.hid (fun W (hk : Kept No w10 W) => (show CrdsAt W _ vl l by have h := hown10; rw [hpl] at h; exact h.at.no hk))
    have HPD2 := Lib.hid (HPD.out _ HK10.out)
    rw [hpl] at HPD2
    clear hk10 hown10 her hpl
    go_wp2_with fail
    refine HPD2.out.mono ?_
    rintro e w11 ⟨hk11, ⟨_, p, rfl, hp⟩ | ⟨h0, _⟩⟩
    rotate_left
    · exact absurd rfl h0
    have HP11 := Lib.hid hp
    obtain ⟨pg, pm, pv, rfl, hpis⟩ := hp
    have HK11 := Lib.hid (HK10.out.and hk11)
    have HLK := Lib.hid (looks_any HOK.out.1 HP11.out (HCR.out _ hk11))
    clear hk11 hpis
    go_wp2_with fail
    refine HLK.out.mono ?_
    rintro e w12 ⟨rfl, hk12⟩
    have HK12 := Lib.hid (HK11.out.and hk12)
    clear hk12
    go_wp2_with fail
    refine (known_any _).mono ?_
    rintro e w99 ⟨rfl, hk99⟩
    have HK99 := Lib.hid hk99
    clear hk99
    go_wp2_with fail
    go_ret
    exact ⟨rfl, (HK2.out.and HK12.out).and HK99.out⟩
  by_cases h4 : m < 4
  · have h4' : ¬ ((4 : Int) ≤ (m : Int)) := by omega
    have h4'' : ¬ (4 ≤ m) := by omega
    go_enter Tryz.func5, Tryz.ntmps5
    go_upto_region 7 with (at_builtin; refine wpList_append_rd rfl rfl rfl rfl ei8 (World.ownsRow_nil w w.heap.size 5 1) HB.out (bts_one _) HLB.out (Nat.le_refl _) ?_; intro v2 w2 hown hg _; have HOWN := Lib.hid (show w2.ownsRow w.heap.size 5 1 v2 m (bts b) by have h := hown; rw [Nat.zero_add] at h; exact h); obtain ⟨adx, cpx, hvx⟩ := owned_slice HOWN.out; subst hvx; have HK2 := Lib.hid (show Kept No w w2 from (Kept.refl No w).grown hg (fun k e h => by cases e)); clear hown hg)
    have HLEN := Lib.hid (And.intro HM.out H3.out)
    clear h3'
    have HLL := Lib.hid (show b.length = m ∧ m ≤ 3000 from HLEN.out)
    have HRD := Lib.hid (fun W (hk : Kept No w2 W) => rd_no (rd_owned HOWN.out) hk)
    have HPS := Lib.hid (fun W (hk : Kept No w2 W) => psum_any (l := b) (by have := HLL.out; omega) (by rw [HLL.out.1]; exact HRD.out W hk))
    have HRS := Lib.hid (fun W (hk : Kept No w2 W) => rsum_any (l := b) (by have := HLL.out; omega) (by rw [HLL.out.1]; exact HRD.out W hk))
    have HDE := Lib.hid (fun W (hk : Kept No w2 W) => rpdec_any (b := b) (by have := HLL.out; omega) (by rw [HLL.out.1]; exact HRD.out W hk))
    have HPD := Lib.hid (fun W (hk : Kept No w2 W) => pdecode_any (b := b) (by have := HLL.out; omega) (by rw [HLL.out.1]; exact HRD.out W hk))
    have HDD := Lib.hid (fun (h : (pdecF b).1 ≠ 0) W (hk : Kept No w2 W) => decodes_any (b := b) (by have := HLL.out; omega) h (by rw [HLL.out.1]; exact HRD.out W hk))
    obtain ⟨S, hS⟩ : ∃ S, sumF b = S := ⟨_, rfl⟩
    rw [hS] at HPS HRS
    clear hS
    go_wp2_with fail
    refine (HPS.out _ (Kept.refl No _)).mono ?_
    rintro e w8 ⟨rfl, rfl⟩
    go_wp2_with fail
    refine (HRS.out _ (Kept.refl No _)).mono ?_
    rintro e w8 ⟨rfl, rfl⟩
    go_wp2_with fail
    refine (HDE.out _ (Kept.refl No _)).mono ?_
    rintro e w10 ⟨hk10, vl, rfl, hown10⟩
    obtain ⟨er, her⟩ : ∃ er, (pdecF b).1 = er := ⟨_, rfl⟩
    rw [her] at HDD ⊢
    have HK10 := Lib.hid hk10
    by_cases h0 : er = 0
    rotate_left
    · have dz : (er != 0) = true := by simpa using h0
      have HD1 := Lib.hid (HDD.out h0 _ HK10.out)
      clear h0 hk10 hown10 her
      go_wp2_with fail
      refine HD1.out.mono ?_
      rintro e w11 ⟨rfl, hk11⟩
      have HK11 := Lib.hid (HK10.out.and hk11)
      clear hk11
      go_wp2_with fail
      refine (known_any _).mono ?_
      rintro e w99 ⟨rfl, hk99⟩
      have HK99 := Lib.hid hk99
      clear hk99
      go_wp2_with fail
      go_ret
      exact ⟨rfl, (HK2.out.and HK11.out).and HK99.out⟩
    subst h0
    obtain ⟨l, hpl⟩ : ∃ l, pdecF b = (0, l) := ⟨(pdecF b).2, by rw [← her]⟩
    have HOK := Lib.hid (pdec_ok hpl)
    have HCR := Lib.hid (fun W (hk : Kept No w10 W) => (show CrdsAt W _ vl l by have h := hown10; rw [hpl] at h; exact h.at.no hk))
    have HPD2 := Lib.hid (HPD.out _ HK10.out)
    rw [hpl] at HPD2
    clear hk10 hown10 her hpl
    go_wp2_with fail
    refine HPD2.out.mono ?_
    rintro e w11 ⟨hk11, ⟨_, p, rfl, hp⟩ | ⟨h0, _⟩⟩
    rotate_left
    · exact absurd rfl h0
    have HP11 := Lib.hid hp
    obtain ⟨pg, pm, pv, rfl, hpis⟩ := hp
    have HK11 := Lib.hid (HK10.out.and hk11)
    have HLK := Lib.hid (looks_any HOK.out.1 HP11.out (HCR.out _ hk11))
    clear hk11 hpis
    go_wp2_with fail
    refine HLK.out.mono ?_
    rintro e w12 ⟨rfl, hk12⟩
    have HK12 := Lib.hid (HK11.out.and hk12)
    clear hk12
    go_wp2_with fail
    refine (known_any _).mono ?_
    rintro e w99 ⟨rfl, hk99⟩
    have HK99 := Lib.hid hk99
    clear hk99
    go_wp2_with fail
    go_ret
    exact ⟨rfl, (HK2.out.and HK12.out).and HK99.out⟩
  have h4' : (4 : Int) ≤ (m : Int) := by omega
  have h4'' : 4 ≤ m := by omega
  obtain ⟨E, hE⟩ : ∃ E, m - 4 = E := ⟨_, rfl⟩
  have q4 : IntKind.i64.wrap ((m : Int) - 4) = (E : Int) := (IntWalk.i64_in _ (by have := H3.out; omega)).trans (by omega)
  have HE := Lib.hid (show E + 4 = m by omega)
  obtain ⟨s, hs⟩ : ∃ s, sumF (b.take E) = s := ⟨_, rfl⟩
  have hslt : s < 4294967296 := by rw [← hs]; exact sumF_lt _
  have HS := Lib.hid hs
  clear h4 hE hs
  go_enter Tryz.func5, Tryz.ntmps5
  go_upto_region 5 with (at_builtin; refine wpList_append_rd rfl rfl rfl rfl ei8 (World.ownsRow_nil w w.heap.size 5 1) HB.out (bts_one _) HLB.out (Nat.le_refl _) ?_; intro v2 w2 hown hg _; have HOWN := Lib.hid (show w2.ownsRow w.heap.size 5 1 v2 m (bts b) by have h := hown; rw [Nat.zero_add] at h; exact h); obtain ⟨adx, cpx, hvx⟩ := owned_slice HOWN.out; subst hvx; have HK2 := Lib.hid (show Kept No w w2 from (Kept.refl No w).grown hg (fun k e h => by cases e)); clear hown hg)
  obtain ⟨g2, cp2, hv2, hmc, hot⟩ := own_take HOWN.out (by omega) (k := E) (by have := HE.out; omega)
  cases hv2
  have HOT := Lib.hid hot
  have hso := fun W => slice_own (g := g2) (m := m) (cap := cpx) (k := E) (by have := HE.out; omega) hmc (by omega) W
  have HTL := Lib.hid (show (b.take E).length = E by rw [List.length_take, HM.out]; have := HE.out; omega)
  have HSU := Lib.hid (rsum_any (l := b.take E) (by rw [HTL.out]; have := H3.out; have := HE.out; omega) (w := w2) (v := .slice (some ⟨g2, 0, none⟩) E cpx) (by rw [HTL.out]; exact rd_owned hot))
  rw [HS.out] at HSU
  clear hot
  go_wp2_with fail
  refine HSU.out.mono ?_
  rintro e w3 ⟨rfl, rfl⟩
  have e0 : (s : Int) / 16777216 = ((bt ((s / 16777216 : Nat) : Int)).toNat : Int) := by rw [bt_nat]; omega
  have e1 : (s : Int) / 65536 % 256 = ((bt ((s / 65536 : Nat) : Int)).toNat : Int) := by rw [bt_nat]; omega
  have e2 : (s : Int) / 256 % 256 = ((bt ((s / 256 : Nat) : Int)).toNat : Int) := by rw [bt_nat]; omega
  have e3 : (s : Int) % 256 = ((bt ((s : Nat) : Int)).toNat : Int) := by rw [bt_nat]
  have HRB := Lib.hid (rd_b4 w3 e0 e1 e2 e3 rfl)
  clear e0 e1 e2 e3
  go_upto_region 7 with (at_builtin; refine wpList_append_rd rfl rfl rfl rfl ei8 (owned_kept (S := No) HOT.out ((Kept.refl No _).alloc _) fun _ _ _ => not_no _) HRB.out (bts_one _) (by have := H3.out; have := HE.out; omega) (by have := HK2.out.size; simp; omega) ?_; intro v5 w5 hown5 hg5 _)
  have HOWN5 := Lib.hid (show w5.ownsRow w.heap.size 5 1 v5 (E + 4) (bts (b.take E ++ be4 s)) by rw [bts_app]; exact hown5)
  have HK5 := Lib.hid (show Kept No w w5 from (HK2.out.alloc _).grown hg5 (fun k e h => absurd (HOT.out.lt k e).1 (by omega)))
  have HLEN := Lib.hid (show (b.take E ++ be4 s).length = E + 4 ∧ E + 4 ≤ 3000 by rw [List.length_append, be4_len, HTL.out]; have := H3.out; have := HE.out; omega)
  obtain ⟨E4, hE4⟩ : ∃ E4, E + 4 = E4 := ⟨_, rfl⟩
  rw [hE4] at HOWN5 HLEN
  obtain ⟨L, hL⟩ : ∃ L, b.take E ++ be4 s = L := ⟨_, rfl⟩
  rw [hL] at HOWN5 HLEN
  clear hown5 hg5 hE4 hL hso h4' h4'' q4 hslt hmc h3'
  have HLL := Lib.hid (show L.length = E4 ∧ E4 ≤ 3000 from HLEN.out)
  have HRD := Lib.hid (fun W (hk : Kept No w5 W) => rd_no (rd_owned HOWN5.out) hk)
  obtain ⟨adx, cpx, rfl⟩ := owned_slice HOWN5.out
  have HPS := Lib.hid (fun W (hk : Kept No w5 W) => psum_any (l := L) (by have := HLL.out; omega) (by rw [HLL.out.1]; exact HRD.out W hk))
  have HRS := Lib.hid (fun W (hk : Kept No w5 W) => rsum_any (l := L) (by have := HLL.out; omega) (by rw [HLL.out.1]; exact HRD.out W hk))
  have HDE := Lib.hid (fun W (hk : Kept No w5 W) => rpdec_any (b := L) (by have := HLL.out; omega) (by rw [HLL.out.1]; exact HRD.out W hk))
  have HPD := Lib.hid (fun W (hk : Kept No w5 W) => pdecode_any (b := L) (by have := HLL.out; omega) (by rw [HLL.out.1]; exact HRD.out W hk))
  have HDD := Lib.hid (fun (h : (pdecF L).1 ≠ 0) W (hk : Kept No w5 W) => decodes_any (b := L) (by have := HLL.out; omega) h (by rw [HLL.out.1]; exact HRD.out W hk))
  obtain ⟨S, hS⟩ : ∃ S, sumF L = S := ⟨_, rfl⟩
  rw [hS] at HPS HRS
  clear hS
  go_wp2_with fail
  refine (HPS.out _ (Kept.refl No _)).mono ?_
  rintro e w8 ⟨rfl, rfl⟩
  go_wp2_with fail
  refine (HRS.out _ (Kept.refl No _)).mono ?_
  rintro e w8 ⟨rfl, rfl⟩
  go_wp2_with fail
  refine (HDE.out _ (Kept.refl No _)).mono ?_
  rintro e w10 ⟨hk10, vl, rfl, hown10⟩
  obtain ⟨er, her⟩ : ∃ er, (pdecF L).1 = er := ⟨_, rfl⟩
  rw [her] at HDD ⊢
  have HK10 := Lib.hid hk10
  by_cases h0 : er = 0
  rotate_left
  · have dz : (er != 0) = true := by simpa using h0
    have HD1 := Lib.hid (HDD.out h0 _ HK10.out)
    clear h0 hk10 hown10 her
    go_wp2_with fail
    refine HD1.out.mono ?_
    rintro e w11 ⟨rfl, hk11⟩
    have HK11 := Lib.hid (HK10.out.and hk11)
    clear hk11
    go_wp2_with fail
    refine (known_any _).mono ?_
    rintro e w99 ⟨rfl, hk99⟩
    have HK99 := Lib.hid hk99
    clear hk99
    go_wp2_with fail
    go_ret
    exact ⟨rfl, (HK5.out.and HK11.out).and HK99.out⟩
  subst h0
  obtain ⟨l, hpl⟩ : ∃ l, pdecF L = (0, l) := ⟨(pdecF L).2, by rw [← her]⟩
  have HOK := Lib.hid (pdec_ok hpl)
  have HCR := Lib.hid (fun W (hk : Kept No w10 W) => (show CrdsAt W _ vl l by have h := hown10; rw [hpl] at h; exact h.at.no hk))
  have HPD2 := Lib.hid (HPD.out _ HK10.out)
  rw [hpl] at HPD2
  clear hk10 hown10 her hpl
  go_wp2_with fail
  refine HPD2.out.mono ?_
  rintro e w11 ⟨hk11, ⟨_, p, rfl, hp⟩ | ⟨h0, _⟩⟩
  rotate_left
  · exact absurd rfl h0
  have HP11 := Lib.hid hp
  obtain ⟨pg, pm, pv, rfl, hpis⟩ := hp
  have HK11 := Lib.hid (HK10.out.and hk11)
  have HLK := Lib.hid (looks_any HOK.out.1 HP11.out (HCR.out _ hk11))
  clear hk11 hpis
  go_wp2_with fail
  refine HLK.out.mono ?_
  rintro e w12 ⟨rfl, hk12⟩
  have HK12 := Lib.hid (HK11.out.and hk12)
  clear hk12
  go_wp2_with fail
  refine (known_any _).mono ?_
  rintro e w99 ⟨rfl, hk99⟩
  have HK99 := Lib.hid hk99
  clear hk99
  go_wp2_with fail
  go_ret
  exact ⟨rfl, (HK5.out.and HK12.out).and HK99.out⟩
end Go.Proofs.YtclgoilfclmibaaGreatDoor
