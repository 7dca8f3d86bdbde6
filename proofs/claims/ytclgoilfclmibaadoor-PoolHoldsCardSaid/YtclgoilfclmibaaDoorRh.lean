/-
  Pool: the theorem of the stage.
-/
import Derived.Test.YtclgoilfclmibaaDoorRl
set_option linter.unusedVariables false
set_option linter.unusedSimpArgs false
namespace Go.Proofs.YtclgoilfclmibaaDoor
open Go Go.RowKit Go.Zn
attribute [local go_sem] Oper.semAt_some

/-- how many cards lie before a kind, and a kind and a rarity -/
def cntK (l : List Crd) (k : Nat) : Nat := l.countP fun c => decide (1 ≤ c.kind) && decide (c.kind < (k : Int))
def cntR (l : List Crd) (k r : Nat) : Nat := l.countP fun c => decide (c.kind = (k : Int)) && (decide (1 ≤ c.rarity) && decide (c.rarity < (r : Int)))
theorem countP_split (p q r : Crd → Bool) (l : List Crd) (h : ∀ c ∈ l, (if p c then 1 else 0) = (if q c then 1 else 0) + (if r c then 1 else 0)) : l.countP p = l.countP q + l.countP r := by
  induction l with
  | nil => rfl
  | cons c l ih =>
    have h1 := h c (by simp)
    have h2 := ih fun x hx => h x (List.mem_cons_of_mem _ hx)
    rw [List.countP_cons, List.countP_cons, List.countP_cons, h2]
    omega
theorem cntR_one (l : List Crd) (k : Nat) : cntR l k 1 = 0 := by
  unfold cntR
  rw [List.countP_eq_zero]
  intro c _
  simp only [Bool.and_eq_true, decide_eq_true_eq]
  omega
theorem cntK_one (l : List Crd) : cntK l 1 = 0 := by
  unfold cntK
  rw [List.countP_eq_zero]
  intro c _
  simp only [Bool.and_eq_true, decide_eq_true_eq]
  omega
theorem cntR_up (l : List Crd) {k r : Nat} (hk : 1 ≤ k) (hr : 1 ≤ r) : cntR l k (r + 1) = cntR l k r + (selF l (k : Nat) (r : Nat)).length := by
  rw [sel_count]
  unfold cntR
  refine countP_split _ _ _ l fun c _ => ?_
  unfold fitsF
  simp only [Bool.and_eq_true, Bool.or_eq_true, beq_iff_eq, decide_eq_true_eq]
  split <;> split <;> split <;> omega
theorem cntK_up {l : List Crd} (hv : ∀ c ∈ l, cvalid c = true) {k : Nat} (hk : 1 ≤ k) : cntK l (k + 1) = cntK l k + cntR l k 5 := by
  unfold cntK cntR
  refine countP_split _ _ _ l fun c hc => ?_
  have h := cvalid_in (hv c hc)
  have h1 := h.kind
  have h2 := h.rarity
  simp only [Bool.and_eq_true, decide_eq_true_eq]
  split <;> split <;> split <;> omega
theorem cntK_all {l : List Crd} (hv : ∀ c ∈ l, cvalid c = true) : cntK l 5 = l.length := by
  unfold cntK
  rw [List.countP_eq_length]
  intro c hc
  have h := cvalid_in (hv c hc)
  have h1 := h.kind
  simp only [Bool.and_eq_true, decide_eq_true_eq]
  omega
theorem nvals_at (l : List Nat) (j : Nat) : (nvals l)[j]? = (l[j]?).map fun n => Value.int .i64 (n : Nat) := by simp [nvals]
theorem penc_short {l : List Crd} (hw : wrongF l = 0) : (penc l).length ≤ 500000 := by
  obtain ⟨h400, hval, _⟩ := wrong_out hw
  have := cencs_len hval
  rw [penc_len]
  unfold body
  rw [List.length_append, be2_len]; omega
theorem bts_set (b : List UInt8) (i : Nat) (y : UInt8) : (bts b).set i (.int .u8 y.toNat) = bts (b.set i y) := by
  simp [bts, List.map_set]
theorem add_ne (x y : UInt8) (h : 0 < y.toNat) : x ≠ x + y := by
  intro e
  have := congrArg UInt8.toNat e
  rw [UInt8.toNat_add] at this
  have hx := x.toNat_lt
  have hy := y.toNat_lt
  omega
theorem byte_put {w : World} {base g cap i : Nat} {b : List UInt8} (h : w.ownsRow base 5 1 (.slice (some ⟨g, 0, none⟩) b.length cap) b.length (bts b)) (hi : i < b.length) (y : UInt8) :
    (w.setCell ⟨g, i, none⟩ (.int .u8 y.toNat)).ownsRow base 5 1 (.slice (some ⟨g, 0, none⟩) b.length cap) (b.set i y).length (bts (b.set i y)) := by
  have h2 := owned_set h (j := i) (by simp; exact hi) (.int .u8 y.toNat)
  rw [bts_set] at h2
  rw [List.length_set]
  exact h2
set_option maxRecDepth 100000 in
set_option maxHeartbeats 16000000 in
theorem poolholds_any {l : List Crd} {b : List UInt8} (hkeys : ∀ c ∈ l, -9223372036854775808 ≤ c.keys ∧ c.keys ≤ 9223372036854775807) {w : World} {B C : Nat → Prop} {vl vb : Value} (hl : CrdsAt w B vl l) (hb : Rd w C 1 vb b.length (bts b)) (at_ : Int) (by_ : UInt8) :
    Calls Tryd.prog 5 #[vl, vb, .int .i64 at_, .int .u8 by_.toNat] w fun e w' => e = .returned (.bool true) ∧ Kept No w w' := by
  have HLT := Lib.hid (light_any hl)
  have HL := Lib.hid hl
  have HB := Lib.hid hb
  obtain ⟨ad, cap, rfl⟩ := hl.slice
  obtain ⟨adb, capb, rfl⟩ := rd_slice hb
  obtain ⟨n, hn⟩ : ∃ n, l.length = n := ⟨_, rfl⟩
  obtain ⟨m, hm⟩ : ∃ m, b.length = m := ⟨_, rfl⟩
  have HN := Lib.hid hn
  have HM := Lib.hid hm
  cases hlf : lightF l
  · rw [hlf] at HLT
    rw [hn] at HLT ⊢
    clear hl hb hn hm hkeys hlf
    go_enter Tryd.func5, Tryd.ntmps5
    go_wp2_with fail
    refine HLT.out.mono ?_
    rintro e w1 ⟨rfl, hk⟩
    have HK1 := Lib.hid hk
    clear hk
    go_wp2_with fail
    refine (known_any _).mono ?_
    rintro e w99 ⟨rfl, hk99⟩
    have HK99 := Lib.hid hk99
    clear hk99
    go_wp2_with fail
    go_ret
    exact ⟨rfl, HK1.out.and HK99.out⟩
  have HLI := Lib.hid (lightF_out hlf)
  have HSM := Lib.hid (show ∀ c ∈ l, Sm c from fun c hc => ⟨by have := HLI.out.2 c hc; omega, by have := HLI.out.2 c hc; omega, by have := HLI.out.2 c hc; omega, fun t ht => by have := (HLI.out.2 c hc).2.2.2 t ht; omega, (hkeys c hc).1, (hkeys c hc).2⟩)
  rw [hlf] at HLT
  by_cases h3 : 3000 < m
  · have t3 : (3000 : Int) < (m : Int) := by omega
    rw [hn] at HLT ⊢
    rw [hm]
    clear hl hb hn hm hkeys hlf h3
    go_enter Tryd.func5, Tryd.ntmps5
    go_wp2_with fail
    refine HLT.out.mono ?_
    rintro e w1 ⟨rfl, hk⟩
    have HK1 := Lib.hid hk
    clear hk
    go_wp2_with fail
    refine (known_any _).mono ?_
    rintro e w99 ⟨rfl, hk99⟩
    have HK99 := Lib.hid hk99
    clear hk99
    go_wp2_with fail
    go_ret
    exact ⟨rfl, HK1.out.and HK99.out⟩
  have t3 : ¬ ((3000 : Int) < (m : Int)) := by omega
  have HM3 := Lib.hid (show b.length ≤ 3000 by omega)
  have HDB := Lib.hid (fun W (hk : Kept No w W) => pdecode_any (b := b) (by have := HM3.out; omega) (rd_no HB.out hk))
  obtain ⟨q, hq⟩ : ∃ q, pdecF b = q := ⟨_, rfl⟩
  obtain ⟨er, lb⟩ := q
  rw [hq] at HDB
  rw [hn] at HLT HL ⊢
  rw [hm] at HDB HB ⊢
  clear hl hb hn hm hkeys hlf h3
  by_cases her : er = 0
  · subst her
    have HOK := Lib.hid (pdec_ok hq)
    clear hq
    go_enter Tryd.func5, Tryd.ntmps5
    go_wp2_with fail
    refine HLT.out.mono ?_
    rintro e w1 ⟨rfl, hk1⟩
    have HK1 := Lib.hid hk1
    clear hk1
    go_wp2_with fail
    refine (HDB.out _ HK1.out).mono ?_
    rintro e w2 ⟨hk2, ⟨_, pd, rfl, hpd⟩ | ⟨h0, _⟩⟩
    rotate_left
    · exact absurd rfl h0
    obtain ⟨dg, dm, dv, rfl, hdis⟩ := hpd
    have HPD := Lib.hid (show PoolAt w2 (fun _ => True) (.pointer (some ⟨dg, 0, none⟩)) lb from PoolAt.mono ⟨dg, dm, dv, rfl, hdis⟩ (fun _ _ _ => trivial))
    have HK2 := Lib.hid (HK1.out.and hk2)
    clear hk2 hdis
    go_wp2_with fail
    refine (pencode_any HPD.out HOK.out.1).mono ?_
    rintro e w3 ⟨vx, rfl, hx, hk3⟩
    rw [HOK.out.2] at hx
    obtain ⟨ad3, cap3, rfl⟩ := owned_slice hx
    have HK3 := Lib.hid (HK2.out.and hk3)
    have hx2 : w3.ownsRow w2.heap.size 5 1 (.slice ad3 b.length cap3) b.length (bts b) := hx
    rw [HM.out] at hx2 ⊢
    have hbb := rd_no HB.out HK3.out
    have hcv1 := run_string_rd (P := Tryd.prog) Tryd.underlying24 Tryd.underlying5 Tryd.underlying9 (rd_owned hx2)
    have hcv2 := run_string_rd (P := Tryd.prog) Tryd.underlying24 Tryd.underlying5 Tryd.underlying9 hbb
    clear hx hx2 hk3 hbb
    go_wp2_with fail
    clear hcv1 hcv2
    refine (pnew_any (l := l) (by have := HLI.out.1; omega) HSM.out (HL.out.no HK3.out)).mono ?_
    rintro e w8 ⟨hk8, ⟨hw, p, rfl, hp⟩ | ⟨hw, rfl⟩⟩
    rotate_left
    · have dw : (wrongF l != 0) = true := by simpa using hw
      obtain ⟨er, her⟩ : ∃ er, wrongF l = er := ⟨_, rfl⟩
      rw [her] at dw ⊢
      have HKN := Lib.hid (HK3.out.and hk8)
      clear hw her hk8
      go_wp2_with fail
      refine (known_any _).mono ?_
      rintro e w99 ⟨rfl, hk99⟩
      have HK99 := Lib.hid hk99
      clear hk99
      go_wp2_with fail
      go_ret
      exact ⟨rfl, HKN.out.and HK99.out⟩
    obtain ⟨pg, pm, pv, rfl, hpis⟩ := hp
    have HP8 := Lib.hid (show PoolAt w8 (fun _ => True) (.pointer (some ⟨pg, 0, none⟩)) l from PoolAt.mono ⟨pg, pm, pv, rfl, hpis⟩ (fun _ _ _ => trivial))
    have HK8 := Lib.hid (HK3.out.and hk8)
    have HW := Lib.hid hw
    have HPL := Lib.hid (penc_short hw)
    clear hk8 hw hpis
    go_wp2_with fail
    refine (pencode_any HP8.out HW.out).mono ?_
    rintro e w9 ⟨vx, rfl, hx, hk9⟩
    obtain ⟨gx, capx, hvx⟩ : ∃ g cap, vx = .slice (some ⟨g, 0, none⟩) (penc l).length cap := by
      obtain ⟨_, ⟨_, h0⟩ | ⟨g, cap, _, h1, _⟩⟩ := hx
      · have := penc_len l; omega
      · exact ⟨g, cap, h1⟩
    subst hvx
    obtain ⟨mx, hmx⟩ : ∃ mx, (penc l).length = mx := ⟨_, rfl⟩
    have HMX := Lib.hid hmx
    have HX9 := Lib.hid (show w9.ownsRow w8.heap.size 5 1 (.slice (some ⟨gx, 0, none⟩) (penc l).length capx) (penc l).length (bts (penc l)) from hx)
    have HD9 := Lib.hid (pdecode_any (by have := HPL.out; omega) (rd_owned HX9.out))
    rw [hmx] at HD9 ⊢
    have HK9 := Lib.hid hk9
    clear hx hk9 hmx
    go_wp2_with fail
    refine HD9.out.mono ?_
    rintro e w10 ⟨hk10, hq⟩
    rw [pdec_enc HW.out] at hq
    obtain ⟨_, q, rfl, hq⟩ | ⟨h0, _⟩ := hq
    rotate_left
    · exact absurd rfl h0
    obtain ⟨qg, qm, qv, rfl, hqis⟩ := hq
    have HQ10 := Lib.hid (show PoolAt w10 (fun _ => True) (.pointer (some ⟨qg, 0, none⟩)) l from PoolAt.mono ⟨qg, qm, qv, rfl, hqis⟩ (fun _ _ _ => trivial))
    have HK10 := Lib.hid (HK9.out.and hk10)
    have HX10 := Lib.hid (owned_kept HX9.out hk10 fun _ _ _ => not_no _)
    have HLK := Lib.hid (looks_any HW.out HQ10.out (HL.out.no (HK8.out.and HK10.out)))
    clear hk10 hqis
    go_wp2_with fail
    refine HLK.out.mono ?_
    rintro e w11 ⟨rfl, hk11⟩
    have HK11 := Lib.hid (HK10.out.and hk11)
    have HX11 := Lib.hid (owned_kept HX10.out hk11 fun _ _ _ => not_no _)
    clear hk11
    go_wp2_with fail
    go_loopw [18, 19] (fun nv kv wr => ∃ k : Nat, kv = .int .i64 (k : Nat) ∧ 1 ≤ k ∧ k ≤ 5 ∧ nv = .int .i64 (cntK l k : Nat) ∧ Kept No w11 wr) (fun _ kv _ => 5 - (intOf kv).toNat)
    case atStart => exact ⟨1, rfl, by decide, by decide, by rw [cntK_one]; rfl, Kept.refl No w11⟩
    case round =>
      obtain ⟨k, rfl, hk1, hk5, rfl, hkk⟩ := hrel
      have HKK := Lib.hid hkk
      by_cases hk4 : k ≤ 4
      · have d4 : (k : Int) ≤ 4 := by omega
        have HK45 := Lib.hid (And.intro hk1 hk4)
        have HUPK := Lib.hid (cntK_up (wrong_out HW.out).2.1 hk1)
        have HST := Lib.hid (show (cntK l k : Nat) = cntK l k + cntR l k 1 by rw [cntR_one]; rfl)
        have hkw : IntKind.i64.wrap ((k : Int) + 1) = (k : Int) + 1 := IntWalk.i64_in _ (by omega)
        clear hk1 hk5 hkk hk4
        go_wp2_with fail
        go_loopw [18, 20] (fun nv rv wr => ∃ r : Nat, rv = .int .i64 (r : Nat) ∧ 1 ≤ r ∧ r ≤ 5 ∧ nv = .int .i64 (cntK l k + cntR l k r : Nat) ∧ Kept No w11 wr) (fun _ rv _ => 5 - (intOf rv).toNat)
        case atStart => exact ⟨1, rfl, by decide, by decide, by rw [← HST.out], HKK.out⟩
        case round =>
          obtain ⟨r, rfl, hr1, hr5, rfl, hkr⟩ := hrel
          have HKR := Lib.hid hkr
          by_cases hr4 : r ≤ 4
          · have d5 : (r : Int) ≤ 4 := by omega
            have HR45 := Lib.hid (And.intro hr1 hr4)
            have hrw : IntKind.i64.wrap ((r : Int) + 1) = (r : Int) + 1 := IntWalk.i64_in _ (by omega)
            have HUPR := Lib.hid (cntR_up l HK45.out.1 hr1)
            clear hr1 hr5 hkr hr4
            go_wp2_with fail
            refine (select_any (k : Nat) (r : Nat) (HP8.out.no (HK11.out.and HKR.out)) (by have := HLI.out.1; omega)).mono ?_
            rintro e w12 ⟨v12, rfl, h12, hk12⟩
            obtain ⟨ad12, cap12, rfl⟩ := owned_slice h12
            have HR12 := Lib.hid (rd_owned h12)
            have HK12 := Lib.hid (HKR.out.and hk12)
            obtain ⟨ns, hns⟩ : ∃ ns, (selF l (k : Nat) (r : Nat)).length = ns := ⟨_, rfl⟩
            have HNS := Lib.hid hns
            have HNB := Lib.hid (show ns ≤ 30 by rw [← hns]; have := sel_le l (k : Nat) (r : Nat); have := HLI.out.1; omega)
            obtain ⟨c0, hc0⟩ : ∃ c0, cntK l k + cntR l k r = c0 := ⟨_, rfl⟩
            have HC0 := Lib.hid hc0
            have HCB := Lib.hid (show c0 ≤ 60 by rw [← hc0]; have h1 : cntK l k ≤ l.length := List.countP_le_length; have h2 : cntR l k r ≤ l.length := List.countP_le_length; have := HLI.out.1; omega)
            rw [hns] at HR12 ⊢
            rw [hc0]
            clear h12 hk12 hns hc0
            go_wp2_with fail
            go_loopw [18, 102] (fun nv jv wr => ∃ j : Nat, jv = .int .i64 (j : Nat) ∧ j ≤ ns ∧ nv = .int .i64 (c0 + j : Nat) ∧ Kept No w12 wr) (fun _ jv _ => ns - (intOf jv).toNat)
            case atStart => exact ⟨0, rfl, Nat.zero_le _, rfl, Kept.refl No w12⟩
            case round =>
              obtain ⟨j, rfl, hj, rfl, hkj⟩ := hrel
              have HKJ := Lib.hid hkj
              by_cases hlt : j < ns
              · have hil : j < (selF l (k : Nat) (r : Nat)).length := by rw [HNS.out]; exact hlt
                obtain ⟨x, hx⟩ : ∃ x, (selF l (k : Nat) (r : Nat))[j]? = some x := ⟨_, List.getElem?_eq_getElem hil⟩
                obtain ⟨c, hc, hfit⟩ := sel_at (List.mem_of_getElem? hx)
                obtain ⟨_, _, ⟨_, h0⟩ | ⟨bb, oo, cc, he, _, _, hcl⟩⟩ := rd_no HR12.out hkj
                · omega
                have g0 : wr.cell? ⟨bb, oo + j, none⟩ = some (.int .i64 (x : Nat)) := hcl j _ (by rw [nvals_at, hx]; rfl)
                cases he
                obtain ⟨b1, o1, c1, ev, tv, hs, hcap, hrg, _⟩ := (HL.out.no (HK8.out.and (HK11.out.and (HK12.out.and hkj)))).at hc
                have hxl := (List.getElem?_eq_some_iff.1 hc).1
                unfold fitsF at hfit
                simp only [Bool.and_eq_true, Bool.or_eq_true, beq_iff_eq] at hfit
                have hk45 := HK45.out
                have hr45 := HR45.out
                have hkind : c.kind = (k : Int) := by omega
                have hrar : c.rarity = (r : Int) := by omega
                have g1 : wr.cell? ⟨b1, o1 + x * 14 + 1, none⟩ = some (.int .i64 (k : Nat)) := by rw [← hkind]; exact hrg 1 _ rfl
                have g13 : wr.cell? ⟨b1, o1 + x * 14 + 13, none⟩ = some (.int .i64 (r : Nat)) := by rw [← hrar]; exact hrg 13 _ rfl
                rw [HN.out] at hs hxl
                cases hs
                have hx0 : ¬ ((x : Int) < 0) := by omega
                have hx00 : (0 : Int) ≤ (x : Int) := by omega
                have hxn : ¬ ((n : Int) ≤ (x : Int)) := by omega
                have hxn2 : (x : Int) < (n : Int) := by omega
                have d1 : decide (j < ns) = true := decide_eq_true hlt
                have hj0 : (0 : Int) ≤ (j : Int) := by omega
                have hjn : (j : Int) < (ns : Int) := by omega
                have q5 : IntKind.i64.wrap ((j : Int) + 1) = (j : Int) + 1 := IntWalk.i64_in _ (by have := HNB.out; omega)
                have q6 : IntKind.i64.wrap (((c0 + j : Nat) : Int) + 1) = ((c0 + (j + 1) : Nat) : Int) := by rw [IntWalk.i64_in _ (by have := HNB.out; have := HCB.out; omega)] <;> omega
                have q7 : IntKind.i64.wrap ((c0 : Int) + (j : Int) + 1) = ((c0 + (j + 1) : Nat) : Int) := by rw [IntWalk.i64_in _ (by have := HNB.out; have := HCB.out; omega)] <;> omega
                have HJ := Lib.hid hlt
                clear hkj hlt hil hx hc hfit hcl hrg hkind hrar hk45 hr45 hxl hcap
                go_wp2_with fail
                have hJ := HJ.out
                refine ⟨⟨j + 1, by go_num, by omega, ?_, HKJ.out⟩, by simp [intOf]; omega⟩
                first | rfl | (congr 1; omega) | (simp; omega)
              · have d1 : decide (j < ns) = false := decide_eq_false hlt
                have HE := Lib.hid (show (c0 + j : Nat) = cntK l k + cntR l k (r + 1) by rw [HUPR.out, HNS.out, ← HC0.out]; omega)
                clear hlt hkj
                go_wp2_with fail
                have hr45 := HR45.out
                refine ⟨⟨r + 1, by go_num, by omega, by omega, by rw [← HE.out], HK12.out.and HKJ.out⟩, by simp [intOf]; omega⟩
          · have d5 : ¬ ((r : Int) ≤ 4) := by omega
            have hr : r = 5 := by omega
            subst hr
            have HE := Lib.hid HUPK.out
            clear hr1 hr5 hkr hr4
            go_wp2_with fail
            have hk45 := HK45.out
            exact ⟨⟨k + 1, by go_num, by omega, by omega, by rw [HE.out], HKR.out⟩, by simp [intOf]; omega⟩
      · have d4 : ¬ ((k : Int) ≤ 4) := by omega
        have hk : k = 5 := by omega
        subst hk
        rw [cntK_all (wrong_out HW.out).2.1, HN.out]
        have HXE := Lib.hid (owned_kept HX11.out hkk fun _ _ _ => not_no _)
        clear hk1 hk5 hkk hk4
        by_cases hin : 0 ≤ at_ ∧ at_ < (mx : Int) ∧ 0 < by_.toNat
        · obtain ⟨i, rfl⟩ : ∃ i : Nat, at_ = (i : Nat) := ⟨at_.toNat, by omega⟩
          have hi : i < mx := by omega
          have hil : i < (penc l).length := by rw [HMX.out]; exact hi
          obtain ⟨x, hx⟩ : ∃ x, (penc l)[i] = x := ⟨_, rfl⟩
          have c0 : wr.cell? ⟨gx, i, none⟩ = some (.int .u8 x.toNat) := by
            have := HXE.out.cellAt i (by simpa using hil)
            rw [this, bts_get, List.getElem?_eq_getElem hil, hx]; rfl
          have f0 : wr.frozen? ⟨gx, i, none⟩ = false := HXE.out.frozenAt i
          have hadd : (x + by_).toNat = (x.toNat + by_.toNat) % 256 := UInt8.toNat_add x by_
          have hput := byte_put HXE.out hil (x + by_)
          have HFL := Lib.hid (pdec_flip (y := x + by_) hil (by rw [hx]; exact add_ne x by_ hin.2.2))
          have HD := Lib.hid (pdecode_any (b := (penc l).set i (x + by_)) (by rw [List.length_set]; have := HPL.out; omega) (rd_owned (by rw [List.length_set] at hput ⊢; exact hput)))
          have hxl := x.toNat_lt
          have hyl := by_.toNat_lt
          obtain ⟨xn, hxn⟩ : ∃ xn, x.toNat = xn := ⟨_, rfl⟩
          obtain ⟨yn, hyn⟩ : ∃ yn, by_.toNat = yn := ⟨_, rfl⟩
          rw [hadd, HMX.out, hxn, hyn] at HD
          rw [hxn] at c0
          rw [hyn] at hin ⊢
          have t0 : (0 : Int) ≤ (i : Int) := by omega
          have t1 : (i : Int) < (mx : Int) := by omega
          have t2 : (0 : Int) < (yn : Int) := by omega
          clear hil hx hput hadd hxl hyl hxn hyn hi hin
          go_wp2_with fail
          refine HD.out.mono ?_
          rintro e w20 ⟨hk20, hq⟩
          rw [HFL.out] at hq
          obtain ⟨h0, _⟩ | ⟨_, rfl⟩ := hq
          · exact absurd h0 (by decide)
          have HK20 := Lib.hid (((HK8.out.and (HK11.out.and HKK.out)).put (p := ⟨gx, i, none⟩) (by have h1 := (HXE.out.lt gx rfl).1; have h2 := HK8.out.size; show w.heap.size ≤ gx; omega) _).and hk20)
          clear hk20
          go_wp2_with fail
          refine (known_any _).mono ?_
          rintro e w99 ⟨rfl, hk99⟩
          have HK99 := Lib.hid hk99
          clear hk99
          go_wp2_with fail
          go_ret
          exact ⟨rfl, HK20.out.and HK99.out⟩
        · obtain ⟨yn, hyn⟩ : ∃ yn, by_.toNat = yn := ⟨_, rfl⟩
          rw [hyn] at hin ⊢
          by_cases t0 : 0 ≤ at_
          · by_cases t1 : at_ < (mx : Int)
            · have t2 : ¬ ((0 : Int) < (yn : Int)) := by omega
              clear hin
              go_wp2_with fail
              refine (known_any _).mono ?_
              rintro e w99 ⟨rfl, hk99⟩
              have HK99 := Lib.hid hk99
              clear hk99
              go_wp2_with fail
              go_ret
              exact ⟨rfl, (HK8.out.and (HK11.out.and HKK.out)).and HK99.out⟩
            · clear hin
              go_wp2_with fail
              refine (known_any _).mono ?_
              rintro e w99 ⟨rfl, hk99⟩
              have HK99 := Lib.hid hk99
              clear hk99
              go_wp2_with fail
              go_ret
              exact ⟨rfl, (HK8.out.and (HK11.out.and HKK.out)).and HK99.out⟩
          · clear hin
            go_wp2_with fail
            refine (known_any _).mono ?_
            rintro e w99 ⟨rfl, hk99⟩
            have HK99 := Lib.hid hk99
            clear hk99
            go_wp2_with fail
            go_ret
            exact ⟨rfl, (HK8.out.and (HK11.out.and HKK.out)).and HK99.out⟩
  · have de : (er == 0) = false := by simpa using her
    have HER := Lib.hid her
    clear hq her
    go_enter Tryd.func5, Tryd.ntmps5
    go_wp2_with fail
    refine HLT.out.mono ?_
    rintro e w1 ⟨rfl, hk1⟩
    have HK1 := Lib.hid hk1
    clear hk1
    go_wp2_with fail
    refine (HDB.out _ HK1.out).mono ?_
    rintro e w2 ⟨hk2, ⟨h0, _⟩ | ⟨_, rfl⟩⟩
    · exact absurd h0 HER.out
    have HK2 := Lib.hid (HK1.out.and hk2)
    clear hk2
    go_wp2_with fail
    refine (pnew_any (l := l) (by have := HLI.out.1; omega) HSM.out (HL.out.no HK2.out)).mono ?_
    rintro e w8 ⟨hk8, ⟨hw, p, rfl, hp⟩ | ⟨hw, rfl⟩⟩
    rotate_left
    · have dw : (wrongF l != 0) = true := by simpa using hw
      obtain ⟨er, her⟩ : ∃ er, wrongF l = er := ⟨_, rfl⟩
      rw [her] at dw ⊢
      have HKN := Lib.hid (HK2.out.and hk8)
      clear hw her hk8
      go_wp2_with fail
      refine (known_any _).mono ?_
      rintro e w99 ⟨rfl, hk99⟩
      have HK99 := Lib.hid hk99
      clear hk99
      go_wp2_with fail
      go_ret
      exact ⟨rfl, HKN.out.and HK99.out⟩
    obtain ⟨pg, pm, pv, rfl, hpis⟩ := hp
    have HP8 := Lib.hid (show PoolAt w8 (fun _ => True) (.pointer (some ⟨pg, 0, none⟩)) l from PoolAt.mono ⟨pg, pm, pv, rfl, hpis⟩ (fun _ _ _ => trivial))
    have HK8 := Lib.hid (HK2.out.and hk8)
    have HW := Lib.hid hw
    have HPL := Lib.hid (penc_short hw)
    clear hk8 hw hpis
    go_wp2_with fail
    refine (pencode_any HP8.out HW.out).mono ?_
    rintro e w9 ⟨vx, rfl, hx, hk9⟩
    obtain ⟨gx, capx, hvx⟩ : ∃ g cap, vx = .slice (some ⟨g, 0, none⟩) (penc l).length cap := by
      obtain ⟨_, ⟨_, h0⟩ | ⟨g, cap, _, h1, _⟩⟩ := hx
      · have := penc_len l; omega
      · exact ⟨g, cap, h1⟩
    subst hvx
    obtain ⟨mx, hmx⟩ : ∃ mx, (penc l).length = mx := ⟨_, rfl⟩
    have HMX := Lib.hid hmx
    have HX9 := Lib.hid (show w9.ownsRow w8.heap.size 5 1 (.slice (some ⟨gx, 0, none⟩) (penc l).length capx) (penc l).length (bts (penc l)) from hx)
    have HD9 := Lib.hid (pdecode_any (by have := HPL.out; omega) (rd_owned HX9.out))
    rw [hmx] at HD9 ⊢
    have HK9 := Lib.hid hk9
    clear hx hk9 hmx
    go_wp2_with fail
    refine HD9.out.mono ?_
    rintro e w10 ⟨hk10, hq⟩
    rw [pdec_enc HW.out] at hq
    obtain ⟨_, q, rfl, hq⟩ | ⟨h0, _⟩ := hq
    rotate_left
    · exact absurd rfl h0
    obtain ⟨qg, qm, qv, rfl, hqis⟩ := hq
    have HQ10 := Lib.hid (show PoolAt w10 (fun _ => True) (.pointer (some ⟨qg, 0, none⟩)) l from PoolAt.mono ⟨qg, qm, qv, rfl, hqis⟩ (fun _ _ _ => trivial))
    have HK10 := Lib.hid (HK9.out.and hk10)
    have HX10 := Lib.hid (owned_kept HX9.out hk10 fun _ _ _ => not_no _)
    have HLK := Lib.hid (looks_any HW.out HQ10.out (HL.out.no (HK8.out.and HK10.out)))
    clear hk10 hqis
    go_wp2_with fail
    refine HLK.out.mono ?_
    rintro e w11 ⟨rfl, hk11⟩
    have HK11 := Lib.hid (HK10.out.and hk11)
    have HX11 := Lib.hid (owned_kept HX10.out hk11 fun _ _ _ => not_no _)
    clear hk11
    go_wp2_with fail
    go_loopw [18, 19] (fun nv kv wr => ∃ k : Nat, kv = .int .i64 (k : Nat) ∧ 1 ≤ k ∧ k ≤ 5 ∧ nv = .int .i64 (cntK l k : Nat) ∧ Kept No w11 wr) (fun _ kv _ => 5 - (intOf kv).toNat)
    case atStart => exact ⟨1, rfl, by decide, by decide, by rw [cntK_one]; rfl, Kept.refl No w11⟩
    case round =>
      obtain ⟨k, rfl, hk1, hk5, rfl, hkk⟩ := hrel
      have HKK := Lib.hid hkk
      by_cases hk4 : k ≤ 4
      · have d4 : (k : Int) ≤ 4 := by omega
        have HK45 := Lib.hid (And.intro hk1 hk4)
        have HUPK := Lib.hid (cntK_up (wrong_out HW.out).2.1 hk1)
        have HST := Lib.hid (show (cntK l k : Nat) = cntK l k + cntR l k 1 by rw [cntR_one]; rfl)
        have hkw : IntKind.i64.wrap ((k : Int) + 1) = (k : Int) + 1 := IntWalk.i64_in _ (by omega)
        clear hk1 hk5 hkk hk4
        go_wp2_with fail
        go_loopw [18, 20] (fun nv rv wr => ∃ r : Nat, rv = .int .i64 (r : Nat) ∧ 1 ≤ r ∧ r ≤ 5 ∧ nv = .int .i64 (cntK l k + cntR l k r : Nat) ∧ Kept No w11 wr) (fun _ rv _ => 5 - (intOf rv).toNat)
        case atStart => exact ⟨1, rfl, by decide, by decide, by rw [← HST.out], HKK.out⟩
        case round =>
          obtain ⟨r, rfl, hr1, hr5, rfl, hkr⟩ := hrel
          have HKR := Lib.hid hkr
          by_cases hr4 : r ≤ 4
          · have d5 : (r : Int) ≤ 4 := by omega
            have HR45 := Lib.hid (And.intro hr1 hr4)
            have hrw : IntKind.i64.wrap ((r : Int) + 1) = (r : Int) + 1 := IntWalk.i64_in _ (by omega)
            have HUPR := Lib.hid (cntR_up l HK45.out.1 hr1)
            clear hr1 hr5 hkr hr4
            go_wp2_with fail
            refine (select_any (k : Nat) (r : Nat) (HP8.out.no (HK11.out.and HKR.out)) (by have := HLI.out.1; omega)).mono ?_
            rintro e w12 ⟨v12, rfl, h12, hk12⟩
            obtain ⟨ad12, cap12, rfl⟩ := owned_slice h12
            have HR12 := Lib.hid (rd_owned h12)
            have HK12 := Lib.hid (HKR.out.and hk12)
            obtain ⟨ns, hns⟩ : ∃ ns, (selF l (k : Nat) (r : Nat)).length = ns := ⟨_, rfl⟩
            have HNS := Lib.hid hns
            have HNB := Lib.hid (show ns ≤ 30 by rw [← hns]; have := sel_le l (k : Nat) (r : Nat); have := HLI.out.1; omega)
            obtain ⟨c0, hc0⟩ : ∃ c0, cntK l k + cntR l k r = c0 := ⟨_, rfl⟩
            have HC0 := Lib.hid hc0
            have HCB := Lib.hid (show c0 ≤ 60 by rw [← hc0]; have h1 : cntK l k ≤ l.length := List.countP_le_length; have h2 : cntR l k r ≤ l.length := List.countP_le_length; have := HLI.out.1; omega)
            rw [hns] at HR12 ⊢
            rw [hc0]
            clear h12 hk12 hns hc0
            go_wp2_with fail
            go_loopw [18, 102] (fun nv jv wr => ∃ j : Nat, jv = .int .i64 (j : Nat) ∧ j ≤ ns ∧ nv = .int .i64 (c0 + j : Nat) ∧ Kept No w12 wr) (fun _ jv _ => ns - (intOf jv).toNat)
            case atStart => exact ⟨0, rfl, Nat.zero_le _, rfl, Kept.refl No w12⟩
            case round =>
              obtain ⟨j, rfl, hj, rfl, hkj⟩ := hrel
              have HKJ := Lib.hid hkj
              by_cases hlt : j < ns
              · have hil : j < (selF l (k : Nat) (r : Nat)).length := by rw [HNS.out]; exact hlt
                obtain ⟨x, hx⟩ : ∃ x, (selF l (k : Nat) (r : Nat))[j]? = some x := ⟨_, List.getElem?_eq_getElem hil⟩
                obtain ⟨c, hc, hfit⟩ := sel_at (List.mem_of_getElem? hx)
                obtain ⟨_, _, ⟨_, h0⟩ | ⟨bb, oo, cc, he, _, _, hcl⟩⟩ := rd_no HR12.out hkj
                · omega
                have g0 : wr.cell? ⟨bb, oo + j, none⟩ = some (.int .i64 (x : Nat)) := hcl j _ (by rw [nvals_at, hx]; rfl)
                cases he
                obtain ⟨b1, o1, c1, ev, tv, hs, hcap, hrg, _⟩ := (HL.out.no (HK8.out.and (HK11.out.and (HK12.out.and hkj)))).at hc
                have hxl := (List.getElem?_eq_some_iff.1 hc).1
                unfold fitsF at hfit
                simp only [Bool.and_eq_true, Bool.or_eq_true, beq_iff_eq] at hfit
                have hk45 := HK45.out
                have hr45 := HR45.out
                have hkind : c.kind = (k : Int) := by omega
                have hrar : c.rarity = (r : Int) := by omega
                have g1 : wr.cell? ⟨b1, o1 + x * 14 + 1, none⟩ = some (.int .i64 (k : Nat)) := by rw [← hkind]; exact hrg 1 _ rfl
                have g13 : wr.cell? ⟨b1, o1 + x * 14 + 13, none⟩ = some (.int .i64 (r : Nat)) := by rw [← hrar]; exact hrg 13 _ rfl
                rw [HN.out] at hs hxl
                cases hs
                have hx0 : ¬ ((x : Int) < 0) := by omega
                have hx00 : (0 : Int) ≤ (x : Int) := by omega
                have hxn : ¬ ((n : Int) ≤ (x : Int)) := by omega
                have hxn2 : (x : Int) < (n : Int) := by omega
                have d1 : decide (j < ns) = true := decide_eq_true hlt
                have hj0 : (0 : Int) ≤ (j : Int) := by omega
                have hjn : (j : Int) < (ns : Int) := by omega
                have q5 : IntKind.i64.wrap ((j : Int) + 1) = (j : Int) + 1 := IntWalk.i64_in _ (by have := HNB.out; omega)
                have q6 : IntKind.i64.wrap (((c0 + j : Nat) : Int) + 1) = ((c0 + (j + 1) : Nat) : Int) := by rw [IntWalk.i64_in _ (by have := HNB.out; have := HCB.out; omega)] <;> omega
                have q7 : IntKind.i64.wrap ((c0 : Int) + (j : Int) + 1) = ((c0 + (j + 1) : Nat) : Int) := by rw [IntWalk.i64_in _ (by have := HNB.out; have := HCB.out; omega)] <;> omega
                have HJ := Lib.hid hlt
                clear hkj hlt hil hx hc hfit hcl hrg hkind hrar hk45 hr45 hxl hcap
                go_wp2_with fail
                have hJ := HJ.out
                refine ⟨⟨j + 1, by go_num, by omega, ?_, HKJ.out⟩, by simp [intOf]; omega⟩
                first | rfl | (congr 1; omega) | (simp; omega)
              · have d1 : decide (j < ns) = false := decide_eq_false hlt
                have HE := Lib.hid (show (c0 + j : Nat) = cntK l k + cntR l k (r + 1) by rw [HUPR.out, HNS.out, ← HC0.out]; omega)
                clear hlt hkj
                go_wp2_with fail
                have hr45 := HR45.out
                refine ⟨⟨r + 1, by go_num, by omega, by omega, by rw [← HE.out], HK12.out.and HKJ.out⟩, by simp [intOf]; omega⟩
          · have d5 : ¬ ((r : Int) ≤ 4) := by omega
            have hr : r = 5 := by omega
            subst hr
            have HE := Lib.hid HUPK.out
            clear hr1 hr5 hkr hr4
            go_wp2_with fail
            have hk45 := HK45.out
            exact ⟨⟨k + 1, by go_num, by omega, by omega, by rw [HE.out], HKR.out⟩, by simp [intOf]; omega⟩
      · have d4 : ¬ ((k : Int) ≤ 4) := by omega
        have hk : k = 5 := by omega
        subst hk
        rw [cntK_all (wrong_out HW.out).2.1, HN.out]
        have HXE := Lib.hid (owned_kept HX11.out hkk fun _ _ _ => not_no _)
        clear hk1 hk5 hkk hk4
        by_cases hin : 0 ≤ at_ ∧ at_ < (mx : Int) ∧ 0 < by_.toNat
        · obtain ⟨i, rfl⟩ : ∃ i : Nat, at_ = (i : Nat) := ⟨at_.toNat, by omega⟩
          have hi : i < mx := by omega
          have hil : i < (penc l).length := by rw [HMX.out]; exact hi
          obtain ⟨x, hx⟩ : ∃ x, (penc l)[i] = x := ⟨_, rfl⟩
          have c0 : wr.cell? ⟨gx, i, none⟩ = some (.int .u8 x.toNat) := by
            have := HXE.out.cellAt i (by simpa using hil)
            rw [this, bts_get, List.getElem?_eq_getElem hil, hx]; rfl
          have f0 : wr.frozen? ⟨gx, i, none⟩ = false := HXE.out.frozenAt i
          have hadd : (x + by_).toNat = (x.toNat + by_.toNat) % 256 := UInt8.toNat_add x by_
          have hput := byte_put HXE.out hil (x + by_)
          have HFL := Lib.hid (pdec_flip (y := x + by_) hil (by rw [hx]; exact add_ne x by_ hin.2.2))
          have HD := Lib.hid (pdecode_any (b := (penc l).set i (x + by_)) (by rw [List.length_set]; have := HPL.out; omega) (rd_owned (by rw [List.length_set] at hput ⊢; exact hput)))
          have hxl := x.toNat_lt
          have hyl := by_.toNat_lt
          obtain ⟨xn, hxn⟩ : ∃ xn, x.toNat = xn := ⟨_, rfl⟩
          obtain ⟨yn, hyn⟩ : ∃ yn, by_.toNat = yn := ⟨_, rfl⟩
          rw [hadd, HMX.out, hxn, hyn] at HD
          rw [hxn] at c0
          rw [hyn] at hin ⊢
          have t0 : (0 : Int) ≤ (i : Int) := by omega
          have t1 : (i : Int) < (mx : Int) := by omega
          have t2 : (0 : Int) < (yn : Int) := by omega
          clear hil hx hput hadd hxl hyl hxn hyn hi hin
          go_wp2_with fail
          refine HD.out.mono ?_
          rintro e w20 ⟨hk20, hq⟩
          rw [HFL.out] at hq
          obtain ⟨h0, _⟩ | ⟨_, rfl⟩ := hq
          · exact absurd h0 (by decide)
          have HK20 := Lib.hid (((HK8.out.and (HK11.out.and HKK.out)).put (p := ⟨gx, i, none⟩) (by have h1 := (HXE.out.lt gx rfl).1; have h2 := HK8.out.size; show w.heap.size ≤ gx; omega) _).and hk20)
          clear hk20
          go_wp2_with fail
          refine (known_any _).mono ?_
          rintro e w99 ⟨rfl, hk99⟩
          have HK99 := Lib.hid hk99
          clear hk99
          go_wp2_with fail
          go_ret
          exact ⟨rfl, HK20.out.and HK99.out⟩
        · obtain ⟨yn, hyn⟩ : ∃ yn, by_.toNat = yn := ⟨_, rfl⟩
          rw [hyn] at hin ⊢
          by_cases t0 : 0 ≤ at_
          · by_cases t1 : at_ < (mx : Int)
            · have t2 : ¬ ((0 : Int) < (yn : Int)) := by omega
              clear hin
              go_wp2_with fail
              refine (known_any _).mono ?_
              rintro e w99 ⟨rfl, hk99⟩
              have HK99 := Lib.hid hk99
              clear hk99
              go_wp2_with fail
              go_ret
              exact ⟨rfl, (HK8.out.and (HK11.out.and HKK.out)).and HK99.out⟩
            · clear hin
              go_wp2_with fail
              refine (known_any _).mono ?_
              rintro e w99 ⟨rfl, hk99⟩
              have HK99 := Lib.hid hk99
              clear hk99
              go_wp2_with fail
              go_ret
              exact ⟨rfl, (HK8.out.and (HK11.out.and HKK.out)).and HK99.out⟩
          · clear hin
            go_wp2_with fail
            refine (known_any _).mono ?_
            rintro e w99 ⟨rfl, hk99⟩
            have HK99 := Lib.hid hk99
            clear hk99
            go_wp2_with fail
            go_ret
            exact ⟨rfl, (HK8.out.and (HK11.out.and HKK.out)).and HK99.out⟩
end Go.Proofs.YtclgoilfclmibaaDoor
