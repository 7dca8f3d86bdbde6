/-
  Pool: PoolNews: a pool of any cards, what is found, and its bytes; no memory is shared.
-/
import Derived.Test.YtclgoilfclmibaaGreatDoorVj
import Derived.Deep.RegionHeld
import Derived.OrdersHeld
import Derived.Deep.Slices
set_option linter.unusedVariables false
set_option linter.unusedSimpArgs false
namespace Go.Proofs.YtclgoilfclmibaaGreatDoor
open Go Go.RowKit Go.Zn
attribute [local go_sem] Oper.semAt_some

/-- effects in a row of the call's own, whatever their numbers are -/
def EfS (W : World) (base : Nat) (ev : Value) : Prop := ∃ ad m cap, ev = .slice ad m cap ∧ (m = 0 ∨ ∃ b arr, ad = some ⟨b, 0, none⟩ ∧ (m ≤ cap ∧ cap ≤ maxLen) ∧ base ≤ b ∧ W.heap[b]? = some (.cells arr 50 (0, 0)) ∧ ∀ k, k < m → ∃ z, arr[k * 5 + 2]? = some (.int .i64 z))
/-- cards in a row of the call's own, whatever their names are -/
def CrS (W : World) (base g n : Nat) (EV : Nat → Value) : Prop := base ≤ g ∧ ∃ arr, W.heap[g]? = some (.cells arr 46 (0, 0)) ∧ ∀ i, i < n → (∃ s, arr[i * 14]? = some (.string s)) ∧ arr[i * 14 + 11]? = some (EV i) ∧ EfS W base (EV i)
theorem EfS.put {W : World} {base : Nat} {ev : Value} (h : EfS W base ev) {g o : Nat} (u : Value) (hg : ∀ arr, W.heap[g]? ≠ some (.cells arr 50 (0, 0))) : EfS (W.setCell ⟨g, o, none⟩ u) base ev := by
  obtain ⟨ad, m, cap, h1, h2⟩ := h
  refine ⟨ad, m, cap, h1, ?_⟩
  rcases h2 with h2 | ⟨b, arr, q1, q2, q3, q4, q5⟩
  · exact .inl h2
  · exact .inr ⟨b, arr, q1, q2, q3, obj_setCell q4 u (fun e => hg arr (by have e : b = g := e; rw [← e]; exact q4)), q5⟩
theorem EfS.num {W : World} {base : Nat} {ev : Value} (h : EfS W base ev) (b o : Nat) (z : Int) : EfS (W.setCell ⟨b, o, none⟩ (.int .i64 z)) base ev := by
  obtain ⟨ad, m, cap, h1, h2⟩ := h
  refine ⟨ad, m, cap, h1, ?_⟩
  rcases h2 with h2 | ⟨b', arr, q1, q2, q3, q4, q5⟩
  · exact .inl h2
  · by_cases e : b' = b
    · subst e
      refine .inr ⟨b', _, q1, q2, q3, obj_store q4 o (.int .i64 z), fun k hk => ?_⟩
      obtain ⟨y, hy⟩ := q5 k hk
      by_cases eo : o = k * 5 + 2
      · subst eo
        have hlt := (Array.getElem?_eq_some_iff.1 hy).1
        exact ⟨z, by rw [Array.getElem?_setIfInBounds_self_of_lt hlt]⟩
      · exact ⟨y, by rw [Array.getElem?_setIfInBounds_ne eo]; exact hy⟩
    · exact .inr ⟨b', arr, q1, q2, q3, obj_setCell q4 _ e, q5⟩
theorem CrS.name {W : World} {base g n : Nat} {EV : Nat → Value} (h : CrS W base g n EV) (i : Nat) (s : ByteArray) : CrS (W.setCell ⟨g, i * 14, none⟩ (.string s)) base g n EV := by
  obtain ⟨hb, arr, ha, hc⟩ := h
  refine ⟨hb, _, obj_store ha (i * 14) (.string s), fun j hj => ?_⟩
  obtain ⟨⟨s', h1⟩, h2, h3⟩ := hc j hj
  refine ⟨?_, by rw [Array.getElem?_setIfInBounds_ne (by omega)]; exact h2, h3.put _ fun arr' e => by rw [ha] at e; cases e⟩
  by_cases e : j = i
  · subst e
    exact ⟨s, by rw [Array.getElem?_setIfInBounds_self_of_lt (Array.getElem?_eq_some_iff.1 h1).1]⟩
  · exact ⟨s', by rw [Array.getElem?_setIfInBounds_ne (by omega)]; exact h1⟩
theorem CrS.num {W : World} {base g n : Nat} {EV : Nat → Value} (h : CrS W base g n EV) {b : Nat} {arr : Array Value} (hb : W.heap[b]? = some (.cells arr 50 (0, 0))) (o : Nat) (z : Int) : CrS (W.setCell ⟨b, o, none⟩ (.int .i64 z)) base g n EV := by
  obtain ⟨h0, arr', ha, hc⟩ := h
  refine ⟨h0, arr', obj_setCell ha _ (fun e => by
    have e : g = b := e
    rw [e, hb] at ha; cases ha), fun j hj => ?_⟩
  obtain ⟨h1, h2, h3⟩ := hc j hj
  exact ⟨h1, h2, h3.num b o z⟩
theorem ef_own {W : World} {base : Nat} {ev : Value} {l : List Eff} (h : OwnE W base ev l) : EfS W base ev := by
  obtain ⟨hx, ⟨hv, hn⟩ | ⟨g, cap, cur, hv, hg, hh, hnc, hcm, hcs, hct⟩⟩ := h
  · exact ⟨none, 0, 0, hv, .inl rfl⟩
  · refine ⟨_, l.length, cap, hv, .inr ⟨g, cur, rfl, ⟨hnc, hcm⟩, hg, hh, fun k hk => ?_⟩⟩
    have he : l[k]? = some l[k] := List.getElem?_eq_getElem hk
    have h1 : (effsCs l)[k * 5 + 2]? = some (.int .i64 l[k].n) := flat_get effCs 5 (fun _ => rfl) l k 2 l[k] he (by decide)
    rw [← hct, List.getElem?_take] at h1
    split at h1
    · rw [Array.getElem?_toList] at h1
      exact ⟨_, h1⟩
    · cases h1
theorem occ_at {W : World} {base : Nat} : ∀ {l : List Crd} {cs : List Value}, OwnCC W base l cs → ∀ i, i < l.length → ∃ s ev, cs[i * 14]? = some (.string s) ∧ cs[i * 14 + 11]? = some ev ∧ EfS W base ev
  | [], _, _, i, hi => absurd hi (by simp)
  | c :: l, _, ⟨ev, tv, r, h1, h2, h3⟩, 0, _ => ⟨strOf c.name, ev, by rw [h1]; rfl, by rw [h1]; rfl, ef_own h2.effs⟩
  | c :: l, _, ⟨ev, tv, r, h1, h2, h3⟩, i + 1, hi => by
    obtain ⟨s, ev', q1, q2, q3⟩ := occ_at h3 i (by simpa using hi)
    have hl : (crdCs c ev tv).length = 14 := rfl
    refine ⟨s, ev', ?_, ?_, q3⟩
    · rw [h1, List.getElem?_append_right (by omega), hl, show (i + 1) * 14 - 14 = i * 14 by omega]; exact q1
    · rw [h1, List.getElem?_append_right (by omega), hl, show (i + 1) * 14 + 11 - 14 = i * 14 + 11 by omega]; exact q2
theorem cds_own {W : World} {base : Nat} {v : Value} {l : List Crd} (h : OwnCs W base v l) (hl : 0 < l.length) : ∃ g cap EV, v = .slice (some ⟨g, 0, none⟩) l.length cap ∧ l.length ≤ cap ∧ CrS W base g l.length EV := by
  obtain ⟨cs, ⟨hx, ⟨hv, hn⟩ | ⟨g, cap, cur, hv, hg, hh, hnc, hcm, hcs, hct⟩⟩, hcc⟩ := h
  · omega
  · obtain ⟨EV, hEV⟩ := Go.Deep.choose_lt (α := Value) (p := fun i ev => (∃ s, cs[i * 14]? = some (.string s)) ∧ cs[i * 14 + 11]? = some ev ∧ EfS W base ev) (n := l.length) (fun i hi => by
      obtain ⟨s, ev, q1, q2, q3⟩ := occ_at hcc i hi
      exact ⟨ev, ⟨s, q1⟩, q2, q3⟩)
    have tk : ∀ j u, cs[j]? = some u → cur[j]? = some u := fun j u hj => by
      rw [← hct, List.getElem?_take] at hj
      split at hj
      · rw [Array.getElem?_toList] at hj; exact hj
      · cases hj
    refine ⟨g, cap, EV, hv, hnc, hg, cur, hh, fun i hi => ?_⟩
    obtain ⟨⟨s, q1⟩, q2, q3⟩ := hEV i hi
    exact ⟨⟨s, tk _ _ q1⟩, tk _ _ q2, q3⟩
def ChRel (w0 w1 : World) (g n : Nat) (EV : Nat → Value) (iv : Value) (wr : World) : Prop := ∃ i : Nat, iv = .int .i64 (i : Nat) ∧ i ≤ n ∧ (0 < n → CrS wr w0.heap.size g n EV) ∧ Kept (fun k => w0.heap.size ≤ k) w1 wr
def NuRel (w0 w1 : World) (g n m : Nat) (EV : Nat → Value) (kv : Value) (wr : World) : Prop := ∃ k : Nat, kv = .int .i64 (k : Nat) ∧ k ≤ m ∧ CrS wr w0.heap.size g n EV ∧ Kept (fun k => w0.heap.size ≤ k) w1 wr
set_option maxRecDepth 100000 in
set_option maxHeartbeats 16000000 in
theorem poolnews_any {l : List Crd} (hkeys : ∀ c ∈ l, -9223372036854775808 ≤ c.keys ∧ c.keys ≤ 9223372036854775807) {w : World} {B : Nat → Prop} {vl : Value} (hl : CrdsAt w B vl l) (s : List UInt8) :
    Calls Tryz.prog 3 #[vl, .string (strOf s)] w fun e w' => e = .returned (.bool true) ∧ Kept No w w' := by
  have HLT := Lib.hid (light_any hl)
  have HL := Lib.hid (fun W (hk : Kept No w W) => hl.no hk)
  obtain ⟨adl, capl, rfl⟩ := hl.slice
  have hsz := strOf_size s
  obtain ⟨sn, hsn⟩ : ∃ n, s.length = n := ⟨_, rfl⟩
  rw [hsn] at hsz
  cases hlf : lightF l
  · rw [hlf] at HLT
    clear hl hkeys hlf
    go_enter Tryz.func3, Tryz.ntmps3
    go_wp2_with fail
    refine HLT.out.mono ?_
    rintro e w1 ⟨rfl, hk⟩
    have HK1 := Lib.hid hk
    clear hk
    go_wp2_with fail
    refine (known_any _).mono ?_
    rintro e w99 ⟨rfl, hk99⟩
    have HK99 := Lib.hid hk99
    clear hk99
    go_wp2_with fail
    go_ret
    exact ⟨rfl, HK1.out.and HK99.out⟩
  have HLM := Lib.hid (show l.length ≤ 1000000 by have := (light_sm hlf hkeys).1; omega)
  have HSM := Lib.hid (light_sm hlf hkeys).2
  have HL30 := Lib.hid (light_sm hlf hkeys).1
  rw [hlf] at HLT
  obtain ⟨er, her⟩ : ∃ er, wrongF l = er := ⟨_, rfl⟩
  have HER := Lib.hid her
  have HWR := Lib.hid (fun W (hk : Kept No w W) => rwrong_any HLM.out HSM.out (hl.no hk))
  rw [her] at HWR
  have HWG := Lib.hid (fun (h0 : er ≠ 0) W (hk : Kept No w W) => her ▸ wrong_any HLM.out HSM.out (by rw [her]; exact h0) (hl.no hk))
  clear hl hkeys hlf her
  by_cases h100 : 100 < sn
  · have hs1 : 100 < (sn : Int) := by omega
    go_enter Tryz.func3, Tryz.ntmps3
    go_wp2_with fail
    refine HLT.out.mono ?_
    rintro e w1 ⟨rfl, hk⟩
    have HK1 := Lib.hid hk
    clear hk
    go_wp2_with fail
    refine (known_any _).mono ?_
    rintro e w99 ⟨rfl, hk99⟩
    have HK99 := Lib.hid hk99
    clear hk99
    go_wp2_with fail
    go_ret
    exact ⟨rfl, HK1.out.and HK99.out⟩
  have hs1 : ¬ (100 < (sn : Int)) := by omega
  have HSN := Lib.hid (show s.length ≤ 1000000 by omega)
  clear hsn
  go_enter Tryz.func3, Tryz.ntmps3
  go_wp2_with fail
  refine HLT.out.mono ?_
  rintro e w1 ⟨rfl, hk⟩
  have HK1 := Lib.hid hk
  clear hk
  go_wp2_with fail
  refine (HWR.out _ HK1.out).mono ?_
  rintro e w2 ⟨rfl, hk⟩
  have HK2 := Lib.hid (HK1.out.and hk)
  clear hk h100
  by_cases h0 : er = 0
  rotate_left
  · have dw : (er != 0) = true := by simpa using h0
    have HWW := Lib.hid (HWG.out h0 _ HK2.out)
    clear h0
    go_wp2_with fail
    refine HWW.out.mono ?_
    rintro e w3 ⟨rfl, hk⟩
    have HK3 := Lib.hid (HK2.out.and hk)
    clear hk
    go_wp2_with fail
    refine (known_any _).mono ?_
    rintro e w99 ⟨rfl, hk99⟩
    have HK99 := Lib.hid hk99
    clear hk99
    go_wp2_with fail
    go_ret
    exact ⟨rfl, HK3.out.and HK99.out⟩
  subst h0
  go_wp2_with fail
  refine (pnew_any HLM.out HSM.out (HL.out _ HK2.out)).mono ?_
  rintro e w3 ⟨hk3, ⟨_, p, rfl, hp⟩ | ⟨hw8, _⟩⟩
  rotate_left
  · exact absurd HER.out hw8
  obtain ⟨pg, pm, pv, rfl, hpis⟩ := hp
  have HP3 := Lib.hid (show PoolAt w3 (fun _ => True) (.pointer (some ⟨pg, 0, none⟩)) l from PoolAt.mono ⟨pg, pm, pv, rfl, hpis⟩ (fun _ _ _ => trivial))
  have HK3 := Lib.hid (HK2.out.and hk3)
  clear hk3 hpis
  go_wp2_with fail
  refine (looks_any HER.out HP3.out (HL.out _ HK3.out)).mono ?_
  rintro e w4 ⟨rfl, hk4⟩
  have HK4 := Lib.hid (HK3.out.and hk4)
  have HP4 := Lib.hid (HP3.out.no hk4)
  have HFD := Lib.hid (rfind_any HLM.out s (HL.out _ HK4.out))
  clear hk4
  cases hnm : nmAt l s with
  | none =>
    have HF2 := Lib.hid (finds_any (findV_no hnm ▸ find_any HP4.out HSN.out))
    have hV : rfindV l s = .tuple #[.int .i64 0, .bool false] := by unfold rfindV; rw [hnm]
    rw [hV] at HFD
    clear hV hnm
    go_wp2_with fail
    refine HFD.out.mono ?_
    rintro e w5 ⟨rfl, hw5⟩
    obtain rfl : w4 = w5 := hw5.symm
    go_wp2_with fail
    refine HF2.out.mono ?_
    rintro e w5 ⟨rfl, hw5⟩
    obtain rfl : w4 = w5 := hw5.symm
    go_wp2_with fail
    refine (cards_any HP4.out HLM.out HSM.out).mono ?_
    rintro e w5 ⟨v5, rfl, hown, hk5⟩
    have HK5 := Lib.hid hk5
    obtain ⟨ad5, cap5, rfl⟩ : ∃ ad cap, v5 = .slice ad l.length cap := by
      obtain ⟨cs, hr, _⟩ := hown
      exact owned_slice hr
    obtain ⟨n, hn⟩ : ∃ n, l.length = n := ⟨_, rfl⟩
    have hnb : n ≤ 30 := by rw [← hn]; exact HL30.out
    obtain ⟨g, EV, hsh⟩ : ∃ g EV, 0 < n → (ad5 = some ⟨g, 0, none⟩ ∧ n ≤ cap5 ∧ CrS w5 w4.heap.size g n EV) := by
      by_cases hp : 0 < l.length
      · obtain ⟨g, cap, EV, h1, h2, h3⟩ := cds_own hown hp
        cases h1
        rw [hn] at h2 h3
        exact ⟨g, EV, fun _ => ⟨rfl, h2, h3⟩⟩
      · exact ⟨0, fun _ => undef, fun h => absurd h (by omega)⟩
    have HSH := Lib.hid hsh
    rw [hn]
    have HN := Lib.hid hn
    clear hk5 hown hsh hn
    go_wp2_with fail
    go_loopw [74] (fun iv wr => ChRel w4 w5 g n EV iv wr) (fun iv _ => n - (intOf iv).toNat)
    case atStart => exact ⟨0, rfl, Nat.zero_le _, fun h => (HSH.out h).2.2, Kept.refl _ w5⟩
    case round =>
      obtain ⟨i, rfl, hi, hcr, hk⟩ := hrel
      have HK := Lib.hid hk
      by_cases hlt : i < n
      · obtain ⟨rfl, hcap, _⟩ := HSH.out (by omega)
        have hcr := hcr (by omega)
        obtain ⟨hbase, arr, ha, hat⟩ := hcr
        obtain ⟨⟨s0, hs0⟩, hev, hef⟩ := hat i hlt
        obtain ⟨ade, m, cape, hEV, hm⟩ := hef
        have HCR := Lib.hid (show CrS wr w4.heap.size g n EV from ⟨hbase, arr, ha, hat⟩)
        have c0 : wr.cell? ⟨g, i * 14, none⟩ = some (.string s0) := (obj_cell ha (i * 14)).trans hs0
        have f0 : wr.frozen? ⟨g, i * 14, none⟩ = false := obj_free ha (i * 14)
        obtain ⟨wS, hwS⟩ : ∃ wS, wr.setCell ⟨g, i * 14, none⟩ (.string { data := #[] }) = wS := ⟨_, rfl⟩
        have hcs : CrS wS w4.heap.size g n EV := by rw [← hwS]; exact HCR.out.name i _
        have HKS := Lib.hid (show Kept (fun k => w4.heap.size ≤ k) w5 wS by rw [← hwS]; exact hk.setCell (p := ⟨g, i * 14, none⟩) (fun _ => hbase) _)
        have c11 : wS.cell? ⟨g, i * 14 + 11, none⟩ = some (.slice ade m cape) := by
          obtain ⟨_, arr2, ha2, hat2⟩ := hcs
          have := (obj_cell ha2 (i * 14 + 11)).trans (hat2 i hlt).2.1
          rw [hEV] at this; exact this
        have HCS := Lib.hid hcs
        have HEV := Lib.hid hEV
        have hi0 : (0 : Int) ≤ (i : Int) := by omega
        have hin : (i : Int) < (n : Int) := by omega
        have d1 : decide (i < n) = true := decide_eq_true hlt
        have q4 : IntKind.i64.wrap ((i : Int) + 1) = (i : Int) + 1 := IntWalk.i64_in _ (by omega)
        have HI := Lib.hid hlt
        have HM6 := Lib.hid hm
        clear hk hlt ha hat hs0 hev hm hcs hEV hbase
        go_wp2_with fail
        clear c0 f0 hwS c11
        go_loopw [87] (fun kv wr2 => NuRel w4 w5 g n m EV kv wr2) (fun kv _ => m - (intOf kv).toNat)
        case atStart => exact ⟨0, rfl, Nat.zero_le _, HCS.out, HKS.out⟩
        case round =>
          obtain ⟨k, rfl, hk, hcr, hkk⟩ := hrel
          have HC := Lib.hid hcr
          have HKK := Lib.hid hkk
          obtain ⟨hbase, arr, ha, hat⟩ := hcr
          by_cases hkm : k < m
          · obtain ⟨_, hev, hef⟩ := hat i HI.out
            rw [HEV.out] at hev hef
            obtain ⟨_, _, _, h1, h2⟩ := hef
            cases h1
            rcases h2 with h2 | ⟨b, arr2, rfl, q2, q3, q5, q6⟩
            · omega
            obtain ⟨z, hz⟩ := q6 k hkm
            have c11 : wr.cell? ⟨g, i * 14 + 11, none⟩ = some (.slice (some ⟨b, 0, none⟩) m cape) := (obj_cell ha (i * 14 + 11)).trans hev
            have cN : wr.cell? ⟨b, k * 5 + 2, none⟩ = some (.int .i64 z) := (obj_cell q5 (k * 5 + 2)).trans hz
            have fN : wr.frozen? ⟨b, k * 5 + 2, none⟩ = false := obj_free q5 (k * 5 + 2)
            have HUP := Lib.hid (fun y : Int => HC.out.num q5 (k * 5 + 2) y)
            have HKU := Lib.hid (fun y : Int => HKK.out.setCell (p := ⟨b, k * 5 + 2, none⟩) (fun _ => q3) (.int .i64 y))
            have hk0 : (0 : Int) ≤ (k : Int) := by omega
            have hkn : (k : Int) < (m : Int) := by omega
            have dk : decide (k < m) = true := decide_eq_true hkm
            have hmb : m ≤ cape := q2.1
            have hmx := q2.2
            simp only [maxLen] at hmx
            have q7 : IntKind.i64.wrap ((k : Int) + 1) = (k : Int) + 1 := IntWalk.i64_in _ (by omega)
            have HKM := Lib.hid hkm
            clear hk hkk hkm ha hat hev q5 q6 hz hbase hmx q2
            go_wp2_with fail
            have hkm := HKM.out
            exact ⟨⟨k + 1, by go_num, by omega, HUP.out _, HKU.out _⟩, by simp [intOf]; omega⟩
          · have dk : decide (k < m) = false := decide_eq_false hkm
            have hkn : ¬ ((k : Int) < (m : Int)) := by omega
            clear hk hkk hkm ha hat
            go_wp2_with fail
            have hI := HI.out
            exact ⟨⟨i + 1, by go_num, by omega, fun _ => HC.out, HKK.out⟩, by simp [intOf]; omega⟩
      · have hin : ¬ ((i : Int) < (n : Int)) := by omega
        have d1 : decide (i < n) = false := decide_eq_false hlt
        have HKE := Lib.hid (HK5.out.new hk fun _ h => h)
        have HPE := Lib.hid (HP4.out.no HKE.out)
        clear hlt hk hcr
        go_wp2_with fail
        refine (pencode_any HPE.out HER.out).mono ?_
        rintro e w6 ⟨vx, rfl, hx, hk6⟩
        obtain ⟨adx, cpx, rfl⟩ := owned_slice hx
        have HX0 := Lib.hid (show w6.ownsRow wr.heap.size 5 1 (.slice adx (penc l).length cpx) (penc l).length (bts (penc l)) from hx)
        have HK6 := Lib.hid ((HK4.out.and HKE.out).and hk6)
        have HP6 := Lib.hid (HPE.out.no hk6)
        have HLn := Lib.hid (fun W (hk : Kept No w W) => (show CrdsAt W B (.slice adl n capl) l by have := HL.out W hk; rw [HN.out] at this; exact this))
        have HEN := Lib.hid (fun W (hk : Kept No w6 W) => rencode_any (HLn.out _ (HK6.out.and hk)) (by have := HL30.out; omega) (wrong_out HER.out).2.1)
        have HLK := Lib.hid (fun W (hk : Kept No w6 W) => looks_any HER.out (HP6.out.no hk) (HLn.out _ (HK6.out.and hk)))
        obtain ⟨mx, hmx⟩ : ∃ mx, (penc l).length = mx := ⟨_, rfl⟩
        have HMX := Lib.hid hmx
        rw [hmx] at HX0 ⊢
        obtain ⟨px, hpx⟩ : ∃ px, penc l = px := ⟨_, rfl⟩
        rw [hpx] at HX0 HEN HMX
        clear hx hk6 hmx hpx
        go_upto_region 24 with fail
        refine wp_region_held_drew (S := (fun W2 => Kept No w6 W2)) (by kernel_rfl) (Kept.refl No w6).drew (fun hHeld => ?_)
        refine wpAnyH_take (i := 0) (v := .slice adx mx cpx) rfl (by kernel_rfl) (by kernel_rfl) (by kernel_rfl) (fun _ _ _ h => h) (Or.inl ⟨by rfl, ?_⟩) (by assumption) ?_
        · intro W2 hSw; skip; go_simp
        simp only [Act.put, List.getElem_toArray, List.getElem_cons_zero, List.getElem_cons_succ, List.setIfInBounds_toArray, List.set_cons_zero, List.set_cons_succ]
        refine wpAnyH_take (i := 1) (v := .string (strOf px)) rfl (by kernel_rfl) (by kernel_rfl) (by kernel_rfl) (fun _ _ _ h => h) (Or.inl ⟨by rfl, ?_⟩) (by assumption) ?_
        · intro W2 hSw; have hcv := run_string_rd (P := Tryz.prog) Tryz.underlying51 Tryz.underlying5 Tryz.underlying9 (show Rd W2 _ 1 (.slice adx mx cpx) mx (bts px) from rd_no (rd_owned HX0.out) hSw); go_simp
        simp only [Act.put, List.getElem_toArray, List.getElem_cons_zero, List.getElem_cons_succ, List.setIfInBounds_toArray, List.set_cons_zero, List.set_cons_succ]
        refine wpAnyH_take (i := 2) (v := .slice adl n capl) rfl (by kernel_rfl) (by kernel_rfl) (by kernel_rfl) (fun _ _ _ h => h) (Or.inl ⟨by rfl, ?_⟩) (by assumption) ?_
        · intro W2 hSw; skip; go_simp
        simp only [Act.put, List.getElem_toArray, List.getElem_cons_zero, List.getElem_cons_succ, List.setIfInBounds_toArray, List.set_cons_zero, List.set_cons_succ]
        refine wpAnyH_ready (rs := [3]) (by kernel_rfl) (by simp) ?_
        refine AllReadyH.cons rfl (fun K hK => ?_) AllReadyH.nil
        go_simp
        refine (HEN.out _ (Kept.refl No w6).drew).mono ?_
        rintro e7 w7 ⟨vb, rfl, hb, hk7⟩
        obtain ⟨adb, cpb, rfl⟩ := owned_slice hb
        have HK7 := Lib.hid ((Kept.refl No w6).drew.and hk7)
        have hcv2 := run_string_rd (P := Tryz.prog) Tryz.underlying51 Tryz.underlying5 Tryz.underlying9 (rd_owned hb)
        clear hb hk7
        simp only []
        refine hK.out _ _ HK7.out (fun _ => ?_)
        clear hK K
        try simp only [Act.put, List.getElem_toArray, List.getElem_cons_zero, List.getElem_cons_succ, List.setIfInBounds_toArray, List.set_cons_zero, List.set_cons_succ]
        refine wpAnyH_ready (rs := [4]) (by kernel_rfl) (by simp) ?_
        refine AllReadyH.cons rfl (fun K hK => ?_) AllReadyH.nil
        go_simp
        refine hK.out _ _ HK7.out (fun _ => ?_)
        clear hK K
        try simp only [Act.put, List.getElem_toArray, List.getElem_cons_zero, List.getElem_cons_succ, List.setIfInBounds_toArray, List.set_cons_zero, List.set_cons_succ]
        clear hcv2
        refine wpAnyH_ready (rs := [5]) (by kernel_rfl) (by simp) ?_
        refine AllReadyH.cons rfl (fun K hK => ?_) AllReadyH.nil
        go_simp
        refine hK.out _ _ HK7.out (fun _ => ?_)
        clear hK K
        try simp only [Act.put, List.getElem_toArray, List.getElem_cons_zero, List.getElem_cons_succ, List.setIfInBounds_toArray, List.set_cons_zero, List.set_cons_succ]
        refine wpAnyH_ready (rs := [6]) (by kernel_rfl) (by simp) ?_
        refine AllReadyH.cons rfl (fun K hK => ?_) AllReadyH.nil
        go_simp
        refine hK.out _ _ HK7.out (fun _ => ?_)
        clear hK K
        try simp only [Act.put, List.getElem_toArray, List.getElem_cons_zero, List.getElem_cons_succ, List.setIfInBounds_toArray, List.set_cons_zero, List.set_cons_succ]
        refine wpAnyH_ready (rs := [7]) (by kernel_rfl) (by simp) ?_
        refine AllReadyH.cons rfl (fun K hK => ?_) AllReadyH.nil
        go_simp
        refine hK.out _ _ HK7.out (fun _ => ?_)
        clear hK K
        try simp only [Act.put, List.getElem_toArray, List.getElem_cons_zero, List.getElem_cons_succ, List.setIfInBounds_toArray, List.set_cons_zero, List.set_cons_succ]
        refine wpAnyH_ready (rs := [8]) (by kernel_rfl) (by simp) ?_
        refine AllReadyH.cons rfl (fun K hK => ?_) AllReadyH.nil
        go_simp
        refine hK.out _ _ HK7.out (fun _ => ?_)
        clear hK K
        try simp only [Act.put, List.getElem_toArray, List.getElem_cons_zero, List.getElem_cons_succ, List.setIfInBounds_toArray, List.set_cons_zero, List.set_cons_succ]
        refine wpAnyH_ready (rs := [9]) (by kernel_rfl) (by simp) ?_
        refine AllReadyH.cons rfl (fun K hK => ?_) AllReadyH.nil
        go_simp
        refine hK.out _ _ HK7.out (fun _ => ?_)
        clear hK K
        try simp only [Act.put, List.getElem_toArray, List.getElem_cons_zero, List.getElem_cons_succ, List.setIfInBounds_toArray, List.set_cons_zero, List.set_cons_succ]
        refine wpAnyH_ready (rs := [10]) (by kernel_rfl) (by simp) ?_
        refine AllReadyH.cons rfl (fun K hK => ?_) AllReadyH.nil
        go_simp
        refine hK.out _ _ HK7.out (fun _ => ?_)
        clear hK K
        try simp only [Act.put, List.getElem_toArray, List.getElem_cons_zero, List.getElem_cons_succ, List.setIfInBounds_toArray, List.set_cons_zero, List.set_cons_succ]
        refine wpAnyH_take (i := 11) (v := .pointer (some ⟨pg, 0, none⟩)) rfl (by kernel_rfl) (by kernel_rfl) (by kernel_rfl) (fun _ _ _ h => h) (Or.inl ⟨by rfl, ?_⟩) (by assumption) ?_
        · intro W2 hSw; skip; go_simp
        simp only [Act.put, List.getElem_toArray, List.getElem_cons_zero, List.getElem_cons_succ, List.setIfInBounds_toArray, List.set_cons_zero, List.set_cons_succ]
        refine wpAnyH_take (i := 12) (v := .slice adl n capl) rfl (by kernel_rfl) (by kernel_rfl) (by kernel_rfl) (fun _ _ _ h => h) (Or.inl ⟨by rfl, ?_⟩) (by assumption) ?_
        · intro W2 hSw; skip; go_simp
        simp only [Act.put, List.getElem_toArray, List.getElem_cons_zero, List.getElem_cons_succ, List.setIfInBounds_toArray, List.set_cons_zero, List.set_cons_succ]
        refine wpAnyH_ready (rs := [13]) (by kernel_rfl) (by simp) ?_
        refine AllReadyH.cons rfl (fun K hK => ?_) AllReadyH.nil
        go_simp
        refine (HLK.out _ HK7.out).mono ?_
        rintro e8 w8 ⟨rfl, hk8⟩
        have HK8 := Lib.hid (HK7.out.and hk8)
        clear hk8
        simp only []
        refine hK.out _ _ HK8.out (fun _ => ?_)
        clear hK K
        try simp only [Act.put, List.getElem_toArray, List.getElem_cons_zero, List.getElem_cons_succ, List.setIfInBounds_toArray, List.set_cons_zero, List.set_cons_succ]
        refine wpAnyH_ready (rs := [14]) (by kernel_rfl) (by simp) ?_
        refine AllReadyH.cons rfl (fun K hK => ?_) AllReadyH.nil
        go_simp
        refine hK.out _ _ HK8.out (fun _ => ?_)
        clear hK K
        try simp only [Act.put, List.getElem_toArray, List.getElem_cons_zero, List.getElem_cons_succ, List.setIfInBounds_toArray, List.set_cons_zero, List.set_cons_succ]
        refine wpAnyH_ready (rs := [15]) (by kernel_rfl) (by simp) ?_
        refine AllReadyH.cons rfl (fun K hK => ?_) AllReadyH.nil
        go_simp
        refine hK.out _ _ HK8.out (fun _ => ?_)
        clear hK K
        try simp only [Act.put, List.getElem_toArray, List.getElem_cons_zero, List.getElem_cons_succ, List.setIfInBounds_toArray, List.set_cons_zero, List.set_cons_succ]
        refine wpAnyH_ready (rs := [16]) (by kernel_rfl) (by simp) ?_
        refine AllReadyH.cons rfl (fun K hK => ?_) AllReadyH.nil
        go_simp
        refine (known_any _).mono ?_
        rintro e9 w9 ⟨rfl, hk9⟩
        have HK9 := Lib.hid (HK8.out.and hk9)
        clear hk9
        simp only []
        refine hK.out _ _ HK9.out (fun _ => ?_)
        clear hK K
        try simp only [Act.put, List.getElem_toArray, List.getElem_cons_zero, List.getElem_cons_succ, List.setIfInBounds_toArray, List.set_cons_zero, List.set_cons_succ]
        refine wpAnyH_ready (rs := [17]) (by kernel_rfl) (by simp) ?_
        refine AllReadyH.cons rfl (fun K hK => ?_) AllReadyH.nil
        go_simp
        refine hK.out _ _ HK9.out (fun _ => ?_)
        clear hK K
        try simp only [Act.put, List.getElem_toArray, List.getElem_cons_zero, List.getElem_cons_succ, List.setIfInBounds_toArray, List.set_cons_zero, List.set_cons_succ]
        refine wpAnyH_ready (rs := [18]) (by kernel_rfl) (by simp) ?_
        refine AllReadyH.cons rfl (fun K hK => ?_) AllReadyH.nil
        go_simp
        refine hK.out _ _ HK9.out (fun _ => ?_)
        clear hK K
        try simp only [Act.put, List.getElem_toArray, List.getElem_cons_zero, List.getElem_cons_succ, List.setIfInBounds_toArray, List.set_cons_zero, List.set_cons_succ]
        refine wpAnyH_done (by kernel_rfl) ?_ _
        go_wp2_with fail
        go_ret
        exact ⟨rfl, HK6.out.and HK9.out⟩
  | some x =>
    have HF2 := Lib.hid (finds_any (findV_at hnm ▸ find_any HP4.out HSN.out))
    have hV : rfindV l s = .tuple #[.int .i64 (x : Nat), .bool true] := by unfold rfindV; rw [hnm]
    rw [hV] at HFD
    clear hV hnm
    go_wp2_with fail
    refine HFD.out.mono ?_
    rintro e w5 ⟨rfl, hw5⟩
    obtain rfl : w4 = w5 := hw5.symm
    go_wp2_with fail
    refine HF2.out.mono ?_
    rintro e w5 ⟨rfl, hw5⟩
    obtain rfl : w4 = w5 := hw5.symm
    go_wp2_with fail
    refine (cards_any HP4.out HLM.out HSM.out).mono ?_
    rintro e w5 ⟨v5, rfl, hown, hk5⟩
    have HK5 := Lib.hid hk5
    obtain ⟨ad5, cap5, rfl⟩ : ∃ ad cap, v5 = .slice ad l.length cap := by
      obtain ⟨cs, hr, _⟩ := hown
      exact owned_slice hr
    obtain ⟨n, hn⟩ : ∃ n, l.length = n := ⟨_, rfl⟩
    have hnb : n ≤ 30 := by rw [← hn]; exact HL30.out
    obtain ⟨g, EV, hsh⟩ : ∃ g EV, 0 < n → (ad5 = some ⟨g, 0, none⟩ ∧ n ≤ cap5 ∧ CrS w5 w4.heap.size g n EV) := by
      by_cases hp : 0 < l.length
      · obtain ⟨g, cap, EV, h1, h2, h3⟩ := cds_own hown hp
        cases h1
        rw [hn] at h2 h3
        exact ⟨g, EV, fun _ => ⟨rfl, h2, h3⟩⟩
      · exact ⟨0, fun _ => undef, fun h => absurd h (by omega)⟩
    have HSH := Lib.hid hsh
    rw [hn]
    have HN := Lib.hid hn
    clear hk5 hown hsh hn
    go_wp2_with fail
    go_loopw [74] (fun iv wr => ChRel w4 w5 g n EV iv wr) (fun iv _ => n - (intOf iv).toNat)
    case atStart => exact ⟨0, rfl, Nat.zero_le _, fun h => (HSH.out h).2.2, Kept.refl _ w5⟩
    case round =>
      obtain ⟨i, rfl, hi, hcr, hk⟩ := hrel
      have HK := Lib.hid hk
      by_cases hlt : i < n
      · obtain ⟨rfl, hcap, _⟩ := HSH.out (by omega)
        have hcr := hcr (by omega)
        obtain ⟨hbase, arr, ha, hat⟩ := hcr
        obtain ⟨⟨s0, hs0⟩, hev, hef⟩ := hat i hlt
        obtain ⟨ade, m, cape, hEV, hm⟩ := hef
        have HCR := Lib.hid (show CrS wr w4.heap.size g n EV from ⟨hbase, arr, ha, hat⟩)
        have c0 : wr.cell? ⟨g, i * 14, none⟩ = some (.string s0) := (obj_cell ha (i * 14)).trans hs0
        have f0 : wr.frozen? ⟨g, i * 14, none⟩ = false := obj_free ha (i * 14)
        obtain ⟨wS, hwS⟩ : ∃ wS, wr.setCell ⟨g, i * 14, none⟩ (.string { data := #[] }) = wS := ⟨_, rfl⟩
        have hcs : CrS wS w4.heap.size g n EV := by rw [← hwS]; exact HCR.out.name i _
        have HKS := Lib.hid (show Kept (fun k => w4.heap.size ≤ k) w5 wS by rw [← hwS]; exact hk.setCell (p := ⟨g, i * 14, none⟩) (fun _ => hbase) _)
        have c11 : wS.cell? ⟨g, i * 14 + 11, none⟩ = some (.slice ade m cape) := by
          obtain ⟨_, arr2, ha2, hat2⟩ := hcs
          have := (obj_cell ha2 (i * 14 + 11)).trans (hat2 i hlt).2.1
          rw [hEV] at this; exact this
        have HCS := Lib.hid hcs
        have HEV := Lib.hid hEV
        have hi0 : (0 : Int) ≤ (i : Int) := by omega
        have hin : (i : Int) < (n : Int) := by omega
        have d1 : decide (i < n) = true := decide_eq_true hlt
        have q4 : IntKind.i64.wrap ((i : Int) + 1) = (i : Int) + 1 := IntWalk.i64_in _ (by omega)
        have HI := Lib.hid hlt
        have HM6 := Lib.hid hm
        clear hk hlt ha hat hs0 hev hm hcs hEV hbase
        go_wp2_with fail
        clear c0 f0 hwS c11
        go_loopw [87] (fun kv wr2 => NuRel w4 w5 g n m EV kv wr2) (fun kv _ => m - (intOf kv).toNat)
        case atStart => exact ⟨0, rfl, Nat.zero_le _, HCS.out, HKS.out⟩
        case round =>
          obtain ⟨k, rfl, hk, hcr, hkk⟩ := hrel
          have HC := Lib.hid hcr
          have HKK := Lib.hid hkk
          obtain ⟨hbase, arr, ha, hat⟩ := hcr
          by_cases hkm : k < m
          · obtain ⟨_, hev, hef⟩ := hat i HI.out
            rw [HEV.out] at hev hef
            obtain ⟨_, _, _, h1, h2⟩ := hef
            cases h1
            rcases h2 with h2 | ⟨b, arr2, rfl, q2, q3, q5, q6⟩
            · omega
            obtain ⟨z, hz⟩ := q6 k hkm
            have c11 : wr.cell? ⟨g, i * 14 + 11, none⟩ = some (.slice (some ⟨b, 0, none⟩) m cape) := (obj_cell ha (i * 14 + 11)).trans hev
            have cN : wr.cell? ⟨b, k * 5 + 2, none⟩ = some (.int .i64 z) := (obj_cell q5 (k * 5 + 2)).trans hz
            have fN : wr.frozen? ⟨b, k * 5 + 2, none⟩ = false := obj_free q5 (k * 5 + 2)
            have HUP := Lib.hid (fun y : Int => HC.out.num q5 (k * 5 + 2) y)
            have HKU := Lib.hid (fun y : Int => HKK.out.setCell (p := ⟨b, k * 5 + 2, none⟩) (fun _ => q3) (.int .i64 y))
            have hk0 : (0 : Int) ≤ (k : Int) := by omega
            have hkn : (k : Int) < (m : Int) := by omega
            have dk : decide (k < m) = true := decide_eq_true hkm
            have hmb : m ≤ cape := q2.1
            have hmx := q2.2
            simp only [maxLen] at hmx
            have q7 : IntKind.i64.wrap ((k : Int) + 1) = (k : Int) + 1 := IntWalk.i64_in _ (by omega)
            have HKM := Lib.hid hkm
            clear hk hkk hkm ha hat hev q5 q6 hz hbase hmx q2
            go_wp2_with fail
            have hkm := HKM.out
            exact ⟨⟨k + 1, by go_num, by omega, HUP.out _, HKU.out _⟩, by simp [intOf]; omega⟩
          · have dk : decide (k < m) = false := decide_eq_false hkm
            have hkn : ¬ ((k : Int) < (m : Int)) := by omega
            clear hk hkk hkm ha hat
            go_wp2_with fail
            have hI := HI.out
            exact ⟨⟨i + 1, by go_num, by omega, fun _ => HC.out, HKK.out⟩, by simp [intOf]; omega⟩
      · have hin : ¬ ((i : Int) < (n : Int)) := by omega
        have d1 : decide (i < n) = false := decide_eq_false hlt
        have HKE := Lib.hid (HK5.out.new hk fun _ h => h)
        have HPE := Lib.hid (HP4.out.no HKE.out)
        clear hlt hk hcr
        go_wp2_with fail
        refine (pencode_any HPE.out HER.out).mono ?_
        rintro e w6 ⟨vx, rfl, hx, hk6⟩
        obtain ⟨adx, cpx, rfl⟩ := owned_slice hx
        have HX0 := Lib.hid (show w6.ownsRow wr.heap.size 5 1 (.slice adx (penc l).length cpx) (penc l).length (bts (penc l)) from hx)
        have HK6 := Lib.hid ((HK4.out.and HKE.out).and hk6)
        have HP6 := Lib.hid (HPE.out.no hk6)
        have HLn := Lib.hid (fun W (hk : Kept No w W) => (show CrdsAt W B (.slice adl n capl) l by have := HL.out W hk; rw [HN.out] at this; exact this))
        have HEN := Lib.hid (fun W (hk : Kept No w6 W) => rencode_any (HLn.out _ (HK6.out.and hk)) (by have := HL30.out; omega) (wrong_out HER.out).2.1)
        have HLK := Lib.hid (fun W (hk : Kept No w6 W) => looks_any HER.out (HP6.out.no hk) (HLn.out _ (HK6.out.and hk)))
        obtain ⟨mx, hmx⟩ : ∃ mx, (penc l).length = mx := ⟨_, rfl⟩
        have HMX := Lib.hid hmx
        rw [hmx] at HX0 ⊢
        obtain ⟨px, hpx⟩ : ∃ px, penc l = px := ⟨_, rfl⟩
        rw [hpx] at HX0 HEN HMX
        clear hx hk6 hmx hpx
        go_upto_region 24 with fail
        refine wp_region_held_drew (S := (fun W2 => Kept No w6 W2)) (by kernel_rfl) (Kept.refl No w6).drew (fun hHeld => ?_)
        refine wpAnyH_take (i := 0) (v := .slice adx mx cpx) rfl (by kernel_rfl) (by kernel_rfl) (by kernel_rfl) (fun _ _ _ h => h) (Or.inl ⟨by rfl, ?_⟩) (by assumption) ?_
        · intro W2 hSw; skip; go_simp
        simp only [Act.put, List.getElem_toArray, List.getElem_cons_zero, List.getElem_cons_succ, List.setIfInBounds_toArray, List.set_cons_zero, List.set_cons_succ]
        refine wpAnyH_take (i := 1) (v := .string (strOf px)) rfl (by kernel_rfl) (by kernel_rfl) (by kernel_rfl) (fun _ _ _ h => h) (Or.inl ⟨by rfl, ?_⟩) (by assumption) ?_
        · intro W2 hSw; have hcv := run_string_rd (P := Tryz.prog) Tryz.underlying51 Tryz.underlying5 Tryz.underlying9 (show Rd W2 _ 1 (.slice adx mx cpx) mx (bts px) from rd_no (rd_owned HX0.out) hSw); go_simp
        simp only [Act.put, List.getElem_toArray, List.getElem_cons_zero, List.getElem_cons_succ, List.setIfInBounds_toArray, List.set_cons_zero, List.set_cons_succ]
        refine wpAnyH_take (i := 2) (v := .slice adl n capl) rfl (by kernel_rfl) (by kernel_rfl) (by kernel_rfl) (fun _ _ _ h => h) (Or.inl ⟨by rfl, ?_⟩) (by assumption) ?_
        · intro W2 hSw; skip; go_simp
        simp only [Act.put, List.getElem_toArray, List.getElem_cons_zero, List.getElem_cons_succ, List.setIfInBounds_toArray, List.set_cons_zero, List.set_cons_succ]
        refine wpAnyH_ready (rs := [3]) (by kernel_rfl) (by simp) ?_
        refine AllReadyH.cons rfl (fun K hK => ?_) AllReadyH.nil
        go_simp
        refine (HEN.out _ (Kept.refl No w6).drew).mono ?_
        rintro e7 w7 ⟨vb, rfl, hb, hk7⟩
        obtain ⟨adb, cpb, rfl⟩ := owned_slice hb
        have HK7 := Lib.hid ((Kept.refl No w6).drew.and hk7)
        have hcv2 := run_string_rd (P := Tryz.prog) Tryz.underlying51 Tryz.underlying5 Tryz.underlying9 (rd_owned hb)
        clear hb hk7
        simp only []
        refine hK.out _ _ HK7.out (fun _ => ?_)
        clear hK K
        try simp only [Act.put, List.getElem_toArray, List.getElem_cons_zero, List.getElem_cons_succ, List.setIfInBounds_toArray, List.set_cons_zero, List.set_cons_succ]
        refine wpAnyH_ready (rs := [4]) (by kernel_rfl) (by simp) ?_
        refine AllReadyH.cons rfl (fun K hK => ?_) AllReadyH.nil
        go_simp
        refine hK.out _ _ HK7.out (fun _ => ?_)
        clear hK K
        try simp only [Act.put, List.getElem_toArray, List.getElem_cons_zero, List.getElem_cons_succ, List.setIfInBounds_toArray, List.set_cons_zero, List.set_cons_succ]
        clear hcv2
        refine wpAnyH_ready (rs := [5]) (by kernel_rfl) (by simp) ?_
        refine AllReadyH.cons rfl (fun K hK => ?_) AllReadyH.nil
        go_simp
        refine hK.out _ _ HK7.out (fun _ => ?_)
        clear hK K
        try simp only [Act.put, List.getElem_toArray, List.getElem_cons_zero, List.getElem_cons_succ, List.setIfInBounds_toArray, List.set_cons_zero, List.set_cons_succ]
        refine wpAnyH_ready (rs := [6]) (by kernel_rfl) (by simp) ?_
        refine AllReadyH.cons rfl (fun K hK => ?_) AllReadyH.nil
        go_simp
        refine hK.out _ _ HK7.out (fun _ => ?_)
        clear hK K
        try simp only [Act.put, List.getElem_toArray, List.getElem_cons_zero, List.getElem_cons_succ, List.setIfInBounds_toArray, List.set_cons_zero, List.set_cons_succ]
        refine wpAnyH_ready (rs := [7]) (by kernel_rfl) (by simp) ?_
        refine AllReadyH.cons rfl (fun K hK => ?_) AllReadyH.nil
        go_simp
        refine hK.out _ _ HK7.out (fun _ => ?_)
        clear hK K
        try simp only [Act.put, List.getElem_toArray, List.getElem_cons_zero, List.getElem_cons_succ, List.setIfInBounds_toArray, List.set_cons_zero, List.set_cons_succ]
        refine wpAnyH_ready (rs := [8]) (by kernel_rfl) (by simp) ?_
        refine AllReadyH.cons rfl (fun K hK => ?_) AllReadyH.nil
        go_simp
        refine hK.out _ _ HK7.out (fun _ => ?_)
        clear hK K
        try simp only [Act.put, List.getElem_toArray, List.getElem_cons_zero, List.getElem_cons_succ, List.setIfInBounds_toArray, List.set_cons_zero, List.set_cons_succ]
        refine wpAnyH_ready (rs := [9]) (by kernel_rfl) (by simp) ?_
        refine AllReadyH.cons rfl (fun K hK => ?_) AllReadyH.nil
        go_simp
        refine hK.out _ _ HK7.out (fun _ => ?_)
        clear hK K
        try simp only [Act.put, List.getElem_toArray, List.getElem_cons_zero, List.getElem_cons_succ, List.setIfInBounds_toArray, List.set_cons_zero, List.set_cons_succ]
        refine wpAnyH_ready (rs := [10]) (by kernel_rfl) (by simp) ?_
        refine AllReadyH.cons rfl (fun K hK => ?_) AllReadyH.nil
        go_simp
        refine hK.out _ _ HK7.out (fun _ => ?_)
        clear hK K
        try simp only [Act.put, List.getElem_toArray, List.getElem_cons_zero, List.getElem_cons_succ, List.setIfInBounds_toArray, List.set_cons_zero, List.set_cons_succ]
        refine wpAnyH_take (i := 11) (v := .pointer (some ⟨pg, 0, none⟩)) rfl (by kernel_rfl) (by kernel_rfl) (by kernel_rfl) (fun _ _ _ h => h) (Or.inl ⟨by rfl, ?_⟩) (by assumption) ?_
        · intro W2 hSw; skip; go_simp
        simp only [Act.put, List.getElem_toArray, List.getElem_cons_zero, List.getElem_cons_succ, List.setIfInBounds_toArray, List.set_cons_zero, List.set_cons_succ]
        refine wpAnyH_take (i := 12) (v := .slice adl n capl) rfl (by kernel_rfl) (by kernel_rfl) (by kernel_rfl) (fun _ _ _ h => h) (Or.inl ⟨by rfl, ?_⟩) (by assumption) ?_
        · intro W2 hSw; skip; go_simp
        simp only [Act.put, List.getElem_toArray, List.getElem_cons_zero, List.getElem_cons_succ, List.setIfInBounds_toArray, List.set_cons_zero, List.set_cons_succ]
        refine wpAnyH_ready (rs := [13]) (by kernel_rfl) (by simp) ?_
        refine AllReadyH.cons rfl (fun K hK => ?_) AllReadyH.nil
        go_simp
        refine (HLK.out _ HK7.out).mono ?_
        rintro e8 w8 ⟨rfl, hk8⟩
        have HK8 := Lib.hid (HK7.out.and hk8)
        clear hk8
        simp only []
        refine hK.out _ _ HK8.out (fun _ => ?_)
        clear hK K
        try simp only [Act.put, List.getElem_toArray, List.getElem_cons_zero, List.getElem_cons_succ, List.setIfInBounds_toArray, List.set_cons_zero, List.set_cons_succ]
        refine wpAnyH_ready (rs := [14]) (by kernel_rfl) (by simp) ?_
        refine AllReadyH.cons rfl (fun K hK => ?_) AllReadyH.nil
        go_simp
        refine hK.out _ _ HK8.out (fun _ => ?_)
        clear hK K
        try simp only [Act.put, List.getElem_toArray, List.getElem_cons_zero, List.getElem_cons_succ, List.setIfInBounds_toArray, List.set_cons_zero, List.set_cons_succ]
        refine wpAnyH_ready (rs := [15]) (by kernel_rfl) (by simp) ?_
        refine AllReadyH.cons rfl (fun K hK => ?_) AllReadyH.nil
        go_simp
        refine hK.out _ _ HK8.out (fun _ => ?_)
        clear hK K
        try simp only [Act.put, List.getElem_toArray, List.getElem_cons_zero, List.getElem_cons_succ, List.setIfInBounds_toArray, List.set_cons_zero, List.set_cons_succ]
        refine wpAnyH_ready (rs := [16]) (by kernel_rfl) (by simp) ?_
        refine AllReadyH.cons rfl (fun K hK => ?_) AllReadyH.nil
        go_simp
        refine (known_any _).mono ?_
        rintro e9 w9 ⟨rfl, hk9⟩
        have HK9 := Lib.hid (HK8.out.and hk9)
        clear hk9
        simp only []
        refine hK.out _ _ HK9.out (fun _ => ?_)
        clear hK K
        try simp only [Act.put, List.getElem_toArray, List.getElem_cons_zero, List.getElem_cons_succ, List.setIfInBounds_toArray, List.set_cons_zero, List.set_cons_succ]
        refine wpAnyH_ready (rs := [17]) (by kernel_rfl) (by simp) ?_
        refine AllReadyH.cons rfl (fun K hK => ?_) AllReadyH.nil
        go_simp
        refine hK.out _ _ HK9.out (fun _ => ?_)
        clear hK K
        try simp only [Act.put, List.getElem_toArray, List.getElem_cons_zero, List.getElem_cons_succ, List.setIfInBounds_toArray, List.set_cons_zero, List.set_cons_succ]
        refine wpAnyH_ready (rs := [18]) (by kernel_rfl) (by simp) ?_
        refine AllReadyH.cons rfl (fun K hK => ?_) AllReadyH.nil
        go_simp
        refine hK.out _ _ HK9.out (fun _ => ?_)
        clear hK K
        try simp only [Act.put, List.getElem_toArray, List.getElem_cons_zero, List.getElem_cons_succ, List.setIfInBounds_toArray, List.set_cons_zero, List.set_cons_succ]
        refine wpAnyH_done (by kernel_rfl) ?_ _
        go_wp2_with fail
        go_ret
        exact ⟨rfl, HK6.out.and HK9.out⟩
end Go.Proofs.YtclgoilfclmibaaGreatDoor
