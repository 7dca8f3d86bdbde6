/-
  FeedPlays answers true, whatever the number and the calls.
-/
import Derived.Test.YtkdienebinnopaaPlayA2
namespace Go.Proofs.Ytkdienebinnopaa.feedPlays
open Go.ChangeShapes Go.WideShapes Go.ChangeAt Go.RowKit Go.Zn Go.Deep
set_option linter.unusedVariables false

theorem walk_bad (k : Int) (v : Value) (w : World) (hk : k < 1 ∨ 1000 < k) :
    Calls Try.prog 6 #[.int .i64 k, v] w fun e w' => e = .returned (.bool true) ∧ Kept No w w' := by
  by_cases h1 : k < 1
  · have d1 : decide (k < 1) = true := by simp; exact h1
    clear hk h1
    go_enter Try.func6, Try.ntmps6
    go_wp2_with fail
    refine (known_ok _).mono ?_
    rintro e w2 ⟨rfl, hk⟩
    go_wp2_with fail
    go_ret
    exact ⟨rfl, hk⟩
  · have d1 : decide (k < 1) = false := by simp; omega
    have d2 : decide (1000 < k) = true := by simp; omega
    clear hk h1
    go_enter Try.func6, Try.ntmps6
    go_wp2_with fail
    refine (known_ok _).mono ?_
    rintro e w2 ⟨rfl, hk⟩
    go_wp2_with fail
    go_ret
    exact ⟨rfl, hk⟩
set_option maxRecDepth 100000 in
set_option maxHeartbeats 6400000 in
theorem walk_ok (k : Nat) (hk1 : 1 ≤ k) (hk2 : k ≤ 1000) {w : World} {v : Value} {len : Nat} {X : Nat → Int} {N : Nat → Nat} {BS : Nat → List UInt8} (h : Acts w v len X N BS) :
    Calls Try.prog 6 #[.int .i64 k, v] w fun e w' => e = .returned (.bool true) ∧ Kept No w w' := by
  obtain ⟨ad, cap, rfl⟩ := h.slice
  have d1 : decide ((k : Int) < 1) = false := by simp; omega
  have d2 : decide (1000 < (k : Int)) = false := by simp; omega
  have H := Lib.hid h
  have HK1 := Lib.hid hk1
  have HK2 := Lib.hid hk2
  clear h hk1 hk2
  go_enter Try.func6, Try.ntmps6
  go_wp2_with fail
  refine (few_any H.out).mono ?_
  rintro e w2 ⟨r, rfl, hr, rfl⟩
  cases r with
  | false =>
    clear hr
    go_wp2_with fail
    refine (known_ok _).mono ?_
    rintro e w2 ⟨rfl, hk⟩
    go_wp2_with fail
    go_ret
    exact ⟨rfl, hk⟩
  | true =>
    have HR := Lib.hid (hr rfl)
    clear hr
    go_wp2_with fail
    refine (new_fs k w HK1.out HK2.out).mono ?_
    rintro e w1 ⟨b0, rb0, rfl, hf1, hr1, hr2, hk1⟩
    have HF1 := Lib.hid hf1
    have HR1 := Lib.hid hr1
    have HR2 := Lib.hid hr2
    have HKW := Lib.hid hk1
    clear hf1 hr1 hr2 hk1
    go_wp2_with fail
    have hlt0 := HF1.out.lt
    have hI0 : PlaysI w w1.heap.size b0 rb0 (FS.init k) (.slice none 0 0) k 0 0 0 (w1.alloc (.cells #[.int .i64 (k : Nat), .slice none 0 0, .int .u32 0, .int .u32 0, .int .u32 0] 31)) :=
      ⟨⟨rfl, rfl, rfl, rfl⟩, HF1.out.no ((Kept.refl No w1).alloc _), ⟨[], rfl, rd_nil _ _ _, fun i e d hi => by simp [FS.from, FS.init] at hi⟩, heap_alloc_new w1 _, by omega, by omega, by have := HKW.out.size; omega, by have := HR1.out; have := HR2.out; omega, HR1.out, HKW.out.alloc _⟩
    have HI0 := Lib.hid hI0
    have HG0 := Lib.hid (show w.heap.size ≤ w1.heap.size from HKW.out.size)
    clear hI0 hlt0 HF1 HR1 HR2 HKW
    go_loopw [5, 8] (fun p i wr => PlaysR w w1.heap.size k len p i wr) (fun p i _ => len - (intOf i).toNat)
    case atStart => exact ⟨b0, rb0, FS.init k, .slice none 0 0, 0, 0, 0, 0, rfl, rfl, Nat.zero_le _, Nat.le_refl _, HI0.out⟩
    case round =>
      generalize w1.heap.size = g at *
      clear HI0
      obtain ⟨b, rb, s, kv, last, a, lo, j, rfl, rfl, h1, h2, hI⟩ := hrel
      have H1 := Lib.hid h1
      have H2 := Lib.hid h2
      have HI := Lib.hid hI
      clear h1 h2 hI
      by_cases hj : j < len
      · have dj : decide (j < len) = true := by simp; exact hj
        have hj0 : (0 : Int) ≤ (j : Int) := by omega
        have hjl : (j : Int) < (len : Int) := by omega
        have hl80 : (len : Int) ≤ 80 := by have := HR.out.1; omega
        have hm80 : (last : Int) ≤ 80 := by have := H1.out; have := H2.out; have := HR.out.1; omega
        obtain ⟨ab, off, dd, dc, rfl, c0, c1, c2, hrd, hnj⟩ := H.out.at2 HI.out.2.2.2.2.2.2.2.2.2 hj
        have HJ := Lib.hid hj
        have HRD := Lib.hid hrd
        have HNJ := Lib.hid hnj
        have hbl := HR.out.2 j hj
        generalize hbe : (BS j).length = bl at *
        generalize hbx : BS j = bs at *
        generalize hnx : N j = nj at *
        generalize hxx : X j = xj at *
        have HBE := Lib.hid hbe
        clear hbe hbx hnx hxx hj hrd hnj
        have hst : xj = 0 ∨ xj = 1 ∨ xj = 2 ∨ (xj ≠ 0 ∧ xj ≠ 1 ∧ xj ≠ 2) := by omega
        rcases hst with rfl | rfl | rfl | ⟨hx0, hx1, hx2⟩
        case' inl =>
          have hkb : Kept No wr (wr.alloc (.cells #[.int .i64 0, .int .u32 (nj : Nat), .slice dd bl dc] 45)) := (Kept.refl No wr).alloc _
          obtain ⟨T, hF, hV, hG, ng1, ng2, wg, wb, wrb, hKR⟩ := HI.out
          have HT := Lib.hid T
          have HF := Lib.hid hF
          have HV := Lib.hid hV
          have HG := Lib.hid hG
          have HN := Lib.hid (And.intro ng1 (And.intro ng2 (And.intro wg (And.intro wb wrb))))
          have HKR := Lib.hid hKR
          have g0 := hkb.cell (obj_cell hG 0) (not_no _)
          have g1 := hkb.cell (obj_cell hG 1) (not_no _)
          have g2 := hkb.cell (obj_cell hG 2) (not_no _)
          have g3 := hkb.cell (obj_cell hG 3) (not_no _)
          have g4 := hkb.cell (obj_cell hG 4) (not_no _)
          have hbox := heap_alloc_new wr (.cells #[.int .i64 0, .int .u32 (nj : Nat), .slice dd bl dc] 45)
          have HB := Lib.hid hbox
          have HKB := Lib.hid hkb
          have HKV : Hid (∃ ad n cap, kv = .slice ad n cap) := by obtain ⟨a9, c9, h9⟩ := hV.slice; exact ⟨a9, _, c9, h9⟩
          clear T hF hV hG ng1 ng2 wg wb wrb hKR hkb hbox

          have hown0 : (wr.alloc (.cells #[.int .i64 0, .int .u32 (nj : Nat), .slice dd bl dc] 45)).ownsRow (wr.heap.size + 1) 5 1 (.slice none 0 0) 0 [] := ⟨by simp, .inl ⟨rfl, rfl⟩⟩
          have HOWN0 := Lib.hid hown0
          have HRDA := Lib.hid (HRD.out.alloc (.cells #[.int .i64 0, .int .u32 (nj : Nat), .slice dd bl dc] 45))
          have hbl2 : (0 + bl) * 1 ≤ 140737488355328 := by omega
          have hbs : wr.heap.size + 1 ≤ (wr.alloc (.cells #[.int .i64 0, .int .u32 (nj : Nat), .slice dd bl dc] 45)).heap.size := by simp
          have HBL2 := Lib.hid (And.intro hbl2 hbs)
          have hbx := obj_cell HB.out 2
          obtain ⟨M, hM⟩ : ∃ M, last + 1 = M := ⟨_, rfl⟩
          obtain ⟨lo', hlo'⟩ : ∃ lo', (s.add bs).l = lo' := ⟨_, rfl⟩
          have HM := Lib.hid hM
          have HLO := Lib.hid hlo'
          have hlt := HF.out.lt
          have hM81 : (M : Int) ≤ 81 := by omega
          clear hown0 hbl2 hbs hM hlo' g0 g1 g2 g3 g4
          go_wp2_with (at_builtin; refine wpList_append_rd rfl rfl rfl rfl ei36 HOWN0.out HRDA.out (bts_one bs) HBL2.out.1 HBL2.out.2 ?_; intro v1 w1 hown hg _; have hk01 : Kept No (wr.alloc (.cells #[.int .i64 0, .int .u32 (nj : Nat), .slice dd bl dc] 45)) w1 := (Kept.refl No _).grown hg (fun k e _ => by cases e); have hk1 : Kept No wr w1 := HKB.out.and hk01; have g0 := hk1.cell (obj_cell HG.out 0) (not_no _); have g1 := hk1.cell (obj_cell HG.out 1) (not_no _); have g2 := hk1.cell (obj_cell HG.out 2) (not_no _); have g3 := hk1.cell (obj_cell HG.out 3) (not_no _); have g4 := hk1.cell (obj_cell HG.out 4) (not_no _); have hbx1 := hk01.cell hbx (not_no _); rw [Nat.zero_add, List.nil_append] at hown; have HOWN := Lib.hid hown; have HK1 := Lib.hid hk1; have HBX1 := Lib.hid (hk01.size); clear hown hg hk01 hk1)
          refine (radd_m (HF.out.no HK1.out) HT.out (by have := H1.out; have := H2.out; omega) HM.out (((HV.out.mono (fun i hi h => (⟨h, hi⟩ : (i ≠ b ∧ i ≠ rb ∧ i ≠ g) ∧ i < wr.heap.size))).kept HK1.out (fun _ _ _ => not_no _))) HBE.out (HRD.out.kept HK1.out (fun _ _ _ => not_no _)) (by omega) HLO.out).mono ?_
          rintro e w3 ⟨kv3, rfl, hev3, hk3⟩
          have HEV3 := Lib.hid hev3
          have HK3 := Lib.hid hk3
          have HOL := Lib.hid (fun i (h : v1.ownBlock = some i) => owned_lt HOWN.out h)
          simp only [refV]
          clear hev3 hk3 g0 g1 g2 g3 g4 hbx hbx1
          obtain ⟨ad3, cap3, hkv3⟩ := HEV3.out.slice
          generalize ((s.add bs).from 0).length = len3 at hkv3
          subst hkv3
          go_wp2_with fail
          obtain ⟨w4, hw4⟩ : ∃ w4, w3.alloc (.cells #[.int .i64 (k : Nat), (.slice ad3 len3 cap3), .int .u32 (M : Nat), .int .u32 (a : Nat), .int .u32 (lo' : Nat)] 31) = w4 := ⟨_, rfl⟩
          have hk34 : Kept No w3 w4 := by rw [← hw4]; exact (Kept.refl No w3).alloc _
          have hb18 : w4.heap[w3.heap.size]? = some (.cells #[.int .i64 (k : Nat), (.slice ad3 len3 cap3), .int .u32 (M : Nat), .int .u32 (a : Nat), .int .u32 (lo' : Nat)] 31 (0, 0)) := by rw [← hw4]; exact heap_alloc_new w3 _
          rw [hw4]
          have HK34 := Lib.hid hk34
          have HB18 := Lib.hid hb18
          have HK4 := Lib.hid ((HK1.out.and HK3.out).and hk34)
          have HO4 := Lib.hid (owned_kept (owned_kept HOWN.out HK3.out (fun _ _ _ => not_no _)) hk34 (fun _ _ _ => not_no _))
          have hs1 := HK1.out.size
          have hs3 := HK3.out.size
          have hs4 := hk34.size
          clear hw4 hk34 hb18
          refine (add_n (HF.out.no HK4.out) (show s.n = M by rw [HT.out.2.1, HM.out]) (by omega) HBE.out (rd_owned HO4.out) (by omega) (fun i e => ⟨by omega, by omega⟩)).mono ?_
          rintro e w5 ⟨rfl, hf5, hk5, hQ5⟩
          have hrg5 := hQ5 (fun i => i ≠ b ∧ i ≠ rb ∧ i < wr.heap.size) (fun i h => ⟨h.1, h.2.1⟩) (HF.out.1.rg.kept HK4.out (not_no _) (fun _ _ _ => not_no _))
          have hmr5 : MRow w5 (wr.heap.size + 1) v1 := mrow_of (owned_kept HO4.out hk5 (fun i hi e h => by have := HOL.out i e; rcases h with h | h <;> omega))
          have HF5 := Lib.hid hf5
          have HK5 := Lib.hid hk5
          have HRG5 := Lib.hid hrg5
          have HMR5 := Lib.hid hmr5
          obtain ⟨ad1, cap1, hv1⟩ := owned_slice HOWN.out
          subst hv1
          clear hf5 hk5 hQ5 hrg5 hmr5
          go_wp2_with fail
          go_loopw [17] (fun kk wq => OwnK w5 (wr.heap.size + 1) bl (.slice ad1 bl cap1) kk wq) (fun kk _ => bl - (intOf kk).toNat)
          case atStart => exact ⟨0, rfl, Nat.zero_le _, HMR5.out, Kept.refl _ _⟩
          case round =>
            rename World => wq
            obtain ⟨jj, rfl, hjq, hm, hkq⟩ := hrel
            by_cases hlt2 : jj < bl
            · have hd2 : decide (jj < bl) = true := by simp; exact hlt2
              obtain ⟨dk, c, xb, rfl, hdb, hdh, hdc⟩ := hm.at hlt2
              have hfr := obj_free hdh jj
              have hj0' : (0 : Int) ≤ (jj : Int) := by omega
              have hj1' : (jj : Int) < (bl : Int) := by omega
              have HM2 := Lib.hid hm
              have HJQ := Lib.hid hlt2
              have HKQ := Lib.hid hkq
              clear hm hlt2 hdh hjq hkq
              go_wp2_with fail
              have e1 : (jj : Int) + 1 = ((jj + 1 : Nat) : Int) := by omega
              exact ⟨⟨jj + 1, by rw [e1], HJQ.out, HM2.out.store dk jj _, HKQ.out.setCell (p := ⟨dk, jj, none⟩) (fun _ => rfl) _⟩, by have := HJQ.out; simp [intOf]; omega⟩
            · have hd2 : decide (jj < bl) = false := by simp; omega
              have hobq : ∀ i, (Value.slice ad1 bl cap1).ownBlock = some i → wr.heap.size + 1 ≤ i ∧ i < w1.heap.size := fun i h => HOL.out i h
              have hglt := obj_lt HG.out
              have hk45g : ¬ Bk b rb g := fun h => by rcases h with h | h; exact HN.out.1 h; exact HN.out.2.1 h
              have hGq := hkq.obj (HK5.out.obj (HK4.out.obj HG.out (not_no _)) hk45g) (fun h => by have := hobq _ h; omega)
              have hBq := hkq.obj (HK5.out.obj HB18.out (fun h => by rcases h with h | h <;> omega)) (fun h => by have := hobq _ h; omega)
              have z0 := obj_free hGq 0
              have z1 := obj_free hGq 1
              have z2 := obj_free hGq 2
              have z3 := obj_free hGq 3
              have z4 := obj_free hGq 4
              have y0 := obj_cell hGq 0
              have y1 := obj_cell hGq 1
              have y2 := obj_cell hGq 2
              have y3 := obj_cell hGq 3
              have y4 := obj_cell hGq 4
              have b0 := obj_cell hBq 0
              have b1 := obj_cell hBq 1
              have b2 := obj_cell hBq 2
              have b3 := obj_cell hBq 3
              have b4 := obj_cell hBq 4
              have hp : PlaysI w g b rb (s.add bs) (.slice ad3 len3 cap3) k M a lo' (((((wq.setCell ⟨g, 0, none⟩ (.int .i64 (k : Nat))).setCell ⟨g, 1, none⟩ (.slice ad3 len3 cap3)).setCell ⟨g, 2, none⟩ (.int .u32 (M : Nat))).setCell ⟨g, 3, none⟩ (.int .u32 (a : Nat))).setCell ⟨g, 4, none⟩ (.int .u32 (lo' : Nat))) := by
                obtain ⟨ng1, ng2, wg, wb, wrb⟩ := HN.out
                have hfq : FOk wq b rb (s.add bs) := ⟨HF5.out.1.with HRG5.out hkq (fun h => by have := hobq _ h; omega) (fun h => by have := hobq _ h; omega) (fun i _ hq h => by have := hobq _ h; rcases hq with hq | hq <;> omega), HF5.out.2⟩
                have hev5 : REv wq (fun i => i ≠ b ∧ i ≠ rb ∧ i ≠ g) (.slice ad3 len3 cap3) ((s.add bs).from 0) := by
                  refine ((((HEV3.out.kept HK34.out (fun _ _ _ => not_no _)).kept HK5.out (fun i hi hq h => ?_)).kept hkq (fun i hi hq h => ?_))).mono (fun i hi hq => ?_)
                  · rcases hq with hq | hq
                    · rcases h with h | h
                      · exact hq.1.1 h
                      · exact hq.1.2.1 h
                    · rcases h with h | h <;> omega
                  · have := hobq _ h
                    rcases hq with hq | hq
                    · have := hq.2; omega
                    · omega
                  · rcases hq with hq | hq
                    · exact hq.1
                    · refine ⟨?_, ?_, ?_⟩ <;> omega
                have hkw : Kept No w wq := ((HKR.out.and HK4.out).new HK5.out (fun i h => by rcases h with h | h <;> omega)).new hkq (fun i h => by have := hobq _ h; have := HKR.out.size; omega)
                exact plays_store hfq hev5 HKV.out hGq ⟨HT.out.1, by show s.n + 1 = M + 1; rw [HT.out.2.1, HM.out], HT.out.2.2.1, HLO.out⟩ ng1 ng2 wg wb wrb hkw
              have HP0 := Lib.hid hp
              have dn : ((M : Int) == (M : Int)) = true := by simp
              clear hp hkq hGq hBq hm hlt2 hobq hjq hk45g
              go_wp2_with fail
              go_region
              all_goals
                obtain ⟨wt, hwt⟩ : ∃ wt, (((((wq.setCell ⟨g, 0, none⟩ (.int .i64 (k : Nat))).setCell ⟨g, 1, none⟩ (.slice ad3 len3 cap3)).setCell ⟨g, 2, none⟩ (.int .u32 (M : Nat))).setCell ⟨g, 3, none⟩ (.int .u32 (a : Nat))).setCell ⟨g, 4, none⟩ (.int .u32 (lo' : Nat))).drew = wt := ⟨_, rfl⟩
                rw [hwt]
                have hp : PlaysI w g b rb (s.add bs) (.slice ad3 len3 cap3) k M a lo' wt := by rw [← hwt]; exact HP0.out.no ((Kept.refl No _).drew)
                have HP := Lib.hid hp
                have hlj : M ≤ j + 1 := by have := H2.out; have := HM.out; omega
                have HLJ := Lib.hid hlj
                obtain ⟨sF, hsF⟩ : ∃ sF, s.add bs = sF := ⟨_, rfl⟩
                obtain ⟨kvF, hkvF⟩ : ∃ kvF, Value.slice ad3 len3 cap3 = kvF := ⟨_, rfl⟩
                rw [hsF, hkvF] at HP
                clear hp hlj hwt b0 b1 b2 b3 b4 z0 z1 z2 z3 z4 y0 y1 y2 y3 y4 hsF hkvF dn
                have e0 := obj_cell HP.out.2.2.2.1 0
                have e1 := obj_cell HP.out.2.2.2.1 1
                have e2 := obj_cell HP.out.2.2.2.1 2
                have e3 := obj_cell HP.out.2.2.2.1 3
                have e4 := obj_cell HP.out.2.2.2.1 4
                go_wp2_with fail
                refine (looks_fs HP.out.2.1 HP.out.1 HP.out.2.2.1).mono ?_
                rintro e w9 ⟨rfl, hk9⟩
                have HK9 := Lib.hid hk9
                clear hk9 e0 e1 e2 e3 e4
                go_wp2_with fail
                have hj := HJ.out
                exact ⟨⟨b, rb, sF, kvF, M, a, lo', j + 1, rfl, by go_num, hj, HLJ.out, HP.out.no HK9.out⟩, by simp [intOf]; omega⟩
        case' inr.inl =>
          have hkb : Kept No wr (wr.alloc (.cells #[.int .i64 1, .int .u32 (nj : Nat), .slice dd bl dc] 45)) := (Kept.refl No wr).alloc _
          obtain ⟨T, hF, hV, hG, ng1, ng2, wg, wb, wrb, hKR⟩ := HI.out
          have HT := Lib.hid T
          have HF := Lib.hid hF
          have HV := Lib.hid hV
          have HG := Lib.hid hG
          have HN := Lib.hid (And.intro ng1 (And.intro ng2 (And.intro wg (And.intro wb wrb))))
          have HKR := Lib.hid hKR
          have g0 := hkb.cell (obj_cell hG 0) (not_no _)
          have g1 := hkb.cell (obj_cell hG 1) (not_no _)
          have g2 := hkb.cell (obj_cell hG 2) (not_no _)
          have g3 := hkb.cell (obj_cell hG 3) (not_no _)
          have g4 := hkb.cell (obj_cell hG 4) (not_no _)
          have hbox := heap_alloc_new wr (.cells #[.int .i64 1, .int .u32 (nj : Nat), .slice dd bl dc] 45)
          have HB := Lib.hid hbox
          have HKB := Lib.hid hkb
          have HKV : Hid (∃ ad n cap, kv = .slice ad n cap) := by obtain ⟨a9, c9, h9⟩ := hV.slice; exact ⟨a9, _, c9, h9⟩
          clear T hF hV hG ng1 ng2 wg wb wrb hKR hkb hbox
          by_cases hnl : nj ≤ last
          case' pos =>
            obtain ⟨an, han⟩ : ∃ an, max s.f (nj + 1) - s.f = an := ⟨_, rfl⟩
            obtain ⟨a', ha'⟩ : ∃ a', max s.a nj = a' := ⟨_, rfl⟩
            have HAN := Lib.hid han
            have HA' := Lib.hid ha'
            have HNL := Lib.hid hnl
            clear han ha' hnl
            go_wp2_with fail
            refine (rack_fs (HF.out.no HKB.out) HT.out (by omega) (HV.out.kept HKB.out (fun _ _ _ => not_no _)) HNL.out HAN.out HA'.out).mono ?_
            rintro e w3 ⟨kv3, rfl, hev3, hk3⟩
            have hbox3 := hk3.cell (obj_cell HB.out 1) (not_no _)
            have HEV3 := Lib.hid hev3
            have HK3 := Lib.hid hk3
            simp only [refV]
            clear hev3 hk3 g0 g1 g2 g3 g4
            obtain ⟨ad3, cap3, hkv3⟩ := HEV3.out.slice
            generalize ((s.ack nj).from 0).length = len3 at hkv3
            subst hkv3

            go_wp2_with fail
            obtain ⟨w4, hw4⟩ : ∃ w4, w3.alloc (.cells #[.int .i64 (k : Nat), (.slice ad3 len3 cap3), .int .u32 (last : Nat), .int .u32 (a' : Nat), .int .u32 (lo : Nat)] 31) = w4 := ⟨_, rfl⟩
            have hk4 : Kept No wr w4 := by rw [← hw4]; exact (HKB.out.and HK3.out).alloc _
            have hk34 : Kept No w3 w4 := by rw [← hw4]; exact (Kept.refl No w3).alloc _
            have hb18 : w4.heap[w3.heap.size]? = some (.cells #[.int .i64 (k : Nat), (.slice ad3 len3 cap3), .int .u32 (last : Nat), .int .u32 (a' : Nat), .int .u32 (lo : Nat)] 31 (0, 0)) := by rw [← hw4]; exact heap_alloc_new w3 _
            have hbox4 : w4.cell? ⟨wr.heap.size, 1, none⟩ = some (.int .u32 (nj : Nat)) := hk34.cell hbox3 (not_no _)
            rw [hw4]
            have b0 := obj_cell hb18 0
            have b1 := obj_cell hb18 1
            have b2 := obj_cell hb18 2
            have b3 := obj_cell hb18 3
            have b4 := obj_cell hb18 4
            have HF4 := Lib.hid (HF.out.no hk4)
            have HK4 := Lib.hid hk4
            have HK34 := Lib.hid hk34
            have HB18 := Lib.hid hb18
            have hG4 := hk4.obj HG.out (not_no _)
            have HG4 := Lib.hid hG4
            have z0 := obj_free hG4 0
            have z1 := obj_free hG4 1
            have z2 := obj_free hG4 2
            have z3 := obj_free hG4 3
            have z4 := obj_free hG4 4
            have hlt := HF.out.lt
            have hlt3 := (HKB.out.and HK3.out).size
            have hx : nj < s.n := by have := HT.out.2.1; have := HNL.out; omega
            have HX := Lib.hid hx
            have HWANT := Lib.hid (show (an : Int) = ((max s.f (nj + 1) - s.f : Nat) : Int) by rw [HAN.out])
            clear hw4 hk4 hk34 hb18 hbox3 hx hG4
            go_region_with (go_at_call 21; refine (acks_ok (by first | exact HF4.out | exact HF4.out.no ((Kept.refl No _).drew)) HX.out _ HWANT.out).mono ?_; rintro e w5 ⟨rfl, hf5, hk5⟩; have q0 := hk5.cell b0 (fun h => by rcases h with h | h <;> omega); have q1 := hk5.cell b1 (fun h => by rcases h with h | h <;> omega); have q2 := hk5.cell b2 (fun h => by rcases h with h | h <;> omega); have q3 := hk5.cell b3 (fun h => by rcases h with h | h <;> omega); have q4 := hk5.cell b4 (fun h => by rcases h with h | h <;> omega); have hG5 := hk5.obj HG4.out (fun h => by rcases h with h | h; exact HN.out.1 h; exact HN.out.2.1 h); have y0 := obj_cell hG5 0; have y1 := obj_cell hG5 1; have y2 := obj_cell hG5 2; have y3 := obj_cell hG5 3; have y4 := obj_cell hG5 4; have x0 := obj_free hG5 0; have x1 := obj_free hG5 1; have x2 := obj_free hG5 2; have x3 := obj_free hG5 3; have x4 := obj_free hG5 4; have HF5 := Lib.hid hf5; have HK5 := Lib.hid hk5; have HG5 := Lib.hid hG5; clear hf5 hk5 hG5)
            all_goals
              obtain ⟨wt, hwt⟩ : ∃ wt, (((((w5.setCell ⟨g, 0, none⟩ (.int .i64 (k : Nat))).setCell ⟨g, 1, none⟩ (.slice ad3 len3 cap3)).setCell ⟨g, 2, none⟩ (.int .u32 (last : Nat))).setCell ⟨g, 3, none⟩ (.int .u32 (a' : Nat))).setCell ⟨g, 4, none⟩ (.int .u32 (lo : Nat))) = wt := ⟨_, rfl⟩
              rw [hwt]
              obtain ⟨ng1, ng2, wg, wb, wrb⟩ := HN.out
              have hp : PlaysI w g b rb (s.ack nj) (.slice ad3 len3 cap3) k last a' lo wt := by
                rw [← hwt]
                have hk45 : Kept (Bk b rb) w4 w5 := by first | exact HK5.out | exact HK5.out.of_drew
                have hk35 : Kept (Bk b rb) w3 w5 := (HK34.out.any (T := Bk b rb)).and hk45
                have hkw : Kept No w w5 := (HKR.out.and HK4.out).new hk45 (fun i h => by rcases h with h | h <;> omega)
                have hglt := obj_lt HG.out
                have hkbs := HKB.out.size
                have hev5 : REv w5 (fun i => i ≠ b ∧ i ≠ rb ∧ i ≠ g) (.slice ad3 len3 cap3) (((s.ack nj)).from 0) := by
                  refine (HEV3.out.kept hk35 (fun i hi hq h => ?_)).mono (fun i hi hq => ?_)
                  · rcases hq with hq | hq
                    · rcases h with h | h
                      · exact hq.1 h
                      · exact hq.2.1 h
                    · rcases h with h | h <;> omega
                  · rcases hq with hq | hq
                    · exact hq
                    · refine ⟨?_, ?_, ?_⟩ <;> omega
                exact plays_store HF5.out hev5 HKV.out HG5.out ⟨HT.out.1, HT.out.2.1, HA'.out, HT.out.2.2.2⟩ ng1 ng2 wg wb wrb hkw
              have HP := Lib.hid hp
              have hlj : last ≤ j + 1 := by have := H2.out; omega
              have HLJ := Lib.hid hlj
              obtain ⟨sF, hsF⟩ : ∃ sF, (s.ack nj) = sF := ⟨_, rfl⟩
              obtain ⟨kvF, hkvF⟩ : ∃ kvF, Value.slice ad3 len3 cap3 = kvF := ⟨_, rfl⟩
              rw [hsF, hkvF] at HP
              clear hp hlj hwt q0 q1 q2 q3 q4 y0 y1 y2 y3 y4 x0 x1 x2 x3 x4 b0 b1 b2 b3 b4 z0 z1 z2 z3 z4 hbox4 hsF hkvF
              have e0 := obj_cell HP.out.2.2.2.1 0
              have e1 := obj_cell HP.out.2.2.2.1 1
              have e2 := obj_cell HP.out.2.2.2.1 2
              have e3 := obj_cell HP.out.2.2.2.1 3
              have e4 := obj_cell HP.out.2.2.2.1 4
              go_wp2_with fail
              refine (looks_fs HP.out.2.1 HP.out.1 HP.out.2.2.1).mono ?_
              rintro e w9 ⟨rfl, hk9⟩
              have HK9 := Lib.hid hk9
              clear hk9 e0 e1 e2 e3 e4
              go_wp2_with fail
              have hj := HJ.out
              exact ⟨⟨b, rb, sF, kvF, last, a', lo, j + 1, rfl, by go_num, hj, HLJ.out, HP.out.no HK9.out⟩, by simp [intOf]; omega⟩
          case' neg =>
            have HNL := Lib.hid hnl
            clear hnl
            obtain ⟨ad0, len0, cap0, hkv0⟩ := HKV.out
            subst hkv0
            go_wp2_with fail
            refine (rack_range _ k _ HKV.out last a lo nj (by have := HNL.out; omega) HNJ.out).mono ?_
            rintro e w3 ⟨rfl, hk3⟩
            have hev3 : REv w3 (fun i => (i ≠ b ∧ i ≠ rb ∧ i ≠ g) ∨ (wr.alloc (.cells #[.int .i64 1, .int .u32 (nj : Nat), .slice dd bl dc] 45)).heap.size ≤ i) (.slice ad0 len0 cap0) (s.from 0) := ((HV.out.kept HKB.out (fun _ _ _ => not_no _)).kept hk3 (fun _ _ _ => not_no _)).mono (fun i _ h => .inl h)
            have hbox3 := hk3.cell (obj_cell HB.out 1) (not_no _)
            have HEV3 := Lib.hid hev3
            have HK3 := Lib.hid hk3
            simp only [refV]
            clear hev3 hk3 g0 g1 g2 g3 g4

            go_wp2_with fail
            obtain ⟨w4, hw4⟩ : ∃ w4, w3.alloc (.cells #[.int .i64 (k : Nat), (.slice ad0 len0 cap0), .int .u32 (last : Nat), .int .u32 (a : Nat), .int .u32 (lo : Nat)] 31) = w4 := ⟨_, rfl⟩
            have hk4 : Kept No wr w4 := by rw [← hw4]; exact (HKB.out.and HK3.out).alloc _
            have hk34 : Kept No w3 w4 := by rw [← hw4]; exact (Kept.refl No w3).alloc _
            have hb18 : w4.heap[w3.heap.size]? = some (.cells #[.int .i64 (k : Nat), (.slice ad0 len0 cap0), .int .u32 (last : Nat), .int .u32 (a : Nat), .int .u32 (lo : Nat)] 31 (0, 0)) := by rw [← hw4]; exact heap_alloc_new w3 _
            have hbox4 : w4.cell? ⟨wr.heap.size, 1, none⟩ = some (.int .u32 (nj : Nat)) := hk34.cell hbox3 (not_no _)
            rw [hw4]
            have b0 := obj_cell hb18 0
            have b1 := obj_cell hb18 1
            have b2 := obj_cell hb18 2
            have b3 := obj_cell hb18 3
            have b4 := obj_cell hb18 4
            have HF4 := Lib.hid (HF.out.no hk4)
            have HK4 := Lib.hid hk4
            have HK34 := Lib.hid hk34
            have HB18 := Lib.hid hb18
            have hG4 := hk4.obj HG.out (not_no _)
            have HG4 := Lib.hid hG4
            have z0 := obj_free hG4 0
            have z1 := obj_free hG4 1
            have z2 := obj_free hG4 2
            have z3 := obj_free hG4 3
            have z4 := obj_free hG4 4
            have hlt := HF.out.lt
            have hlt3 := (HKB.out.and HK3.out).size
            have hx : s.n ≤ nj := by have := HT.out.2.1; have := HNL.out; omega
            have HX := Lib.hid hx
            clear hw4 hk4 hk34 hb18 hbox3 hx hG4
            go_region_with (go_at_call 21; refine (acks_rangeP (by first | exact HF4.out | exact HF4.out.no ((Kept.refl No _).drew)) HX.out HNJ.out).mono ?_; rintro e w5 ⟨rfl, hf5, hk5⟩; have q0 := hk5.cell b0 (fun h => by rcases h with h | h <;> omega); have q1 := hk5.cell b1 (fun h => by rcases h with h | h <;> omega); have q2 := hk5.cell b2 (fun h => by rcases h with h | h <;> omega); have q3 := hk5.cell b3 (fun h => by rcases h with h | h <;> omega); have q4 := hk5.cell b4 (fun h => by rcases h with h | h <;> omega); have hG5 := hk5.obj HG4.out (fun h => by rcases h with h | h; exact HN.out.1 h; exact HN.out.2.1 h); have y0 := obj_cell hG5 0; have y1 := obj_cell hG5 1; have y2 := obj_cell hG5 2; have y3 := obj_cell hG5 3; have y4 := obj_cell hG5 4; have x0 := obj_free hG5 0; have x1 := obj_free hG5 1; have x2 := obj_free hG5 2; have x3 := obj_free hG5 3; have x4 := obj_free hG5 4; have HF5 := Lib.hid hf5; have HK5 := Lib.hid hk5; have HG5 := Lib.hid hG5; clear hf5 hk5 hG5)
            all_goals
              obtain ⟨wt, hwt⟩ : ∃ wt, (((((w5.setCell ⟨g, 0, none⟩ (.int .i64 (k : Nat))).setCell ⟨g, 1, none⟩ (.slice ad0 len0 cap0)).setCell ⟨g, 2, none⟩ (.int .u32 (last : Nat))).setCell ⟨g, 3, none⟩ (.int .u32 (a : Nat))).setCell ⟨g, 4, none⟩ (.int .u32 (lo : Nat))) = wt := ⟨_, rfl⟩
              rw [hwt]
              obtain ⟨ng1, ng2, wg, wb, wrb⟩ := HN.out
              have hp : PlaysI w g b rb s (.slice ad0 len0 cap0) k last a lo wt := by
                rw [← hwt]
                have hk45 : Kept (Bk b rb) w4 w5 := by first | exact HK5.out | exact HK5.out.of_drew
                have hk35 : Kept (Bk b rb) w3 w5 := (HK34.out.any (T := Bk b rb)).and hk45
                have hkw : Kept No w w5 := (HKR.out.and HK4.out).new hk45 (fun i h => by rcases h with h | h <;> omega)
                have hglt := obj_lt HG.out
                have hkbs := HKB.out.size
                have hev5 : REv w5 (fun i => i ≠ b ∧ i ≠ rb ∧ i ≠ g) (.slice ad0 len0 cap0) ((s).from 0) := by
                  refine (HEV3.out.kept hk35 (fun i hi hq h => ?_)).mono (fun i hi hq => ?_)
                  · rcases hq with hq | hq
                    · rcases h with h | h
                      · exact hq.1 h
                      · exact hq.2.1 h
                    · rcases h with h | h <;> omega
                  · rcases hq with hq | hq
                    · exact hq
                    · refine ⟨?_, ?_, ?_⟩ <;> omega
                exact plays_store HF5.out hev5 HKV.out HG5.out HT.out ng1 ng2 wg wb wrb hkw
              have HP := Lib.hid hp
              have hlj : last ≤ j + 1 := by have := H2.out; omega
              have HLJ := Lib.hid hlj
              obtain ⟨sF, hsF⟩ : ∃ sF, s = sF := ⟨_, rfl⟩
              obtain ⟨kvF, hkvF⟩ : ∃ kvF, Value.slice ad0 len0 cap0 = kvF := ⟨_, rfl⟩
              rw [hsF, hkvF] at HP
              clear hp hlj hwt q0 q1 q2 q3 q4 y0 y1 y2 y3 y4 x0 x1 x2 x3 x4 b0 b1 b2 b3 b4 z0 z1 z2 z3 z4 hbox4 hsF hkvF
              have e0 := obj_cell HP.out.2.2.2.1 0
              have e1 := obj_cell HP.out.2.2.2.1 1
              have e2 := obj_cell HP.out.2.2.2.1 2
              have e3 := obj_cell HP.out.2.2.2.1 3
              have e4 := obj_cell HP.out.2.2.2.1 4
              go_wp2_with fail
              refine (looks_fs HP.out.2.1 HP.out.1 HP.out.2.2.1).mono ?_
              rintro e w9 ⟨rfl, hk9⟩
              have HK9 := Lib.hid hk9
              clear hk9 e0 e1 e2 e3 e4
              go_wp2_with fail
              have hj := HJ.out
              exact ⟨⟨b, rb, sF, kvF, last, a, lo, j + 1, rfl, by go_num, hj, HLJ.out, HP.out.no HK9.out⟩, by simp [intOf]; omega⟩
        case' inr.inr.inl =>
          have hkb : Kept No wr (wr.alloc (.cells #[.int .i64 2, .int .u32 (nj : Nat), .slice dd bl dc] 45)) := (Kept.refl No wr).alloc _
          obtain ⟨T, hF, hV, hG, ng1, ng2, wg, wb, wrb, hKR⟩ := HI.out
          have HT := Lib.hid T
          have HF := Lib.hid hF
          have HV := Lib.hid hV
          have HG := Lib.hid hG
          have HN := Lib.hid (And.intro ng1 (And.intro ng2 (And.intro wg (And.intro wb wrb))))
          have HKR := Lib.hid hKR
          have g0 := hkb.cell (obj_cell hG 0) (not_no _)
          have g1 := hkb.cell (obj_cell hG 1) (not_no _)
          have g2 := hkb.cell (obj_cell hG 2) (not_no _)
          have g3 := hkb.cell (obj_cell hG 3) (not_no _)
          have g4 := hkb.cell (obj_cell hG 4) (not_no _)
          have hbox := heap_alloc_new wr (.cells #[.int .i64 2, .int .u32 (nj : Nat), .slice dd bl dc] 45)
          have HB := Lib.hid hbox
          have HKB := Lib.hid hkb
          have HKV : Hid (∃ ad n cap, kv = .slice ad n cap) := by obtain ⟨a9, c9, h9⟩ := hV.slice; exact ⟨a9, _, c9, h9⟩
          clear T hF hV hG ng1 ng2 wg wb wrb hKR hkb hbox

          go_wp2_with fail
          obtain ⟨w4, hw4⟩ : ∃ w4, wr.alloc (.cells #[.int .i64 2, .int .u32 (nj : Nat), .slice dd bl dc] 45) = w4 := ⟨_, rfl⟩
          have hk4 : Kept No wr w4 := by rw [← hw4]; exact HKB.out
          have hbx : w4.cell? ⟨wr.heap.size, 1, none⟩ = some (.int .u32 (nj : Nat)) := by rw [← hw4]; exact obj_cell HB.out 1
          have HK4 := Lib.hid hk4
          have HF4 := Lib.hid (HF.out.no hk4)
          have HV4 := Lib.hid (HV.out.kept hk4 (fun _ _ _ => not_no _))
          rw [hw4] at g0 g1 g2 g3 g4
          rw [hw4]
          clear hw4 hk4
          go_region_with (first | (go_at_call 23; refine (rsince_fs (by first | exact HF4.out | exact HF4.out.no ((Kept.refl No _).drew)) (by first | exact HV4.out | exact HV4.out.kept ((Kept.refl No _).drew) (fun _ _ _ => not_no _)) HNJ.out).mono ?_; rintro e w3 ⟨v3, rfl, hev3, hk3⟩; have hk43 : Kept No w4 w3 := (by first | exact hk3 | exact hk3.of_drew); have hbx3 := hk43.cell hbx (not_no _); have HEV3 := Lib.hid hev3; have HK3 := Lib.hid hk43; clear hev3 hk3 hk43) | (go_at_call 22; refine (since_ok (HF4.out.no HK3.out) HNJ.out HEV3.out).mono ?_; rintro e w5 ⟨rfl, hk5⟩; have HK5 := Lib.hid hk5; clear hk5))
          all_goals
            have HP := Lib.hid (HI.out.no ((HK4.out.and HK3.out).and HK5.out))
            have hlj : last ≤ j + 1 := by have := H2.out; omega
            have HLJ := Lib.hid hlj
            clear hlj hbx3 hbx g0 g1 g2 g3 g4
            have e0 := obj_cell HP.out.2.2.2.1 0
            have e1 := obj_cell HP.out.2.2.2.1 1
            have e2 := obj_cell HP.out.2.2.2.1 2
            have e3 := obj_cell HP.out.2.2.2.1 3
            have e4 := obj_cell HP.out.2.2.2.1 4
            go_wp2_with fail
            refine (looks_fs HP.out.2.1 HP.out.1 HP.out.2.2.1).mono ?_
            rintro e w9 ⟨rfl, hk9⟩
            have HK9 := Lib.hid hk9
            clear hk9 e0 e1 e2 e3 e4
            go_wp2_with fail
            have hj := HJ.out
            exact ⟨⟨b, rb, s, kv, last, a, lo, j + 1, rfl, by go_num, hj, HLJ.out, HP.out.no HK9.out⟩, by simp [intOf]; omega⟩
        case' inr.inr.inr =>
          have q0 : (xj == 0) = false := by simp; exact hx0
          have q1 : (xj == 1) = false := by simp; exact hx1
          have q2 : (xj == 2) = false := by simp; exact hx2
          clear hx0 hx1 hx2

          have hkb : Kept No wr (wr.alloc (.cells #[.int .i64 xj, .int .u32 (nj : Nat), .slice dd bl dc] 45)) := (Kept.refl No wr).alloc _
          obtain ⟨T, hF, hV, hG, ng1, ng2, wg, wb, wrb, hKR⟩ := HI.out
          have HT := Lib.hid T
          have HF := Lib.hid hF
          have HV := Lib.hid hV
          have HG := Lib.hid hG
          have HN := Lib.hid (And.intro ng1 (And.intro ng2 (And.intro wg (And.intro wb wrb))))
          have HKR := Lib.hid hKR
          have g0 := hkb.cell (obj_cell hG 0) (not_no _)
          have g1 := hkb.cell (obj_cell hG 1) (not_no _)
          have g2 := hkb.cell (obj_cell hG 2) (not_no _)
          have g3 := hkb.cell (obj_cell hG 3) (not_no _)
          have g4 := hkb.cell (obj_cell hG 4) (not_no _)
          have hbox := heap_alloc_new wr (.cells #[.int .i64 xj, .int .u32 (nj : Nat), .slice dd bl dc] 45)
          have HB := Lib.hid hbox
          have HKB := Lib.hid hkb
          have HKV : Hid (∃ ad n cap, kv = .slice ad n cap) := by obtain ⟨a9, c9, h9⟩ := hV.slice; exact ⟨a9, _, c9, h9⟩
          clear T hF hV hG ng1 ng2 wg wb wrb hKR hkb hbox

          have hlt := HF.out.lt
          have hsz1 := HKB.out.size
          go_wp2_with fail
          refine (copy_ok (HF.out.no HKB.out)).mono ?_
          rintro e w2 ⟨b', rb', rfl, hf2, hrg2, hb2, hrb2, hk2⟩
          have HF2 := Lib.hid hf2
          have HRG2 := Lib.hid hrg2
          have HB2 := Lib.hid (And.intro hb2 hrb2)
          have HK2 := Lib.hid (HKB.out.and hk2)
          clear hf2 hrg2 hb2 hrb2 hk2 g0 g1 g2 g3 g4
          have kc := fun (C : Array Value) (n c : Nat) => Lib.run_convert_bytes_const (P := Try.prog) w2 36 5 C n c Try.underlying36 Try.underlying5
          go_wp2_with fail
          clear kc
          obtain ⟨w4, hw4⟩ : ∃ w4, w2.alloc (.cells #[.int .u8 111, .int .u8 108, .int .u8 100] 5 (3, 4)) = w4 := ⟨_, rfl⟩
          have hk24 : Kept No w2 w4 := by rw [← hw4]; exact (Kept.refl No w2).alloc _
          have hb4 : w4.heap[w2.heap.size]? = some (.cells #[.int .u8 111, .int .u8 108, .int .u8 100] 5 (3, 4)) := by rw [← hw4]; exact heap_alloc_new w2 _
          rw [hw4]
          have HK24 := Lib.hid hk24
          have HB4 := Lib.hid hb4
          have hs2 := HK2.out.size
          have hs4 := hk24.size
          clear hw4 hk24 hb4
          refine (add_fs (HF.out.no (HK2.out.and HK24.out)) (by have := HT.out.2.1; have := H2.out; omega) (B := fun i => i = w2.heap.size) (bs := [111, 108, 100]) (q := 3) rfl (rd_three HB4.out) (by omega) (fun i e => by omega)).mono ?_
          rintro e w5 ⟨rfl, hf5, hk5⟩
          have HF5 := Lib.hid hf5
          have HK5 := Lib.hid hk5
          clear hf5 hk5
          go_wp2_with fail
          refine (ack_fs HF5.out (x := 1) (by have := HF.out.f1; simp only [FS.add]; omega)).mono ?_
          rintro e w6 ⟨rfl, hf6, hk6⟩
          have hp : PlaysI w g b' rb' s kv k last a lo w6 := by
            obtain ⟨ng1, ng2, wg, wb, wrb⟩ := HN.out
            have hk26 : Kept (Bk b rb) w2 w6 := ((HK24.out.any (T := Bk b rb)).and HK5.out).and hk6
            have hk06 : Kept (Bk b rb) wr w6 := (HK2.out.any (T := Bk b rb)).and hk26
            have hs1 : (wr.alloc (.cells #[.int .i64 xj, .int .u32 (nj : Nat), .slice dd bl dc] 45)).heap.size = wr.heap.size + 1 := by simp
            obtain ⟨hb2, hrb2⟩ := HB2.out
            rw [hs1] at hb2 hrb2
            have hglt := obj_lt HG.out
            refine ⟨HT.out, ⟨HF2.out.1.with HRG2.out hk26 (fun h => by rcases h with h | h <;> omega) (fun h => by rcases h with h | h <;> omega) (fun i _ hq h => by rcases h with h | h; exact hq.1 h; exact hq.2.1 h), HF2.out.2⟩, ?_, hk06.obj HG.out (fun h => by rcases h with h | h; exact ng1 h; exact ng2 h), by omega, by omega, wg, by have := HKR.out.size; omega, by have := HKR.out.size; omega, HKR.out.new hk06 (fun i h => by rcases h with h | h <;> omega)⟩
            exact (((HV.out.mono (fun i hi h => (⟨h, hi⟩ : (i ≠ b ∧ i ≠ rb ∧ i ≠ g) ∧ i < wr.heap.size))).kept hk06 (fun i hi hq h => by rcases h with h | h; exact hq.1.1 h; exact hq.1.2.1 h)).mono (fun i hi hq => ⟨by omega, by omega, hq.1.2.2⟩))
          have HP := Lib.hid hp
          have hlj : last ≤ j + 1 := by have := H2.out; omega
          have HLJ := Lib.hid hlj
          clear hp hlj hf6 hk6

          have e0 := obj_cell HP.out.2.2.2.1 0
          have e1 := obj_cell HP.out.2.2.2.1 1
          have e2 := obj_cell HP.out.2.2.2.1 2
          have e3 := obj_cell HP.out.2.2.2.1 3
          have e4 := obj_cell HP.out.2.2.2.1 4
          go_wp2_with fail
          refine (looks_fs HP.out.2.1 HP.out.1 HP.out.2.2.1).mono ?_
          rintro e w9 ⟨rfl, hk9⟩
          have HK9 := Lib.hid hk9
          clear hk9 e0 e1 e2 e3 e4
          go_wp2_with fail
          have hj := HJ.out
          exact ⟨⟨b', rb', s, kv, last, a, lo, j + 1, rfl, by go_num, hj, HLJ.out, HP.out.no HK9.out⟩, by simp [intOf]; omega⟩
      · have dj : decide (j < len) = false := by simp; omega
        clear hj
        go_wp2_with fail
        refine (known_ok _).mono ?_
        rintro e w2 ⟨rfl, hk⟩
        go_wp2_with fail
        go_ret
        exact ⟨rfl, HI.out.2.2.2.2.2.2.2.2.2.and hk⟩
end Go.Proofs.Ytkdienebinnopaa.feedPlays
