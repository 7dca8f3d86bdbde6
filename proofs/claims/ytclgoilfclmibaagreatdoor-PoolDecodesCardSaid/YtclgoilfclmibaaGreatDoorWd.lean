/-
  Pool: the document's reading of a pool.
-/
import Derived.Test.YtclgoilfclmibaaGreatDoorWc
set_option linter.unusedVariables false
set_option linter.unusedSimpArgs false
namespace Go.Proofs.YtclgoilfclmibaaGreatDoor
open Go Go.RowKit Go.Zn
attribute [local go_sem] Oper.semAt_some

def RdPost (b : List UInt8) (w : World) (e : Ending) (w' : World) : Prop := Kept No w w' ∧ ∃ v, e = .returned (.tuple #[v, .int .i64 (pdecF b).1]) ∧ OwnCs w' w.heap.size v (pdecF b).2
theorem own_nil (w : World) (base : Nat) : OwnCs w base (.slice none 0 0) [] := ⟨[], World.ownsRow_nil _ _ _ _, rfl⟩
/-- where reading stands -/
structure PdS (n : Nat) (a : List UInt8) (w : World) (i at_ : Nat) (done : List Crd) (ov : Value) (wr : World) : Prop where
  all : cardsF n (a.drop 2) = (cardsF (n - i) (a.drop at_)).map fun q => (done ++ q.1, q.2)
  len : done.length = i
  valid : ∀ c ∈ done, cvalid c = true
  row : OwnCs wr w.heap.size ov done
  kept : Kept No w wr
  short : at_ ≤ a.length
def PdRel (n : Nat) (a : List UInt8) (w : World) (av ov iv : Value) (wr : World) : Prop := ∃ (i at_ : Nat) (done : List Crd), iv = .int .i64 (i : Nat) ∧ av = .int .i64 (at_ : Nat) ∧ i ≤ n ∧ PdS n a w i at_ done ov wr
theorem be4_ne {s : Nat} (hs : s < 4294967296) {tl : List UInt8} (h : tl.length = 4) : (be4 s = tl) ↔ s = getF tl := ⟨fun e => by rw [← e, get_be4 hs], fun e => by rw [e, be4_get h]⟩
set_option maxRecDepth 100000 in
set_option maxHeartbeats 16000000 in
theorem rpdec_any {b : List UInt8} (hl : b.length ≤ 100000) {w : World} {B : Nat → Prop} {v : Value} (h : Rd w B 1 v b.length (bts b)) : Calls Tryz.prog 22 #[v] w (RdPost b w) := by
  replace h := h.mono (C := fun b => b < w.heap.size) fun b hb _ => hb
  obtain ⟨m, hm⟩ : ∃ m, b.length = m := ⟨_, rfl⟩
  obtain ⟨ad, cap, rfl⟩ := rd_slice h
  have HM := Lib.hid hm
  rw [hm] at h hl ⊢
  have HV := Lib.hid h
  by_cases h6 : m < 6
  · have HR := Lib.hid (pdec_4 (b := b) (by rw [hm]; exact h6))
    have d6 : (m : Int) < 6 := by omega
    clear h hm h6 hl
    go_enter Tryz.func22, Tryz.ntmps22
    go_wp2_with fail
    go_ret2
    exact ⟨Kept.refl No w, .slice none 0 0, by rw [HR.out]; rfl, by rw [HR.out]; exact own_nil _ _⟩
  have d6 : ¬ ((m : Int) < 6) := by omega
  have hz : ∃ bb off, ad = some ⟨bb, off, none⟩ ∧ m ≤ cap ∧ bb < w.heap.size ∧ ∀ (i : Nat) (y : UInt8), b[i]? = some y → w.cell? ⟨bb, off + i, none⟩ = some (.int .u8 y.toNat) := by
    obtain ⟨_, _, ⟨_, h0⟩ | ⟨bb, off, c1, he, hmc, hB, hc⟩⟩ := h
    · omega
    · cases he
      exact ⟨bb, off, rfl, hmc, hB (by rw [bts_length]; omega), fun i y hy => hc i _ (by rw [bts_get, hy]; rfl)⟩
  obtain ⟨bb, off, rfl, hmc, hbb, hcell⟩ := hz
  obtain ⟨E, hE⟩ : ∃ E, m - 4 = E := ⟨_, rfl⟩
  obtain ⟨v1, hv1, hr1⟩ := slice_to h (n := E) (by omega)
  obtain ⟨v4, hv4, hr4⟩ := slice_from h (n := E) (by omega)
  rw [show m - E = 4 by omega] at hr4
  obtain ⟨a, ha⟩ : ∃ a, b.take E = a := ⟨_, rfl⟩
  obtain ⟨tl, htl⟩ : ∃ tl, b.drop E = tl := ⟨_, rfl⟩
  rw [ha] at hr1
  rw [htl] at hr4
  have hal : a.length = E := by rw [← ha, List.length_take]; omega
  have htl4 : tl.length = 4 := by rw [← htl, List.length_drop]; omega
  have HAL := Lib.hid hal
  rw [← htl4] at hr4
  rw [← hal] at hr1
  have HTS := Lib.hid (fun (W : World) (hk : Kept No w W) => run_string_rd (P := Tryz.prog) Tryz.underlying51 Tryz.underlying5 Tryz.underlying9 (rd_no hr4 hk))
  have q4 : IntKind.i64.wrap ((m : Int) - 4) = (E : Int) := (IntWalk.i64_in _ (by omega)).trans (by omega)
  have HSUM := Lib.hid (fun (W : World) (hk : Kept No w W) => rsum_any (l := a) (by omega) (rd_no hr1 hk))
  obtain ⟨s, hs⟩ : ∃ s, sumF a = s := ⟨_, rfl⟩
  have hslt : s < 4294967296 := by rw [← hs]; exact sumF_lt a
  have HWD := Lib.hid (fun W => rword_any hslt W)
  rw [hs] at HSUM
  have h6b : ¬ b.length < 6 := by omega
  obtain ⟨y0, y1, hy0, hy1, h2⟩ : ∃ y0 y1, b[0]? = some y0 ∧ b[1]? = some y1 ∧ a.take 2 = [y0, y1] := by
    match hb : b, hm with
    | y0 :: y1 :: r, hm =>
      refine ⟨y0, y1, rfl, rfl, ?_⟩
      rw [← ha]
      match E, (show 2 ≤ E by omega) with
      | E + 2, _ => rfl
    | [], hm => simp at hm; omega
    | [_], hm => simp at hm; omega
  have c0 := fun (W : World) (hk : Kept No w W) => hk.cell (hcell 0 y0 hy0) (not_no _)
  have c1 := fun (W : World) (hk : Kept No w W) => hk.cell (hcell 1 y1 hy1) (not_no _)
  have ly0 := y0.toNat_lt
  have ly1 := y1.toNat_lt
  obtain ⟨p0, hp0⟩ : ∃ p, y0.toNat = p := ⟨_, rfl⟩
  obtain ⟨p1, hp1⟩ : ∃ p, y1.toNat = p := ⟨_, rfl⟩
  rw [hp0] at c0 ly0
  rw [hp1] at c1 ly1
  have HC01 := Lib.hid (fun (W : World) (hk : Kept No w W) => (show W.cell? ⟨bb, off, none⟩ = some (.int .u8 p0) ∧ W.cell? ⟨bb, off + 1, none⟩ = some (.int .u8 p1) from ⟨c0 W hk, c1 W hk⟩))
  obtain ⟨cnt, hcnt⟩ : ∃ cnt, 256 * p0 + p1 = cnt := ⟨_, rfl⟩
  have hg2 : getF (a.take 2) = cnt := by
    rw [h2]
    show (0 * 256 + y0.toNat) * 256 + y1.toNat = cnt
    omega
  have HST := Lib.hid (show sumF (b.take (b.length - 4)) = s ∧ b.drop (b.length - 4) = tl ∧ (b.take (b.length - 4)).take 2 = a.take 2 ∧ (b.take (b.length - 4)).drop 2 = a.drop 2 by rw [hm, hE, ha, htl]; exact ⟨hs, rfl, rfl, rfl⟩)
  have HG2 := Lib.hid hg2
  have H6B := Lib.hid h6b
  have HEQ := Lib.hid (be4_ne hslt htl4)
  have hse := str_eq (a := be4 s) (b := tl)
  have HAE := Lib.hid (And.intro ha (And.intro hE (show E + 4 ≤ 100000 ∧ 2 ≤ E ∧ E ≤ m by omega)))
  clear hr1 hr4 ha htl hal htl4 hs h6b h2 hg2 h c0 c1 hp0 hp1 hy0 hy1 hm h6 hcell
  by_cases hst : be4 s = tl
  rotate_left
  · rw [decide_eq_false hst] at hse
    have HR := Lib.hid (pdec_10 H6B.out (by rw [HST.out.1, HST.out.2.1]; exact fun e => hst (HEQ.out.2 e)))
    clear hst
    go_enter Tryz.func22, Tryz.ntmps22
    go_upto_region 4 with fail
    refine wp_region_held_drew (S := (fun W2 => Kept No w W2)) (by kernel_rfl) (Kept.refl No w).drew (fun hHeld => ?_)
    refine wpAnyH_take (i := 0) (v := .slice (some ⟨bb, off, none⟩) m cap) rfl (by kernel_rfl) (by kernel_rfl) (by kernel_rfl) (fun _ _ _ h => h) (Or.inl ⟨by rfl, ?_⟩) (by assumption) ?_
    · intro W2 hSw; skip; go_simp
    simp only [Act.put, List.getElem_toArray, List.getElem_cons_zero, List.getElem_cons_succ, List.setIfInBounds_toArray, List.set_cons_zero, List.set_cons_succ]
    refine wpAnyH_take (i := 1) (v := .int .i64 (E : Nat)) rfl (by kernel_rfl) (by kernel_rfl) (by kernel_rfl) (fun _ _ _ h => h) (Or.inl ⟨by rfl, ?_⟩) (by assumption) ?_
    · intro W2 hSw; skip; go_simp
    simp only [Act.put, List.getElem_toArray, List.getElem_cons_zero, List.getElem_cons_succ, List.setIfInBounds_toArray, List.set_cons_zero, List.set_cons_succ]
    refine wpAnyH_take (i := 2) (v := v1) rfl (by kernel_rfl) (by kernel_rfl) (by kernel_rfl) (fun _ _ _ h => h) (Or.inl ⟨by rfl, ?_⟩) (by assumption) ?_
    · intro W2 hSw; skip; go_simp
    simp only [Act.put, List.getElem_toArray, List.getElem_cons_zero, List.getElem_cons_succ, List.setIfInBounds_toArray, List.set_cons_zero, List.set_cons_succ]
    refine wpAnyH_take (i := 6) (v := .slice (some ⟨bb, off, none⟩) m cap) rfl (by kernel_rfl) (by kernel_rfl) (by kernel_rfl) (fun _ _ _ h => h) (Or.inl ⟨by rfl, ?_⟩) (by assumption) ?_
    · intro W2 hSw; skip; go_simp
    simp only [Act.put, List.getElem_toArray, List.getElem_cons_zero, List.getElem_cons_succ, List.setIfInBounds_toArray, List.set_cons_zero, List.set_cons_succ]
    refine wpAnyH_take (i := 7) (v := .int .i64 (E : Nat)) rfl (by kernel_rfl) (by kernel_rfl) (by kernel_rfl) (fun _ _ _ h => h) (Or.inl ⟨by rfl, ?_⟩) (by assumption) ?_
    · intro W2 hSw; skip; go_simp
    simp only [Act.put, List.getElem_toArray, List.getElem_cons_zero, List.getElem_cons_succ, List.setIfInBounds_toArray, List.set_cons_zero, List.set_cons_succ]
    refine wpAnyH_take (i := 8) (v := v4) rfl (by kernel_rfl) (by kernel_rfl) (by kernel_rfl) (fun _ _ _ h => h) (Or.inl ⟨by rfl, ?_⟩) (by assumption) ?_
    · intro W2 hSw; skip; go_simp
    simp only [Act.put, List.getElem_toArray, List.getElem_cons_zero, List.getElem_cons_succ, List.setIfInBounds_toArray, List.set_cons_zero, List.set_cons_succ]
    refine wpAnyH_take (i := 9) (v := .string (strOf tl)) rfl (by kernel_rfl) (by kernel_rfl) (by kernel_rfl) (fun _ _ _ h => h) (Or.inl ⟨by rfl, ?_⟩) (by assumption) ?_
    · intro W2 hSw; have hts := HTS.out _ hSw; go_simp
    simp only [Act.put, List.getElem_toArray, List.getElem_cons_zero, List.getElem_cons_succ, List.setIfInBounds_toArray, List.set_cons_zero, List.set_cons_succ]
    refine wpAnyH_ready (rs := [3]) (by kernel_rfl) (by simp) ?_
    refine AllReadyH.cons rfl (fun K hK => ?_) AllReadyH.nil
    go_simp
    refine (HSUM.out _ (Kept.refl No w).drew).mono ?_
    rintro e3 w3 ⟨rfl, rfl⟩
    simp only []
    refine hK.out _ _ ((Kept.refl No w).drew) (fun _ => ?_)
    clear hK K
    try simp only [Act.put, List.getElem_toArray, List.getElem_cons_zero, List.getElem_cons_succ, List.setIfInBounds_toArray, List.set_cons_zero, List.set_cons_succ]
    refine wpAnyH_ready (rs := [4]) (by kernel_rfl) (by simp) ?_
    refine AllReadyH.cons rfl (fun K hK => ?_) AllReadyH.nil
    go_simp
    refine (HWD.out _).mono ?_
    rintro e4 w4 ⟨vw, rfl, hw, hk4⟩
    obtain ⟨adw, cpw, rfl⟩ := owned_slice hw
    have HK4 := Lib.hid ((Kept.refl No w).drew.and hk4)
    have hcw := run_string_rd (P := Tryz.prog) Tryz.underlying51 Tryz.underlying5 Tryz.underlying9 (rd_owned hw)
    clear hw hk4
    simp only []
    refine hK.out _ _ HK4.out (fun _ => ?_)
    clear hK K
    try simp only [Act.put, List.getElem_toArray, List.getElem_cons_zero, List.getElem_cons_succ, List.setIfInBounds_toArray, List.set_cons_zero, List.set_cons_succ]
    refine wpAnyH_ready (rs := [5]) (by kernel_rfl) (by simp) ?_
    refine AllReadyH.cons rfl (fun K hK => ?_) AllReadyH.nil
    go_simp
    refine hK.out _ _ HK4.out (fun _ => ?_)
    clear hK K
    try simp only [Act.put, List.getElem_toArray, List.getElem_cons_zero, List.getElem_cons_succ, List.setIfInBounds_toArray, List.set_cons_zero, List.set_cons_succ]
    clear hcw
    refine wpAnyH_ready (rs := [10]) (by kernel_rfl) (by simp) ?_
    refine AllReadyH.cons rfl (fun K hK => ?_) AllReadyH.nil
    go_simp
    refine hK.out _ _ HK4.out (fun _ => ?_)
    clear hK K
    try simp only [Act.put, List.getElem_toArray, List.getElem_cons_zero, List.getElem_cons_succ, List.setIfInBounds_toArray, List.set_cons_zero, List.set_cons_succ]
    refine wpAnyH_done (by kernel_rfl) ?_ _
    go_wp2_with fail
    go_ret2
    exact ⟨HK4.out, .slice none 0 0, by rw [HR.out]; rfl, by rw [HR.out]; exact own_nil _ _⟩
  rw [decide_eq_true hst] at hse
  have HSS := Lib.hid (show sumF (b.take (b.length - 4)) = getF (b.drop (b.length - 4)) by rw [HST.out.1, HST.out.2.1]; exact HEQ.out.1 hst)
  clear hst
  go_enter Tryz.func22, Tryz.ntmps22
  go_upto_region 4 with fail
  refine wp_region_held_drew (S := (fun W2 => Kept No w W2)) (by kernel_rfl) (Kept.refl No w).drew (fun hHeld => ?_)
  refine wpAnyH_take (i := 0) (v := .slice (some ⟨bb, off, none⟩) m cap) rfl (by kernel_rfl) (by kernel_rfl) (by kernel_rfl) (fun _ _ _ h => h) (Or.inl ⟨by rfl, ?_⟩) (by assumption) ?_
  · intro W2 hSw; skip; go_simp
  simp only [Act.put, List.getElem_toArray, List.getElem_cons_zero, List.getElem_cons_succ, List.setIfInBounds_toArray, List.set_cons_zero, List.set_cons_succ]
  refine wpAnyH_take (i := 1) (v := .int .i64 (E : Nat)) rfl (by kernel_rfl) (by kernel_rfl) (by kernel_rfl) (fun _ _ _ h => h) (Or.inl ⟨by rfl, ?_⟩) (by assumption) ?_
  · intro W2 hSw; skip; go_simp
  simp only [Act.put, List.getElem_toArray, List.getElem_cons_zero, List.getElem_cons_succ, List.setIfInBounds_toArray, List.set_cons_zero, List.set_cons_succ]
  refine wpAnyH_take (i := 2) (v := v1) rfl (by kernel_rfl) (by kernel_rfl) (by kernel_rfl) (fun _ _ _ h => h) (Or.inl ⟨by rfl, ?_⟩) (by assumption) ?_
  · intro W2 hSw; skip; go_simp
  simp only [Act.put, List.getElem_toArray, List.getElem_cons_zero, List.getElem_cons_succ, List.setIfInBounds_toArray, List.set_cons_zero, List.set_cons_succ]
  refine wpAnyH_take (i := 6) (v := .slice (some ⟨bb, off, none⟩) m cap) rfl (by kernel_rfl) (by kernel_rfl) (by kernel_rfl) (fun _ _ _ h => h) (Or.inl ⟨by rfl, ?_⟩) (by assumption) ?_
  · intro W2 hSw; skip; go_simp
  simp only [Act.put, List.getElem_toArray, List.getElem_cons_zero, List.getElem_cons_succ, List.setIfInBounds_toArray, List.set_cons_zero, List.set_cons_succ]
  refine wpAnyH_take (i := 7) (v := .int .i64 (E : Nat)) rfl (by kernel_rfl) (by kernel_rfl) (by kernel_rfl) (fun _ _ _ h => h) (Or.inl ⟨by rfl, ?_⟩) (by assumption) ?_
  · intro W2 hSw; skip; go_simp
  simp only [Act.put, List.getElem_toArray, List.getElem_cons_zero, List.getElem_cons_succ, List.setIfInBounds_toArray, List.set_cons_zero, List.set_cons_succ]
  refine wpAnyH_take (i := 8) (v := v4) rfl (by kernel_rfl) (by kernel_rfl) (by kernel_rfl) (fun _ _ _ h => h) (Or.inl ⟨by rfl, ?_⟩) (by assumption) ?_
  · intro W2 hSw; skip; go_simp
  simp only [Act.put, List.getElem_toArray, List.getElem_cons_zero, List.getElem_cons_succ, List.setIfInBounds_toArray, List.set_cons_zero, List.set_cons_succ]
  refine wpAnyH_take (i := 9) (v := .string (strOf tl)) rfl (by kernel_rfl) (by kernel_rfl) (by kernel_rfl) (fun _ _ _ h => h) (Or.inl ⟨by rfl, ?_⟩) (by assumption) ?_
  · intro W2 hSw; have hts := HTS.out _ hSw; go_simp
  simp only [Act.put, List.getElem_toArray, List.getElem_cons_zero, List.getElem_cons_succ, List.setIfInBounds_toArray, List.set_cons_zero, List.set_cons_succ]
  refine wpAnyH_ready (rs := [3]) (by kernel_rfl) (by simp) ?_
  refine AllReadyH.cons rfl (fun K hK => ?_) AllReadyH.nil
  go_simp
  refine (HSUM.out _ (Kept.refl No w).drew).mono ?_
  rintro e3 w3 ⟨rfl, rfl⟩
  simp only []
  refine hK.out _ _ ((Kept.refl No w).drew) (fun _ => ?_)
  clear hK K
  try simp only [Act.put, List.getElem_toArray, List.getElem_cons_zero, List.getElem_cons_succ, List.setIfInBounds_toArray, List.set_cons_zero, List.set_cons_succ]
  refine wpAnyH_ready (rs := [4]) (by kernel_rfl) (by simp) ?_
  refine AllReadyH.cons rfl (fun K hK => ?_) AllReadyH.nil
  go_simp
  refine (HWD.out _).mono ?_
  rintro e4 w4 ⟨vw, rfl, hw, hk4⟩
  obtain ⟨adw, cpw, rfl⟩ := owned_slice hw
  have HK4 := Lib.hid ((Kept.refl No w).drew.and hk4)
  have hcw := run_string_rd (P := Tryz.prog) Tryz.underlying51 Tryz.underlying5 Tryz.underlying9 (rd_owned hw)
  clear hw hk4
  simp only []
  refine hK.out _ _ HK4.out (fun _ => ?_)
  clear hK K
  try simp only [Act.put, List.getElem_toArray, List.getElem_cons_zero, List.getElem_cons_succ, List.setIfInBounds_toArray, List.set_cons_zero, List.set_cons_succ]
  refine wpAnyH_ready (rs := [5]) (by kernel_rfl) (by simp) ?_
  refine AllReadyH.cons rfl (fun K hK => ?_) AllReadyH.nil
  go_simp
  refine hK.out _ _ HK4.out (fun _ => ?_)
  clear hK K
  try simp only [Act.put, List.getElem_toArray, List.getElem_cons_zero, List.getElem_cons_succ, List.setIfInBounds_toArray, List.set_cons_zero, List.set_cons_succ]
  clear hcw
  refine wpAnyH_ready (rs := [10]) (by kernel_rfl) (by simp) ?_
  refine AllReadyH.cons rfl (fun K hK => ?_) AllReadyH.nil
  go_simp
  refine hK.out _ _ HK4.out (fun _ => ?_)
  clear hK K
  try simp only [Act.put, List.getElem_toArray, List.getElem_cons_zero, List.getElem_cons_succ, List.setIfInBounds_toArray, List.set_cons_zero, List.set_cons_succ]
  refine wpAnyH_done (by kernel_rfl) ?_ _
  have x0 : IntKind.i64.wrap (p0 : Int) = (p0 : Int) := IntWalk.i64_in _ (by omega)
  have x1 : IntKind.i64.wrap (p1 : Int) = (p1 : Int) := IntWalk.i64_in _ (by omega)
  have x2 : IntKind.i64.wrap (256 * (p0 : Int)) = 256 * (p0 : Int) := IntWalk.i64_in _ (by omega)
  have x3 : IntKind.i64.wrap (256 * (p0 : Int) + (p1 : Int)) = (cnt : Int) := (IntWalk.i64_in _ (by omega)).trans (by omega)
  have m0 : ¬ m = 0 := by have := HAE.out.2.2; omega
  have m1 : (0 : Int) < (m : Int) := by omega
  have m2 : (1 : Int) < (m : Int) := by have := HAE.out.2.2; omega
  have m3 : 1 < m := by omega
  clear hse
  go_wp2_with fail
  refine wp_region_held_drew (S := (fun W2 => Kept No w4 W2)) (by kernel_rfl) (Kept.refl No w4).drew (fun hHeld => ?_)
  refine wpAnyH_take (i := 0) (v := .slice (some ⟨bb, off, none⟩) m cap) rfl (by kernel_rfl) (by kernel_rfl) (by kernel_rfl) (fun _ _ _ h => h) (Or.inl ⟨by rfl, ?_⟩) (by assumption) ?_
  · intro W2 hSw; obtain ⟨k0, k1⟩ := HC01.out _ (HK4.out.and hSw); go_simp
  simp only [Act.put, List.getElem_toArray, List.getElem_cons_zero, List.getElem_cons_succ, List.setIfInBounds_toArray, List.set_cons_zero, List.set_cons_succ]
  refine wpAnyH_take (i := 1) (v := .pointer (some ⟨bb, off, none⟩)) rfl (by kernel_rfl) (by kernel_rfl) (by kernel_rfl) (fun _ _ _ h => h) (Or.inl ⟨by rfl, ?_⟩) (by assumption) ?_
  · intro W2 hSw; obtain ⟨k0, k1⟩ := HC01.out _ (HK4.out.and hSw); go_simp
  simp only [Act.put, List.getElem_toArray, List.getElem_cons_zero, List.getElem_cons_succ, List.setIfInBounds_toArray, List.set_cons_zero, List.set_cons_succ]
  refine wpAnyH_take (i := 2) (v := .int .u8 p0) rfl (by kernel_rfl) (by kernel_rfl) (by kernel_rfl) (fun _ _ _ h => h) (Or.inl ⟨by rfl, ?_⟩) (by assumption) ?_
  · intro W2 hSw; obtain ⟨k0, k1⟩ := HC01.out _ (HK4.out.and hSw); go_simp
  simp only [Act.put, List.getElem_toArray, List.getElem_cons_zero, List.getElem_cons_succ, List.setIfInBounds_toArray, List.set_cons_zero, List.set_cons_succ]
  refine wpAnyH_take (i := 3) (v := .int .i64 p0) rfl (by kernel_rfl) (by kernel_rfl) (by kernel_rfl) (fun _ _ _ h => h) (Or.inl ⟨by rfl, ?_⟩) (by assumption) ?_
  · intro W2 hSw; obtain ⟨k0, k1⟩ := HC01.out _ (HK4.out.and hSw); go_simp
  simp only [Act.put, List.getElem_toArray, List.getElem_cons_zero, List.getElem_cons_succ, List.setIfInBounds_toArray, List.set_cons_zero, List.set_cons_succ]
  refine wpAnyH_take (i := 4) (v := .int .i64 (256 * (p0 : Int))) rfl (by kernel_rfl) (by kernel_rfl) (by kernel_rfl) (fun _ _ _ h => h) (Or.inl ⟨by rfl, ?_⟩) (by assumption) ?_
  · intro W2 hSw; obtain ⟨k0, k1⟩ := HC01.out _ (HK4.out.and hSw); go_simp
  simp only [Act.put, List.getElem_toArray, List.getElem_cons_zero, List.getElem_cons_succ, List.setIfInBounds_toArray, List.set_cons_zero, List.set_cons_succ]
  refine wpAnyH_take (i := 5) (v := .slice (some ⟨bb, off, none⟩) m cap) rfl (by kernel_rfl) (by kernel_rfl) (by kernel_rfl) (fun _ _ _ h => h) (Or.inl ⟨by rfl, ?_⟩) (by assumption) ?_
  · intro W2 hSw; obtain ⟨k0, k1⟩ := HC01.out _ (HK4.out.and hSw); go_simp
  simp only [Act.put, List.getElem_toArray, List.getElem_cons_zero, List.getElem_cons_succ, List.setIfInBounds_toArray, List.set_cons_zero, List.set_cons_succ]
  refine wpAnyH_take (i := 6) (v := .pointer (some ⟨bb, off + 1, none⟩)) rfl (by kernel_rfl) (by kernel_rfl) (by kernel_rfl) (fun _ _ _ h => h) (Or.inl ⟨by rfl, ?_⟩) (by assumption) ?_
  · intro W2 hSw; obtain ⟨k0, k1⟩ := HC01.out _ (HK4.out.and hSw); go_simp
  simp only [Act.put, List.getElem_toArray, List.getElem_cons_zero, List.getElem_cons_succ, List.setIfInBounds_toArray, List.set_cons_zero, List.set_cons_succ]
  refine wpAnyH_take (i := 7) (v := .int .u8 p1) rfl (by kernel_rfl) (by kernel_rfl) (by kernel_rfl) (fun _ _ _ h => h) (Or.inl ⟨by rfl, ?_⟩) (by assumption) ?_
  · intro W2 hSw; obtain ⟨k0, k1⟩ := HC01.out _ (HK4.out.and hSw); go_simp
  simp only [Act.put, List.getElem_toArray, List.getElem_cons_zero, List.getElem_cons_succ, List.setIfInBounds_toArray, List.set_cons_zero, List.set_cons_succ]
  refine wpAnyH_take (i := 8) (v := .int .i64 p1) rfl (by kernel_rfl) (by kernel_rfl) (by kernel_rfl) (fun _ _ _ h => h) (Or.inl ⟨by rfl, ?_⟩) (by assumption) ?_
  · intro W2 hSw; obtain ⟨k0, k1⟩ := HC01.out _ (HK4.out.and hSw); go_simp
  simp only [Act.put, List.getElem_toArray, List.getElem_cons_zero, List.getElem_cons_succ, List.setIfInBounds_toArray, List.set_cons_zero, List.set_cons_succ]
  refine wpAnyH_take (i := 9) (v := .int .i64 (cnt : Nat)) rfl (by kernel_rfl) (by kernel_rfl) (by kernel_rfl) (fun _ _ _ h => h) (Or.inl ⟨by rfl, ?_⟩) (by assumption) ?_
  · intro W2 hSw; obtain ⟨k0, k1⟩ := HC01.out _ (HK4.out.and hSw); go_simp
  simp only [Act.put, List.getElem_toArray, List.getElem_cons_zero, List.getElem_cons_succ, List.setIfInBounds_toArray, List.set_cons_zero, List.set_cons_succ]
  refine wpAnyH_ready (rs := [10]) (by kernel_rfl) (by simp) ?_
  refine AllReadyH.cons rfl (fun K hK => ?_) AllReadyH.nil
  go_simp
  refine hK.out _ _ ((Kept.refl No w4).drew) (fun _ => ?_)
  clear hK K
  try simp only [Act.put, List.getElem_toArray, List.getElem_cons_zero, List.getElem_cons_succ, List.setIfInBounds_toArray, List.set_cons_zero, List.set_cons_succ]
  refine wpAnyH_done (by kernel_rfl) ?_ _
  clear x0 x1 x2 m0 m1 m2 m3
  by_cases h4 : 400 < cnt
  · have h4' : 400 < (cnt : Int) := by omega
    have HR := Lib.hid (pdec_6 H6B.out HSS.out (by rw [HST.out.2.2.1, HG2.out]; exact h4))
    have HKX := Lib.hid (HK4.out.drew)
    go_wp2_with fail
    go_ret2
    exact ⟨HKX.out, .slice none 0 0, by rw [HR.out]; rfl, by rw [HR.out]; exact own_nil _ _⟩
  have h4' : ¬ (400 < (cnt : Int)) := by omega
  have H4 := Lib.hid (show ¬ 400 < getF ((b.take (b.length - 4)).take 2) by rw [HST.out.2.2.1, HG2.out]; exact h4)
  have HCF := Lib.hid (show cardsF (getF ((b.take (b.length - 4)).take 2)) ((b.take (b.length - 4)).drop 2) = cardsF cnt (a.drop 2) by rw [HST.out.2.2.1, HG2.out, HST.out.2.2.2])
  have H400 := Lib.hid (show cnt ≤ 400 by omega)
  go_wp2_with fail
  clear h4 h4' hcnt ly0 ly1 x3
  go_loopw [6, 7, 8] (fun av ov iv wr => PdRel cnt a w av ov iv wr) (fun _ _ iv _ => cnt - (intOf iv).toNat)
  case atStart => exact ⟨0, 2, [], rfl, rfl, Nat.zero_le _, ⟨by rw [Nat.sub_zero]; cases cardsF cnt (a.drop 2) <;> simp, rfl, (fun c h => by cases h), own_nil _ _, HK4.out.drew, by rw [HAL.out]; exact HAE.out.2.2.2.1⟩⟩
  case round =>
    obtain ⟨i, at_, done, rfl, rfl, hi, hs⟩ := hrel
    have HS := Lib.hid hs
    obtain ⟨ado, capo, rfl⟩ : ∃ ad cap, u7 = .slice ad done.length cap := by
      obtain ⟨cs, hr, _⟩ := hs.row
      exact owned_slice hr
    have hsh := hs.short
    rw [HAL.out] at hsh
    have hae := HAE.out.2.2
    by_cases hlt : i < cnt
    · have hin : (i : Int) < (cnt : Int) := by omega
      obtain ⟨vs, hvs, hrs⟩ := slice_mid (rd_no HV.out hs.kept) (lo := at_) (hi := E) (by omega) (by omega) (by omega)
      have hdt : (b.drop at_).take (E - at_) = a.drop at_ := by rw [← HAE.out.1, List.drop_take]
      rw [hdt] at hrs
      have hdl : (a.drop at_).length = E - at_ := by rw [List.length_drop, HAL.out]
      rw [← hdl] at hrs
      have HCD := Lib.hid (rcdec_any (by rw [hdl]; omega) hrs)
      have q5 : IntKind.i64.wrap ((i : Int) + 1) = (i : Int) + 1 := IntWalk.i64_in _ (by have := H400.out; omega)
      have HI := Lib.hid hlt
      have HDL := Lib.hid hdl
      have HSH := Lib.hid hsh
      obtain ⟨cs, hrow, hcc⟩ := hs.row
      have HLEN := Lib.hid hs.len
      rw [hs.len] at hrow ⊢
      have HROW := Lib.hid hrow
      have HCC := Lib.hid hcc
      have HLB := Lib.hid (show (i + 1) * 152 ≤ 140737488355328 by have := H400.out; omega)
      have HSZ := Lib.hid hs.kept.size
      clear hs hrs hdt hdl hlt hi hrow hcc hsh hae
      go_wp2_with fail
      refine HCD.out.mono ?_
      rintro e w7 ⟨hk7, ⟨c, k, ev, tv, hcd, rfl, how⟩ | ⟨hcd, z, hz, rfl⟩⟩
      rotate_left
      · have HR := Lib.hid (pdec_none H6B.out HSS.out H4.out (by rw [HCF.out, HS.out.all, show cnt - i = (cnt - (i + 1)) + 1 by have := HI.out; omega, cardsF_succ, hcd]; rfl))
        have HKX := Lib.hid (HS.out.kept.and hk7)
        have dz : (z != 0) = true := by simpa using hz
        clear hk7 hcd hz
        unfold crdV
        have HZ0 := Lib.hid (show (w7.alloc (.cells #[.string { data := #[] }, .int .i64 0, .int .i64 0, .int .i64 0, .int .i64 0, .int .i64 0, .int .i64 0, .int .i64 0, .int .i64 0, .int .i64 0, .int .i64 0, .slice none 0 0, .slice none 0 0, .int .i64 0] 46)).heap[w7.heap.size]? = some (.cells #[.string { data := #[] }, .int .i64 0, .int .i64 0, .int .i64 0, .int .i64 0, .int .i64 0, .int .i64 0, .int .i64 0, .int .i64 0, .int .i64 0, .int .i64 0, .slice none 0 0, .slice none 0 0, .int .i64 0] 46 (0, 0)) from heap_alloc_new w7 _)
        have HKZ := Lib.hid (((HKX.out.alloc (.cells #[.string { data := #[] }, .int .i64 0, .int .i64 0, .int .i64 0, .int .i64 0, .int .i64 0, .int .i64 0, .int .i64 0, .int .i64 0, .int .i64 0, .int .i64 0, .slice none 0 0, .slice none 0 0, .int .i64 0] 46)).setRow (g := w7.heap.size) (fun hh => absurd hh (by have := HKX.out.size; omega)) zCells9))
        go_wp2_with (refine wpList_store_row rfl 46 _ _ rfl w7.heap.size zCells9 rfl rfl 46 _ HZ0.out (by kernel_rfl) rfl zc_all9 ?_)
        go_ret2
        exact ⟨HKZ.out, .slice none 0 0, by rw [HR.out]; rfl, by rw [HR.out]; exact own_nil _ _⟩
      obtain ⟨hcv, hsp, hkl⟩ := cdec_some hcd
      have hkr : k ≤ E - at_ := by
        have h1 := congrArg List.length hsp
        rw [List.length_append, HDL.out] at h1; omega
      obtain ⟨ade, cape, rfl⟩ := owned_slice how.effs
      obtain ⟨adt, capt, rfl⟩ := how.trgs.slice
      have HOW := Lib.hid how
      have HK7 := Lib.hid hk7
      have HALL := Lib.hid (crd_one c (ev := .slice ade c.effs.length cape) (tv := .slice adt c.trgs.length capt) rfl rfl)
      have HALLA := Lib.hid (all_oneCell_toArray HALL.out)
      obtain ⟨n, hn⟩ : ∃ n, at_ + k = n := ⟨_, rfl⟩
      have q7 : IntKind.i64.wrap ((at_ : Int) + (k : Int)) = (n : Int) := (IntWalk.i64_in _ (by have := HSH.out; have := HAE.out.2.2; omega)).trans (by omega)
      have HN := Lib.hid (show n ≤ E ∧ at_ + k = n by have := HSH.out; omega)
      have HCDD := Lib.hid (And.intro hcd hcv)
      have HZ0 := Lib.hid (show (w7.alloc (.cells #[.string { data := #[] }, .int .i64 0, .int .i64 0, .int .i64 0, .int .i64 0, .int .i64 0, .int .i64 0, .int .i64 0, .int .i64 0, .int .i64 0, .int .i64 0, .slice none 0 0, .slice none 0 0, .int .i64 0] 46)).heap[w7.heap.size]? = some (.cells #[.string { data := #[] }, .int .i64 0, .int .i64 0, .int .i64 0, .int .i64 0, .int .i64 0, .int .i64 0, .int .i64 0, .int .i64 0, .int .i64 0, .int .i64 0, .slice none 0 0, .slice none 0 0, .int .i64 0] 46 (0, 0)) from heap_alloc_new w7 _)
      clear how hk7 hcd hcv hsp hkl hkr hn
      unfold crdV
      have HBX := Lib.hid (show ((w7.alloc (.cells #[.string { data := #[] }, .int .i64 0, .int .i64 0, .int .i64 0, .int .i64 0, .int .i64 0, .int .i64 0, .int .i64 0, .int .i64 0, .int .i64 0, .int .i64 0, .slice none 0 0, .slice none 0 0, .int .i64 0] 46)).setRow w7.heap.size #[.string (strOf c.name), .int .i64 c.kind, .int .i64 c.o0, .int .i64 c.o1, .int .i64 c.o2, .int .i64 c.o3, .int .i64 c.any, .int .i64 c.makes, .int .i64 c.power, .int .i64 c.tough, .int .i64 c.keys, .slice ade c.effs.length cape, .slice adt c.trgs.length capt, .int .i64 c.rarity]).heap[w7.heap.size]? = some (.cells #[.string (strOf c.name), .int .i64 c.kind, .int .i64 c.o0, .int .i64 c.o1, .int .i64 c.o2, .int .i64 c.o3, .int .i64 c.any, .int .i64 c.makes, .int .i64 c.power, .int .i64 c.tough, .int .i64 c.keys, .slice ade c.effs.length cape, .slice adt c.trgs.length capt, .int .i64 c.rarity] 46 (0, 0)) from setRow_heap _ _ _ _ _ _ HZ0.out)
      have HK8 := Lib.hid (show Kept No w7 ((w7.alloc (.cells #[.string { data := #[] }, .int .i64 0, .int .i64 0, .int .i64 0, .int .i64 0, .int .i64 0, .int .i64 0, .int .i64 0, .int .i64 0, .int .i64 0, .int .i64 0, .slice none 0 0, .slice none 0 0, .int .i64 0] 46)).setRow w7.heap.size #[.string (strOf c.name), .int .i64 c.kind, .int .i64 c.o0, .int .i64 c.o1, .int .i64 c.o2, .int .i64 c.o3, .int .i64 c.any, .int .i64 c.makes, .int .i64 c.power, .int .i64 c.tough, .int .i64 c.keys, .slice ade c.effs.length cape, .slice adt c.trgs.length capt, .int .i64 c.rarity]) from ((Kept.refl No w7).alloc _).setRow (fun hh => absurd hh (Nat.lt_irrefl _)) _)
      have hsz8 : ((w7.alloc (.cells #[.string { data := #[] }, .int .i64 0, .int .i64 0, .int .i64 0, .int .i64 0, .int .i64 0, .int .i64 0, .int .i64 0, .int .i64 0, .int .i64 0, .int .i64 0, .slice none 0 0, .slice none 0 0, .int .i64 0] 46)).setRow w7.heap.size #[.string (strOf c.name), .int .i64 c.kind, .int .i64 c.o0, .int .i64 c.o1, .int .i64 c.o2, .int .i64 c.o3, .int .i64 c.any, .int .i64 c.makes, .int .i64 c.power, .int .i64 c.tough, .int .i64 c.keys, .slice ade c.effs.length cape, .slice adt c.trgs.length capt, .int .i64 c.rarity]).heap.size = w7.heap.size + 1 := by simp [World.setRow]
      have HRD8 := Lib.hid (show Rd (World.alloc ((w7.alloc (.cells #[.string { data := #[] }, .int .i64 0, .int .i64 0, .int .i64 0, .int .i64 0, .int .i64 0, .int .i64 0, .int .i64 0, .int .i64 0, .int .i64 0, .int .i64 0, .slice none 0 0, .slice none 0 0, .int .i64 0] 46)).setRow w7.heap.size #[.string (strOf c.name), .int .i64 c.kind, .int .i64 c.o0, .int .i64 c.o1, .int .i64 c.o2, .int .i64 c.o3, .int .i64 c.any, .int .i64 c.makes, .int .i64 c.power, .int .i64 c.tough, .int .i64 c.keys, .slice ade c.effs.length cape, .slice adt c.trgs.length capt, .int .i64 c.rarity]) (.cells #[.string (strOf c.name), .int .i64 c.kind, .int .i64 c.o0, .int .i64 c.o1, .int .i64 c.o2, .int .i64 c.o3, .int .i64 c.any, .int .i64 c.makes, .int .i64 c.power, .int .i64 c.tough, .int .i64 c.keys, .slice ade c.effs.length cape, .slice adt c.trgs.length capt, .int .i64 c.rarity] 46)) (fun j => j = w7.heap.size + 1) 14 (.slice (some ⟨w7.heap.size + 1, 0, none⟩) 1 1) 1 (crdCs c (.slice ade c.effs.length cape) (.slice adt c.trgs.length capt)) by
        have := rd_newC ((w7.alloc (.cells #[.string { data := #[] }, .int .i64 0, .int .i64 0, .int .i64 0, .int .i64 0, .int .i64 0, .int .i64 0, .int .i64 0, .int .i64 0, .int .i64 0, .int .i64 0, .slice none 0 0, .slice none 0 0, .int .i64 0] 46)).setRow w7.heap.size #[.string (strOf c.name), .int .i64 c.kind, .int .i64 c.o0, .int .i64 c.o1, .int .i64 c.o2, .int .i64 c.o3, .int .i64 c.any, .int .i64 c.makes, .int .i64 c.power, .int .i64 c.tough, .int .i64 c.keys, .slice ade c.effs.length cape, .slice adt c.trgs.length capt, .int .i64 c.rarity]) c (.slice ade c.effs.length cape) (.slice adt c.trgs.length capt)
        rw [hsz8] at this
        exact this)
      have HSZ8 := Lib.hid (show w.heap.size ≤ (World.alloc ((w7.alloc (.cells #[.string { data := #[] }, .int .i64 0, .int .i64 0, .int .i64 0, .int .i64 0, .int .i64 0, .int .i64 0, .int .i64 0, .int .i64 0, .int .i64 0, .int .i64 0, .slice none 0 0, .slice none 0 0, .int .i64 0] 46)).setRow w7.heap.size #[.string (strOf c.name), .int .i64 c.kind, .int .i64 c.o0, .int .i64 c.o1, .int .i64 c.o2, .int .i64 c.o3, .int .i64 c.any, .int .i64 c.makes, .int .i64 c.power, .int .i64 c.tough, .int .i64 c.keys, .slice ade c.effs.length cape, .slice adt c.trgs.length capt, .int .i64 c.rarity]) (.cells #[.string (strOf c.name), .int .i64 c.kind, .int .i64 c.o0, .int .i64 c.o1, .int .i64 c.o2, .int .i64 c.o3, .int .i64 c.any, .int .i64 c.makes, .int .i64 c.power, .int .i64 c.tough, .int .i64 c.keys, .slice ade c.effs.length cape, .slice adt c.trgs.length capt, .int .i64 c.rarity] 46)).heap.size by have h1 := HK7.out.size; have h3 := HSZ.out; rw [World.size_alloc, hsz8]; omega)
      have HKA := Lib.hid (show Kept No wr (World.alloc ((w7.alloc (.cells #[.string { data := #[] }, .int .i64 0, .int .i64 0, .int .i64 0, .int .i64 0, .int .i64 0, .int .i64 0, .int .i64 0, .int .i64 0, .int .i64 0, .int .i64 0, .slice none 0 0, .slice none 0 0, .int .i64 0] 46)).setRow w7.heap.size #[.string (strOf c.name), .int .i64 c.kind, .int .i64 c.o0, .int .i64 c.o1, .int .i64 c.o2, .int .i64 c.o3, .int .i64 c.any, .int .i64 c.makes, .int .i64 c.power, .int .i64 c.tough, .int .i64 c.keys, .slice ade c.effs.length cape, .slice adt c.trgs.length capt, .int .i64 c.rarity]) (.cells #[.string (strOf c.name), .int .i64 c.kind, .int .i64 c.o0, .int .i64 c.o1, .int .i64 c.o2, .int .i64 c.o3, .int .i64 c.any, .int .i64 c.makes, .int .i64 c.power, .int .i64 c.tough, .int .i64 c.keys, .slice ade c.effs.length cape, .slice adt c.trgs.length capt, .int .i64 c.rarity] 46)) from (HK7.out.and HK8.out).alloc _)
      clear hsz8
      go_wp2_with (first | (refine wpList_store_row rfl 46 _ _ rfl w7.heap.size #[.string (strOf c.name), .int .i64 c.kind, .int .i64 c.o0, .int .i64 c.o1, .int .i64 c.o2, .int .i64 c.o3, .int .i64 c.any, .int .i64 c.makes, .int .i64 c.power, .int .i64 c.tough, .int .i64 c.keys, .slice ade c.effs.length cape, .slice adt c.trgs.length capt, .int .i64 c.rarity] rfl rfl 46 _ HZ0.out (by kernel_rfl) rfl HALLA.out ?_) | (with_reducible refine wpList_load_row rfl 46 _ rfl w7.heap.size rfl 46 _ (0, 0) _ HBX.out Tryz.underlying46 rfl (by kernel_rfl) ?_) | (at_builtin; refine wpList_append_rd rfl rfl rfl rfl eiC (owned_kept HROW.out HKA.out fun _ _ _ => not_no _) HRD8.out HALL.out HLB.out HSZ8.out ?_; intro v9 w9 hown9 hg9 _))
      have hI := HI.out
      have hkw : Kept No wr ((w7.alloc (.cells #[.string { data := #[] }, .int .i64 0, .int .i64 0, .int .i64 0, .int .i64 0, .int .i64 0, .int .i64 0, .int .i64 0, .int .i64 0, .int .i64 0, .int .i64 0, .slice none 0 0, .slice none 0 0, .int .i64 0] 46)).setRow w7.heap.size #[.string (strOf c.name), .int .i64 c.kind, .int .i64 c.o0, .int .i64 c.o1, .int .i64 c.o2, .int .i64 c.o3, .int .i64 c.any, .int .i64 c.makes, .int .i64 c.power, .int .i64 c.tough, .int .i64 c.keys, .slice ade c.effs.length cape, .slice adt c.trgs.length capt, .int .i64 c.rarity]) := HK7.out.and HK8.out
      have hlt9 := fun k e => (HROW.out.lt k e).1
      have HRL := Lib.hid (show PdRel cnt a w (.int .i64 (n : Nat)) v9 (.int .i64 ((i : Int) + 1)) w9 from ⟨i + 1, n, done ++ [c], by go_num, rfl, by omega, by
        refine ⟨?_, by rw [List.length_append, HLEN.out]; rfl, fun x hx => ?_, ?_, ?_, by rw [HAL.out]; exact HN.out.1⟩
        · rw [HS.out.all, show cnt - i = (cnt - (i + 1)) + 1 by omega, cardsF_succ, HCDD.out.1, Option.bind_some]
          simp only
          rw [List.drop_drop, HN.out.2]
          cases cardsF (cnt - (i + 1)) (a.drop n) with
          | none => rfl
          | some q => simp
        · rcases List.mem_append.1 hx with hx | hx
          · exact HS.out.valid x hx
          · simp at hx; subst hx; exact HCDD.out.2
        · exact OwnCs.app (by rw [HLEN.out]; exact HROW.out) HCC.out hkw ((HOW.out.no HK8.out).mono HSZ.out) (by rw [HLEN.out]; exact hown9) hg9
        · exact HS.out.kept.trans ((hkw.alloc _).any.grown (S := fun k => Value.ownBlock (.slice ado i capo) = some k) hg9 (fun k e _ => e)) (fun _ _ e => e) fun j hj e => by have := hlt9 _ e; omega⟩)
      first
        | (refine ⟨HRL.out, ?_⟩; simp [intOf]; omega)
        | (go_roundw
           case rel => first | exact HRL.out | ((repeat apply Exists.intro); exact ⟨HRL.out, rfl⟩)
           case measure => simp [intOf]; omega)
    · have hin : ¬ ((i : Int) < (cnt : Int)) := by omega
      have hic : i = cnt := by omega
      have hcf : cardsF cnt (a.drop 2) = some (done, a.drop at_) := by
        rw [hs.all, hic, Nat.sub_self, cardsF_zero]; simp
      have HPS := Lib.hid (pdec_some H6B.out HSS.out H4.out (HCF.out.trans hcf))
      have hv := hs.valid
      have HWR := Lib.hid (rwrong_any (l := done) (by rw [hs.len]; have := H400.out; omega) (fun c hc => sm_of_valid (hv c hc)) hs.row.at)
      have HSH := Lib.hid hsh
      have HD0 := Lib.hid (show (a.drop at_ = [] ↔ at_ = E) by rw [List.drop_eq_nil_iff, HAL.out]; omega)
      clear hs hcf hv hlt hsh hae hic
      by_cases hat : at_ = E
      rotate_left
      · have dat : ((at_ : Int) != (E : Int)) = true := by simp; omega
        have HR := Lib.hid (show pdecF b = (6, []) by rw [HPS.out, if_neg (fun h => hat (HD0.out.1 h.2))])
        have HKX := Lib.hid HS.out.kept
        clear hat
        go_wp2_with fail
        go_ret2
        exact ⟨HKX.out, .slice none 0 0, by rw [HR.out]; rfl, by rw [HR.out]; exact own_nil _ _⟩
      have dat : ((at_ : Int) != (E : Int)) = false := by simp; omega
      obtain ⟨er, her⟩ : ∃ er, wrongF done = er := ⟨_, rfl⟩
      rw [her] at HWR HPS
      have HNIL := Lib.hid (HD0.out.2 hat)
      clear hat her
      go_wp2_with fail
      refine HWR.out.mono ?_
      rintro e w7 ⟨rfl, hk7⟩
      have HKX := Lib.hid (HS.out.kept.and hk7)
      have HROW := Lib.hid (HS.out.row.no hk7)
      clear hk7
      by_cases he0 : er = 0
      rotate_left
      · have de : (er != 0) = true := by simpa using he0
        have HR := Lib.hid (show pdecF b = (6, []) by rw [HPS.out, if_neg (fun h => he0 h.1)])
        clear he0
        go_wp2_with fail
        go_ret2
        exact ⟨HKX.out, .slice none 0 0, by rw [HR.out]; rfl, by rw [HR.out]; exact own_nil _ _⟩
      have HR := Lib.hid (show pdecF b = (0, done) by rw [HPS.out, if_pos ⟨he0, HNIL.out⟩])
      subst he0
      go_wp2_with fail
      go_ret2
      exact ⟨HKX.out, _, by rw [HR.out]; rfl, by rw [HR.out]; exact HROW.out⟩
end Go.Proofs.YtclgoilfclmibaaGreatDoor
