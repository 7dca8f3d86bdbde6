/-
  Pool: pools from bytes.
-/
import Derived.Test.YtclgoilfclmibaaGreatDoorQc
import Derived.Test.YtclgoilfclmibaaGreatDoorQd
set_option linter.unusedVariables false
set_option linter.unusedSimpArgs false
namespace Go.Proofs.YtclgoilfclmibaaGreatDoor
open Go Go.RowKit Go.Zn
attribute [local go_sem] Oper.semAt_some

def PDecPost (q : Int × List Crd) (w : World) (e : Ending) (w' : World) : Prop := Kept No w w' ∧
  ((q.1 = 0 ∧ ∃ p, e = .returned (.tuple #[p, .int .i64 0]) ∧ PoolAt w' (fun b => w.heap.size ≤ b) p q.2) ∨ (q.1 ≠ 0 ∧ e = .returned (.tuple #[.pointer none, .int .i64 q.1])))
theorem pdec_4 {b : List UInt8} (h : b.length < 6) : pdecF b = (4, []) := by unfold pdecF; rw [if_pos h]
theorem pdec_10 {b : List UInt8} (h : ¬ b.length < 6) (hs : sumF (b.take (b.length - 4)) ≠ getF (b.drop (b.length - 4))) : pdecF b = (10, []) := by
  unfold pdecF; rw [if_neg h]; simp only; rw [if_pos hs]
theorem pdec_6 {b : List UInt8} (h : ¬ b.length < 6) (hs : sumF (b.take (b.length - 4)) = getF (b.drop (b.length - 4))) (h4 : 400 < getF ((b.take (b.length - 4)).take 2)) : pdecF b = (6, []) := by
  unfold pdecF; rw [if_neg h]; simp only; rw [if_neg (fun e => e hs), if_pos h4]
theorem pdec_none {b : List UInt8} (h : ¬ b.length < 6) (hs : sumF (b.take (b.length - 4)) = getF (b.drop (b.length - 4))) (h4 : ¬ 400 < getF ((b.take (b.length - 4)).take 2))
    (hc : cardsF (getF ((b.take (b.length - 4)).take 2)) ((b.take (b.length - 4)).drop 2) = none) : pdecF b = (6, []) := by
  unfold pdecF; rw [if_neg h]; simp only; rw [if_neg (fun e => e hs), if_neg h4, hc]
theorem pdec_some {b : List UInt8} (h : ¬ b.length < 6) (hs : sumF (b.take (b.length - 4)) = getF (b.drop (b.length - 4))) (h4 : ¬ 400 < getF ((b.take (b.length - 4)).take 2)) {l : List Crd} {r : List UInt8}
    (hc : cardsF (getF ((b.take (b.length - 4)).take 2)) ((b.take (b.length - 4)).drop 2) = some (l, r)) : pdecF b = if wrongF l = 0 ∧ r = [] then (0, l) else (6, []) := by
  unfold pdecF; rw [if_neg h]; simp only; rw [if_neg (fun e => e hs), if_neg h4, hc]
/-- where decoding stands -/
structure DcS (n : Nat) (r0 : List UInt8) (w : World) (m0 : Nat) (i : Nat) (done : List Crd) (rest : List UInt8) (ov rv : Value) (wr : World) : Prop where
  all : cardsF n r0 = (cardsF (n - i) rest).map fun q => (done ++ q.1, q.2)
  len : done.length = i
  valid : ∀ c ∈ done, cvalid c = true
  row : OwnCs wr w.heap.size ov done
  rd : Rd wr (fun b => b < w.heap.size) 1 rv rest.length (bts rest)
  short : rest.length ≤ m0
  kept : Kept No w wr
def DcRel (n : Nat) (r0 : List UInt8) (w : World) (m0 : Nat) (rv ov iv : Value) (wr : World) : Prop := ∃ (i : Nat) (done : List Crd) (rest : List UInt8), iv = .int .i64 (i : Nat) ∧ i ≤ n ∧ DcS n r0 w m0 i done rest ov rv wr
theorem DcS.stop {n m0 i : Nat} {r0 rest : List UInt8} {w wr : World} {done : List Crd} {ov rv : Value} (h : DcS n r0 w m0 i done rest ov rv wr) (hi : i < n) (hc : cdec rest = none) : cardsF n r0 = none := by
  rw [h.all, show n - i = (n - (i + 1)) + 1 by omega, cardsF_succ, hc]; rfl
theorem DcS.end {n m0 : Nat} {r0 rest : List UInt8} {w wr : World} {done : List Crd} {ov rv : Value} (h : DcS n r0 w m0 n done rest ov rv wr) : cardsF n r0 = some (done, rest) := by
  rw [h.all, Nat.sub_self, cardsF_zero]; simp
theorem DcS.up {n m0 i : Nat} {r0 rest : List UInt8} {w wr wr' : World} {done : List Crd} {ov rv ov' rv' : Value} (h : DcS n r0 w m0 i done rest ov rv wr) (hi : i < n) {c : Crd} {k : Nat} (hc : cdec rest = some (c, k))
    (hrow : OwnCs wr' w.heap.size ov' (done ++ [c])) (hrd : Rd wr' (fun b => b < w.heap.size) 1 rv' (rest.drop k).length (bts (rest.drop k))) (hk : Kept No w wr') : DcS n r0 w m0 (i + 1) (done ++ [c]) (rest.drop k) ov' rv' wr' := by
  obtain ⟨hv, _, _⟩ := cdec_some hc
  refine ⟨?_, by rw [List.length_append, h.len]; rfl, fun x hx => ?_, hrow, hrd, ?_, hk⟩
  · rw [h.all, show n - i = (n - (i + 1)) + 1 by omega, cardsF_succ, hc, Option.bind_some]
    simp only
    cases cardsF (n - (i + 1)) (rest.drop k) with
    | none => rfl
    | some q => simp
  · rcases List.mem_append.1 hx with hx | hx
    · exact h.valid x hx
    · simp at hx; subst hx; exact hv
  · have := h.short; rw [List.length_drop]; omega
theorem dc_up {n m0 i k : Nat} {r0 rest : List UInt8} {w wr W2 w5 : World} {done : List Crd} {ado : Option Addr} {capo mr : Nat} {ov rv rv' v5 : Value} (h : DcS n r0 w m0 i done rest ov rv wr) (hi : i < n) {c : Crd} (hc : cdec rest = some (c, k))
    {cs : List Value} {ev tv : Value} {o : Obj} (hrow : wr.ownsRow w.heap.size 46 14 (.slice ado i capo) i cs) (hcc : OwnCC wr w.heap.size done cs) (hlen : done.length = i) (hkw : Kept No wr W2) (how : OwnC W2 wr.heap.size c ev tv)
    (hown5 : w5.ownsRow w.heap.size 46 14 v5 (i + 1) (cs ++ crdCs c ev tv)) (hg5 : (W2.drew.alloc o).grownBy w5 (Value.ownBlock (.slice ado i capo))) (hrd : Rd wr (fun b => b < w.heap.size) 1 rv' (mr - k) (bts (rest.drop k))) (hmr : rest.length = mr) :
    DcS n r0 w m0 (i + 1) (done ++ [c]) (rest.drop k) v5 rv' w5 := by
  have hk1 : Kept No wr W2.drew := hkw.drew
  have hkS : Kept (fun k => Value.ownBlock (.slice ado i capo) = some k) wr w5 := (hk1.alloc o).any.grown hg5 (fun k e _ => e)
  have hlt := fun k e => (hrow.lt k e).1
  refine h.up hi hc ?_ ?_ ?_
  · exact OwnCs.app (by rw [hlen]; exact hrow) hcc hk1 ((how.no ((Kept.refl No W2).drew)).mono h.kept.size) (by rw [hlen]; exact hown5) hg5
  · rw [List.length_drop, hmr]
    exact hrd.kept hkS fun b _ hb e => by have := hlt _ e; omega
  · exact h.kept.trans hkS (fun _ _ e => e) fun j hj e => by have := hlt _ e; omega
theorem rd_heap {w W : World} {B : Nat → Prop} {v : Value} {n size : Nat} {xs : List Value} (hW : W.heap = w.heap) (h : Rd w B size v n xs) : Rd W B size v n xs := by
  obtain ⟨h1, h2, h3⟩ := h
  refine ⟨h1, h2, ?_⟩
  rcases h3 with h3 | ⟨b, off, cap, h4, h5, h6, h7⟩
  · exact .inl h3
  · refine .inr ⟨b, off, cap, h4, h5, h6, fun j u hj => ?_⟩
    have := h7 j u hj
    unfold World.cell? at this ⊢
    rwa [hW]
set_option maxRecDepth 100000 in
set_option maxHeartbeats 8000000 in
theorem pdecode_any {b : List UInt8} (hl : b.length ≤ 1000000) {w : World} {B : Nat → Prop} {v : Value} (h : Rd w B 1 v b.length (bts b)) : Calls Tryz.prog 24 #[v] w (PDecPost (pdecF b) w) := by
  replace h := h.mono (C := fun b => b < w.heap.size) fun b hb _ => hb
  obtain ⟨m, hm⟩ : ∃ m, b.length = m := ⟨_, rfl⟩
  obtain ⟨ad, cap, rfl⟩ := rd_slice h
  rw [hm] at h hl ⊢
  by_cases h6 : m < 6
  · have HR := Lib.hid (pdec_4 (b := b) (by rw [hm]; exact h6))
    have d6 : (m : Int) < 6 := by omega
    clear h hm h6 hl
    go_enter Tryz.func24, Tryz.ntmps24
    go_wp2_with fail
    go_ret2
    exact ⟨Kept.refl No w, .inr ⟨by rw [HR.out]; decide, by rw [HR.out]; rfl⟩⟩
  have d6 : ¬ ((m : Int) < 6) := by omega
  obtain ⟨v1, hv1, hr1⟩ := slice_to h (n := m - 4) (by omega)
  obtain ⟨v4, hv4, hr4⟩ := slice_from h (n := m - 4) (by omega)
  rw [show m - (m - 4) = 4 by omega] at hr4
  obtain ⟨a, ha⟩ : ∃ a, b.take (m - 4) = a := ⟨_, rfl⟩
  obtain ⟨tl, htl⟩ : ∃ tl, b.drop (m - 4) = tl := ⟨_, rfl⟩
  rw [ha] at hr1
  rw [htl] at hr4
  have hal : a.length = m - 4 := by rw [← ha, List.length_take]; omega
  have htl4 : tl.length = 4 := by rw [← htl, List.length_drop]; omega
  obtain ⟨v2, hv2, hr2⟩ := slice_to hr1 (n := 2) (by omega)
  obtain ⟨v3, hv3, hr3⟩ := slice_from hr1 (n := 2) (by omega)
  rw [show m - 4 - 2 = m - 6 by omega] at hr3
  obtain ⟨ad1, cap1, rfl⟩ := rd_slice hr1
  obtain ⟨ad4, cap4, rfl⟩ := rd_slice hr4
  obtain ⟨ad2, cap2, rfl⟩ := rd_slice hr2
  obtain ⟨ad3, cap3, rfl⟩ := rd_slice hr3
  replace hv2 : ∀ W, (Instr.sliceAt 51 (.slice ad1 (m - 4) cap1) none (some (.int .i64 2)) none).run Tryz.prog W = .ok (.slice ad2 2 cap2) W := hv2
  replace hv3 : ∀ W, (Instr.sliceAt 51 (.slice ad1 (m - 4) cap1) (some (.int .i64 2)) none none).run Tryz.prog W = .ok (.slice ad3 (m - 6) cap3) W := hv3
  have e4 : ((m - 4 : Nat) : Int) = (m : Int) - 4 := by omega
  rw [e4] at hv1 hv4
  have q4 : IntKind.i64.wrap ((m : Int) - 4) = (m : Int) - 4 := IntWalk.i64_in _ (by omega)
  have HSUM := Lib.hid (fun (W : World) (hW : W.heap = w.heap) => psum_any (l := a) (by omega) (w := W) (B := fun b => b < w.heap.size) (v := .slice ad1 (m - 4) cap1) (by rw [hal]; exact rd_heap hW hr1))
  have HGET := Lib.hid (fun (W : World) (hW : W.heap = w.heap) => get_any (l := tl) (by omega) (w := W) (B := fun b => b < w.heap.size) (v := .slice ad4 4 cap4) (by rw [htl4]; exact rd_heap hW hr4))
  have h2l : (a.take 2).length = 2 := by rw [List.length_take]; omega
  have HG2 := Lib.hid (fun (W : World) (hW : ∀ _ : Unit, W.heap = w.heap) => get_any (l := a.take 2) (by omega) (w := W) (B := fun b => b < w.heap.size) (v := .slice ad2 2 cap2) (by rw [h2l]; exact rd_heap (hW ()) hr2))
  have hcl := getF_lt (a.take 2) 2 (by omega)
  obtain ⟨cnt, hcnt⟩ : ∃ cnt, getF (a.take 2) = cnt := ⟨_, rfl⟩
  obtain ⟨s, hs⟩ : ∃ s, sumF a = s := ⟨_, rfl⟩
  obtain ⟨t, ht⟩ : ∃ t, getF tl = t := ⟨_, rfl⟩
  rw [hs] at HSUM
  rw [ht] at HGET
  rw [hcnt] at HG2 hcl
  have h6b : ¬ b.length < 6 := by omega
  by_cases hst : s = t
  · subst hst
    have hst2 : sumF (b.take (b.length - 4)) = getF (b.drop (b.length - 4)) := by rw [hm, ha, htl, hs, ht]
    have d2 : ((s : Int) != (s : Int)) = false := by simp
    have q5 : IntKind.i64.wrap (cnt : Int) = (cnt : Int) := IntWalk.i64_in _ (by omega)
    by_cases h400 : 400 < cnt
    · have HR := Lib.hid (pdec_6 h6b hst2 (by rw [hm, ha, hcnt]; exact h400))
      have d4 : (400 : Int) < (cnt : Int) := by omega
      clear h hm h6 hl hr1 hr2 hr3 hr4 ha htl hal htl4 e4 h2l hcl hcnt hs ht h6b hst2 h400
      go_enter Tryz.func24, Tryz.ntmps24
      go_wp2_with fail
      refine wp_region_held_drew (S := (fun W' => W' = w.drew)) (by kernel_rfl) rfl (fun hHeld => ?_)
      refine wpAnyH_take (i := 0) (v := .slice ad m cap) rfl (by kernel_rfl) (by kernel_rfl) (by kernel_rfl) (fun _ _ _ h => h) (Or.inl ⟨by rfl, ?_⟩) (by assumption) ?_
      · intro W2 hSw; subst hSw; go_simp
      simp only [Act.put, List.getElem_toArray, List.getElem_cons_zero, List.getElem_cons_succ, List.setIfInBounds_toArray, List.set_cons_zero, List.set_cons_succ]
      refine wpAnyH_take (i := 1) (v := .slice ad m cap) rfl (by kernel_rfl) (by kernel_rfl) (by kernel_rfl) (fun _ _ _ h => h) (Or.inl ⟨by rfl, ?_⟩) (by assumption) ?_
      · intro W2 hSw; subst hSw; go_simp
      simp only [Act.put, List.getElem_toArray, List.getElem_cons_zero, List.getElem_cons_succ, List.setIfInBounds_toArray, List.set_cons_zero, List.set_cons_succ]
      refine wpAnyH_take (i := 2) (v := .int .i64 (m : Nat)) rfl (by kernel_rfl) (by kernel_rfl) (by kernel_rfl) (fun _ _ _ h => h) (Or.inl ⟨by rfl, ?_⟩) (by assumption) ?_
      · intro W2 hSw; subst hSw; go_simp
      simp only [Act.put, List.getElem_toArray, List.getElem_cons_zero, List.getElem_cons_succ, List.setIfInBounds_toArray, List.set_cons_zero, List.set_cons_succ]
      refine wpAnyH_take (i := 3) (v := .int .i64 ((m : Int) - 4)) rfl (by kernel_rfl) (by kernel_rfl) (by kernel_rfl) (fun _ _ _ h => h) (Or.inl ⟨by rfl, ?_⟩) (by assumption) ?_
      · intro W2 hSw; subst hSw; go_simp
      simp only [Act.put, List.getElem_toArray, List.getElem_cons_zero, List.getElem_cons_succ, List.setIfInBounds_toArray, List.set_cons_zero, List.set_cons_succ]
      refine wpAnyH_take (i := 4) (v := .slice ad1 (m - 4) cap1) rfl (by kernel_rfl) (by kernel_rfl) (by kernel_rfl) (fun _ _ _ h => h) (Or.inl ⟨by rfl, ?_⟩) (by assumption) ?_
      · intro W2 hSw; subst hSw; go_simp
      simp only [Act.put, List.getElem_toArray, List.getElem_cons_zero, List.getElem_cons_succ, List.setIfInBounds_toArray, List.set_cons_zero, List.set_cons_succ]
      refine wpAnyH_take (i := 5) (v := .slice ad m cap) rfl (by kernel_rfl) (by kernel_rfl) (by kernel_rfl) (fun _ _ _ h => h) (Or.inl ⟨by rfl, ?_⟩) (by assumption) ?_
      · intro W2 hSw; subst hSw; go_simp
      simp only [Act.put, List.getElem_toArray, List.getElem_cons_zero, List.getElem_cons_succ, List.setIfInBounds_toArray, List.set_cons_zero, List.set_cons_succ]
      refine wpAnyH_take (i := 6) (v := .slice ad m cap) rfl (by kernel_rfl) (by kernel_rfl) (by kernel_rfl) (fun _ _ _ h => h) (Or.inl ⟨by rfl, ?_⟩) (by assumption) ?_
      · intro W2 hSw; subst hSw; go_simp
      simp only [Act.put, List.getElem_toArray, List.getElem_cons_zero, List.getElem_cons_succ, List.setIfInBounds_toArray, List.set_cons_zero, List.set_cons_succ]
      refine wpAnyH_take (i := 7) (v := .int .i64 (m : Nat)) rfl (by kernel_rfl) (by kernel_rfl) (by kernel_rfl) (fun _ _ _ h => h) (Or.inl ⟨by rfl, ?_⟩) (by assumption) ?_
      · intro W2 hSw; subst hSw; go_simp
      simp only [Act.put, List.getElem_toArray, List.getElem_cons_zero, List.getElem_cons_succ, List.setIfInBounds_toArray, List.set_cons_zero, List.set_cons_succ]
      refine wpAnyH_take (i := 8) (v := .int .i64 ((m : Int) - 4)) rfl (by kernel_rfl) (by kernel_rfl) (by kernel_rfl) (fun _ _ _ h => h) (Or.inl ⟨by rfl, ?_⟩) (by assumption) ?_
      · intro W2 hSw; subst hSw; go_simp
      simp only [Act.put, List.getElem_toArray, List.getElem_cons_zero, List.getElem_cons_succ, List.setIfInBounds_toArray, List.set_cons_zero, List.set_cons_succ]
      refine wpAnyH_take (i := 9) (v := .slice ad4 4 cap4) rfl (by kernel_rfl) (by kernel_rfl) (by kernel_rfl) (fun _ _ _ h => h) (Or.inl ⟨by rfl, ?_⟩) (by assumption) ?_
      · intro W2 hSw; subst hSw; go_simp
      simp only [Act.put, List.getElem_toArray, List.getElem_cons_zero, List.getElem_cons_succ, List.setIfInBounds_toArray, List.set_cons_zero, List.set_cons_succ]
      refine wpAnyH_take (i := 10) (v := .slice ad1 (m - 4) cap1) rfl (by kernel_rfl) (by kernel_rfl) (by kernel_rfl) (fun _ _ _ h => h) (Or.inl ⟨by rfl, ?_⟩) (by assumption) ?_
      · intro W2 hSw; subst hSw; go_simp
      simp only [Act.put, List.getElem_toArray, List.getElem_cons_zero, List.getElem_cons_succ, List.setIfInBounds_toArray, List.set_cons_zero, List.set_cons_succ]
      refine wpAnyH_take (i := 11) (v := .slice ad4 4 cap4) rfl (by kernel_rfl) (by kernel_rfl) (by kernel_rfl) (fun _ _ _ h => h) (Or.inl ⟨by rfl, ?_⟩) (by assumption) ?_
      · intro W2 hSw; subst hSw; go_simp
      simp only [Act.put, List.getElem_toArray, List.getElem_cons_zero, List.getElem_cons_succ, List.setIfInBounds_toArray, List.set_cons_zero, List.set_cons_succ]
      refine wpAnyH_done (by kernel_rfl) ?_ _
      go_wp2_with fail
      refine (HSUM.out w.drew rfl).mono ?_
      rintro e w1 ⟨rfl, rfl⟩
      go_wp2_with fail
      refine (HGET.out w.drew rfl).mono ?_
      rintro e w1 ⟨rfl, rfl⟩
      go_wp2_with fail
      refine wp_region_held_drew (S := (fun W' => W' = w.drew.drew)) (by kernel_rfl) rfl (fun hHeld => ?_)
      refine wpAnyH_take (i := 0) (v := .slice ad1 (m - 4) cap1) rfl (by kernel_rfl) (by kernel_rfl) (by kernel_rfl) (fun _ _ _ h => h) (Or.inl ⟨by rfl, ?_⟩) (by assumption) ?_
      · intro W2 hSw; subst hSw; go_simp
      simp only [Act.put, List.getElem_toArray, List.getElem_cons_zero, List.getElem_cons_succ, List.setIfInBounds_toArray, List.set_cons_zero, List.set_cons_succ]
      refine wpAnyH_take (i := 1) (v := .slice ad2 2 cap2) rfl (by kernel_rfl) (by kernel_rfl) (by kernel_rfl) (fun _ _ _ h => h) (Or.inl ⟨by rfl, ?_⟩) (by assumption) ?_
      · intro W2 hSw; subst hSw; go_simp
      simp only [Act.put, List.getElem_toArray, List.getElem_cons_zero, List.getElem_cons_succ, List.setIfInBounds_toArray, List.set_cons_zero, List.set_cons_succ]
      refine wpAnyH_take (i := 4) (v := .slice ad1 (m - 4) cap1) rfl (by kernel_rfl) (by kernel_rfl) (by kernel_rfl) (fun _ _ _ h => h) (Or.inl ⟨by rfl, ?_⟩) (by assumption) ?_
      · intro W2 hSw; subst hSw; go_simp
      simp only [Act.put, List.getElem_toArray, List.getElem_cons_zero, List.getElem_cons_succ, List.setIfInBounds_toArray, List.set_cons_zero, List.set_cons_succ]
      refine wpAnyH_take (i := 5) (v := .slice ad3 (m - 6) cap3) rfl (by kernel_rfl) (by kernel_rfl) (by kernel_rfl) (fun _ _ _ h => h) (Or.inl ⟨by rfl, ?_⟩) (by assumption) ?_
      · intro W2 hSw; subst hSw; go_simp
      simp only [Act.put, List.getElem_toArray, List.getElem_cons_zero, List.getElem_cons_succ, List.setIfInBounds_toArray, List.set_cons_zero, List.set_cons_succ]
      refine wpAnyH_ready (rs := [2]) (by kernel_rfl) (by simp) ?_
      refine AllReadyH.cons rfl (fun K hK => ?_) AllReadyH.nil
      go_simp
      go_at_call 41
      refine (HG2.out w.drew.drew (fun _ => rfl)).mono ?_
      rintro e9 w9 ⟨rfl, rfl⟩
      refine hK.out _ _ rfl (fun _ => ?_)
      clear hK K
      try simp only [Act.put, List.getElem_toArray, List.getElem_cons_zero, List.getElem_cons_succ, List.setIfInBounds_toArray, List.set_cons_zero, List.set_cons_succ]
      refine wpAnyH_take (i := 3) (v := .int .i64 (cnt : Nat)) rfl (by kernel_rfl) (by kernel_rfl) (by kernel_rfl) (fun _ _ _ h => h) (Or.inl ⟨by rfl, ?_⟩) (by assumption) ?_
      · intro W2 hSw; subst hSw; go_simp
      simp only [Act.put, List.getElem_toArray, List.getElem_cons_zero, List.getElem_cons_succ, List.setIfInBounds_toArray, List.set_cons_zero, List.set_cons_succ]
      refine wpAnyH_take (i := 6) (v := .int .i64 (cnt : Nat)) rfl (by kernel_rfl) (by kernel_rfl) (by kernel_rfl) (fun _ _ _ h => h) (Or.inl ⟨by rfl, ?_⟩) (by assumption) ?_
      · intro W2 hSw; subst hSw; go_simp
      simp only [Act.put, List.getElem_toArray, List.getElem_cons_zero, List.getElem_cons_succ, List.setIfInBounds_toArray, List.set_cons_zero, List.set_cons_succ]
      refine wpAnyH_take (i := 7) (v := .slice ad3 (m - 6) cap3) rfl (by kernel_rfl) (by kernel_rfl) (by kernel_rfl) (fun _ _ _ h => h) (Or.inl ⟨by rfl, ?_⟩) (by assumption) ?_
      · intro W2 hSw; subst hSw; go_simp
      simp only [Act.put, List.getElem_toArray, List.getElem_cons_zero, List.getElem_cons_succ, List.setIfInBounds_toArray, List.set_cons_zero, List.set_cons_succ]
      refine wpAnyH_done (by kernel_rfl) ?_ _
      go_wp2_with fail
      go_ret2
      exact ⟨((Kept.refl No w).drew).drew, .inr ⟨by rw [HR.out]; decide, by rw [HR.out]; rfl⟩⟩
    · have d4 : ¬ ((400 : Int) < (cnt : Int)) := by omega
      have HRN := Lib.hid (fun hc => pdec_none (b := b) h6b hst2 (by rw [hm, ha, hcnt]; exact h400) hc)
      have HRS := Lib.hid (fun l r hc => pdec_some (b := b) (l := l) (r := r) h6b hst2 (by rw [hm, ha, hcnt]; exact h400) hc)
      rw [hm, ha, hcnt] at HRN HRS
      have h3l : (a.drop 2).length = m - 6 := by rw [List.length_drop, hal]; omega
      have hr3b : Rd w (fun b => b < w.heap.size) 1 (.slice ad3 (m - 6) cap3) (a.drop 2).length (bts (a.drop 2)) := by rw [h3l]; exact hr3
      obtain ⟨r0, hr0⟩ : ∃ r0, a.drop 2 = r0 := ⟨_, rfl⟩
      rw [hr0] at hr3b HRN HRS
      have HS0 := Lib.hid (show DcS cnt r0 w m 0 [] r0 (.slice none 0 0) (.slice ad3 (m - 6) cap3) w.drew.drew from
        ⟨by rw [Nat.sub_zero]; cases cardsF cnt r0 <;> simp, rfl, by simp, ⟨[], World.ownsRow_nil _ _ _ _, rfl⟩, hr3b, by rw [← hr0, h3l]; omega, ((Kept.refl No w).drew).drew⟩)
      have H400 := Lib.hid (show cnt ≤ 400 by omega)
      have HML := Lib.hid hl
      clear h hm h6 hl hr1 hr2 hr3 hr4 ha htl hal htl4 e4 h2l hcl hcnt hs ht h6b hst2 h400 h3l hr3b hr0
      go_enter Tryz.func24, Tryz.ntmps24
      go_wp2_with fail
      refine wp_region_held_drew (S := (fun W' => W' = w.drew)) (by kernel_rfl) rfl (fun hHeld => ?_)
      refine wpAnyH_take (i := 0) (v := .slice ad m cap) rfl (by kernel_rfl) (by kernel_rfl) (by kernel_rfl) (fun _ _ _ h => h) (Or.inl ⟨by rfl, ?_⟩) (by assumption) ?_
      · intro W2 hSw; subst hSw; go_simp
      simp only [Act.put, List.getElem_toArray, List.getElem_cons_zero, List.getElem_cons_succ, List.setIfInBounds_toArray, List.set_cons_zero, List.set_cons_succ]
      refine wpAnyH_take (i := 1) (v := .slice ad m cap) rfl (by kernel_rfl) (by kernel_rfl) (by kernel_rfl) (fun _ _ _ h => h) (Or.inl ⟨by rfl, ?_⟩) (by assumption) ?_
      · intro W2 hSw; subst hSw; go_simp
      simp only [Act.put, List.getElem_toArray, List.getElem_cons_zero, List.getElem_cons_succ, List.setIfInBounds_toArray, List.set_cons_zero, List.set_cons_succ]
      refine wpAnyH_take (i := 2) (v := .int .i64 (m : Nat)) rfl (by kernel_rfl) (by kernel_rfl) (by kernel_rfl) (fun _ _ _ h => h) (Or.inl ⟨by rfl, ?_⟩) (by assumption) ?_
      · intro W2 hSw; subst hSw; go_simp
      simp only [Act.put, List.getElem_toArray, List.getElem_cons_zero, List.getElem_cons_succ, List.setIfInBounds_toArray, List.set_cons_zero, List.set_cons_succ]
      refine wpAnyH_take (i := 3) (v := .int .i64 ((m : Int) - 4)) rfl (by kernel_rfl) (by kernel_rfl) (by kernel_rfl) (fun _ _ _ h => h) (Or.inl ⟨by rfl, ?_⟩) (by assumption) ?_
      · intro W2 hSw; subst hSw; go_simp
      simp only [Act.put, List.getElem_toArray, List.getElem_cons_zero, List.getElem_cons_succ, List.setIfInBounds_toArray, List.set_cons_zero, List.set_cons_succ]
      refine wpAnyH_take (i := 4) (v := .slice ad1 (m - 4) cap1) rfl (by kernel_rfl) (by kernel_rfl) (by kernel_rfl) (fun _ _ _ h => h) (Or.inl ⟨by rfl, ?_⟩) (by assumption) ?_
      · intro W2 hSw; subst hSw; go_simp
      simp only [Act.put, List.getElem_toArray, List.getElem_cons_zero, List.getElem_cons_succ, List.setIfInBounds_toArray, List.set_cons_zero, List.set_cons_succ]
      refine wpAnyH_take (i := 5) (v := .slice ad m cap) rfl (by kernel_rfl) (by kernel_rfl) (by kernel_rfl) (fun _ _ _ h => h) (Or.inl ⟨by rfl, ?_⟩) (by assumption) ?_
      · intro W2 hSw; subst hSw; go_simp
      simp only [Act.put, List.getElem_toArray, List.getElem_cons_zero, List.getElem_cons_succ, List.setIfInBounds_toArray, List.set_cons_zero, List.set_cons_succ]
      refine wpAnyH_take (i := 6) (v := .slice ad m cap) rfl (by kernel_rfl) (by kernel_rfl) (by kernel_rfl) (fun _ _ _ h => h) (Or.inl ⟨by rfl, ?_⟩) (by assumption) ?_
      · intro W2 hSw; subst hSw; go_simp
      simp only [Act.put, List.getElem_toArray, List.getElem_cons_zero, List.getElem_cons_succ, List.setIfInBounds_toArray, List.set_cons_zero, List.set_cons_succ]
      refine wpAnyH_take (i := 7) (v := .int .i64 (m : Nat)) rfl (by kernel_rfl) (by kernel_rfl) (by kernel_rfl) (fun _ _ _ h => h) (Or.inl ⟨by rfl, ?_⟩) (by assumption) ?_
      · intro W2 hSw; subst hSw; go_simp
      simp only [Act.put, List.getElem_toArray, List.getElem_cons_zero, List.getElem_cons_succ, List.setIfInBounds_toArray, List.set_cons_zero, List.set_cons_succ]
      refine wpAnyH_take (i := 8) (v := .int .i64 ((m : Int) - 4)) rfl (by kernel_rfl) (by kernel_rfl) (by kernel_rfl) (fun _ _ _ h => h) (Or.inl ⟨by rfl, ?_⟩) (by assumption) ?_
      · intro W2 hSw; subst hSw; go_simp
      simp only [Act.put, List.getElem_toArray, List.getElem_cons_zero, List.getElem_cons_succ, List.setIfInBounds_toArray, List.set_cons_zero, List.set_cons_succ]
      refine wpAnyH_take (i := 9) (v := .slice ad4 4 cap4) rfl (by kernel_rfl) (by kernel_rfl) (by kernel_rfl) (fun _ _ _ h => h) (Or.inl ⟨by rfl, ?_⟩) (by assumption) ?_
      · intro W2 hSw; subst hSw; go_simp
      simp only [Act.put, List.getElem_toArray, List.getElem_cons_zero, List.getElem_cons_succ, List.setIfInBounds_toArray, List.set_cons_zero, List.set_cons_succ]
      refine wpAnyH_take (i := 10) (v := .slice ad1 (m - 4) cap1) rfl (by kernel_rfl) (by kernel_rfl) (by kernel_rfl) (fun _ _ _ h => h) (Or.inl ⟨by rfl, ?_⟩) (by assumption) ?_
      · intro W2 hSw; subst hSw; go_simp
      simp only [Act.put, List.getElem_toArray, List.getElem_cons_zero, List.getElem_cons_succ, List.setIfInBounds_toArray, List.set_cons_zero, List.set_cons_succ]
      refine wpAnyH_take (i := 11) (v := .slice ad4 4 cap4) rfl (by kernel_rfl) (by kernel_rfl) (by kernel_rfl) (fun _ _ _ h => h) (Or.inl ⟨by rfl, ?_⟩) (by assumption) ?_
      · intro W2 hSw; subst hSw; go_simp
      simp only [Act.put, List.getElem_toArray, List.getElem_cons_zero, List.getElem_cons_succ, List.setIfInBounds_toArray, List.set_cons_zero, List.set_cons_succ]
      refine wpAnyH_done (by kernel_rfl) ?_ _
      go_wp2_with fail
      refine (HSUM.out w.drew rfl).mono ?_
      rintro e w1 ⟨rfl, rfl⟩
      go_wp2_with fail
      refine (HGET.out w.drew rfl).mono ?_
      rintro e w1 ⟨rfl, rfl⟩
      go_wp2_with fail
      refine wp_region_held_drew (S := (fun W' => W' = w.drew.drew)) (by kernel_rfl) rfl (fun hHeld => ?_)
      refine wpAnyH_take (i := 0) (v := .slice ad1 (m - 4) cap1) rfl (by kernel_rfl) (by kernel_rfl) (by kernel_rfl) (fun _ _ _ h => h) (Or.inl ⟨by rfl, ?_⟩) (by assumption) ?_
      · intro W2 hSw; subst hSw; go_simp
      simp only [Act.put, List.getElem_toArray, List.getElem_cons_zero, List.getElem_cons_succ, List.setIfInBounds_toArray, List.set_cons_zero, List.set_cons_succ]
      refine wpAnyH_take (i := 1) (v := .slice ad2 2 cap2) rfl (by kernel_rfl) (by kernel_rfl) (by kernel_rfl) (fun _ _ _ h => h) (Or.inl ⟨by rfl, ?_⟩) (by assumption) ?_
      · intro W2 hSw; subst hSw; go_simp
      simp only [Act.put, List.getElem_toArray, List.getElem_cons_zero, List.getElem_cons_succ, List.setIfInBounds_toArray, List.set_cons_zero, List.set_cons_succ]
      refine wpAnyH_take (i := 4) (v := .slice ad1 (m - 4) cap1) rfl (by kernel_rfl) (by kernel_rfl) (by kernel_rfl) (fun _ _ _ h => h) (Or.inl ⟨by rfl, ?_⟩) (by assumption) ?_
      · intro W2 hSw; subst hSw; go_simp
      simp only [Act.put, List.getElem_toArray, List.getElem_cons_zero, List.getElem_cons_succ, List.setIfInBounds_toArray, List.set_cons_zero, List.set_cons_succ]
      refine wpAnyH_take (i := 5) (v := .slice ad3 (m - 6) cap3) rfl (by kernel_rfl) (by kernel_rfl) (by kernel_rfl) (fun _ _ _ h => h) (Or.inl ⟨by rfl, ?_⟩) (by assumption) ?_
      · intro W2 hSw; subst hSw; go_simp
      simp only [Act.put, List.getElem_toArray, List.getElem_cons_zero, List.getElem_cons_succ, List.setIfInBounds_toArray, List.set_cons_zero, List.set_cons_succ]
      refine wpAnyH_ready (rs := [2]) (by kernel_rfl) (by simp) ?_
      refine AllReadyH.cons rfl (fun K hK => ?_) AllReadyH.nil
      go_simp
      go_at_call 41
      refine (HG2.out w.drew.drew (fun _ => rfl)).mono ?_
      rintro e9 w9 ⟨rfl, rfl⟩
      refine hK.out _ _ rfl (fun _ => ?_)
      clear hK K
      try simp only [Act.put, List.getElem_toArray, List.getElem_cons_zero, List.getElem_cons_succ, List.setIfInBounds_toArray, List.set_cons_zero, List.set_cons_succ]
      refine wpAnyH_take (i := 3) (v := .int .i64 (cnt : Nat)) rfl (by kernel_rfl) (by kernel_rfl) (by kernel_rfl) (fun _ _ _ h => h) (Or.inl ⟨by rfl, ?_⟩) (by assumption) ?_
      · intro W2 hSw; subst hSw; go_simp
      simp only [Act.put, List.getElem_toArray, List.getElem_cons_zero, List.getElem_cons_succ, List.setIfInBounds_toArray, List.set_cons_zero, List.set_cons_succ]
      refine wpAnyH_take (i := 6) (v := .int .i64 (cnt : Nat)) rfl (by kernel_rfl) (by kernel_rfl) (by kernel_rfl) (fun _ _ _ h => h) (Or.inl ⟨by rfl, ?_⟩) (by assumption) ?_
      · intro W2 hSw; subst hSw; go_simp
      simp only [Act.put, List.getElem_toArray, List.getElem_cons_zero, List.getElem_cons_succ, List.setIfInBounds_toArray, List.set_cons_zero, List.set_cons_succ]
      refine wpAnyH_take (i := 7) (v := .slice ad3 (m - 6) cap3) rfl (by kernel_rfl) (by kernel_rfl) (by kernel_rfl) (fun _ _ _ h => h) (Or.inl ⟨by rfl, ?_⟩) (by assumption) ?_
      · intro W2 hSw; subst hSw; go_simp
      simp only [Act.put, List.getElem_toArray, List.getElem_cons_zero, List.getElem_cons_succ, List.setIfInBounds_toArray, List.set_cons_zero, List.set_cons_succ]
      refine wpAnyH_done (by kernel_rfl) ?_ _
      go_wp2_with fail
      clear HSUM HGET HG2 hv1 hv4 hv2 hv3 q4 d6
      go_loopw [6, 7, 40] (fun rv ov iv wr => DcRel cnt r0 w m rv ov iv wr) (fun _ _ iv _ => cnt - (intOf iv).toNat)
      case atStart => exact ⟨0, [], r0, rfl, Nat.zero_le _, HS0.out⟩
      case round =>
        obtain ⟨i, done, rest, rfl, hi, hs0⟩ := hrel
        have HS := Lib.hid hs0
        have hrd := hs0.rd
        obtain ⟨adr, capr, rfl⟩ := rd_slice hrd
        obtain ⟨ado, capo, rfl⟩ := hs0.row.at.slice
        by_cases hlt : i < cnt
        · have d1 : decide (i < cnt) = true := decide_eq_true hlt
          have hi0 : (0 : Int) ≤ (i : Int) := by omega
          have hin : (i : Int) < (cnt : Int) := by omega
          have q4 : IntKind.i64.wrap ((i : Int) + 1) = (i : Int) + 1 := IntWalk.i64_in _ (by have := H400.out; omega)
          have HI := Lib.hid hlt
          have HCD := Lib.hid (cdecode_any hrd)
          cases hc : cdec rest with
          | none =>
            rw [hc] at HCD
            have HR := Lib.hid (HRN.out (hs0.stop hlt hc))
            obtain ⟨mr, hmr⟩ : ∃ mr, rest.length = mr := ⟨_, rfl⟩
            rw [hmr] at HCD ⊢
            clear hs0 hrd hlt hc hmr hi
            go_wp2_with fail
            refine HCD.out.mono ?_
            rintro e w2 ⟨er, rfl, her, hk⟩
            have d9 : (er != 0) = true := by simpa using her
            have HK := Lib.hid (HS.out.kept.and hk)
            clear her hk
            unfold crdV zC
            go_wp2_with fail
            go_ret2
            exact ⟨HK.out.alloc _, .inr ⟨by rw [HR.out]; decide, by rw [HR.out]; rfl⟩⟩
          | some p =>
            obtain ⟨c, k⟩ := p
            rw [hc] at HCD
            obtain ⟨hcv, hsp, hkl⟩ := cdec_some hc
            have hkr : k ≤ rest.length := by
              rw [hsp, List.length_append]; omega
            have hm63 := hs0.short
            obtain ⟨vs, hvs, hrs⟩ := slice_from hrd hkr
            obtain ⟨ads, caps, rfl⟩ := rd_slice hrs
            have HRSS := Lib.hid hrs
            have HKR := Lib.hid hkr
            have HC := Lib.hid hc
            have hbl := hs0.row
            have HBLT := Lib.hid (show ∀ k, (Value.slice ado done.length capo).ownBlock = some k → k < wr.heap.size from fun k e => by obtain ⟨_, h1, _⟩ := hbl; exact (h1.lt k e).2)
            obtain ⟨cs, hrow, hcc⟩ := hbl
            have HLEN := Lib.hid hs0.len
            rw [hs0.len] at hrow HBLT ⊢
            have HROW := Lib.hid hrow
            have HCC := Lib.hid hcc
            have HLB := Lib.hid (show (i + 1) * 152 ≤ 140737488355328 by have := H400.out; omega)
            obtain ⟨mr, hmr⟩ : ∃ mr, rest.length = mr := ⟨_, rfl⟩
            have HMR := Lib.hid hmr
            rw [hmr] at HCD HRSS hvs HKR ⊢
            clear hs0 hrd hlt hc hmr hi hcv hsp hkl hkr hm63 hrs hrow hcc
            go_wp2_with fail
            refine HCD.out.mono ?_
            rintro e w2 ⟨ev, tv, rfl, how, hk⟩
            obtain ⟨ade, cape, rfl⟩ := owned_slice how.effs
            obtain ⟨adt, capt, rfl⟩ := how.trgs.slice
            have HOW := Lib.hid how
            have HK := Lib.hid hk
            have HALL := Lib.hid (crd_one c (ev := .slice ade c.effs.length cape) (tv := .slice adt c.trgs.length capt) rfl rfl)
            clear how hk
            unfold crdV
            go_wp2_with fail
            have HBX := Lib.hid (show CObj (w2.alloc (.cells #[.string (strOf c.name), .int .i64 c.kind, .int .i64 c.o0, .int .i64 c.o1, .int .i64 c.o2, .int .i64 c.o3, .int .i64 c.any, .int .i64 c.makes, .int .i64 c.power, .int .i64 c.tough, .int .i64 c.keys, .slice ade c.effs.length cape, .slice adt c.trgs.length capt, .int .i64 c.rarity] 46)) w2.heap.size c (.slice ade c.effs.length cape) (.slice adt c.trgs.length capt) from heap_alloc_new w2 _)
            have HKW := Lib.hid (HK.out.alloc (.cells #[.string (strOf c.name), .int .i64 c.kind, .int .i64 c.o0, .int .i64 c.o1, .int .i64 c.o2, .int .i64 c.o3, .int .i64 c.any, .int .i64 c.makes, .int .i64 c.power, .int .i64 c.tough, .int .i64 c.keys, .slice ade c.effs.length cape, .slice adt c.trgs.length capt, .int .i64 c.rarity] 46))
            have HOWW := Lib.hid (HOW.out.no ((Kept.refl No w2).alloc (.cells #[.string (strOf c.name), .int .i64 c.kind, .int .i64 c.o0, .int .i64 c.o1, .int .i64 c.o2, .int .i64 c.o3, .int .i64 c.any, .int .i64 c.makes, .int .i64 c.power, .int .i64 c.tough, .int .i64 c.keys, .slice ade c.effs.length cape, .slice adt c.trgs.length capt, .int .i64 c.rarity] 46)))
            have HGE := Lib.hid HK.out.size
            obtain ⟨W2, hW2⟩ : ∃ W2, w2.alloc (.cells #[.string (strOf c.name), .int .i64 c.kind, .int .i64 c.o0, .int .i64 c.o1, .int .i64 c.o2, .int .i64 c.o3, .int .i64 c.any, .int .i64 c.makes, .int .i64 c.power, .int .i64 c.tough, .int .i64 c.keys, .slice ade c.effs.length cape, .slice adt c.trgs.length capt, .int .i64 c.rarity] 46) = W2 := ⟨_, rfl⟩
            rw [hW2] at HBX HKW HOWW ⊢
            obtain ⟨g, hg⟩ : ∃ g, w2.heap.size = g := ⟨_, rfl⟩
            rw [hg] at HBX HGE ⊢
            clear hg hW2 HK HOW
            refine wp_region_held_drew (S := (fun W' => CObj W' g c (.slice ade c.effs.length cape) (.slice adt c.trgs.length capt))) (by kernel_rfl) HBX.out (fun hHeld => ?_)
            refine wpAnyH_take (i := 0) (v := .slice ado i capo) rfl (by kernel_rfl) (by kernel_rfl) (by kernel_rfl) (fun _ _ _ h => h) (Or.inl ⟨by rfl, ?_⟩) (by assumption) ?_
            · intro W2 hSw; skip; go_simp
            simp only [Act.put, List.getElem_toArray, List.getElem_cons_zero, List.getElem_cons_succ, List.setIfInBounds_toArray, List.set_cons_zero, List.set_cons_succ]
            refine wpAnyH_take (i := 1) (v := .agg #[.string (strOf c.name), .int .i64 c.kind, .int .i64 c.o0, .int .i64 c.o1, .int .i64 c.o2, .int .i64 c.o3, .int .i64 c.any, .int .i64 c.makes, .int .i64 c.power, .int .i64 c.tough, .int .i64 c.keys, .slice ade c.effs.length cape, .slice adt c.trgs.length capt, .int .i64 c.rarity]) rfl (by kernel_rfl) (by kernel_rfl) (by kernel_rfl) (fun _ _ _ h => h) (yieldsIf_load_mid (by rfl) 46 (.tmp 8) rfl g 0 rfl (crdCs c (.slice ade c.effs.length cape) (.slice adt c.trgs.length capt)) _ (fun W2 hSw => row_range hSw) Tryz.underlying46 rfl (by kernel_rfl)) (by assumption) ?_
            simp only [Act.put, List.getElem_toArray, List.getElem_cons_zero, List.getElem_cons_succ, List.setIfInBounds_toArray, List.set_cons_zero, List.set_cons_succ]
            refine wpAnyH_take (i := 4) (v := .slice adr mr capr) rfl (by kernel_rfl) (by kernel_rfl) (by kernel_rfl) (fun _ _ _ h => h) (Or.inl ⟨by rfl, ?_⟩) (by assumption) ?_
            · intro W2 hSw; skip; go_simp
            simp only [Act.put, List.getElem_toArray, List.getElem_cons_zero, List.getElem_cons_succ, List.setIfInBounds_toArray, List.set_cons_zero, List.set_cons_succ]
            refine wpAnyH_take (i := 5) (v := .int .i64 (k : Nat)) rfl (by kernel_rfl) (by kernel_rfl) (by kernel_rfl) (fun _ _ _ h => h) (Or.inl ⟨by rfl, ?_⟩) (by assumption) ?_
            · intro W2 hSw; skip; go_simp
            simp only [Act.put, List.getElem_toArray, List.getElem_cons_zero, List.getElem_cons_succ, List.setIfInBounds_toArray, List.set_cons_zero, List.set_cons_succ]
            refine wpAnyH_take (i := 6) (v := .slice ads (mr - k) caps) rfl (by kernel_rfl) (by kernel_rfl) (by kernel_rfl) (fun _ _ _ h => h) (Or.inl ⟨by rfl, ?_⟩) (by assumption) ?_
            · intro W2 hSw; skip; go_simp
            simp only [Act.put, List.getElem_toArray, List.getElem_cons_zero, List.getElem_cons_succ, List.setIfInBounds_toArray, List.set_cons_zero, List.set_cons_succ]
            refine wpAnyH_ready (rs := [2]) (by kernel_rfl) (by simp) ?_
            refine AllReadyH.cons rfl (fun K hK => ?_) AllReadyH.nil
            go_simp
            refine hK.out _ _ (obj_alloc HBX.out _) (fun _ => ?_)
            clear hK K
            try simp only [Act.put, List.getElem_toArray, List.getElem_cons_zero, List.getElem_cons_succ, List.setIfInBounds_toArray, List.set_cons_zero, List.set_cons_succ]
            refine wpAnyH_ready (rs := [3]) (by kernel_rfl) (by simp) ?_
            refine AllReadyH.cons rfl (fun K hK => ?_) AllReadyH.nil
            refine step_append_rdo (xv := .slice (some ⟨W2.heap.size, 0, none⟩) 1 1) rfl rfl rfl rfl eiC (owned_kept HROW.out ((HKW.out.drew).alloc (.cells #[.string (strOf c.name), .int .i64 c.kind, .int .i64 c.o0, .int .i64 c.o1, .int .i64 c.o2, .int .i64 c.o3, .int .i64 c.any, .int .i64 c.makes, .int .i64 c.power, .int .i64 c.tough, .int .i64 c.keys, .slice ade c.effs.length cape, .slice adt c.trgs.length capt, .int .i64 c.rarity] 46)) fun _ _ _ => not_no _) (rd_newC W2.drew c (.slice ade c.effs.length cape) (.slice adt c.trgs.length capt)) HALL.out HLB.out (by have h1 := HKW.out.size; have h2 := HS.out.kept.size; simp; omega) ?_
            intro v5 w5 hown5 hg5 _
            obtain ⟨ad5, cap5, rfl⟩ := owned_slice hown5
            have hkS : Kept (fun k => Value.ownBlock (.slice ado i capo) = some k) wr w5 := (HKW.out.drew.alloc (.cells #[.string (strOf c.name), .int .i64 c.kind, .int .i64 c.o0, .int .i64 c.o1, .int .i64 c.o2, .int .i64 c.o3, .int .i64 c.any, .int .i64 c.makes, .int .i64 c.power, .int .i64 c.tough, .int .i64 c.keys, .slice ade c.effs.length cape, .slice adt c.trgs.length capt, .int .i64 c.rarity] 46)).any.grown hg5 (fun k e _ => e)
            have hbx5 : CObj w5 g c (.slice ade c.effs.length cape) (.slice adt c.trgs.length capt) := (((Kept.refl No W2).drew.alloc (.cells #[.string (strOf c.name), .int .i64 c.kind, .int .i64 c.o0, .int .i64 c.o1, .int .i64 c.o2, .int .i64 c.o3, .int .i64 c.any, .int .i64 c.makes, .int .i64 c.power, .int .i64 c.tough, .int .i64 c.keys, .slice ade c.effs.length cape, .slice adt c.trgs.length capt, .int .i64 c.rarity] 46)).any.grown (S := fun k => Value.ownBlock (.slice ado i capo) = some k) hg5 (fun k e _ => e)).obj HBX.out (fun e => by have h1 := HBLT.out _ e; have h2 := HGE.out; omega)
            have HUP := Lib.hid (dc_up HS.out HI.out HC.out HROW.out HCC.out HLEN.out HKW.out HOWW.out hown5 hg5 HRSS.out HMR.out)
            refine hK.out _ _ hbx5 (fun _ => ?_)
            have HBX5 := Lib.hid hbx5
            clear hK K hown5 hg5 hkS hbx5
            try simp only [Act.put, List.getElem_toArray, List.getElem_cons_zero, List.getElem_cons_succ, List.setIfInBounds_toArray, List.set_cons_zero, List.set_cons_succ]
            have hHeld5 := HBX5.out
            refine wpAnyH_take (i := 7) (v := .slice ad5 (i + 1) cap5) rfl (by kernel_rfl) (by kernel_rfl) (by kernel_rfl) (fun _ _ _ h => h) (Or.inl ⟨by rfl, ?_⟩) (by assumption) ?_
            · intro W2 hSw; skip; go_simp
            simp only [Act.put, List.getElem_toArray, List.getElem_cons_zero, List.getElem_cons_succ, List.setIfInBounds_toArray, List.set_cons_zero, List.set_cons_succ]
            refine wpAnyH_take (i := 8) (v := .slice ads (mr - k) caps) rfl (by kernel_rfl) (by kernel_rfl) (by kernel_rfl) (fun _ _ _ h => h) (Or.inl ⟨by rfl, ?_⟩) (by assumption) ?_
            · intro W2 hSw; skip; go_simp
            simp only [Act.put, List.getElem_toArray, List.getElem_cons_zero, List.getElem_cons_succ, List.setIfInBounds_toArray, List.set_cons_zero, List.set_cons_succ]
            refine wpAnyH_done (by kernel_rfl) ?_ _
            go_wp2_with fail
            have hI := HI.out
            exact ⟨⟨i + 1, done ++ [c], rest.drop k, by go_num, by omega, HUP.out⟩, by simp [intOf]; omega⟩
        · have d1 : decide (i < cnt) = false := decide_eq_false hlt
          have hin : i = cnt := by omega
          have hs1 : DcS cnt r0 w m cnt done rest (.slice ado done.length capo) (.slice adr rest.length capr) wr := hin ▸ hs0
          have hR := HRS.out done rest hs1.end
          have HNEW := Lib.hid (pnew_any (l := done) (by rw [hs1.len]; have := H400.out; omega) (fun c hc => sm_of_valid (hs1.valid c hc)) hs1.row.at)
          obtain ⟨md, hmd⟩ : ∃ md, done.length = md := ⟨_, rfl⟩
          obtain ⟨mr, hmr⟩ : ∃ mr, rest.length = mr := ⟨_, rfl⟩
          have HMR := Lib.hid hmr
          rw [hmd] at HNEW ⊢
          rw [hmr] at ⊢
          have HRR := Lib.hid hR
          clear hs0 hrd hlt hi hin hs1 hR hmd hmr
          go_wp2_with fail
          refine HNEW.out.mono ?_
          rintro e w5 ⟨hk5, ⟨hw, p, rfl, hp⟩ | ⟨hw, rfl⟩⟩
          · obtain ⟨g, mm, vv, rfl, hpis⟩ := hp
            have HK5 := Lib.hid (HS.out.kept.and hk5)
            have HP5 := Lib.hid hpis
            have HW5 := Lib.hid hw
            clear hk5 hpis hw
            by_cases hz : mr = 0
            · subst hz
              have hR2 : pdecF b = (0, done) := by rw [HRR.out, if_pos ⟨HW5.out, List.length_eq_zero_iff.1 HMR.out⟩]
              have HR2 := Lib.hid hR2
              clear hR2
              go_wp2_with fail
              go_ret2
              refine ⟨HK5.out, .inl ⟨by rw [HR2.out], _, rfl, ?_⟩⟩
              rw [HR2.out]
              exact PoolAt.mono (B := fun b => wr.heap.size ≤ b) ⟨g, mm, vv, rfl, HP5.out⟩ (fun b _ hb => by have := HS.out.kept.size; omega)
            · have hR2 : pdecF b = (6, []) := by rw [HRR.out, if_neg (fun e => hz (by rw [← HMR.out, e.2]; rfl))]
              have HR2 := Lib.hid hR2
              have hz2 : (0 : Int) < (mr : Int) := by omega
              clear hR2
              go_wp2_with fail
              go_ret2
              exact ⟨HK5.out, .inr ⟨by rw [HR2.out]; decide, by rw [HR2.out]; rfl⟩⟩
          · have hR2 : pdecF b = (6, []) := by rw [HRR.out, if_neg (fun e => hw e.1)]
            have HR2 := Lib.hid hR2
            have HK5 := Lib.hid (HS.out.kept.and hk5)
            have dw : (wrongF done != 0) = true := by simpa using hw
            obtain ⟨er, her⟩ : ∃ er, wrongF done = er := ⟨_, rfl⟩
            rw [her] at dw ⊢
            clear hR2 hk5 hw her
            go_wp2_with fail
            go_ret2
            exact ⟨HK5.out, .inr ⟨by rw [HR2.out]; decide, by rw [HR2.out]; rfl⟩⟩
  · have d2 : ((s : Int) != (t : Int)) = true := by simp; omega
    have HR := Lib.hid (pdec_10 h6b (by rw [hm, ha, htl, hs, ht]; exact hst))
    clear h hm h6 hl hr1 hr2 hr3 hr4 hv2 hv3 ha htl hal htl4 e4 h2l hcl hcnt hs ht h6b hst HG2
    go_enter Tryz.func24, Tryz.ntmps24
    go_wp2_with fail
    refine wp_region_held_drew (S := (fun W' => W' = w.drew)) (by kernel_rfl) rfl (fun hHeld => ?_)
    refine wpAnyH_take (i := 0) (v := .slice ad m cap) rfl (by kernel_rfl) (by kernel_rfl) (by kernel_rfl) (fun _ _ _ h => h) (Or.inl ⟨by rfl, ?_⟩) (by assumption) ?_
    · intro W2 hSw; subst hSw; go_simp
    simp only [Act.put, List.getElem_toArray, List.getElem_cons_zero, List.getElem_cons_succ, List.setIfInBounds_toArray, List.set_cons_zero, List.set_cons_succ]
    refine wpAnyH_take (i := 1) (v := .slice ad m cap) rfl (by kernel_rfl) (by kernel_rfl) (by kernel_rfl) (fun _ _ _ h => h) (Or.inl ⟨by rfl, ?_⟩) (by assumption) ?_
    · intro W2 hSw; subst hSw; go_simp
    simp only [Act.put, List.getElem_toArray, List.getElem_cons_zero, List.getElem_cons_succ, List.setIfInBounds_toArray, List.set_cons_zero, List.set_cons_succ]
    refine wpAnyH_take (i := 2) (v := .int .i64 (m : Nat)) rfl (by kernel_rfl) (by kernel_rfl) (by kernel_rfl) (fun _ _ _ h => h) (Or.inl ⟨by rfl, ?_⟩) (by assumption) ?_
    · intro W2 hSw; subst hSw; go_simp
    simp only [Act.put, List.getElem_toArray, List.getElem_cons_zero, List.getElem_cons_succ, List.setIfInBounds_toArray, List.set_cons_zero, List.set_cons_succ]
    refine wpAnyH_take (i := 3) (v := .int .i64 ((m : Int) - 4)) rfl (by kernel_rfl) (by kernel_rfl) (by kernel_rfl) (fun _ _ _ h => h) (Or.inl ⟨by rfl, ?_⟩) (by assumption) ?_
    · intro W2 hSw; subst hSw; go_simp
    simp only [Act.put, List.getElem_toArray, List.getElem_cons_zero, List.getElem_cons_succ, List.setIfInBounds_toArray, List.set_cons_zero, List.set_cons_succ]
    refine wpAnyH_take (i := 4) (v := .slice ad1 (m - 4) cap1) rfl (by kernel_rfl) (by kernel_rfl) (by kernel_rfl) (fun _ _ _ h => h) (Or.inl ⟨by rfl, ?_⟩) (by assumption) ?_
    · intro W2 hSw; subst hSw; go_simp
    simp only [Act.put, List.getElem_toArray, List.getElem_cons_zero, List.getElem_cons_succ, List.setIfInBounds_toArray, List.set_cons_zero, List.set_cons_succ]
    refine wpAnyH_take (i := 5) (v := .slice ad m cap) rfl (by kernel_rfl) (by kernel_rfl) (by kernel_rfl) (fun _ _ _ h => h) (Or.inl ⟨by rfl, ?_⟩) (by assumption) ?_
    · intro W2 hSw; subst hSw; go_simp
    simp only [Act.put, List.getElem_toArray, List.getElem_cons_zero, List.getElem_cons_succ, List.setIfInBounds_toArray, List.set_cons_zero, List.set_cons_succ]
    refine wpAnyH_take (i := 6) (v := .slice ad m cap) rfl (by kernel_rfl) (by kernel_rfl) (by kernel_rfl) (fun _ _ _ h => h) (Or.inl ⟨by rfl, ?_⟩) (by assumption) ?_
    · intro W2 hSw; subst hSw; go_simp
    simp only [Act.put, List.getElem_toArray, List.getElem_cons_zero, List.getElem_cons_succ, List.setIfInBounds_toArray, List.set_cons_zero, List.set_cons_succ]
    refine wpAnyH_take (i := 7) (v := .int .i64 (m : Nat)) rfl (by kernel_rfl) (by kernel_rfl) (by kernel_rfl) (fun _ _ _ h => h) (Or.inl ⟨by rfl, ?_⟩) (by assumption) ?_
    · intro W2 hSw; subst hSw; go_simp
    simp only [Act.put, List.getElem_toArray, List.getElem_cons_zero, List.getElem_cons_succ, List.setIfInBounds_toArray, List.set_cons_zero, List.set_cons_succ]
    refine wpAnyH_take (i := 8) (v := .int .i64 ((m : Int) - 4)) rfl (by kernel_rfl) (by kernel_rfl) (by kernel_rfl) (fun _ _ _ h => h) (Or.inl ⟨by rfl, ?_⟩) (by assumption) ?_
    · intro W2 hSw; subst hSw; go_simp
    simp only [Act.put, List.getElem_toArray, List.getElem_cons_zero, List.getElem_cons_succ, List.setIfInBounds_toArray, List.set_cons_zero, List.set_cons_succ]
    refine wpAnyH_take (i := 9) (v := .slice ad4 4 cap4) rfl (by kernel_rfl) (by kernel_rfl) (by kernel_rfl) (fun _ _ _ h => h) (Or.inl ⟨by rfl, ?_⟩) (by assumption) ?_
    · intro W2 hSw; subst hSw; go_simp
    simp only [Act.put, List.getElem_toArray, List.getElem_cons_zero, List.getElem_cons_succ, List.setIfInBounds_toArray, List.set_cons_zero, List.set_cons_succ]
    refine wpAnyH_take (i := 10) (v := .slice ad1 (m - 4) cap1) rfl (by kernel_rfl) (by kernel_rfl) (by kernel_rfl) (fun _ _ _ h => h) (Or.inl ⟨by rfl, ?_⟩) (by assumption) ?_
    · intro W2 hSw; subst hSw; go_simp
    simp only [Act.put, List.getElem_toArray, List.getElem_cons_zero, List.getElem_cons_succ, List.setIfInBounds_toArray, List.set_cons_zero, List.set_cons_succ]
    refine wpAnyH_take (i := 11) (v := .slice ad4 4 cap4) rfl (by kernel_rfl) (by kernel_rfl) (by kernel_rfl) (fun _ _ _ h => h) (Or.inl ⟨by rfl, ?_⟩) (by assumption) ?_
    · intro W2 hSw; subst hSw; go_simp
    simp only [Act.put, List.getElem_toArray, List.getElem_cons_zero, List.getElem_cons_succ, List.setIfInBounds_toArray, List.set_cons_zero, List.set_cons_succ]
    refine wpAnyH_done (by kernel_rfl) ?_ _
    go_wp2_with fail
    refine (HSUM.out w.drew rfl).mono ?_
    rintro e w1 ⟨rfl, rfl⟩
    go_wp2_with fail
    refine (HGET.out w.drew rfl).mono ?_
    rintro e w1 ⟨rfl, rfl⟩
    go_wp2_with fail
    go_ret2
    exact ⟨(Kept.refl No w).drew, .inr ⟨by rw [HR.out]; decide, by rw [HR.out]; rfl⟩⟩
end Go.Proofs.YtclgoilfclmibaaGreatDoor
