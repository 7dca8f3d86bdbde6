/-
  Pool: the document's reading of effects.
-/
import Derived.Test.YtclgoilfclmibaaGreatDoorVc
import Derived.Test.YtclgoilfclmibaaGreatDoorRl
import Derived.Deep.Cut
import Derived.Deep.RegionHeld
import Derived.OrdersHeld
set_option linter.unusedVariables false
set_option linter.unusedSimpArgs false
namespace Go.Proofs.YtclgoilfclmibaaGreatDoor
open Go Go.RowKit Go.Zn
attribute [local go_sem] Oper.semAt_some

theorem effsOf_len : ∀ (n : Nat) (t : List UInt8), t.length = 5 * n → (effsOf t).length = n
  | 0, t, h => by obtain rfl : t = [] := List.eq_nil_of_length_eq_zero (by omega); rfl
  | n + 1, a :: b :: c :: d :: e :: r, h => by
    show (effsOf r).length + 1 = n + 1
    rw [effsOf_len n r (by simp only [List.length_cons] at h; omega)]
  | n + 1, [], h => by simp at h
  | n + 1, [_], h => by simp only [List.length_cons, List.length_nil] at h; omega
  | n + 1, [_, _], h => by simp only [List.length_cons, List.length_nil] at h; omega
  | n + 1, [_, _, _], h => by simp only [List.length_cons, List.length_nil] at h; omega
  | n + 1, [_, _, _, _], h => by simp only [List.length_cons, List.length_nil] at h; omega
theorem effsOf_get5 : ∀ (i : Nat) (t : List UInt8), 5 * i + 5 ≤ t.length → ∃ a b c d e, t[5 * i]? = some a ∧ t[5 * i + 1]? = some b ∧ t[5 * i + 2]? = some c ∧ t[5 * i + 3]? = some d ∧ t[5 * i + 4]? = some e ∧ (effsOf t)[i]? = some ⟨a.toNat, b.toNat, c.toNat, d.toNat, e.toNat⟩
  | 0, a :: b :: c :: d :: e :: r, h => ⟨a, b, c, d, e, rfl, rfl, rfl, rfl, rfl, rfl⟩
  | i + 1, a :: b :: c :: d :: e :: r, h => by
    obtain ⟨a', b', c', d', e', h0, h1, h2, h3, h4, h5⟩ := effsOf_get5 i r (by simp only [List.length_cons] at h; omega)
    refine ⟨a', b', c', d', e', ?_, ?_, ?_, ?_, ?_, ?_⟩
    · rw [show 5 * (i + 1) = 5 * i + 5 by omega]; exact h0
    · rw [show 5 * (i + 1) + 1 = 5 * i + 1 + 5 by omega]; exact h1
    · rw [show 5 * (i + 1) + 2 = 5 * i + 2 + 5 by omega]; exact h2
    · rw [show 5 * (i + 1) + 3 = 5 * i + 3 + 5 by omega]; exact h3
    · rw [show 5 * (i + 1) + 4 = 5 * i + 4 + 5 by omega]; exact h4
    · exact h5
  | i, [], h => by simp at h
  | i, [_], h => by simp only [List.length_cons, List.length_nil] at h; omega
  | i, [_, _], h => by simp only [List.length_cons, List.length_nil] at h; omega
  | i, [_, _, _], h => by simp only [List.length_cons, List.length_nil] at h; omega
  | i, [_, _, _, _], h => by simp only [List.length_cons, List.length_nil] at h; omega
theorem rd_newEf (w : World) (e : Eff) {k : Nat} (hk : k = w.heap.size) : Rd (w.alloc (.cells #[.int .i64 e.code, .int .i64 e.target, .int .i64 e.n, .int .i64 e.m, .int .i64 e.col] 50)) (fun i => i = k) 5 (.slice (some ⟨k, 0, none⟩) 1 1) 1 (effCs e) := by
  subst hk
  exact ⟨rfl, by simp [maxLen], .inr ⟨_, 0, 1, rfl, Nat.le_refl _, fun _ => rfl, fun j u hj => by
    rw [Nat.zero_add, obj_cell (heap_alloc_new w _)]
    match j, hj with
    | 0, hj => exact hj
    | 1, hj => exact hj
    | 2, hj => exact hj
    | 3, hj => exact hj
    | 4, hj => exact hj⟩⟩
def EdPost (b : List UInt8) (w : World) (e : Ending) (w' : World) : Prop := Kept No w w' ∧
  ((∃ l k v, edec b = some (l, k) ∧ e = .returned (.tuple #[v, .int .i64 (k : Nat), .int .i64 0]) ∧ OwnE w' w.heap.size v l) ∨ (edec b = none ∧ ∃ z : Int, z ≠ 0 ∧ e = .returned (.tuple #[.slice none 0 0, .int .i64 0, .int .i64 z])))
def EdRel (L : List Eff) (w : World) (n : Nat) (ov iv : Value) (wr : World) : Prop := ∃ i : Nat, iv = .int .i64 (i : Nat) ∧ i ≤ n ∧ (L.take i).all evalid = true ∧ wr.ownsRow w.heap.size 50 5 ov i (effsCs (L.take i)) ∧ Kept No w wr
set_option maxRecDepth 100000 in
set_option maxHeartbeats 16000000 in
theorem redec_any {b : List UInt8} (hl : b.length ≤ 1000000) {w : World} {B : Nat → Prop} {v : Value} (hv : Rd w B 1 v b.length (bts b)) : Calls Tryz.prog 63 #[v] w (EdPost b w) := by
  obtain ⟨ad, cap, rfl⟩ := rd_slice hv
  have HV := Lib.hid hv
  by_cases h0 : b.length = 0
  · obtain rfl : b = [] := List.eq_nil_of_length_eq_zero h0
    clear hv
    go_enter Tryz.func63, Tryz.ntmps63
    go_wp2_with fail
    go_ret3
    exact ⟨Kept.refl No w, .inr ⟨rfl, 4, by decide, rfl⟩⟩
  obtain ⟨x, r, hb⟩ : ∃ x r, b = x :: r := by cases b with
    | nil => exact absurd rfl h0
    | cons x r => exact ⟨x, r, rfl⟩
  obtain ⟨m, hm⟩ : ∃ m, b.length = m := ⟨_, rfl⟩
  have HM := Lib.hid hm
  have hrl : r.length + 1 = m := by rw [← hm, hb]; rfl
  have HRL := Lib.hid hrl
  rw [hm] at HV hl hv ⊢
  have c0 : ∃ b0 off, ad = some ⟨b0, off, none⟩ ∧ w.cell? ⟨b0, off, none⟩ = some (.int .u8 x.toNat) := by
    obtain ⟨_, _, ⟨_, hz⟩ | ⟨b0, off, c1, he, _, _, hc⟩⟩ := hv
    · omega
    · cases he
      exact ⟨b0, off, rfl, hc 0 _ (by rw [bts_get, hb]; rfl)⟩
  obtain ⟨b0, off, rfl, c0⟩ := c0
  have hxl := x.toNat_lt
  obtain ⟨n, hn⟩ : ∃ n, x.toNat = n := ⟨_, rfl⟩
  rw [hn] at c0 hxl
  have hm0 : ¬ m = 0 := by omega
  have hm1 : (0 : Int) < (m : Int) := by omega
  have e0 : ((m : Int) == 0) = false := by simp; omega
  have HBX := Lib.hid hb
  have hN : edec b = (if 4 < n then none else if r.length < 5 * n then none else if allE (effsOf (r.take (5 * n))) then some (effsOf (r.take (5 * n)), 1 + 5 * n) else none) := by
    rw [hb]; show (if 4 < x.toNat then none else if r.length < 5 * x.toNat then none else _) = _; rw [hn]
  have HE := Lib.hid hN
  clear hv hN h0 hb hm hn
  by_cases h4 : 4 < n
  · have hn4 : 4 < (n : Int) := by omega
    have HR := Lib.hid (show edec b = none by rw [HE.out, if_pos h4])
    go_enter Tryz.func63, Tryz.ntmps63
    go_wp2_with fail
    go_ret3
    exact ⟨Kept.refl No w, .inr ⟨HR.out, 6, by decide, rfl⟩⟩
  have hn4 : ¬ (4 < (n : Int)) := by omega
  by_cases h5 : m < 1 + 5 * n
  · have hm5 : (m : Int) < 1 + 5 * (n : Int) := by omega
    have HR := Lib.hid (show edec b = none by rw [HE.out, if_neg h4, if_pos (by omega)])
    have q1 : IntKind.i64.wrap (5 * (n : Int)) = 5 * (n : Int) := IntWalk.i64_in _ (by omega)
    have q2 : IntKind.i64.wrap (1 + 5 * (n : Int)) = 1 + 5 * (n : Int) := IntWalk.i64_in _ (by omega)
    go_enter Tryz.func63, Tryz.ntmps63
    go_wp2_with fail
    go_ret3
    exact ⟨Kept.refl No w, .inr ⟨HR.out, 4, by decide, rfl⟩⟩
  have hm5 : ¬ ((m : Int) < 1 + 5 * (n : Int)) := by omega
  have q1 : IntKind.i64.wrap (5 * (n : Int)) = 5 * (n : Int) := IntWalk.i64_in _ (by omega)
  have q2 : IntKind.i64.wrap (1 + 5 * (n : Int)) = 1 + 5 * (n : Int) := IntWalk.i64_in _ (by omega)
  obtain ⟨L, hL⟩ : ∃ L, effsOf (r.take (5 * n)) = L := ⟨_, rfl⟩
  have hLl : L.length = n := by rw [← hL]; exact effsOf_len n _ (by rw [List.length_take]; omega)
  have HE2 := Lib.hid (show edec b = (if allE L then some (L, 1 + 5 * n) else none) by rw [HE.out, if_neg h4, if_neg (by omega), hL])
  have HLL := Lib.hid hLl
  have HAT := Lib.hid (fun (i : Nat) (hi : i < n) => hL ▸ effsOf_get5 i (r.take (5 * n)) (by rw [List.length_take]; omega))
  have H45 := Lib.hid (show n ≤ 4 ∧ 1 + 5 * n ≤ m by omega)
  clear h4 h5 hL hLl hrl
  go_enter Tryz.func63, Tryz.ntmps63
  go_wp2_with fail
  clear c0
  go_loopw [6, 7] (fun ov iv wr => EdRel L w n ov iv wr) (fun _ iv _ => n - (intOf iv).toNat)
  case atStart => exact ⟨0, rfl, Nat.zero_le _, rfl, ⟨rfl, .inl ⟨rfl, rfl⟩⟩, Kept.refl No w⟩
  case round =>
    obtain ⟨i, rfl, hi, hf, ho, hk⟩ := hrel
    have HO := Lib.hid ho
    have HF := Lib.hid hf
    have HK := Lib.hid hk
    by_cases hlt : i < n
    · have hn45 := H45.out
      obtain ⟨a0, a1, a2, a3, a4, g0, g1, g2, g3, g4, hLi⟩ := HAT.out i hlt
      obtain ⟨vx, hvx, hrx⟩ := slice_from (rd_no HV.out hk) (n := 1 + 5 * i) (by omega)
      have e5 : ((1 + 5 * i : Nat) : Int) = 1 + 5 * (i : Int) := by omega
      rw [e5] at hvx
      have hcell : ∃ bb oo cc q, vx = .slice (some ⟨bb, oo, none⟩) q cc ∧ 5 ≤ q ∧ q ≤ cc ∧ bb < w.heap.size ∧ wr.cell? ⟨bb, oo, none⟩ = some (.int .u8 a0.toNat) ∧ wr.cell? ⟨bb, oo + 1, none⟩ = some (.int .u8 a1.toNat) ∧ wr.cell? ⟨bb, oo + 2, none⟩ = some (.int .u8 a2.toNat) ∧ wr.cell? ⟨bb, oo + 3, none⟩ = some (.int .u8 a3.toNat) ∧ wr.cell? ⟨bb, oo + 4, none⟩ = some (.int .u8 a4.toNat) := by
        obtain ⟨vx', hvx', hrx'⟩ := slice_from HV.out (n := 1 + 5 * i) (by omega)
        obtain ⟨_, _, ⟨_, hz⟩ | ⟨bb, oo, cc, he, hq, _, hc⟩⟩ := hrx
        · omega
        · obtain ⟨_, _, ⟨_, hz⟩ | ⟨bb', oo', cc', he', _, _, hc'⟩⟩ := hrx'
          · omega
          have hsame : vx = vx' := by
            have h1 := hvx w
            rw [← e5] at h1
            rw [hvx' w] at h1
            injection h1 with h1
            exact h1.symm
          have gb : ∀ (j : Nat) (a : UInt8), (r.take (5 * n))[5 * i + j]? = some a → j < 5 → (b.drop (1 + 5 * i))[j]? = some a := fun j a hj hj5 => by
            rw [List.getElem?_drop, HBX.out, show 1 + 5 * i + j = 5 * i + j + 1 by omega]
            show r[5 * i + j]? = some a
            rw [List.getElem?_take] at hj
            split at hj
            · exact hj
            · cases hj
          have hcc : ∀ (j : Nat) (a : UInt8), (r.take (5 * n))[5 * i + j]? = some a → j < 5 → wr.cell? ⟨bb, oo + j, none⟩ = some (.int .u8 a.toNat) := fun j a hj hj5 => hc j _ (by rw [bts_get, gb j a hj hj5]; rfl)
          have hbb : bb < w.heap.size := by
            rw [he, he'] at hsame
            injection hsame with h1
            injection h1 with h1
            injection h1 with h1 h2
            have := block_lt_of_cell (hc' 0 _ (by rw [bts_get, gb 0 a0 g0 (by decide)]; rfl))
            rw [h1]; exact this
          exact ⟨bb, oo, cc, _, he, by omega, hq, hbb, hcc 0 a0 g0 (by decide), hcc 1 a1 g1 (by decide), hcc 2 a2 g2 (by decide), hcc 3 a3 g3 (by decide), hcc 4 a4 g4 (by decide)⟩
      obtain ⟨bb, oo, cc, q, rfl, hq5, hqc, hbb, k0, k1, k2, k3, k4⟩ := hcell
      have HT := Lib.hid (show L.take (i + 1) = L.take i ++ [⟨a0.toNat, a1.toNat, a2.toNat, a3.toNat, a4.toNat⟩] by rw [List.take_add_one, hLi]; rfl)
      have HMEM := Lib.hid (List.mem_of_getElem? hLi)
      obtain ⟨y0, h0⟩ : ∃ y, a0.toNat = y := ⟨_, rfl⟩
      obtain ⟨y1, h1⟩ : ∃ y, a1.toNat = y := ⟨_, rfl⟩
      obtain ⟨y2, h2⟩ : ∃ y, a2.toNat = y := ⟨_, rfl⟩
      obtain ⟨y3, h3⟩ : ∃ y, a3.toNat = y := ⟨_, rfl⟩
      obtain ⟨y4, h4⟩ : ∃ y, a4.toNat = y := ⟨_, rfl⟩
      have l0 := a0.toNat_lt
      have l1 := a1.toNat_lt
      have l2 := a2.toNat_lt
      have l3 := a3.toNat_lt
      have l4 := a4.toNat_lt
      rw [h0] at k0 l0
      rw [h1] at k1 l1
      rw [h2] at k2 l2
      rw [h3] at k3 l3
      rw [h4] at k4 l4
      rw [h0, h1, h2, h3, h4] at HT HMEM
      have HC := Lib.hid (show wr.cell? ⟨bb, oo, none⟩ = some (.int .u8 y0) ∧ wr.cell? ⟨bb, oo + 1, none⟩ = some (.int .u8 y1) ∧ wr.cell? ⟨bb, oo + 2, none⟩ = some (.int .u8 y2) ∧ wr.cell? ⟨bb, oo + 3, none⟩ = some (.int .u8 y3) ∧ wr.cell? ⟨bb, oo + 4, none⟩ = some (.int .u8 y4) from ⟨k0, k1, k2, k3, k4⟩)
      have HVA := Lib.hid (fun W => revalid_any y0 y1 y2 y3 y4 W)
      obtain ⟨ev, hev⟩ : ∃ ev, evalid ⟨y0, y1, y2, y3, y4⟩ = ev := ⟨_, rfl⟩
      rw [hev] at HVA
      have HEV := Lib.hid hev
      have d1 : decide (i < n) = true := decide_eq_true hlt
      have hi0 : (0 : Int) ≤ (i : Int) := by omega
      have hin : (i : Int) < (n : Int) := by omega
      have q4 : IntKind.i64.wrap ((i : Int) + 1) = (i : Int) + 1 := IntWalk.i64_in _ (by omega)
      have q5 : IntKind.i64.wrap (5 * (i : Int)) = 5 * (i : Int) := IntWalk.i64_in _ (by omega)
      have q6 : IntKind.i64.wrap (1 + 5 * (i : Int)) = 1 + 5 * (i : Int) := IntWalk.i64_in _ (by omega)
      have HI := Lib.hid hlt
      have HSZ := Lib.hid hk.size
      have z0 : ¬ q = 0 := by omega
      have z1 : (0 : Int) < (q : Int) := by omega
      have z2 : (1 : Int) < (q : Int) := by omega
      have z3 : (2 : Int) < (q : Int) := by omega
      have z4 : (3 : Int) < (q : Int) := by omega
      have z5 : (4 : Int) < (q : Int) := by omega
      have z6 : 1 < q := by omega
      have z7 : 2 < q := by omega
      have z8 : 3 < q := by omega
      have z9 : 4 < q := by omega
      have HQ := Lib.hid hqc
      have x0 : IntKind.i64.wrap (y0 : Int) = (y0 : Int) := IntWalk.i64_in _ (by omega)
      have x1 : IntKind.i64.wrap (y1 : Int) = (y1 : Int) := IntWalk.i64_in _ (by omega)
      have x2 : IntKind.i64.wrap (y2 : Int) = (y2 : Int) := IntWalk.i64_in _ (by omega)
      have x3 : IntKind.i64.wrap (y3 : Int) = (y3 : Int) := IntWalk.i64_in _ (by omega)
      have x4 : IntKind.i64.wrap (y4 : Int) = (y4 : Int) := IntWalk.i64_in _ (by omega)
      clear hk hf ho hlt g0 g1 g2 g3 g4 hLi hrx h0 h1 h2 h3 h4 hev k0 k1 k2 k3 k4 hq5 hbb hn45
      go_upto_region 13 with fail
      refine wp_region_held_drew (S := (fun W2 => Kept No wr W2)) (by kernel_rfl) (Kept.refl No wr).drew (fun hHeld => ?_)
      refine wpAnyH_take (i := 0) (v := .slice (some ⟨bb, oo, none⟩) q cc) rfl (by kernel_rfl) (by kernel_rfl) (by kernel_rfl) (fun _ _ _ h => h) (Or.inl ⟨by rfl, ?_⟩) (by assumption) ?_
      · intro W2 hSw; have k0 := hSw.cell HC.out.1 (not_no _); have k1 := hSw.cell HC.out.2.1 (not_no _); have k2 := hSw.cell HC.out.2.2.1 (not_no _); have k3 := hSw.cell HC.out.2.2.2.1 (not_no _); have k4 := hSw.cell HC.out.2.2.2.2 (not_no _); go_simp
      simp only [Act.put, List.getElem_toArray, List.getElem_cons_zero, List.getElem_cons_succ, List.setIfInBounds_toArray, List.set_cons_zero, List.set_cons_succ]
      refine wpAnyH_take (i := 1) (v := .pointer (some ⟨bb, oo, none⟩)) rfl (by kernel_rfl) (by kernel_rfl) (by kernel_rfl) (fun _ _ _ h => h) (Or.inl ⟨by rfl, ?_⟩) (by assumption) ?_
      · intro W2 hSw; have k0 := hSw.cell HC.out.1 (not_no _); have k1 := hSw.cell HC.out.2.1 (not_no _); have k2 := hSw.cell HC.out.2.2.1 (not_no _); have k3 := hSw.cell HC.out.2.2.2.1 (not_no _); have k4 := hSw.cell HC.out.2.2.2.2 (not_no _); go_simp
      simp only [Act.put, List.getElem_toArray, List.getElem_cons_zero, List.getElem_cons_succ, List.setIfInBounds_toArray, List.set_cons_zero, List.set_cons_succ]
      refine wpAnyH_take (i := 2) (v := .int .u8 y0) rfl (by kernel_rfl) (by kernel_rfl) (by kernel_rfl) (fun _ _ _ h => h) (Or.inl ⟨by rfl, ?_⟩) (by assumption) ?_
      · intro W2 hSw; have k0 := hSw.cell HC.out.1 (not_no _); have k1 := hSw.cell HC.out.2.1 (not_no _); have k2 := hSw.cell HC.out.2.2.1 (not_no _); have k3 := hSw.cell HC.out.2.2.2.1 (not_no _); have k4 := hSw.cell HC.out.2.2.2.2 (not_no _); go_simp
      simp only [Act.put, List.getElem_toArray, List.getElem_cons_zero, List.getElem_cons_succ, List.setIfInBounds_toArray, List.set_cons_zero, List.set_cons_succ]
      refine wpAnyH_take (i := 3) (v := .int .i64 y0) rfl (by kernel_rfl) (by kernel_rfl) (by kernel_rfl) (fun _ _ _ h => h) (Or.inl ⟨by rfl, ?_⟩) (by assumption) ?_
      · intro W2 hSw; have k0 := hSw.cell HC.out.1 (not_no _); have k1 := hSw.cell HC.out.2.1 (not_no _); have k2 := hSw.cell HC.out.2.2.1 (not_no _); have k3 := hSw.cell HC.out.2.2.2.1 (not_no _); have k4 := hSw.cell HC.out.2.2.2.2 (not_no _); go_simp
      simp only [Act.put, List.getElem_toArray, List.getElem_cons_zero, List.getElem_cons_succ, List.setIfInBounds_toArray, List.set_cons_zero, List.set_cons_succ]
      refine wpAnyH_take (i := 4) (v := .slice (some ⟨bb, oo, none⟩) q cc) rfl (by kernel_rfl) (by kernel_rfl) (by kernel_rfl) (fun _ _ _ h => h) (Or.inl ⟨by rfl, ?_⟩) (by assumption) ?_
      · intro W2 hSw; have k0 := hSw.cell HC.out.1 (not_no _); have k1 := hSw.cell HC.out.2.1 (not_no _); have k2 := hSw.cell HC.out.2.2.1 (not_no _); have k3 := hSw.cell HC.out.2.2.2.1 (not_no _); have k4 := hSw.cell HC.out.2.2.2.2 (not_no _); go_simp
      simp only [Act.put, List.getElem_toArray, List.getElem_cons_zero, List.getElem_cons_succ, List.setIfInBounds_toArray, List.set_cons_zero, List.set_cons_succ]
      refine wpAnyH_take (i := 5) (v := .pointer (some ⟨bb, oo + 1, none⟩)) rfl (by kernel_rfl) (by kernel_rfl) (by kernel_rfl) (fun _ _ _ h => h) (Or.inl ⟨by rfl, ?_⟩) (by assumption) ?_
      · intro W2 hSw; have k0 := hSw.cell HC.out.1 (not_no _); have k1 := hSw.cell HC.out.2.1 (not_no _); have k2 := hSw.cell HC.out.2.2.1 (not_no _); have k3 := hSw.cell HC.out.2.2.2.1 (not_no _); have k4 := hSw.cell HC.out.2.2.2.2 (not_no _); go_simp
      simp only [Act.put, List.getElem_toArray, List.getElem_cons_zero, List.getElem_cons_succ, List.setIfInBounds_toArray, List.set_cons_zero, List.set_cons_succ]
      refine wpAnyH_take (i := 6) (v := .int .u8 y1) rfl (by kernel_rfl) (by kernel_rfl) (by kernel_rfl) (fun _ _ _ h => h) (Or.inl ⟨by rfl, ?_⟩) (by assumption) ?_
      · intro W2 hSw; have k0 := hSw.cell HC.out.1 (not_no _); have k1 := hSw.cell HC.out.2.1 (not_no _); have k2 := hSw.cell HC.out.2.2.1 (not_no _); have k3 := hSw.cell HC.out.2.2.2.1 (not_no _); have k4 := hSw.cell HC.out.2.2.2.2 (not_no _); go_simp
      simp only [Act.put, List.getElem_toArray, List.getElem_cons_zero, List.getElem_cons_succ, List.setIfInBounds_toArray, List.set_cons_zero, List.set_cons_succ]
      refine wpAnyH_take (i := 7) (v := .int .i64 y1) rfl (by kernel_rfl) (by kernel_rfl) (by kernel_rfl) (fun _ _ _ h => h) (Or.inl ⟨by rfl, ?_⟩) (by assumption) ?_
      · intro W2 hSw; have k0 := hSw.cell HC.out.1 (not_no _); have k1 := hSw.cell HC.out.2.1 (not_no _); have k2 := hSw.cell HC.out.2.2.1 (not_no _); have k3 := hSw.cell HC.out.2.2.2.1 (not_no _); have k4 := hSw.cell HC.out.2.2.2.2 (not_no _); go_simp
      simp only [Act.put, List.getElem_toArray, List.getElem_cons_zero, List.getElem_cons_succ, List.setIfInBounds_toArray, List.set_cons_zero, List.set_cons_succ]
      refine wpAnyH_take (i := 8) (v := .slice (some ⟨bb, oo, none⟩) q cc) rfl (by kernel_rfl) (by kernel_rfl) (by kernel_rfl) (fun _ _ _ h => h) (Or.inl ⟨by rfl, ?_⟩) (by assumption) ?_
      · intro W2 hSw; have k0 := hSw.cell HC.out.1 (not_no _); have k1 := hSw.cell HC.out.2.1 (not_no _); have k2 := hSw.cell HC.out.2.2.1 (not_no _); have k3 := hSw.cell HC.out.2.2.2.1 (not_no _); have k4 := hSw.cell HC.out.2.2.2.2 (not_no _); go_simp
      simp only [Act.put, List.getElem_toArray, List.getElem_cons_zero, List.getElem_cons_succ, List.setIfInBounds_toArray, List.set_cons_zero, List.set_cons_succ]
      refine wpAnyH_take (i := 9) (v := .pointer (some ⟨bb, oo + 2, none⟩)) rfl (by kernel_rfl) (by kernel_rfl) (by kernel_rfl) (fun _ _ _ h => h) (Or.inl ⟨by rfl, ?_⟩) (by assumption) ?_
      · intro W2 hSw; have k0 := hSw.cell HC.out.1 (not_no _); have k1 := hSw.cell HC.out.2.1 (not_no _); have k2 := hSw.cell HC.out.2.2.1 (not_no _); have k3 := hSw.cell HC.out.2.2.2.1 (not_no _); have k4 := hSw.cell HC.out.2.2.2.2 (not_no _); go_simp
      simp only [Act.put, List.getElem_toArray, List.getElem_cons_zero, List.getElem_cons_succ, List.setIfInBounds_toArray, List.set_cons_zero, List.set_cons_succ]
      refine wpAnyH_take (i := 10) (v := .int .u8 y2) rfl (by kernel_rfl) (by kernel_rfl) (by kernel_rfl) (fun _ _ _ h => h) (Or.inl ⟨by rfl, ?_⟩) (by assumption) ?_
      · intro W2 hSw; have k0 := hSw.cell HC.out.1 (not_no _); have k1 := hSw.cell HC.out.2.1 (not_no _); have k2 := hSw.cell HC.out.2.2.1 (not_no _); have k3 := hSw.cell HC.out.2.2.2.1 (not_no _); have k4 := hSw.cell HC.out.2.2.2.2 (not_no _); go_simp
      simp only [Act.put, List.getElem_toArray, List.getElem_cons_zero, List.getElem_cons_succ, List.setIfInBounds_toArray, List.set_cons_zero, List.set_cons_succ]
      refine wpAnyH_take (i := 11) (v := .int .i64 y2) rfl (by kernel_rfl) (by kernel_rfl) (by kernel_rfl) (fun _ _ _ h => h) (Or.inl ⟨by rfl, ?_⟩) (by assumption) ?_
      · intro W2 hSw; have k0 := hSw.cell HC.out.1 (not_no _); have k1 := hSw.cell HC.out.2.1 (not_no _); have k2 := hSw.cell HC.out.2.2.1 (not_no _); have k3 := hSw.cell HC.out.2.2.2.1 (not_no _); have k4 := hSw.cell HC.out.2.2.2.2 (not_no _); go_simp
      simp only [Act.put, List.getElem_toArray, List.getElem_cons_zero, List.getElem_cons_succ, List.setIfInBounds_toArray, List.set_cons_zero, List.set_cons_succ]
      refine wpAnyH_take (i := 12) (v := .slice (some ⟨bb, oo, none⟩) q cc) rfl (by kernel_rfl) (by kernel_rfl) (by kernel_rfl) (fun _ _ _ h => h) (Or.inl ⟨by rfl, ?_⟩) (by assumption) ?_
      · intro W2 hSw; have k0 := hSw.cell HC.out.1 (not_no _); have k1 := hSw.cell HC.out.2.1 (not_no _); have k2 := hSw.cell HC.out.2.2.1 (not_no _); have k3 := hSw.cell HC.out.2.2.2.1 (not_no _); have k4 := hSw.cell HC.out.2.2.2.2 (not_no _); go_simp
      simp only [Act.put, List.getElem_toArray, List.getElem_cons_zero, List.getElem_cons_succ, List.setIfInBounds_toArray, List.set_cons_zero, List.set_cons_succ]
      refine wpAnyH_take (i := 13) (v := .pointer (some ⟨bb, oo + 3, none⟩)) rfl (by kernel_rfl) (by kernel_rfl) (by kernel_rfl) (fun _ _ _ h => h) (Or.inl ⟨by rfl, ?_⟩) (by assumption) ?_
      · intro W2 hSw; have k0 := hSw.cell HC.out.1 (not_no _); have k1 := hSw.cell HC.out.2.1 (not_no _); have k2 := hSw.cell HC.out.2.2.1 (not_no _); have k3 := hSw.cell HC.out.2.2.2.1 (not_no _); have k4 := hSw.cell HC.out.2.2.2.2 (not_no _); go_simp
      simp only [Act.put, List.getElem_toArray, List.getElem_cons_zero, List.getElem_cons_succ, List.setIfInBounds_toArray, List.set_cons_zero, List.set_cons_succ]
      refine wpAnyH_take (i := 14) (v := .int .u8 y3) rfl (by kernel_rfl) (by kernel_rfl) (by kernel_rfl) (fun _ _ _ h => h) (Or.inl ⟨by rfl, ?_⟩) (by assumption) ?_
      · intro W2 hSw; have k0 := hSw.cell HC.out.1 (not_no _); have k1 := hSw.cell HC.out.2.1 (not_no _); have k2 := hSw.cell HC.out.2.2.1 (not_no _); have k3 := hSw.cell HC.out.2.2.2.1 (not_no _); have k4 := hSw.cell HC.out.2.2.2.2 (not_no _); go_simp
      simp only [Act.put, List.getElem_toArray, List.getElem_cons_zero, List.getElem_cons_succ, List.setIfInBounds_toArray, List.set_cons_zero, List.set_cons_succ]
      refine wpAnyH_take (i := 15) (v := .int .i64 y3) rfl (by kernel_rfl) (by kernel_rfl) (by kernel_rfl) (fun _ _ _ h => h) (Or.inl ⟨by rfl, ?_⟩) (by assumption) ?_
      · intro W2 hSw; have k0 := hSw.cell HC.out.1 (not_no _); have k1 := hSw.cell HC.out.2.1 (not_no _); have k2 := hSw.cell HC.out.2.2.1 (not_no _); have k3 := hSw.cell HC.out.2.2.2.1 (not_no _); have k4 := hSw.cell HC.out.2.2.2.2 (not_no _); go_simp
      simp only [Act.put, List.getElem_toArray, List.getElem_cons_zero, List.getElem_cons_succ, List.setIfInBounds_toArray, List.set_cons_zero, List.set_cons_succ]
      refine wpAnyH_take (i := 16) (v := .slice (some ⟨bb, oo, none⟩) q cc) rfl (by kernel_rfl) (by kernel_rfl) (by kernel_rfl) (fun _ _ _ h => h) (Or.inl ⟨by rfl, ?_⟩) (by assumption) ?_
      · intro W2 hSw; have k0 := hSw.cell HC.out.1 (not_no _); have k1 := hSw.cell HC.out.2.1 (not_no _); have k2 := hSw.cell HC.out.2.2.1 (not_no _); have k3 := hSw.cell HC.out.2.2.2.1 (not_no _); have k4 := hSw.cell HC.out.2.2.2.2 (not_no _); go_simp
      simp only [Act.put, List.getElem_toArray, List.getElem_cons_zero, List.getElem_cons_succ, List.setIfInBounds_toArray, List.set_cons_zero, List.set_cons_succ]
      refine wpAnyH_take (i := 17) (v := .pointer (some ⟨bb, oo + 4, none⟩)) rfl (by kernel_rfl) (by kernel_rfl) (by kernel_rfl) (fun _ _ _ h => h) (Or.inl ⟨by rfl, ?_⟩) (by assumption) ?_
      · intro W2 hSw; have k0 := hSw.cell HC.out.1 (not_no _); have k1 := hSw.cell HC.out.2.1 (not_no _); have k2 := hSw.cell HC.out.2.2.1 (not_no _); have k3 := hSw.cell HC.out.2.2.2.1 (not_no _); have k4 := hSw.cell HC.out.2.2.2.2 (not_no _); go_simp
      simp only [Act.put, List.getElem_toArray, List.getElem_cons_zero, List.getElem_cons_succ, List.setIfInBounds_toArray, List.set_cons_zero, List.set_cons_succ]
      refine wpAnyH_take (i := 18) (v := .int .u8 y4) rfl (by kernel_rfl) (by kernel_rfl) (by kernel_rfl) (fun _ _ _ h => h) (Or.inl ⟨by rfl, ?_⟩) (by assumption) ?_
      · intro W2 hSw; have k0 := hSw.cell HC.out.1 (not_no _); have k1 := hSw.cell HC.out.2.1 (not_no _); have k2 := hSw.cell HC.out.2.2.1 (not_no _); have k3 := hSw.cell HC.out.2.2.2.1 (not_no _); have k4 := hSw.cell HC.out.2.2.2.2 (not_no _); go_simp
      simp only [Act.put, List.getElem_toArray, List.getElem_cons_zero, List.getElem_cons_succ, List.setIfInBounds_toArray, List.set_cons_zero, List.set_cons_succ]
      refine wpAnyH_take (i := 19) (v := .int .i64 y4) rfl (by kernel_rfl) (by kernel_rfl) (by kernel_rfl) (fun _ _ _ h => h) (Or.inl ⟨by rfl, ?_⟩) (by assumption) ?_
      · intro W2 hSw; have k0 := hSw.cell HC.out.1 (not_no _); have k1 := hSw.cell HC.out.2.1 (not_no _); have k2 := hSw.cell HC.out.2.2.1 (not_no _); have k3 := hSw.cell HC.out.2.2.2.1 (not_no _); have k4 := hSw.cell HC.out.2.2.2.2 (not_no _); go_simp
      simp only [Act.put, List.getElem_toArray, List.getElem_cons_zero, List.getElem_cons_succ, List.setIfInBounds_toArray, List.set_cons_zero, List.set_cons_succ]
      refine wpAnyH_take (i := 20) (v := .agg #[.int .i64 y0, .int .i64 y1, .int .i64 y2, .int .i64 y3, .int .i64 y4]) rfl (by kernel_rfl) (by kernel_rfl) (by kernel_rfl) (fun _ _ _ h => h) (Or.inl ⟨by rfl, ?_⟩) (by assumption) ?_
      · intro W2 hSw; skip; go_simp
      simp only [Act.put, List.getElem_toArray, List.getElem_cons_zero, List.getElem_cons_succ, List.setIfInBounds_toArray, List.set_cons_zero, List.set_cons_succ]
      refine wpAnyH_ready (rs := [21]) (by kernel_rfl) (by simp) ?_
      refine AllReadyH.cons rfl (fun K hK => ?_) AllReadyH.nil
      go_simp
      refine hK.out _ _ ((Kept.refl No wr).drew.alloc _) (fun _ => ?_)
      clear hK K
      try simp only [Act.put, List.getElem_toArray, List.getElem_cons_zero, List.getElem_cons_succ, List.setIfInBounds_toArray, List.set_cons_zero, List.set_cons_succ]
      obtain ⟨w5, hw5⟩ : ∃ w5, (wr.alloc (.cells #[.int .i64 0, .int .i64 0, .int .i64 0, .int .i64 0, .int .i64 0] 50)).drew = w5 := ⟨_, rfl⟩
      have HZ5 := Lib.hid (show w5.heap[wr.heap.size]? = some (.cells #[.int .i64 0, .int .i64 0, .int .i64 0, .int .i64 0, .int .i64 0] 50 (0, 0)) by rw [← hw5]; exact heap_alloc_new wr _)
      have HK5 := Lib.hid (show Kept No wr w5 by rw [← hw5]; exact ((Kept.refl No wr).alloc _).drew)
      rw [hw5]
      clear hw5
      refine wpAnyH_ready (rs := [22]) (by kernel_rfl) (by simp) ?_
      refine AllReadyH.cons rfl (fun K hK => ?_) AllReadyH.nil
      refine step_store_row rfl 50 _ _ rfl wr.heap.size #[.int .i64 y0, .int .i64 y1, .int .i64 y2, .int .i64 y3, .int .i64 y4] rfl rfl 50 _ HZ5.out (by kernel_rfl) rfl (by kernel_rfl) ?_
      refine hK.out _ _ (HK5.out.setRow (fun hh => absurd hh (Nat.lt_irrefl _)) _) (fun _ => ?_)
      clear hK K
      try simp only [Act.put, List.getElem_toArray, List.getElem_cons_zero, List.getElem_cons_succ, List.setIfInBounds_toArray, List.set_cons_zero, List.set_cons_succ]
      refine wpAnyH_done (by kernel_rfl) ?_ _
      obtain ⟨w6, hw6⟩ : ∃ w6, w5.setRow wr.heap.size #[.int .i64 y0, .int .i64 y1, .int .i64 y2, .int .i64 y3, .int .i64 y4] = w6 := ⟨_, rfl⟩
      have hrow : w6.heap[wr.heap.size]? = some (.cells #[.int .i64 y0, .int .i64 y1, .int .i64 y2, .int .i64 y3, .int .i64 y4] 50 (0, 0)) := by rw [← hw6]; exact setRow_heap w5 _ _ _ _ _ HZ5.out
      have HK6 := Lib.hid (show Kept No wr w6 by rw [← hw6]; exact HK5.out.setRow (fun hh => absurd hh (Nat.lt_irrefl _)) _)
      rw [hw6]
      have m0 := obj_cell hrow 0
      have m1 := obj_cell hrow 1
      have m2 := obj_cell hrow 2
      have m3 := obj_cell hrow 3
      have m4 := obj_cell hrow 4
      have HROW := Lib.hid hrow
      clear hw6 hrow
      go_wp2_with fail
      refine (HVA.out _).mono ?_
      rintro e w7 ⟨rfl, hk7⟩
      have hr7 := hk7.obj HROW.out (not_no _)
      have p0 := obj_cell hr7 0
      have p1 := obj_cell hr7 1
      have p2 := obj_cell hr7 2
      have p3 := obj_cell hr7 3
      have p4 := obj_cell hr7 4
      have HK7 := Lib.hid (HK6.out.and hk7)
      clear hk7 hr7 m0 m1 m2 m3 m4
      cases ev
      · have HR := Lib.hid (show edec b = none by
          rw [HE2.out]
          rw [if_neg]
          unfold allE
          rw [List.all_eq_false.2 ⟨_, HMEM.out, by rw [HEV.out]; simp⟩, Bool.and_false]
          simp)
        go_wp2_with fail
        go_ret3
        exact ⟨HK.out.and HK7.out, .inr ⟨HR.out, 6, by decide, rfl⟩⟩
      · have HUP := Lib.hid (show (L.take (i + 1)).all evalid = true by rw [HT.out, List.all_append, HF.out]; simp [HEV.out])
        have HO7 := Lib.hid (owned_kept HO.out HK7.out fun _ _ _ => not_no _)
        go_wp2_with (at_builtin; refine wpList_append_rd rfl rfl rfl rfl eiE (owned_kept HO7.out ((Kept.refl No w7).alloc _) fun _ _ _ => not_no _) (rd_newEf w7 ⟨y0, y1, y2, y3, y4⟩ rfl) (effsCs_one [_]) (by have := H45.out; have := HI.out; omega) (by have := HK7.out.size; have := HSZ.out; simp; omega) ?_; intro v8 w8 hown8 hg8 _)
        have hI := HI.out
        have HRL := Lib.hid (show EdRel L w n v8 (.int .i64 ((i : Int) + 1)) w8 from ⟨i + 1, by go_num, hI, HUP.out, by
          rw [HT.out]
          show w8.ownsRow _ _ _ _ _ (effsCs (L.take i ++ [_]))
          unfold effsCs
          rw [List.flatMap_append]
          simp only [List.flatMap_cons, List.flatMap_nil, List.append_nil]
          exact hown8, ((HK.out.and HK7.out).alloc _).grown hg8 (fun k e h => absurd (HO7.out.lt k e).1 (by omega))⟩)
        go_roundw
        case rel => first | exact HRL.out | ((repeat apply Exists.intro); exact ⟨HRL.out, rfl⟩)
        case measure => simp [intOf]; omega
    · have d1 : decide (i < n) = false := decide_eq_false hlt
      have hin : ¬ ((i : Int) < (n : Int)) := by omega
      have hni : L.take i = L := List.take_of_length_le (by rw [HLL.out]; omega)
      have hia : i = n := by omega
      have HA := Lib.hid (show allE L = true by
        have := HF.out
        rw [hni] at this
        unfold allE
        rw [this, HLL.out, decide_eq_true H45.out.1]; rfl)
      have HOL := Lib.hid (show OwnE wr w.heap.size u6 L by
        have := HO.out
        rw [hni, hia] at this
        unfold OwnE
        rw [HLL.out]; exact this)
      clear hk hf ho hlt hni hia
      go_wp2_with fail
      go_ret3
      refine ⟨HK.out, .inl ⟨L, 1 + 5 * n, _, by rw [HE2.out, if_pos HA.out], ?_, HOL.out⟩⟩
      have e9 : ((1 + 5 * n : Nat) : Int) = 1 + 5 * (n : Int) := by omega
      rw [e9]
      rfl
end Go.Proofs.YtclgoilfclmibaaGreatDoor
