/-
  Pool: which lists of effects and costs are valid by the document. Pool: which names are valid by the document. Pool: which triggers are valid by the document. Pool: which cards are valid by the document (plain).
-/
import Derived.Test.YtclgoilfclmibaaGreatDoorVc
set_option linter.unusedVariables false
set_option linter.unusedSimpArgs false
namespace Go.Proofs.YtclgoilfclmibaaGreatDoor
open Go Go.RowKit Go.Zn
attribute [local go_sem] Oper.semAt_some

def AlRel (l : List Eff) (w0 : World) (iv : Value) (wr : World) : Prop := ∃ i : Nat, iv = .int .i64 (i : Nat) ∧ i ≤ l.length ∧ (l.take i).all evalid = true ∧ Kept No w0 wr
set_option maxRecDepth 100000 in
theorem reall_any {l : List Eff} (hl : l.length ≤ 1000000) {w : World} {B : Nat → Prop} {v : Value} (hv : EffsAt w B v l) : Calls Tryz.prog 47 #[v] w fun x w' => x = .returned (.bool (allE l)) ∧ Kept No w w' := by
  obtain ⟨ad, cap, rfl⟩ := rd_slice hv
  obtain ⟨n, hn⟩ : ∃ n, l.length = n := ⟨_, rfl⟩
  have HN := Lib.hid hn
  have HV := Lib.hid hv
  rw [hn] at hl ⊢
  rw [hn] at HV
  clear hv hn
  go_enter Tryz.func47, Tryz.ntmps47
  go_wp2_with fail
  go_loopw [3] (fun iv wr => AlRel l w iv wr) (fun iv _ => n - (intOf iv).toNat)
  case atStart => exact ⟨0, rfl, Nat.zero_le _, rfl, Kept.refl No w⟩
  case round =>
    obtain ⟨i, rfl, hi, hf, hk⟩ := hrel
    rw [HN.out] at hi
    have HF := Lib.hid hf
    have HK := Lib.hid hk
    by_cases hlt : i < n
    · have hil : i < l.length := by rw [HN.out]; exact hlt
      obtain ⟨e, he⟩ : ∃ e, l[i]? = some e := ⟨_, List.getElem?_eq_getElem hil⟩
      obtain ⟨b, off, c1, hs, g0, g1, g2, g3, g4⟩ := (HV.out.no hk).at he
      have HT := Lib.hid (show l.take (i + 1) = l.take i ++ [e] by rw [List.take_add_one, he]; rfl)
      have HM := Lib.hid (List.mem_of_getElem? he)
      rw [HN.out] at hs
      cases hs
      have HC := Lib.hid (fun w' => revalid_any e.code e.target e.n e.m e.col w')
      obtain ⟨q, hq⟩ : ∃ q, evalid ⟨e.code, e.target, e.n, e.m, e.col⟩ = q := ⟨_, rfl⟩
      rw [hq] at HC
      have HQ := Lib.hid (show evalid e = q from hq)
      have d1 : decide (i < n) = true := decide_eq_true hlt
      have hi0 : (0 : Int) ≤ (i : Int) := by omega
      have hin : (i : Int) < (n : Int) := by omega
      have q4 : IntKind.i64.wrap ((i : Int) + 1) = (i : Int) + 1 := IntWalk.i64_in _ (by omega)
      have HI := Lib.hid hlt
      clear hf hk hlt hil he hq
      cases q
      · have HR := Lib.hid (show allE l = false by
          unfold allE
          rw [List.all_eq_false.2 ⟨e, HM.out, by rw [HQ.out]; simp⟩, Bool.and_false])
        go_wp2_with fail
        refine (HC.out _).mono ?_
        rintro x w1 ⟨rfl, hk⟩
        have HK1 := Lib.hid (HK.out.and hk)
        clear hk
        go_wp2_with fail
        go_ret
        exact ⟨by rw [HR.out]; rfl, HK1.out⟩
      · have HR := Lib.hid (show (l.take (i + 1)).all evalid = true by rw [HT.out, List.all_append, HF.out]; simp [HQ.out])
        go_wp2_with fail
        refine (HC.out _).mono ?_
        rintro x w1 ⟨rfl, hk⟩
        have HK1 := Lib.hid (HK.out.and hk)
        clear hk
        go_wp2_with fail
        have hI := HI.out
        exact ⟨⟨i + 1, by go_num, by rw [HN.out]; omega, HR.out, HK1.out⟩, by simp [intOf]; omega⟩
    · have d1 : decide (i < n) = false := decide_eq_false hlt
      have hA : l.all evalid = true := by
        have := HF.out
        rw [List.take_of_length_le (by rw [HN.out]; omega)] at this
        exact this
      have hR : allE l = decide (n ≤ 4) := by unfold allE; rw [hA, Bool.and_true, HN.out]
      have e4 : decide ((n : Int) ≤ 4) = decide (n ≤ 4) := by by_cases h : n ≤ 4 <;> simp [h] <;> omega
      obtain ⟨b4, hb4⟩ : ∃ b, decide (n ≤ 4) = b := ⟨_, rfl⟩
      rw [hb4] at e4 hR
      have HR := Lib.hid hR
      clear hf hlt hA hR hb4 hk
      go_wp2_with fail
      go_ret
      exact ⟨by rw [HR.out]; first | rfl | (simp [e4]) | exact congrArg (fun b => Ending.returned (.bool b)) e4, HK.out⟩
set_option maxRecDepth 100000 in
theorem rtargets_any {l : List Eff} (hl : l.length ≤ 1000000) {w : World} {B : Nat → Prop} {v : Value} (hv : EffsAt w B v l) : Calls Tryz.prog 70 #[v] w fun x w' => x = .returned (.int .i64 (targets l : Nat)) ∧ Kept No w w' := by
  obtain ⟨ad, cap, rfl⟩ := rd_slice hv
  obtain ⟨n, hn⟩ : ∃ n, l.length = n := ⟨_, rfl⟩
  have HN := Lib.hid hn
  have HV := Lib.hid hv
  rw [hn] at hl ⊢
  rw [hn] at HV
  clear hv hn
  go_enter Tryz.func70, Tryz.ntmps70
  go_wp2_with fail
  go_loopw [4, 3] (fun iv nv wr => TgRel l w iv nv wr) (fun iv _ _ => n - (intOf iv).toNat)
  case atStart => exact ⟨0, rfl, Nat.zero_le _, rfl, Kept.refl No w⟩
  case round =>
    obtain ⟨i, rfl, hi, rfl, hk⟩ := hrel
    rw [HN.out] at hi
    have HK := Lib.hid hk
    by_cases hlt : i < n
    · have hil : i < l.length := by rw [HN.out]; exact hlt
      obtain ⟨e, he⟩ : ∃ e, l[i]? = some e := ⟨_, List.getElem?_eq_getElem hil⟩
      obtain ⟨b, off, c1, hs, g0, g1, g2, g3, g4⟩ := (HV.out.no hk).at he
      have HT := Lib.hid (show targets (l.take (i + 1)) = targets (l.take i) + (if e.target = 0 then 0 else 1) by rw [List.take_add_one, he]; exact targets_snoc _ _)
      rw [HN.out] at hs
      cases hs
      have hle := targets_le (l.take i)
      rw [List.length_take] at hle
      obtain ⟨t, ht⟩ : ∃ t, targets (l.take i) = t := ⟨_, rfl⟩
      rw [ht] at HT hle ⊢
      have d1 : decide (i < n) = true := decide_eq_true hlt
      have hi0 : (0 : Int) ≤ (i : Int) := by omega
      have hin : (i : Int) < (n : Int) := by omega
      have q4 : IntKind.i64.wrap ((i : Int) + 1) = (i : Int) + 1 := IntWalk.i64_in _ (by omega)
      have q5 : IntKind.i64.wrap ((t : Int) + 1) = (t : Int) + 1 := IntWalk.i64_in _ (by omega)
      have HI := Lib.hid hlt
      clear hk hlt hil he ht hle
      by_cases h0 : e.target = 0
      · rw [if_pos h0] at HT
        have d2 : (e.target != 0) = false := by simpa using h0
        clear h0
        go_wp2_with fail
        have hI := HI.out
        refine ⟨⟨i + 1, by go_num, by rw [HN.out]; omega, by rw [HT.out]; rfl, ?_⟩, by simp [intOf]; omega⟩
        first | exact HK.out | exact HK.out.alloc _ | exact (HK.out.alloc _).put (by have := HK.out.size; simp; omega) _
      · rw [if_neg h0] at HT
        have d2 : (e.target != 0) = true := by simpa using h0
        clear h0
        go_wp2_with fail
        have hI := HI.out
        refine ⟨⟨i + 1, by go_num, by rw [HN.out]; omega, by rw [HT.out]; rfl, ?_⟩, by simp [intOf]; omega⟩
        first | exact HK.out | exact HK.out.alloc _ | exact (HK.out.alloc _).put (by have := HK.out.size; simp; omega) _
    · have d1 : decide (i < n) = false := decide_eq_false hlt
      have HR := Lib.hid (show l.take i = l from List.take_of_length_le (by rw [HN.out]; omega))
      clear hlt hk
      go_wp2_with fail
      go_ret
      exact ⟨by rw [HR.out]; rfl, HK.out⟩
set_option maxRecDepth 100000 in
set_option maxHeartbeats 4000000 in
theorem rvcost_any (a b c d g : Int) (w : World) : Calls Tryz.prog 46 #[.agg #[.int .i64 a, .int .i64 b, .int .i64 c, .int .i64 d, .int .i64 g]] w fun e w' => e = .returned (.bool (cost a b c d g)) ∧ Kept No w w' := by
  obtain ⟨w1, hw1⟩ : ∃ w1, w.alloc (.cells #[.int .i64 a, .int .i64 b, .int .i64 c, .int .i64 d, .int .i64 g] 40) = w1 := ⟨_, rfl⟩
  have hb : w1.heap[w.heap.size]? = some (.cells #[.int .i64 a, .int .i64 b, .int .i64 c, .int .i64 d, .int .i64 g] 40 (0, 0)) := by rw [← hw1]; exact heap_alloc_new w _
  have HK1 := Lib.hid (show Kept No w w1 by rw [← hw1]; exact (Kept.refl No w).alloc _)
  have c0 := obj_cell hb 0
  have c1 := obj_cell hb 1
  have c2 := obj_cell hb 2
  have c3 := obj_cell hb 3
  have c4 := obj_cell hb 4
  clear hb
  go_enter Tryz.func46, Tryz.ntmps46
  go_wp2_with fail
  go_loopw [3] (fun iv wr => (∃ k : Nat, iv = .int .i64 (k : Nat) ∧ k ≤ 4 ∧ (∀ j, j < k → 0 ≤ at4 a b c d j ∧ at4 a b c d j ≤ 20)) ∧ wr = w1) (fun iv _ => 4 - (intOf iv).toNat)
  case atStart => exact ⟨⟨0, rfl, by decide, fun j h => by omega⟩, rfl⟩
  case round =>
    obtain ⟨⟨k, rfl, hk, hall⟩, rfl⟩ := hrel
    have HALL := Lib.hid hall
    clear hall
    obtain rfl | rfl | rfl | rfl | rfl : k = 0 ∨ k = 1 ∨ k = 2 ∨ k = 3 ∨ k = 4 := by omega
    · by_cases x1 : a < 0
      · have hr : cost a b c d g = false := by unfold cost; rw [in4_no 0 (by decide) (.inl x1)]; rfl
        go_wp2_with fail
        go_ret
        exact ⟨hr.symm ▸ rfl, HK1.out⟩
      · by_cases x2 : 20 < a
        · have hr : cost a b c d g = false := by unfold cost; rw [in4_no 0 (by decide) (.inr x2)]; rfl
          go_wp2_with fail
          go_ret
          exact ⟨hr.symm ▸ rfl, HK1.out⟩
        · go_wp2_with fail
          exact ⟨⟨⟨1, by go_num, by decide, up4 HALL.out (show 0 ≤ a by omega) (show a ≤ 20 by omega)⟩, by first | rfl | trivial⟩, by simp [intOf]⟩
    · by_cases x1 : b < 0
      · have hr : cost a b c d g = false := by unfold cost; rw [in4_no 1 (by decide) (.inl x1)]; rfl
        go_wp2_with fail
        go_ret
        exact ⟨hr.symm ▸ rfl, HK1.out⟩
      · by_cases x2 : 20 < b
        · have hr : cost a b c d g = false := by unfold cost; rw [in4_no 1 (by decide) (.inr x2)]; rfl
          go_wp2_with fail
          go_ret
          exact ⟨hr.symm ▸ rfl, HK1.out⟩
        · go_wp2_with fail
          exact ⟨⟨⟨2, by go_num, by decide, up4 HALL.out (show 0 ≤ b by omega) (show b ≤ 20 by omega)⟩, by first | rfl | trivial⟩, by simp [intOf]⟩
    · by_cases x1 : c < 0
      · have hr : cost a b c d g = false := by unfold cost; rw [in4_no 2 (by decide) (.inl x1)]; rfl
        go_wp2_with fail
        go_ret
        exact ⟨hr.symm ▸ rfl, HK1.out⟩
      · by_cases x2 : 20 < c
        · have hr : cost a b c d g = false := by unfold cost; rw [in4_no 2 (by decide) (.inr x2)]; rfl
          go_wp2_with fail
          go_ret
          exact ⟨hr.symm ▸ rfl, HK1.out⟩
        · go_wp2_with fail
          exact ⟨⟨⟨3, by go_num, by decide, up4 HALL.out (show 0 ≤ c by omega) (show c ≤ 20 by omega)⟩, by first | rfl | trivial⟩, by simp [intOf]⟩
    · by_cases x1 : d < 0
      · have hr : cost a b c d g = false := by unfold cost; rw [in4_no 3 (by decide) (.inl x1)]; rfl
        go_wp2_with fail
        go_ret
        exact ⟨hr.symm ▸ rfl, HK1.out⟩
      · by_cases x2 : 20 < d
        · have hr : cost a b c d g = false := by unfold cost; rw [in4_no 3 (by decide) (.inr x2)]; rfl
          go_wp2_with fail
          go_ret
          exact ⟨hr.symm ▸ rfl, HK1.out⟩
        · go_wp2_with fail
          exact ⟨⟨⟨4, by go_num, by decide, up4 HALL.out (show 0 ≤ d by omega) (show d ≤ 20 by omega)⟩, by first | rfl | trivial⟩, by simp [intOf]⟩
    · have hi : in4 20 a b c d = true := in4_yes HALL.out
      by_cases h1 : 0 ≤ g
      · by_cases h2 : g ≤ 20
        · have hr : cost a b c d g = true := by unfold cost; rw [hi]; simp [h1, h2]
          go_wp2_with fail
          go_ret
          exact ⟨by first | rfl | (rw [hr]; rfl) | simp [h2] | exact congrArg (fun b => Ending.returned (.bool b)) (decide_eq_true h2), HK1.out⟩
        · have d2 : decide (g ≤ 20) = false := by simp; omega
          have hr : cost a b c d g = false := by unfold cost; rw [hi]; simp [h2]
          go_wp2_with fail
          go_ret
          exact ⟨by first | rfl | (rw [hr]; rfl) | exact congrArg (fun b => Ending.returned (.bool b)) (decide_eq_false h2), HK1.out⟩
      · have d1 : decide (0 ≤ g) = false := by simp; omega
        have hr : cost a b c d g = false := by unfold cost; rw [hi]; simp [h1]
        go_wp2_with fail
        go_ret
        exact ⟨by first | rfl | (rw [hr]; rfl), HK1.out⟩
end Go.Proofs.YtclgoilfclmibaaGreatDoor
namespace Go.Proofs.YtclgoilfclmibaaGreatDoor
open Go Go.RowKit Go.Zn
attribute [local go_sem] Oper.semAt_some

theorem inB_true {x a b : Int} (h : a ≤ x ∧ x ≤ b) : inB x a b = true := by unfold inB; rw [decide_eq_true h.1, decide_eq_true h.2]; rfl
theorem inB_false {x a b : Int} (h : x < a ∨ b < x) : inB x a b = false := by
  unfold inB
  rcases h with h | h
  · rw [decide_eq_false (by omega)]; rfl
  · rw [decide_eq_false (show ¬ x ≤ b by omega), Bool.and_false]
theorem trim_ok {l : List UInt8} {c x y : UInt8} (h0 : l[0]? = some x) (h1 : l[l.length - 1]? = some y) (hx : x ≠ c) (hy : y ≠ c) : Lib.trimB l c = l := by
  have hl : 0 < l.length := (List.getElem?_eq_some_iff.1 h0).1
  have e1 : Lib.trimRightB l c = l := by
    rw [Lib.trimRightB_take l c l.length (Nat.le_refl _) (fun j b hj hb => by
      have := (List.getElem?_eq_some_iff.1 hb).1; omega) (fun b _ hb => by
      rw [h1] at hb; exact fun e => hy (by rw [Option.some.inj hb]; exact e))]
    exact List.take_length
  unfold Lib.trimB
  rw [e1, Lib.trimLeftB_drop l c 0 (Nat.zero_le _) (fun j b hj => by omega) (fun b hb => by
    rw [h0] at hb; exact fun e => hx (by rw [Option.some.inj hb]; exact e))]
  rfl
theorem trimL_len (l : List UInt8) (c : UInt8) : (Lib.trimLeftB l c).length ≤ l.length := by
  unfold Lib.trimLeftB
  exact (List.dropWhile_suffix _).length_le
theorem trimR_len (l : List UInt8) (c : UInt8) : (Lib.trimRightB l c).length ≤ l.length := by
  unfold Lib.trimRightB
  rw [List.length_reverse]
  have := (List.dropWhile_suffix (l := l.reverse) (· == c)).length_le
  rw [List.length_reverse] at this
  exact this
theorem trim_x {l : List UInt8} {c : UInt8} (h0 : l[0]? = some c) : Lib.trimB l c ≠ l := by
  match l, h0 with
  | x :: r, h0 =>
    obtain rfl : x = c := by simpa using h0
    intro h
    unfold Lib.trimB at h
    cases hr : Lib.trimRightB (x :: r) x with
    | nil => rw [hr] at h; cases h
    | cons y s =>
      rw [hr] at h
      have hlen := trimR_len (x :: r) x
      rw [hr] at hlen
      have h2 := trimL_len (y :: s) x
      rw [h] at h2
      have h3 : Lib.trimLeftB (y :: s) x = (y :: s) := by
        have hs : (Lib.trimLeftB (y :: s) x) <:+ (y :: s) := by unfold Lib.trimLeftB; exact List.dropWhile_suffix _
        exact hs.eq_of_length (by rw [h]; simp only [List.length_cons] at hlen h2 ⊢; omega)
      rw [h3] at h
      injection h with h4 h5
      subst h4
      unfold Lib.trimLeftB at h3
      rw [List.dropWhile_cons_of_pos (by simp)] at h3
      have h6 := (List.dropWhile_suffix (l := s) (· == y)).length_le
      rw [h3] at h6
      simp only [List.length_cons] at h6
      omega
theorem trim_y {l : List UInt8} {c : UInt8} (h1 : l[l.length - 1]? = some c) : Lib.trimB l c ≠ l := by
  intro h
  have hl : 0 < l.length := by have := (List.getElem?_eq_some_iff.1 h1).1; omega
  have h2 := trimL_len (Lib.trimRightB l c) c
  unfold Lib.trimB at h
  rw [h] at h2
  unfold Lib.trimRightB at h2
  rw [List.length_reverse] at h2
  have e : l.reverse[0]? = some c := by
    rw [List.getElem?_reverse (by omega)]
    exact h1
  have hlr : l.reverse.length = l.length := List.length_reverse
  match hr : l.reverse, e, hlr with
  | x :: r, e, hlr =>
    obtain rfl : x = c := by simpa using e
    rw [hr, List.dropWhile_cons_of_pos (by simp)] at h2
    have h6 := (List.dropWhile_suffix (l := r) (· == x)).length_le
    simp only [List.length_cons] at hlr
    omega
def RnRel (l : List UInt8) (w0 : World) (iv : Value) (wr : World) : Prop := ∃ i : Nat, iv = .int .i64 (i : Nat) ∧ i ≤ l.length ∧ (l.take i).all okB = true ∧ wr = w0
set_option maxRecDepth 100000 in
set_option maxHeartbeats 4000000 in
theorem rnamed_any {l : List UInt8} (hl : l.length ≤ 1000000) (w : World) : Calls Tryz.prog 45 #[.string (strOf l)] w fun x w' => x = .returned (.bool (namedB l)) ∧ w' = w := by
  have hsz := strOf_size l
  by_cases z0 : l.length = 0
  · have hr : namedB l = false := by unfold namedB; rw [inB_false (by left; omega)]; rfl
    rw [z0] at hsz
    go_enter Tryz.func45, Tryz.ntmps45
    go_wp2_with fail
    go_ret
    exact ⟨by first | rfl | (rw [hr]; rfl), rfl⟩
  obtain ⟨m, hm⟩ : ∃ m, l.length = m + 1 := ⟨l.length - 1, by omega⟩
  have HN := Lib.hid hm
  rw [hm] at hsz hl
  have g1 : ¬ ((m : Int) + 1 < 1) := by omega
  by_cases z1 : 32 < m + 1
  · have hr : namedB l = false := by unfold namedB; rw [inB_false (by right; omega)]; rfl
    have g2 : 32 < (m : Int) + 1 := by omega
    clear z0
    go_enter Tryz.func45, Tryz.ntmps45
    go_wp2_with fail
    go_ret
    exact ⟨by first | rfl | (rw [hr]; rfl), rfl⟩
  have g2 : ¬ (32 < (m : Int) + 1) := by omega
  have HIN := Lib.hid (show inB l.length 1 32 = true from inB_true ⟨by omega, by omega⟩)
  obtain ⟨x, hx⟩ : ∃ x, l[0]? = some x := ⟨_, List.getElem?_eq_getElem (by omega)⟩
  obtain ⟨y, hy⟩ : ∃ y, l[m]? = some y := ⟨_, List.getElem?_eq_getElem (by omega)⟩
  have ix0 : ∀ W, (Instr.index 9 (.string (strOf l)) (.int .i64 0)).run Tryz.prog W = .ok (.int .u8 x.toNat) W := str_idx hx
  have ixm := str_idx hy
  have qm : IntKind.i64.wrap ((m : Int) + 1 - 1) = (m : Int) := IntWalk.i64_in _ (by omega) |>.trans (by omega)
  have qm2 : IntKind.i64.wrap (m : Int) = (m : Int) := IntWalk.i64_in _ (by omega)
  obtain ⟨xv, hxv⟩ : ∃ xv, x.toNat = xv := ⟨_, rfl⟩
  obtain ⟨yv, hyv⟩ : ∃ yv, y.toNat = yv := ⟨_, rfl⟩
  by_cases z2 : x = 32
  · have hr : namedB l = false := by
      unfold namedB
      rw [show (Lib.trimB l 32 == l) = false by simpa using trim_x (by rw [hx, z2]), Bool.and_false]; rfl
    have e2 : ((xv : Int) == 32) = true := by rw [← hxv, z2]; rfl
    rw [hxv] at ix0
    rw [hyv] at ixm
    clear z0 z1 z2 hx hy hxv hyv
    go_enter Tryz.func45, Tryz.ntmps45
    go_wp2_with fail
    go_ret
    exact ⟨by first | rfl | (rw [hr]; rfl), rfl⟩
  have e2 : ((xv : Int) == 32) = false := by
    have : xv ≠ 32 := fun h => z2 (UInt8.toNat_inj.1 (by rw [hxv, h]; rfl))
    simp; omega
  by_cases z3 : y = 32
  · have hr : namedB l = false := by
      unfold namedB
      rw [show (Lib.trimB l 32 == l) = false by simpa using trim_y (by rw [hm, Nat.add_sub_cancel, hy, z3]), Bool.and_false]; rfl
    have e3 : ((yv : Int) == 32) = true := by rw [← hyv, z3]; rfl
    rw [hxv] at ix0
    rw [hyv] at ixm
    clear z0 z1 z2 z3 hx hy hxv hyv
    go_enter Tryz.func45, Tryz.ntmps45
    go_wp2_with fail
    go_ret
    exact ⟨by first | rfl | (rw [hr]; rfl), rfl⟩
  have e3 : ((yv : Int) == 32) = false := by
    have : yv ≠ 32 := fun h => z3 (UInt8.toNat_inj.1 (by rw [hyv, h]; rfl))
    simp; omega
  have HR := Lib.hid (show namedB l = l.all okB by
    unfold namedB
    rw [HIN.out, trim_ok hx (by rw [hm, Nat.add_sub_cancel]; exact hy) z2 z3]
    simp)
  rw [hxv] at ix0
  rw [hyv] at ixm
  clear z0 z2 z3 hx hy hxv hyv hm
  go_enter Tryz.func45, Tryz.ntmps45
  go_wp2_with fail
  clear e2 e3 ix0 ixm
  go_loopw [3] (fun iv wr => RnRel l w iv wr) (fun iv _ => (m + 1) - (intOf iv).toNat)
  case atStart => exact ⟨0, rfl, Nat.zero_le _, rfl, rfl⟩
  case round =>
    obtain ⟨i, rfl, hi, hf, rfl⟩ := hrel
    rw [HN.out] at hi
    have HF := Lib.hid hf
    by_cases hlt : i < m + 1
    · have hil : i < l.length := by rw [HN.out]; exact hlt
      obtain ⟨b, hb⟩ : ∃ b, l[i]? = some b := ⟨_, List.getElem?_eq_getElem hil⟩
      have hix := str_idx hb
      have HT2 := Lib.hid (show l.take (i + 1) = l.take i ++ [b] by rw [List.take_add_one, hb]; rfl)
      have HNO := Lib.hid (fun h => all_no hb h)
      have hbl := b.toNat_lt
      have hok : okB b = (decide (32 ≤ b.toNat) && decide (b.toNat ≤ 126)) := rfl
      obtain ⟨y, hy⟩ : ∃ y, b.toNat = y := ⟨_, rfl⟩
      rw [hy] at hix hbl hok
      have hi0 : (0 : Int) ≤ (i : Int) := by omega
      have hin : (i : Int) < (m : Int) + 1 := by omega
      have q4 : IntKind.i64.wrap ((i : Int) + 1) = (i : Int) + 1 := IntWalk.i64_in _ (by omega)
      have HI := Lib.hid hlt
      clear hf hlt hil hb hy
      by_cases h1 : y < 32
      · have d2 : decide (y < 32) = true := decide_eq_true h1
        have d2' : (y : Int) < 32 := by omega
        have HO := Lib.hid (HNO.out (by rw [hok, decide_eq_false (show ¬ 32 ≤ y by omega)]; rfl))
        clear hok h1
        go_wp2_with fail
        go_ret
        exact ⟨by first | rfl | (rw [HR.out, HO.out]; rfl), rfl⟩
      · have d2 : decide (y < 32) = false := decide_eq_false h1
        have d2' : ¬ ((y : Int) < 32) := by omega
        by_cases h3 : 126 < y
        · have d3 : decide (126 < y) = true := decide_eq_true h3
          have d3' : 126 < (y : Int) := by omega
          have HO := Lib.hid (HNO.out (by rw [hok, decide_eq_false (show ¬ y ≤ 126 by omega)]; simp))
          clear hok h1 h3
          go_wp2_with fail
          go_ret
          exact ⟨by first | rfl | (rw [HR.out, HO.out]; rfl), rfl⟩
        · have d3 : decide (126 < y) = false := decide_eq_false h3
          have d3' : ¬ (126 < (y : Int)) := by omega
          have HO := Lib.hid (show (l.take (i + 1)).all okB = true by
            rw [HT2.out, List.all_append, HF.out, List.all_cons, hok, decide_eq_true (show 32 ≤ y by omega), decide_eq_true (show y ≤ 126 by omega)]; rfl)
          clear hok h1 h3
          go_wp2_with fail
          have hI := HI.out
          exact ⟨⟨i + 1, by go_num, by rw [HN.out]; omega, HO.out, rfl⟩, by simp [intOf]; omega⟩
    · have hin : ¬ ((i : Int) < (m : Int) + 1) := by omega
      have HO := Lib.hid (show l.all okB = true by
        have := HF.out
        rw [List.take_of_length_le (by rw [HN.out]; omega)] at this
        exact this)
      clear hf hlt
      go_wp2_with fail
      go_ret
      exact ⟨by first | rfl | (rw [HR.out, HO.out]; rfl), rfl⟩
end Go.Proofs.YtclgoilfclmibaaGreatDoor
namespace Go.Proofs.YtclgoilfclmibaaGreatDoor
open Go Go.RowKit Go.Zn
attribute [local go_sem] Oper.semAt_some

set_option maxRecDepth 100000 in
set_option maxHeartbeats 4000000 in
theorem rtrigger_any {t : Trg} (hl : t.effs.length ≤ 1000000) {w : World} {B : Nat → Prop} {ade : Option Addr} {cape : Nat} (hv : EffsAt w B (.slice ade t.effs.length cape) t.effs) : Calls Tryz.prog 48 #[.agg #[.int .i64 t.when, .slice ade t.effs.length cape]] w fun x w' => x = .returned (.bool (trgOk t)) ∧ Kept No w w' := by
  have HA := Lib.hid (fun W (hk : Kept No w W) => reall_any hl (hv.no hk))
  have HT := Lib.hid (fun W (hk : Kept No w W) => rtargets_any hl (hv.no hk))
  have hR : trgOk t = (inB t.when 1 3 && inB t.effs.length 1 2 && allE t.effs && decide (targets t.effs = 0)) := rfl
  obtain ⟨tr, htr⟩ : ∃ tr, trgOk t = tr := ⟨_, rfl⟩
  obtain ⟨a, ha⟩ : ∃ a, t.when = a := ⟨_, rfl⟩
  obtain ⟨n, hn⟩ : ∃ n, t.effs.length = n := ⟨_, rfl⟩
  obtain ⟨q, hq⟩ : ∃ q, allE t.effs = q := ⟨_, rfl⟩
  obtain ⟨g, hg⟩ : ∃ g, targets t.effs = g := ⟨_, rfl⟩
  rw [htr, ha, hn, hq, hg] at hR
  rw [hq, hn] at HA
  rw [hg, hn] at HT
  rw [htr, ha, hn]
  have HB := Lib.hid (show (w.alloc (.cells #[.int .i64 a, .slice ade n cape] 71)).heap[w.heap.size]? = some (.cells #[.int .i64 a, .slice ade n cape] 71 (0, 0)) from heap_alloc_new w _)
  have HK := Lib.hid ((Kept.refl No w).alloc (.cells #[.int .i64 a, .slice ade n cape] 71))
  clear hv htr ha hn hq hg hl
  by_cases z0 : 1 ≤ a
  rotate_left
  · obtain rfl : tr = false := by rw [hR, inB_false (by left; omega)]; rfl
    clear hR HA HT
    go_enter Tryz.func48, Tryz.ntmps48
    go_wp2_with fail
    go_ret
    exact ⟨by first | rfl | simp [*], HK.out⟩
  by_cases z1 : a ≤ 3
  rotate_left
  · obtain rfl : tr = false := by rw [hR, inB_false (by right; omega)]; rfl
    clear hR HA HT
    go_enter Tryz.func48, Tryz.ntmps48
    go_wp2_with fail
    go_ret
    exact ⟨by first | rfl | simp [*], HK.out⟩
  by_cases z2 : n = 1 ∨ n = 2
  rotate_left
  · have e1 : ((n : Int) == 1) = false := by simp; omega
    have e2 : ((n : Int) == 2) = false := by simp; omega
    obtain rfl : tr = false := by rw [hR, show inB (n : Int) 1 2 = false from by (by_cases h : n = 0; exact inB_false (by left; omega); exact inB_false (by right; omega)), Bool.and_false]; rfl
    clear hR HA HT
    go_enter Tryz.func48, Tryz.ntmps48
    go_wp2_with fail
    go_ret
    exact ⟨by first | rfl | simp [*], HK.out⟩
  have hz2 := z2
  rcases z2 with z2 | z2
  · clear hz2
    subst z2
    go_enter Tryz.func48, Tryz.ntmps48
    go_wp2_with fail
    refine (HA.out _ HK.out).mono ?_
    rintro x w2 ⟨rfl, hk2⟩
    have hb2 := hk2.obj HB.out (not_no _)
    have y0 := obj_cell hb2 0
    have y1 := obj_cell hb2 1
    have HK2 := Lib.hid (HK.out.and hk2)
    clear hk2 hb2
    cases q
    · obtain rfl : tr = false := by rw [hR, Bool.and_false]; rfl
      clear hR HA HT
      go_wp2_with fail
      go_ret
      exact ⟨rfl, HK2.out⟩
    · have hT2 := Lib.hid (HT.out _ HK2.out)
      go_wp2_with fail
      refine hT2.out.mono ?_
      rintro x w3 ⟨rfl, hk3⟩
      have HK3 := Lib.hid (HK2.out.and hk3)
      clear hk3
      have eg : ((g : Int) == 0) = tr := by
        rw [hR, inB_true ⟨z0, z1⟩, inB_true ⟨by decide, by decide⟩]
        by_cases h : g = 0 <;> simp [h]
      clear hR HA HT
      go_wp2_with fail
      go_ret
      exact ⟨by first | rfl | simp [eg] | exact congrArg (fun b => Ending.returned (.bool b)) eg, HK3.out⟩
  · clear hz2
    subst z2
    go_enter Tryz.func48, Tryz.ntmps48
    go_wp2_with fail
    refine (HA.out _ HK.out).mono ?_
    rintro x w2 ⟨rfl, hk2⟩
    have hb2 := hk2.obj HB.out (not_no _)
    have y0 := obj_cell hb2 0
    have y1 := obj_cell hb2 1
    have HK2 := Lib.hid (HK.out.and hk2)
    clear hk2 hb2
    cases q
    · obtain rfl : tr = false := by rw [hR, Bool.and_false]; rfl
      clear hR HA HT
      go_wp2_with fail
      go_ret
      exact ⟨rfl, HK2.out⟩
    · have hT2 := Lib.hid (HT.out _ HK2.out)
      go_wp2_with fail
      refine hT2.out.mono ?_
      rintro x w3 ⟨rfl, hk3⟩
      have HK3 := Lib.hid (HK2.out.and hk3)
      clear hk3
      have eg : ((g : Int) == 0) = tr := by
        rw [hR, inB_true ⟨z0, z1⟩, inB_true ⟨by decide, by decide⟩]
        by_cases h : g = 0 <;> simp [h]
      clear hR HA HT
      go_wp2_with fail
      go_ret
      exact ⟨by first | rfl | simp [eg] | exact congrArg (fun b => Ending.returned (.bool b)) eg, HK3.out⟩
end Go.Proofs.YtclgoilfclmibaaGreatDoor
namespace Go.Proofs.YtclgoilfclmibaaGreatDoor
open Go Go.RowKit Go.Zn
attribute [local go_sem] Oper.semAt_some

theorem cv_name {c : Crd} (h : namedB c.name = false) : cvalid c = false := by unfold cvalid; rw [h]; rfl
theorem cv_rar {c : Crd} (h : c.rarity < 1 ∨ 4 < c.rarity) : cvalid c = false := by unfold cvalid; rw [inB_false h, Bool.and_false]; rfl
theorem cost_zero {a b c d g : Int} (h : a = 0 ∧ b = 0 ∧ c = 0 ∧ d = 0 ∧ g = 0) : cost a b c d g = true ∧ val a b c d g = 0 := by
  obtain ⟨rfl, rfl, rfl, rfl, rfl⟩ := h
  decide
theorem cost_val {a b c d g : Int} (h : cost a b c d g = true) (hv : val a b c d g = 0) : a = 0 ∧ b = 0 ∧ c = 0 ∧ d = 0 ∧ g = 0 := by
  unfold val at hv
  rw [if_pos h] at hv
  unfold cost at h
  simp only [Bool.and_eq_true, decide_eq_true_eq] at h
  obtain ⟨⟨h1, h2⟩, h3⟩ := h
  obtain ⟨a1, a2, a3, a4⟩ := in4_out h1
  omega
def zeroC (c : Crd) : Bool := (c.o0 == 0) && ((c.o1 == 0) && ((c.o2 == 0) && (c.o3 == 0))) && (c.any == 0)
theorem zeroC_iff (c : Crd) : zeroC c = true ↔ (c.o0 = 0 ∧ c.o1 = 0 ∧ c.o2 = 0 ∧ c.o3 = 0 ∧ c.any = 0) := by
  unfold zeroC; simp [and_assoc]
theorem cv_1 {c : Crd} (hk : c.kind = 1) (hn : namedB c.name = true) (hr : 1 ≤ c.rarity ∧ c.rarity ≤ 4) : cvalid c = (inB c.makes 0 3 && decide (c.effs.length = 0) && stillB c && zeroC c) := by
  unfold cvalid
  rw [hn, inB_true hr, if_pos hk]
  by_cases hz : zeroC c = true
  · have h0 := (zeroC_iff c).1 hz
    rw [(cost_zero h0).1, (cost_zero h0).2, hz]
    by_cases he : c.effs.length = 0
    · have : c.effs = [] := List.eq_nil_of_length_eq_zero he
      rw [this]
      simp [allE]
    · simp [he]
  · have hz2 : zeroC c = false := by simpa using hz
    rw [hz2, Bool.and_false]
    by_cases hc : cost c.o0 c.o1 c.o2 c.o3 c.any = true
    · have hv : ¬ val c.o0 c.o1 c.o2 c.o3 c.any = 0 := fun hv => hz ((zeroC_iff c).2 (cost_val hc hv))
      simp [hv]
    · simp [hc]
theorem cv_2 {c : Crd} (hk : c.kind = 2) (hn : namedB c.name = true) (hr : 1 ≤ c.rarity ∧ c.rarity ≤ 4) : cvalid c = ((c.makes == 0) && cost c.o0 c.o1 c.o2 c.o3 c.any && inB c.power 0 20 && inB c.tough 1 20 && inB c.keys 0 15 && allE c.effs && decide (c.trgs.length ≤ 2) && trgsTo c.trgs c.trgs.length) := by
  unfold cvalid
  rw [hn, inB_true hr, if_neg (by omega), if_pos hk]
  unfold keysB trgsB inB
  generalize cost _ _ _ _ _ = q0
  generalize allE _ = q1
  generalize trgsTo _ _ = q2
  generalize (c.makes == 0) = q3
  generalize decide (c.trgs.length ≤ 2) = q4
  generalize decide (0 ≤ c.power) = p0
  generalize decide (c.power ≤ 20) = p1
  generalize decide (1 ≤ c.tough) = p2
  generalize decide (c.tough ≤ 20) = p3
  generalize decide (0 ≤ c.keys) = p4
  generalize decide (c.keys ≤ 15) = p5
  cases q0 <;> cases q1 <;> cases q2 <;> cases q3 <;> cases q4 <;> simp
theorem cv_3 {c : Crd} (hk : c.kind = 3 ∨ c.kind = 4) (hn : namedB c.name = true) (hr : 1 ≤ c.rarity ∧ c.rarity ≤ 4) : cvalid c = (!c.effs.any itselfB && ((c.makes == 0) && cost c.o0 c.o1 c.o2 c.o3 c.any && decide (0 < c.effs.length) && allE c.effs && stillB c)) := by
  unfold cvalid
  rw [hn, inB_true hr, if_neg (by omega), if_neg (by omega), if_pos hk]
  generalize cost _ _ _ _ _ = q0
  generalize allE _ = q1
  generalize stillB c = q2
  generalize (c.makes == 0) = q3
  generalize decide (0 < c.effs.length) = q4
  generalize c.effs.any itselfB = q5
  cases q0 <;> cases q1 <;> cases q2 <;> cases q3 <;> cases q4 <;> cases q5 <;> rfl
theorem cv_else {c : Crd} (hk : c.kind ≠ 1 ∧ c.kind ≠ 2 ∧ c.kind ≠ 3 ∧ c.kind ≠ 4) : cvalid c = false := by
  unfold cvalid
  rw [if_neg hk.1, if_neg hk.2.1, if_neg (by omega), Bool.and_false]
theorem eq_manaz (a b c d : Int) (W : World) : (Op.equalIn 9999 38 (.agg #[.int .i64 a, .int .i64 b, .int .i64 c, .int .i64 d]) (.agg #[.int .i64 0, .int .i64 0, .int .i64 0, .int .i64 0])).run Tryz.prog W = .ok ((a == 0) && ((b == 0) && ((c == 0) && (d == 0)))) W := by
  have hu : Tryz.prog.underlying 38 = some (.array 4 3) := by kernel_rfl
  obtain ⟨i, hi, hz, hs, hb⟩ := (info_parts (P := Tryz.prog) (e := 3) (z := .int .i64 0) (size := 1) (bytes := 8) (by kernel_rfl))
  have hc : Tryz.prog.cellsOf 3 = 1 := by kernel_rfl
  have hi64 : Tryz.prog.underlying 3 = some (.int .i64) := by kernel_rfl
  rw [show 9999 = 9998 + 1 from rfl, run_equalIn_array W 9998 _ _ hu hi, hc]
  have p0 : ∀ (x y z u : Int) (W : World), (part 3 #[.int .i64 x, .int .i64 y, .int .i64 z, .int .i64 u] 0).run Tryz.prog W = .ok (.int .i64 x) W := fun x y z u W => by kernel_rfl
  have p1 : ∀ (x y z u : Int) (W : World), (part 3 #[.int .i64 x, .int .i64 y, .int .i64 z, .int .i64 u] 1).run Tryz.prog W = .ok (.int .i64 y) W := fun x y z u W => by kernel_rfl
  have p2 : ∀ (x y z u : Int) (W : World), (part 3 #[.int .i64 x, .int .i64 y, .int .i64 z, .int .i64 u] 2).run Tryz.prog W = .ok (.int .i64 z) W := fun x y z u W => by kernel_rfl
  have p3 : ∀ (x y z u : Int) (W : World), (part 3 #[.int .i64 x, .int .i64 y, .int .i64 z, .int .i64 u] 3).run Tryz.prog W = .ok (.int .i64 u) W := fun x y z u W => by kernel_rfl
  have he0 : ∀ (d : Nat) (n : Int), (Op.equalIn (d + 1) 3 (.int .i64 n) (.int .i64 0)).run Tryz.prog W = .ok (n == 0) W := fun d n => by simp [Op.equalIn, run_underlying hi64]
  have he : ∀ n : Int, (Op.equalIn 9998 3 (.int .i64 n) (.int .i64 0)).run Tryz.prog W = .ok (n == 0) W := fun n => he0 9997 n
  have hr : List.range 4 = [0, 1, 2, 3] := rfl
  rw [hr]
  simp only [Op.eqItems]
  generalize hx0 : (a == 0) = x0
  generalize hx1 : (b == 0) = x1
  generalize hx2 : (c == 0) = x2
  generalize hx3 : (d == 0) = x3
  have ha := he a
  have hb' := he b
  have hc' := he c
  have hd := he d
  rw [hx0] at ha
  rw [hx1] at hb'
  rw [hx2] at hc'
  rw [hx3] at hd
  cases x0 <;> cases x1 <;> cases x2 <;> cases x3 <;> simp [p0, p1, p2, p3, ha, hb', hc', hd]
end Go.Proofs.YtclgoilfclmibaaGreatDoor
