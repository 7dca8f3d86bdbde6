/-
  Bracket, the document's model: the entrants of a match, of the first round.
-/
import Derived.Test.YtphlpclhmodekaaDoorWalkS
set_option linter.unusedVariables false
set_option linter.unusedSimpArgs false
namespace Go.Proofs.YtphlpclhmodekaaDoor
open Go.RowKit Go.Zn
attribute [local go_sem] Oper.semAt_some

/-- the cells behind i of the two tests -/
def two (a0 a1 b0 b1 : Int) : Nat → Array Value
  | 0 => #[.int .i64 a0, .int .i64 a1]
  | 1 => #[.int .i64 b0, .int .i64 a1]
  | _ => #[.int .i64 b0, .int .i64 b1]
def seedE (E x : Nat) : Int := if x < E then (x : Int) else -2
set_option maxRecDepth 100000 in
set_option maxHeartbeats 4000000 in
theorem seatsM_first {k E : Nat} {f : Nat → Nat} {g r cap m : Nat} (h2 : 2 * m < 2 ^ k) {w : World} (hM : MS k E f g r cap w) : Calls Tryd.prog 40 #[.pointer (some ⟨g, 0, none⟩), .int .i64 (m : Nat)] w (PairPost (ent k E (2 * m)) (ent k E (2 * m + 1)) w) := by
  have hle := hM.z.le
  obtain ⟨H, hH, hH1, _⟩ := hM.z.pow
  have hmk : m + 1 < 2 ^ k ∨ 2 ^ k = 2 := by omega
  have hm : m + 1 < 2 ^ k := by omega
  have HFR := Lib.hid (fun w (hM : MS k E f g r cap w) => from_any hM hm)
  have HOR := Lib.hid (fun w => order_any hM.z.six w)
  have he0 : ent k E (2 * m) = seedE E (seedK k (2 * m)) := rfl
  have he1 : ent k E (2 * m + 1) = seedE E (seedK k (2 * m + 1)) := rfl
  rw [he0, he1]
  have cE := hM.ent
  have cs := hM.size
  have HM := Lib.hid hM
  have HPL := Lib.hid (show 2 * m < 2 ^ k ∧ 2 * m + 1 < 2 ^ k by omega)
  obtain ⟨S, hS⟩ : ∃ S, 2 ^ k = S := ⟨_, rfl⟩
  have HSS := Lib.hid hS
  rw [hS] at cs hle h2 hm HOR
  have q1 : IntKind.i64.wrap (2 * (m : Int)) = 2 * (m : Int) := IntWalk.i64_in _ (by omega)
  have q2 : IntKind.i64.wrap (2 * (m : Int) + 2) = 2 * (m : Int) + 2 := IntWalk.i64_in _ (by omega)
  obtain ⟨x0, hx0⟩ : ∃ x, seedK k (2 * m) = x := ⟨_, rfl⟩
  obtain ⟨x1, hx1⟩ : ∃ x, seedK k (2 * m + 1) = x := ⟨_, rfl⟩
  rw [hx0, hx1]
  have hm2S : 2 * m + 2 ≤ S := by omega
  have HX := Lib.hid (And.intro hx0 hx1)
  have H2 := Lib.hid (And.intro h2 hm)
  clear hM hS hH hH1 hmk he0 he1 hx0 hx1 h2 hm
  go_enter Tryd.func40, Tryd.ntmps40
  go_wp2_with fail
  refine (HFR.out _ HM.out).mono ?_
  rintro e w1 ⟨a, h, rfl, hs, ham, hml, ha0, hk⟩
  have haz : a = 0 := by
    rcases ha0 with h | h
    · exact h
    · have := HSS.out; have := H2.out.1; omega
  subst haz
  have HM1 := Lib.hid (HM.out.no hk)
  have HK1 := Lib.hid hk
  have cs1 := hk.cell cs (not_no _)
  have cE1 := hk.cell cE (not_no _)
  clear hs ham hml ha0 hk
  go_wp2_with fail
  refine (HOR.out _).mono ?_
  rintro e w2 ⟨v, rfl, hrd, hk⟩
  rw [preL_len] at hrd
  obtain ⟨q, off, cp, rfl, hcp, hcell⟩ := list_cells3 (preL_len k S) hrd (by omega)
  have cx0 : w2.cell? ⟨q, off + 2 * m, none⟩ = some (.int .i64 (x0 : Nat)) := by rw [← HX.out.1]; exact hcell (2 * m) _ (preL_get (by omega))
  have cx1 : w2.cell? ⟨q, off + 2 * m + 1, none⟩ = some (.int .i64 (x1 : Nat)) := by rw [← HX.out.2, Nat.add_assoc]; exact hcell (2 * m + 1) _ (preL_get (by omega))
  have HM2 := Lib.hid (HM1.out.no hk)
  have HK2 := Lib.hid (HK1.out.and hk)
  have cE2 := hk.cell cE1 (not_no _)
  have b1 : (2 * (m : Int)) ≤ 2 * (m : Int) + 2 := by omega
  have b2 : (2 * (m : Int) + 2) ≤ (cp : Int) := by omega
  have b3 : 2 * m + 2 ≤ cp := by omega
  have b4 : (0 : Int) ≤ 2 * (m : Int) := by omega
  clear hrd hk hcell
  have hlen : 2 * m + 2 - 2 * m = 2 := by omega
  have cx0' : w2.cell? ⟨q, off + 2 * m + 0, none⟩ = some (.int .i64 (x0 : Nat)) := by rw [Nat.add_zero]; exact cx0
  obtain ⟨w3, hw3⟩ : ∃ w3, w2.drew.alloc (.cells #[.int .i64 (x0 : Nat), .int .i64 (x1 : Nat)] 3) = w3 := ⟨_, rfl⟩
  obtain ⟨Q, hQ⟩ : ∃ Q, w2.heap.size = Q := ⟨_, rfl⟩
  have HB3 := Lib.hid (show w3.heap[Q]? = some (.cells (two x0 x1 (seedE E x0) (seedE E x1) 0) 3 (0, 0)) by rw [← hw3, ← hQ]; exact heap_alloc_new w2.drew _)
  have HK3 := Lib.hid (show Kept No w w3 by rw [← hw3]; exact HK2.out.drew.alloc _)
  have HQ := Lib.hid (show w.heap.size ≤ Q by rw [← hQ]; exact HK2.out.size)
  go_wp2_with fail
  go_still_tail 6, (by kernel_rfl)
  change wpList _ _ _ _ _ w2.drew
  have hdz : w2.drew.heap.size = w2.heap.size := rfl
  generalize hwd : w2.drew = wd at hw3 hdz ⊢
  have hdz2 : wd.heap.size = Q := by rw [hdz, hQ]
  clear hwd hdz hQ
  go_wp2_with fail
  clear hw3
  go_loopw [9] (fun iv wr => ∃ i : Nat, iv = .int .i64 (i : Nat) ∧ i ≤ 2 ∧ wr.heap[Q]? = some (.cells (two x0 x1 (seedE E x0) (seedE E x1) i) 3 (0, 0)) ∧ Kept No w wr) (fun iv _ => 2 - (intOf iv).toNat)
  case atStart => exact ⟨0, rfl, by decide, HB3.out, HK3.out⟩
  case round =>
    obtain ⟨i, rfl, hi, hb, hk⟩ := hrel
    obtain rfl | rfl | rfl : i = 0 ∨ i = 1 ∨ i = 2 := by omega
    · have co : wr.cell? ⟨Q, 0, none⟩ = some (.int .i64 (x0 : Nat)) := obj_cell hb 0
      have yo : wr.frozen? ⟨Q, 0, none⟩ = false := obj_free hb 0
      have HBR := Lib.hid hb
      have HKR := Lib.hid hk
      have cER := (HM.out.no hk).ent
      clear hb hk
      by_cases hlt : x0 < E
      · have t1 : decide (E ≤ x0) = false := decide_eq_false (by omega)
        have HE := Lib.hid (show seedE E x0 = (x0 : Int) by unfold seedE; rw [if_pos hlt])
        clear hlt
        go_wp2_with fail
        go_quiet (fail)
        go_wp2_with fail
        exact ⟨⟨1, by go_num, by decide, by simp only [two]; rw [HE.out]; exact HBR.out, HKR.out.drewN nq⟩, by simp [intOf]⟩
      · have t1 : decide (E ≤ x0) = true := decide_eq_true (by omega)
        have HE := Lib.hid (show seedE E x0 = -2 by unfold seedE; rw [if_neg hlt])
        clear hlt
        go_wp2_with fail
        go_quiet (fail)
        go_wp2_with fail
        exact ⟨⟨1, by go_num, by decide, by simp only [two]; rw [HE.out]; exact obj_store (w := wr.drewN nq) HBR.out 0 _, (HKR.out.drewN nq).setCell (fun h => by have := HQ.out; simp at h; omega) _⟩, by simp [intOf]⟩
    · have co : wr.cell? ⟨Q, 1, none⟩ = some (.int .i64 (x1 : Nat)) := obj_cell hb 1
      have yo : wr.frozen? ⟨Q, 1, none⟩ = false := obj_free hb 1
      have HBR := Lib.hid hb
      have HKR := Lib.hid hk
      have cER := (HM.out.no hk).ent
      clear hb hk
      by_cases hlt : x1 < E
      · have t1 : decide (E ≤ x1) = false := decide_eq_false (by omega)
        have HE := Lib.hid (show seedE E x1 = (x1 : Int) by unfold seedE; rw [if_pos hlt])
        clear hlt
        go_wp2_with fail
        go_quiet (fail)
        go_wp2_with fail
        exact ⟨⟨2, by go_num, by decide, by simp only [two]; rw [HE.out]; exact HBR.out, HKR.out.drewN nq⟩, by simp [intOf]⟩
      · have t1 : decide (E ≤ x1) = true := decide_eq_true (by omega)
        have HE := Lib.hid (show seedE E x1 = -2 by unfold seedE; rw [if_neg hlt])
        clear hlt
        go_wp2_with fail
        go_quiet (fail)
        go_wp2_with fail
        exact ⟨⟨2, by go_num, by decide, by simp only [two]; rw [HE.out]; exact obj_store (w := wr.drewN nq) HBR.out 1 _, (HKR.out.drewN nq).setCell (fun h => by have := HQ.out; simp at h; omega) _⟩, by simp [intOf]⟩
    · have HBR := Lib.hid hb
      have HKR := Lib.hid hk
      clear hb hk
      go_wp2_with fail
      go_ret
      exact ⟨Q, rfl, HQ.out, HBR.out, HKR.out⟩
end Go.Proofs.YtphlpclhmodekaaDoor
