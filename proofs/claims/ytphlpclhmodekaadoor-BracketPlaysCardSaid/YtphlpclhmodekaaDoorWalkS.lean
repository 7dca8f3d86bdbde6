/-
  Bracket, the document's model: the entrants of a match, its winner.
-/
import Derived.Test.YtphlpclhmodekaaDoorWalkR
set_option linter.unusedVariables false
set_option linter.unusedSimpArgs false
namespace Go.Proofs.YtphlpclhmodekaaDoor
open Go.RowKit Go.Zn
attribute [local go_sem] Oper.semAt_some

/-- two numbers in a new block -/
def PairPost (x y : Int) (w0 : World) (e : Ending) (w' : World) : Prop :=
  ∃ q, e = .returned (.slice (some ⟨q, 0, none⟩) 2 2) ∧ w0.heap.size ≤ q ∧ w'.heap[q]? = some (.cells #[.int .i64 x, .int .i64 y] 3 (0, 0)) ∧ Kept No w0 w'
/-- what the model's seats gives -/
def SeatsMK (k E : Nat) (f : Nat → Nat) (g r cap m : Nat) : Prop := ∀ w, MS k E f g r cap w → Calls Tryd.prog 40 #[.pointer (some ⟨g, 0, none⟩), .int .i64 (m : Nat)] w (PairPost (seatsF k E f m).1 (seatsF k E f m).2 w)
theorem list_cells3 {l : List Nat} {n : Nat} {w0 w : World} {v : Value} (hl : l.length = n) (h : Rd w (fun i => w0.heap.size ≤ i) 1 v n (ints l)) (h0 : 1 ≤ n) : ∃ q off cap, v = .slice (some ⟨q, off, none⟩) n cap ∧ n ≤ cap ∧ ∀ j x, l[j]? = some x → w.cell? ⟨q, off + j, none⟩ = some (.int .i64 (x : Nat)) := by
  obtain ⟨_, hm, h3⟩ := h
  rcases h3 with ⟨_, hn⟩ | ⟨b, off, cap, hv, hc, hb, hx⟩
  · omega
  · refine ⟨b, off, cap, hv, hc, fun j x hj => hx j _ ?_⟩
    simp [ints, hj]

set_option maxHeartbeats 4000000 in
theorem winnerM_of {k E : Nat} {f : Nat → Nat} {g r cap m : Nat} (hs : SeatsMK k E f g r cap m) {w : World} (hM : MS k E f g r cap w) (hm : m + 1 < 2 ^ k) : Calls Tryd.prog 39 #[.pointer (some ⟨g, 0, none⟩), .int .i64 (m : Nat)] w fun e w' => e = .returned (.int .i64 (winF k E f m)) ∧ Kept No w w' := by
  have hle := hM.z.le
  have hf := hM.le m
  have cr := hM.row
  have cm := hM.won m hm
  obtain ⟨⟨x, y⟩, hxy⟩ : ∃ s, seatsF k E f m = s := ⟨_, rfl⟩
  have hwin : winF k E f m = pick (f m) (x, y) := by unfold winF; rw [hxy]
  have HC := Lib.hid (fun w (hM : MS k E f g r cap w) => (show Calls Tryd.prog 40 #[.pointer (some ⟨g, 0, none⟩), .int .i64 (m : Nat)] w (PairPost x y w) by have := hs w hM; rw [hxy] at this; exact this))
  obtain ⟨R, hR⟩ : ∃ R, winF k E f m = R := ⟨_, rfl⟩
  rw [hR] at hwin
  rw [hR]
  obtain ⟨S, hS⟩ : ∃ S, 2 ^ k = S := ⟨_, rfl⟩
  rw [hS] at cr hm hle
  obtain ⟨d, hd⟩ : ∃ d, f m = d := ⟨_, rfl⟩
  rw [hd] at hf hwin cm
  have HM := Lib.hid hM
  have hb0 : (0 : Int) ≤ (m : Int) := by omega
  have hb1 : (m : Int) < ((S - 1 : Nat) : Int) := by omega
  have hb2 : m < S - 1 := by omega
  clear hs hxy hR hS hd hM hm
  obtain rfl | rfl | rfl : d = 0 ∨ d = 1 ∨ d = 2 := by omega
  · have HR := Lib.hid (show R = -1 from hwin)
    clear hwin
    go_enter Tryd.func39, Tryd.ntmps39
    go_wp2_with fail
    go_ret
    exact ⟨by rw [HR.out]; rfl, Kept.refl No w⟩
  · have HR := Lib.hid (show R = x from hwin)
    clear hwin
    go_enter Tryd.func39, Tryd.ntmps39
    go_wp2_with fail
    go_region_with (first | (go_at_call 40; (with_reducible refine (HC.out _ (HM.out.no (by first | exact Kept.refl No _ | exact (Kept.refl No w).drew))).mono ?_); rintro e9 wz ⟨q, rfl, hq, hcell, hk⟩; have cr := hk.cell cr (not_no _); have cm := hk.cell cm (not_no _); have cx := obj_cell hcell 0; have cy := obj_cell hcell 1; have HK := Lib.hid (show Kept No w wz from hk.of_drew); clear hcell hq hk))
    all_goals
      go_wp2_with fail
      go_ret
      exact ⟨by rw [HR.out]; rfl, HK.out⟩
  · have HR := Lib.hid (show R = y from hwin)
    clear hwin
    go_enter Tryd.func39, Tryd.ntmps39
    go_wp2_with fail
    go_region_with (first | (go_at_call 40; (with_reducible refine (HC.out _ (HM.out.no (by first | exact Kept.refl No _ | exact (Kept.refl No w).drew))).mono ?_); rintro e9 wz ⟨q, rfl, hq, hcell, hk⟩; have cr := hk.cell cr (not_no _); have cm := hk.cell cm (not_no _); have cx := obj_cell hcell 0; have cy := obj_cell hcell 1; have HK := Lib.hid (show Kept No w wz from hk.of_drew); clear hcell hq hk))
    all_goals
      go_wp2_with fail
      go_ret
      exact ⟨by rw [HR.out]; rfl, HK.out⟩
end Go.Proofs.YtphlpclhmodekaaDoor
