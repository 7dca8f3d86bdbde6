/-
  Bracket: Report and Undo, each in one sentence, of the code and of the document's model.
-/
import Derived.Test.YtphlpclhmodekaaDoorWalk3
import Derived.Test.YtphlpclhmodekaaDoorWalk4
import Derived.Test.YtphlpclhmodekaaDoorWalk5
set_option linter.unusedVariables false
set_option linter.unusedSimpArgs false
namespace Go.Proofs.YtphlpclhmodekaaDoor
open Go.RowKit Go.Zn
attribute [local go_sem] Oper.semAt_some

/-- a report that is taken -/
def repOk (k E : Nat) (f : Nat → Nat) (m s : Int) : Bool := decide (s = 0 ∨ s = 1) && (decide (0 ≤ m ∧ m + 1 < ((2 ^ k : Nat) : Int)) && openF k E f m.toNat)
def repV (k E : Nat) (f : Nat → Nat) (m s : Int) : Int := if s = 0 ∨ s = 1 then (if m < 0 ∨ ((2 ^ k : Nat) : Int) - 1 ≤ m then 3 else if openF k E f m.toNat = true then 0 else 8) else 2
def repF (k E : Nat) (f : Nat → Nat) (m s : Int) : Nat → Nat := if repOk k E f m s = true then upd f m.toNat (s.toNat + 1) else f
theorem repF_no {k E : Nat} {f : Nat → Nat} {m s : Int} (h : repOk k E f m s = false) : repF k E f m s = f := by unfold repF; rw [h]; rfl
theorem rep_b {k E : Nat} {f : Nat → Nat} {b : Nat} {w : World} (hB : BS k E f b w) (m s : Int) : Calls Tryd.prog 13 #[.pointer (some ⟨b, 0, none⟩), .int .i64 m, .int .i64 s] w fun e w' => e = .returned (.int .i64 (repV k E f m s)) ∧ BS k E (repF k E f m s) b w' ∧ Kept (fun i => i = b) w w' := by
  by_cases hs : s = 0 ∨ s = 1
  · by_cases hm : m < 0 ∨ ((2 ^ k : Nat) : Int) - 1 ≤ m
    · have hF : repF k E f m s = f := repF_no (by unfold repOk; rw [decide_eq_false (show ¬ (0 ≤ m ∧ m + 1 < ((2 ^ k : Nat) : Int)) by omega)]; simp)
      have hV : repV k E f m s = 3 := by unfold repV; rw [if_pos hs, if_pos hm]
      rw [hF, hV]
      exact (report_out hB hs hm).mono fun e w' ⟨he, hw⟩ => ⟨he, hw ▸ hB, hw ▸ Kept.refl _ _⟩
    · obtain ⟨n, rfl⟩ := Int.eq_ofNat_of_zero_le (show 0 ≤ m by omega)
      have hn : n + 1 < 2 ^ k := by omega
      have hmm : (0 ≤ (n : Int) ∧ (n : Int) + 1 < ((2 ^ k : Nat) : Int)) := by omega
      cases ho : openF k E f n
      · have hF : repF k E f n s = f := repF_no (by unfold repOk; rw [show ((n : Int)).toNat = n by simp, ho]; simp)
        have hV : repV k E f n s = 8 := by unfold repV; rw [if_pos hs, if_neg hm, show ((n : Int)).toNat = n by simp, ho]; rfl
        rw [hF, hV]
        exact (report_shut hB hs hn ho).mono fun e w' ⟨he, hw⟩ => ⟨he, hw ▸ hB, hw ▸ Kept.refl _ _⟩
      · obtain ⟨t, rfl⟩ := Int.eq_ofNat_of_zero_le (show 0 ≤ s by omega)
        have hF : repF k E f n t = upd f n (t + 1) := by
          unfold repF
          rw [if_pos]
          · simp
          · unfold repOk; rw [decide_eq_true hs, decide_eq_true hmm, show ((n : Int)).toNat = n by simp, ho]; rfl
        have hV : repV k E f n t = 0 := by unfold repV; rw [if_pos hs, if_neg hm, show ((n : Int)).toNat = n by simp, ho]; rfl
        rw [hF, hV]
        exact report_open hB hn (by omega) ho
  · have hF : repF k E f m s = f := repF_no (by unfold repOk; rw [decide_eq_false hs]; simp)
    have hV : repV k E f m s = 2 := by unfold repV; rw [if_neg hs]
    rw [hF, hV]
    exact (report_arg hB m s (fun e => hs (.inl e)) (fun e => hs (.inr e))).mono fun e w' ⟨he, hw⟩ => ⟨he, hw ▸ hB, hw ▸ Kept.refl _ _⟩
theorem rep_m {k E : Nat} {f : Nat → Nat} {g r cap : Nat} {w : World} (hM : MS k E f g r cap w) (m s : Int) : Calls Tryd.prog 24 #[.pointer (some ⟨g, 0, none⟩), .int .i64 m, .int .i64 s] w fun e w' => e = .returned (.int .i64 (repV k E f m s)) ∧ MS k E (repF k E f m s) g r cap w' ∧ Kept (fun i => i = r) w w' := by
  by_cases hs : s = 0 ∨ s = 1
  · by_cases hm : m < 0 ∨ ((2 ^ k : Nat) : Int) - 1 ≤ m
    · have hF : repF k E f m s = f := repF_no (by unfold repOk; rw [decide_eq_false (show ¬ (0 ≤ m ∧ m + 1 < ((2 ^ k : Nat) : Int)) by omega)]; simp)
      have hV : repV k E f m s = 3 := by unfold repV; rw [if_pos hs, if_pos hm]
      rw [hF, hV]
      exact (reportM_out hM hs hm).mono fun e w' ⟨he, hw⟩ => ⟨he, hw ▸ hM, hw ▸ Kept.refl _ _⟩
    · obtain ⟨n, rfl⟩ := Int.eq_ofNat_of_zero_le (show 0 ≤ m by omega)
      have hn : n + 1 < 2 ^ k := by omega
      have hmm : (0 ≤ (n : Int) ∧ (n : Int) + 1 < ((2 ^ k : Nat) : Int)) := by omega
      cases ho : openF k E f n
      · have hF : repF k E f n s = f := repF_no (by unfold repOk; rw [show ((n : Int)).toNat = n by simp, ho]; simp)
        have hV : repV k E f n s = 8 := by unfold repV; rw [if_pos hs, if_neg hm, show ((n : Int)).toNat = n by simp, ho]; rfl
        rw [hF, hV]
        exact (reportM_shut hM hs hn ho).mono fun e w' ⟨he, hk⟩ => ⟨he, hM.no hk, hk.any⟩
      · obtain ⟨t, rfl⟩ := Int.eq_ofNat_of_zero_le (show 0 ≤ s by omega)
        have hF : repF k E f n t = upd f n (t + 1) := by
          unfold repF
          rw [if_pos]
          · simp
          · unfold repOk; rw [decide_eq_true hs, decide_eq_true hmm, show ((n : Int)).toNat = n by simp, ho]; rfl
        have hV : repV k E f n t = 0 := by unfold repV; rw [if_pos hs, if_neg hm, show ((n : Int)).toNat = n by simp, ho]; rfl
        rw [hF, hV]
        exact reportM_open hM hn (by omega) ho
  · have hF : repF k E f m s = f := repF_no (by unfold repOk; rw [decide_eq_false hs]; simp)
    have hV : repV k E f m s = 2 := by unfold repV; rw [if_neg hs]
    rw [hF, hV]
    exact (reportM_arg (k := k) (E := E) (f := f) (r := r) (cap := cap) m s (by omega)).mono fun e w' ⟨he, hw⟩ => ⟨he, hw ▸ hM, hw ▸ Kept.refl _ _⟩

/-- may be undone, by any number -/
def unOk (k E : Nat) (f : Nat → Nat) (m : Int) : Bool := decide (0 ≤ m ∧ m + 1 < ((2 ^ k : Nat) : Int)) && undoB k E f m.toNat
def unV (k E : Nat) (f : Nat → Nat) (m : Int) : Int := if m < 0 ∨ ((2 ^ k : Nat) : Int) - 1 ≤ m then 3 else if undoB k E f m.toNat = true then 0 else 8
def unF (k E : Nat) (f : Nat → Nat) (m : Int) : Nat → Nat := if unOk k E f m = true then upd f m.toNat 0 else f
theorem unF_no {k E : Nat} {f : Nat → Nat} {m : Int} (h : unOk k E f m = false) : unF k E f m = f := by unfold unF; rw [h]; rfl
theorem un_in {k E : Nat} {f : Nat → Nat} {n : Nat} (hn : n + 1 < 2 ^ k) : (undoB k E f n = true → unF k E f n = upd f n 0 ∧ unV k E f n = 0) ∧ (undoB k E f n = false → unF k E f n = f ∧ unV k E f n = 8) := by
  have hmm : (0 ≤ (n : Int) ∧ (n : Int) + 1 < ((2 ^ k : Nat) : Int)) := by omega
  have hm : ¬ ((n : Int) < 0 ∨ ((2 ^ k : Nat) : Int) - 1 ≤ (n : Int)) := by omega
  constructor
  · intro h
    refine ⟨?_, ?_⟩
    · unfold unF
      rw [if_pos]
      · simp
      · unfold unOk; rw [decide_eq_true hmm, show ((n : Int)).toNat = n by simp, h]; rfl
    · unfold unV; rw [if_neg hm, show ((n : Int)).toNat = n by simp, h]; rfl
  · intro h
    refine ⟨unF_no (by unfold unOk; rw [show ((n : Int)).toNat = n by simp, h]; simp), ?_⟩
    unfold unV; rw [if_neg hm, show ((n : Int)).toNat = n by simp, h]; rfl
theorem un_out {k E : Nat} {f : Nat → Nat} {m : Int} (hm : m < 0 ∨ ((2 ^ k : Nat) : Int) - 1 ≤ m) : unF k E f m = f ∧ unV k E f m = 3 := by
  refine ⟨unF_no (by unfold unOk; rw [decide_eq_false (show ¬ (0 ≤ m ∧ m + 1 < ((2 ^ k : Nat) : Int)) by omega)]; rfl), ?_⟩
  unfold unV; rw [if_pos hm]
theorem un_cases {k E : Nat} {f : Nat → Nat} (hwf : WF k E f) (n : Nat) :
    (f n = 0 ∧ undoB k E f n = false) ∨ (byeF k E n = true ∧ undoB k E f n = false) ∨ (f n ≠ 0 ∧ byeF k E n = false ∧ f (nextF k n) ≠ 0 ∧ n + 2 < 2 ^ k ∧ undoB k E f n = false) ∨
    (f n ≠ 0 ∧ byeF k E n = false ∧ f (nextF k n) = 0 ∧ n + 2 < 2 ^ k ∧ undoB k E f n = true) ∨ (f n ≠ 0 ∧ byeF k E n = false ∧ ¬ n + 2 < 2 ^ k ∧ undoB k E f n = true) := by
  unfold undoB
  by_cases h0 : f n = 0
  · exact .inl ⟨h0, by simp [h0]⟩
  · cases hb : byeF k E n
    · by_cases hl : n + 2 < 2 ^ k
      · by_cases hx : f (nextF k n) = 0
        · exact .inr (.inr (.inr (.inl ⟨h0, rfl, hx, hl, by simp [h0, hx]⟩)))
        · exact .inr (.inr (.inl ⟨h0, rfl, hx, hl, by simp [hx, hl]⟩))
      · exact .inr (.inr (.inr (.inr ⟨h0, rfl, hl, by simp [h0, hl]⟩)))
    · exact .inr (.inl ⟨rfl, by simp⟩)
theorem un_b {k E : Nat} {f : Nat → Nat} {b : Nat} {w : World} (hB : BS k E f b w) (m : Int) : Calls Tryd.prog 14 #[.pointer (some ⟨b, 0, none⟩), .int .i64 m] w fun e w' => e = .returned (.int .i64 (unV k E f m)) ∧ BS k E (unF k E f m) b w' ∧ Kept (fun i => i = b) w w' := by
  by_cases hm : m < 0 ∨ ((2 ^ k : Nat) : Int) - 1 ≤ m
  · obtain ⟨hF, hV⟩ := un_out (E := E) (f := f) hm
    rw [hF, hV]
    exact (undo_out hB hm).mono fun e w' ⟨he, hw⟩ => ⟨he, hw ▸ hB, hw ▸ Kept.refl _ _⟩
  · obtain ⟨n, rfl⟩ := Int.eq_ofNat_of_zero_le (show 0 ≤ m by omega)
    have hn : n + 1 < 2 ^ k := by omega
    obtain ⟨h1, h2⟩ := un_in (E := E) (f := f) hn
    rcases un_cases hB.wf n with ⟨h0, hu⟩ | ⟨hb, hu⟩ | ⟨h0, hb, hx, hl, hu⟩ | ⟨h0, hb, hx, hl, hu⟩ | ⟨h0, hb, hl, hu⟩
    · rw [(h2 hu).1, (h2 hu).2]; exact (undo_not hB hn h0).mono fun e w' ⟨he, hk⟩ => ⟨he, hB.to hk (not_no _), hk.any⟩
    · rw [(h2 hu).1, (h2 hu).2]; exact (undo_bye hB hn hb).mono fun e w' ⟨he, hk⟩ => ⟨he, hB.to hk (not_no _), hk.any⟩
    · rw [(h2 hu).1, (h2 hu).2]; exact (undo_done hB hn hb h0 hl hx).mono fun e w' ⟨he, hk⟩ => ⟨he, hB.to hk (not_no _), hk.any⟩
    · rw [(h1 hu).1, (h1 hu).2]; exact undo_next hB hn hb h0 hl hx
    · rw [(h1 hu).1, (h1 hu).2]; exact undo_last hB hn hb h0 hl
theorem un_m {k E : Nat} {f : Nat → Nat} {g r cap : Nat} {w : World} (hM : MS k E f g r cap w) (hwf : WF k E f) (m : Int) : Calls Tryd.prog 47 #[.pointer (some ⟨g, 0, none⟩), .int .i64 m] w fun e w' => e = .returned (.int .i64 (unV k E f m)) ∧ MS k E (unF k E f m) g r cap w' ∧ Kept (fun i => i = r) w w' := by
  by_cases hm : m < 0 ∨ ((2 ^ k : Nat) : Int) - 1 ≤ m
  · obtain ⟨hF, hV⟩ := un_out (E := E) (f := f) hm
    rw [hF, hV]
    exact (undoM_out hM hm).mono fun e w' ⟨he, hw⟩ => ⟨he, hw ▸ hM, hw ▸ Kept.refl _ _⟩
  · obtain ⟨n, rfl⟩ := Int.eq_ofNat_of_zero_le (show 0 ≤ m by omega)
    have hn : n + 1 < 2 ^ k := by omega
    obtain ⟨h1, h2⟩ := un_in (E := E) (f := f) hn
    rcases un_cases hwf n with ⟨h0, hu⟩ | ⟨hb, hu⟩ | ⟨h0, hb, hx, hl, hu⟩ | ⟨h0, hb, hx, hl, hu⟩ | ⟨h0, hb, hl, hu⟩
    · rw [(h2 hu).1, (h2 hu).2]; exact (undoM_not hM hn h0).mono fun e w' ⟨he, hw⟩ => ⟨he, hw ▸ hM, hw ▸ Kept.refl _ _⟩
    · rw [(h2 hu).1, (h2 hu).2]; exact (undoM_bye hM hwf hn hb).mono fun e w' ⟨he, hk⟩ => ⟨he, hM.no hk, hk.any⟩
    · rw [(h2 hu).1, (h2 hu).2]; exact (undoM_done hM hwf hn hb h0 hx).mono fun e w' ⟨he, hk⟩ => ⟨he, hM.no hk, hk.any⟩
    · rw [(h1 hu).1, (h1 hu).2]; exact undoM_next hM hwf hn hb h0 hl hx
    · rw [(h1 hu).1, (h1 hu).2]; exact undoM_last hM hwf hn hb h0 hl
theorem AS.bg {k E : Nat} {f f2 : Nat → Nat} {b g r cap : Nat} {w : World} (hB : BS k E f b w) (hM : MS k E f2 g r cap w) : b ≠ g := by
  rintro rfl
  have h := hB.hb.symm.trans hM.hm
  have h2 := congrArg (fun o : Option Obj => match o with | some (.cells _ t _) => t | _ => 0) h
  exact absurd (show (46 : TypeId) = 54 from h2) (by decide)
theorem AS.br {k E : Nat} {f f2 : Nat → Nat} {b g r cap : Nat} {w : World} (hB : BS k E f b w) (hM : MS k E f2 g r cap w) : b ≠ r := by
  rintro rfl
  have h1 := hB.z.one
  have h := hB.ent.symm.trans (hM.won 0 (by have := pow_le' h1; omega))
  have h3 := hM.le 0
  have h4 := hB.z.e64
  have h2 : (E : Int) = (f2 0 : Nat) - 1 := by injection (Option.some.inj h)
  omega
end Go.Proofs.YtphlpclhmodekaaDoor
