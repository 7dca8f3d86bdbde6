/-
  Bracket, the document's model: how it lies; from, order.
-/
import Derived.Test.YtphlpclhmodekaaDoorWalkN
import Derived.StillTailTactics
set_option linter.unusedVariables false
set_option linter.unusedSimpArgs false
namespace Go.Proofs.YtphlpclhmodekaaDoor
open Go.RowKit Go.Zn
attribute [local go_sem] Oper.semAt_some

/-- the model lies in block g, its decisions in block r -/
structure MS (k E : Nat) (f : Nat → Nat) (g r cap : Nat) (w : World) : Prop where
  z : Sz k E
  le : ∀ m, f m ≤ 2
  hm : w.heap[g]? = some (.cells #[.int .i64 (E : Nat), .int .i64 ((2 ^ k : Nat) : Int), .slice (some ⟨r, 0, none⟩) (2 ^ k - 1) cap] 54 (0, 0))
  won : ∀ i, i + 1 < 2 ^ k → w.cell? ⟨r, i, none⟩ = some (.int .i64 ((f i : Nat) - 1 : Int))
  fr : ∀ i, i + 1 < 2 ^ k → w.frozen? ⟨r, i, none⟩ = false
  ne : g ≠ r
theorem MS.rlt {k E : Nat} {f : Nat → Nat} {g r cap : Nat} {w : World} (h : MS k E f g r cap w) : r < w.heap.size := by
  have := pow_le' h.z.one
  exact block_lt_of_cell (h.won 0 (by omega))
theorem MS.glt {k E : Nat} {f : Nat → Nat} {g r cap : Nat} {w : World} (h : MS k E f g r cap w) : g < w.heap.size := obj_lt h.hm
theorem MS.to {k E : Nat} {f : Nat → Nat} {g r cap : Nat} {S : Nat → Prop} {w w' : World} (h : MS k E f g r cap w) (hk : Kept S w w') (hg : ¬ S g) (hr : ¬ S r) : MS k E f g r cap w' :=
  ⟨h.z, h.le, hk.obj h.hm hg, fun i hi => hk.cell (h.won i hi) hr, fun i hi => by rw [hk.frozen h.rlt hr]; exact h.fr i hi, h.ne⟩
theorem MS.no {k E : Nat} {f : Nat → Nat} {g r cap : Nat} {w w' : World} (h : MS k E f g r cap w) (hk : Kept No w w') : MS k E f g r cap w' := h.to hk (not_no _) (not_no _)
theorem MS.ent {k E : Nat} {f : Nat → Nat} {g r cap : Nat} {w : World} (h : MS k E f g r cap w) : w.cell? ⟨g, 0, none⟩ = some (.int .i64 (E : Nat)) := by rw [obj_cell h.hm 0]; rfl
theorem MS.size {k E : Nat} {f : Nat → Nat} {g r cap : Nat} {w : World} (h : MS k E f g r cap w) : w.cell? ⟨g, 1, none⟩ = some (.int .i64 ((2 ^ k : Nat) : Int)) := by rw [obj_cell h.hm 1]; rfl
theorem MS.row {k E : Nat} {f : Nat → Nat} {g r cap : Nat} {w : World} (h : MS k E f g r cap w) : w.cell? ⟨g, 2, none⟩ = some (.slice (some ⟨r, 0, none⟩) (2 ^ k - 1) cap) := by rw [obj_cell h.hm 2]; rfl
theorem MS.put {k E : Nat} {f : Nat → Nat} {g r cap : Nat} {w : World} (h : MS k E f g r cap w) {m v : Nat} (hm : m + 1 < 2 ^ k) (hv : v ≤ 2) : MS k E (upd f m v) g r cap (w.setCell ⟨r, m, none⟩ (.int .i64 ((v : Nat) - 1 : Int))) := by
  refine ⟨h.z, fun i => ?_, obj_setCell h.hm _ (fun e => h.ne e), fun i hi => ?_, fun i hi => ?_, h.ne⟩
  · unfold upd; split; exact hv; exact h.le i
  · by_cases e : i = m
    · subst e
      rw [upd_same]
      exact World.cell?_setCell_same' _ _ _ (by rw [h.won i hi]; rfl)
    · rw [upd_ne _ _ e]
      refine Eq.trans ?_ (h.won i hi)
      apply World.cell?_setCell_other
      intro hh
      injection hh with h1 h2
      omega
  · rw [World.frozen?_setCell]
    exact h.fr i hi

/-- the first match of a round, and how many it has -/
def FromPost (k m : Nat) (w0 : World) (e : Ending) (w' : World) : Prop :=
  ∃ a h : Nat, e = .returned (.tuple #[.int .i64 (a : Nat), .int .i64 (h : Nat)]) ∧ a + 2 * h = 2 ^ k ∧ a ≤ m ∧ m < a + h ∧ (a = 0 ∨ 2 ^ k ≤ 2 * a) ∧ Kept No w0 w'
def FRel (k m : Nat) (w0 : World) (av hv : Value) (wr : World) : Prop :=
  ∃ a j : Nat, av = .int .i64 (a : Nat) ∧ hv = .int .i64 ((2 ^ j : Nat) : Int) ∧ a + 2 * 2 ^ j = 2 ^ k ∧ a ≤ m ∧ (a = 0 ∨ 2 ^ k ≤ 2 * a) ∧ Kept No w0 wr
theorem from_any {k E : Nat} {f : Nat → Nat} {g r cap : Nat} {w : World} (hM : MS k E f g r cap w) {m : Nat} (hm : m + 1 < 2 ^ k) : Calls Tryd.prog 52 #[.pointer (some ⟨g, 0, none⟩), .int .i64 (m : Nat)] w (FromPost k m w) := by
  have hle := hM.z.le
  have c1 := hM.size
  obtain ⟨H, hH, hH1, hH2, hHk⟩ := hM.z.pow
  have hk1 := hM.z.one
  rw [hH] at c1
  have q2 : wrap64 (((2 * H : Nat) : Int) / 2) = H := (IntWalk.wrap64_in _ (by omega)).trans (by omega)
  have q2' : wrap64 ((2 * (H : Int)) / 2) = H := (IntWalk.wrap64_in _ (by omega)).trans (by omega)
  have HX := Lib.hid (And.intro hH (And.intro hHk (And.intro hle hm)))
  clear hH hHk hle hm
  go_enter Tryd.func52, Tryd.ntmps52
  go_wp2_with fail
  go_quiet (fail)
  go_wp2_with fail
  go_loopw [6, 7] (fun av hv wr => FRel k m w av hv wr) (fun av _ _ => 64 - (intOf av).toNat)
  case atStart => exact ⟨0, k - 1, rfl, by rw [HX.out.2.1], by have := HX.out.1; have := HX.out.2.1; omega, Nat.zero_le _, .inl rfl, (Kept.refl No w).drewN nq⟩
  case round =>
    obtain ⟨a, j, rfl, rfl, hs, ham, ha0, hk⟩ := hrel
    have HK := Lib.hid hk
    have hp := Nat.one_le_two_pow (n := j)
    obtain ⟨h, hh⟩ : ∃ h, 2 ^ j = h := ⟨_, rfl⟩
    rw [hh] at hs hp ⊢
    have h64 : a + 2 * h ≤ 64 := by rw [hs]; exact HX.out.2.2.1
    have q3 : IntKind.i64.wrap ((a : Int) + h) = (a : Int) + h := IntWalk.i64_in _ (by omega)
    have HS := Lib.hid (And.intro hs (And.intro ham (And.intro ha0 hh)))
    by_cases hlt : a + h ≤ m
    · have d1 : decide ((a : Int) + h ≤ m) = true := decide_eq_true (by omega)
      have hj0 : j ≠ 0 := fun e => by rw [e] at hh; simp at hh; have := HX.out.2.2.2; omega
      obtain ⟨i, rfl⟩ : ∃ i, j = i + 1 := ⟨j - 1, by omega⟩
      have hhi : h = 2 * 2 ^ i := by rw [← hh]; omega
      have q4 : wrap64 ((h : Int) / 2) = ((2 ^ i : Nat) : Int) := (IntWalk.wrap64_in _ (by omega)).trans (by omega)
      obtain ⟨h2, hh2⟩ : ∃ h2, 2 ^ i = h2 := ⟨_, rfl⟩
      rw [hh2] at q4 hhi
      have HLT := Lib.hid (And.intro hlt (And.intro hhi hh2))
      clear hk hs ham ha0 hh hlt hhi hh2 hj0
      go_wp2_with fail
      obtain ⟨b1, b2, b3⟩ := HLT.out
      obtain ⟨s1, s2, s3, s4⟩ := HS.out
      exact ⟨⟨a + h, i, by go_num, by rw [b3]; congr 1; omega, by rw [b3]; omega, b1, by right; omega, HK.out⟩, by simp [intOf]; omega⟩
    · have d1 : decide ((a : Int) + h ≤ m) = false := decide_eq_false (by omega)
      have HLT := Lib.hid hlt
      clear hk hs ham ha0 hh hlt
      go_wp2_with fail
      go_ret2
      have hl := HLT.out
      obtain ⟨s1, s2, s3, s4⟩ := HS.out
      exact ⟨a, h, rfl, s1, s2, by omega, s3, HK.out⟩
end Go.Proofs.YtphlpclhmodekaaDoor
