/-
  Bracket: Open.
-/
import Derived.Test.YtphlpclhmodekaaDoorWalkG
set_option linter.unusedVariables false
set_option linter.unusedSimpArgs false
namespace Go.Proofs.YtphlpclhmodekaaDoor
open Go.RowKit Go.Zn
attribute [local go_sem] Oper.semAt_some

theorem ei28 : SliceOf Tryd.prog 28 3 1 8 (.int .i64 0) := ⟨Tryd.underlying28, info_parts (by kernel_rfl), rfl, by decide, by decide⟩
def ints (l : List Nat) : List Value := l.map fun j => Value.int .i64 (j : Nat)
theorem ints_len (l : List Nat) : (ints l).length = l.length := by simp [ints]
theorem openL_len (k E : Nat) (f : Nat → Nat) (n : Nat) : (openL k E f n).length ≤ n := by
  unfold openL
  refine Nat.le_trans (List.length_filter_le _ _) ?_
  simp
/-- a list of numbers that was made -/
def ListPost (l : List Nat) (w0 : World) (e : Ending) (w' : World) : Prop :=
  ∃ v, e = .returned v ∧ Rd w' (fun i => w0.heap.size ≤ i) 1 v l.length (ints l) ∧ Kept No w0 w'
def ORel (k E : Nat) (f : Nat → Nat) (base S : Nat) (w0 : World) (v i : Value) (wr : World) : Prop :=
  ∃ j : Nat, i = .int .i64 (j : Nat) ∧ j + 1 ≤ S ∧ wr.ownsRow base 3 1 v (openL k E f j).length (ints (openL k E f j)) ∧ Kept No w0 wr
set_option maxRecDepth 100000 in
theorem openl_any {k E : Nat} {f : Nat → Nat} {b : Nat} {w : World} (hB : BS k E f b w) : Calls Tryd.prog 10 #[.pointer (some ⟨b, 0, none⟩)] w (ListPost (openL k E f (2 ^ k - 1)) w) := by
  have hle := hB.z.le
  have HN := Lib.hid (fun w (hB : BS k E f b w) => none_no hB)
  have HO := Lib.hid (fun w (hB : BS k E f b w) m (hm : m + 1 < 2 ^ k) => open_any hB hm)
  have hp := Nat.one_le_two_pow (n := k)
  obtain ⟨S, hS⟩ : ∃ S, 2 ^ k = S := ⟨_, rfl⟩
  have c1 : w.cell? ⟨b, 1, none⟩ = some (.int .i64 (S : Nat)) := by rw [← hS]; exact hB.size
  have HB := Lib.hid hB
  rw [hS] at hle hp HO
  rw [hS]
  have q0 : IntKind.i64.wrap ((S : Int) - 1) = (S : Int) - 1 := IntWalk.i64_in _ (by omega)
  clear hB hS
  go_enter Tryd.func10, Tryd.ntmps10
  go_wp2_with fail
  refine (HN.out _ HB.out).mono ?_
  rintro e w1 ⟨rfl, hk⟩
  have hk := hk.symm
  subst hk
  go_wp2_with fail
  go_loopw [3, 12] (fun v i wr => ORel k E f w.heap.size S w v i wr) (fun _ i _ => S - (intOf i).toNat)
  case atStart => exact ⟨0, rfl, by omega, World.ownsRow_nil _ _ _ _, Kept.refl _ _⟩
  case round =>
    obtain ⟨j, rfl, hj, hown, hk⟩ := hrel
    have HBR := Lib.hid (HB.out.to hk (not_no _))
    obtain ⟨ad, cap, rfl⟩ := owned_slice hown
    obtain ⟨n, hn⟩ : ∃ n, (openL k E f j).length = n := ⟨_, rfl⟩
    have hnj : n ≤ j := by rw [← hn]; exact openL_len k E f j
    rw [hn] at hown ⊢
    have HW := Lib.hid hown
    have HK := Lib.hid hk
    have HNN := Lib.hid hn
    have hnn : n ≤ 64 := by omega
    clear hown hk hn hnj
    by_cases hlt : j + 1 < S
    · have d1 : decide ((j : Int) < (S : Int) - 1) = true := decide_eq_true (by omega)
      have HJ := Lib.hid hlt
      clear hlt
      cases hr : openF k E f j
      · have HC := Lib.hid (show ∀ w, BS k E f b w → Calls Tryd.prog 31 #[.pointer (some ⟨b, 0, none⟩), .int .i64 (j : Nat)] w fun e w' => e = .returned (.bool false) ∧ w' = w from fun w hB => hr ▸ HO.out w hB j HJ.out)
        have HR := Lib.hid hr
        clear hr
        go_wp2_with fail
        refine (HC.out _ HBR.out).mono ?_
        rintro e w1 ⟨rfl, hk⟩
        have hk := hk.symm
        subst hk
        go_wp2_with fail
        have hj3 := HJ.out
        refine ⟨⟨j + 1, by go_num, by omega, ?_, HK.out⟩, by simp [intOf]; omega⟩
        rw [openL_succ, HR.out]
        simp only [Bool.false_eq_true, if_false]
        rw [HNN.out]
        exact HW.out
      · have HC := Lib.hid (show ∀ w, BS k E f b w → Calls Tryd.prog 31 #[.pointer (some ⟨b, 0, none⟩), .int .i64 (j : Nat)] w fun e w' => e = .returned (.bool true) ∧ w' = w from fun w hB => hr ▸ HO.out w hB j HJ.out)
        have HR := Lib.hid hr
        have HO1 := Lib.hid (HW.out.alloc (.cells #[.int .i64 (j : Nat)] 3))
        have HS1 := Lib.hid (show w.heap.size ≤ (wr.alloc (.cells #[.int .i64 (j : Nat)] 3)).heap.size by have := HK.out.size; simp; omega)
        have HB1 := Lib.hid (show (n + 1) * 8 ≤ 140737488355328 by omega)
        clear hr
        go_wp2_with fail
        refine (HC.out _ HBR.out).mono ?_
        rintro e w1 ⟨rfl, hk⟩
        have hk := hk.symm
        subst hk
        go_wp2_with (at_builtin; refine wpList_append_rd rfl rfl rfl rfl ei28 HO1.out (rd_new1 wr (.int .i64 (j : Nat)) 3) (by intro u hu; simp at hu; rw [hu]; rfl) HB1.out HS1.out ?_; intro v2 w2 hown2 hg2 _; obtain ⟨ad2, cap2, rfl⟩ := owned_slice hown2; have HO2 := Lib.hid hown2; have HK2 := Lib.hid (show Kept No w w2 from (HK.out.alloc _).grown hg2 (fun k e hlt => by have := (HO1.out.lt k e).1; omega)); clear hown2 hg2)
        have hj3 := HJ.out
        refine ⟨⟨j + 1, by go_num, by omega, ?_, HK2.out⟩, by simp [intOf]; omega⟩
        rw [openL_succ, HR.out]
        simp only [if_true]
        have e2 : (openL k E f j ++ [j]).length = n + 1 := by rw [List.length_append, HNN.out]; rfl
        rw [e2]
        have e3 : ints (openL k E f j ++ [j]) = ints (openL k E f j) ++ [.int .i64 (j : Nat)] := by simp [ints]
        rw [e3]
        exact HO2.out
    · have hjS : j = S - 1 := by omega
      have d1 : decide ((j : Int) < (S : Int) - 1) = false := decide_eq_false (by omega)
      have HJ := Lib.hid hjS
      clear hlt hjS
      go_wp2_with fail
      go_ret
      have ho := HW.out
      rw [HJ.out] at ho
      have hn2 := HNN.out
      rw [HJ.out] at hn2
      refine ⟨.slice ad n cap, rfl, ?_, HK.out⟩
      rw [hn2]
      exact rd_owned ho
end Go.Proofs.YtphlpclhmodekaaDoor
