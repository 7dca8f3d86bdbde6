/-
  Pool: how many effects need a target; costs.
-/
import Derived.Test.YtclgoilfclmibaaGreatDoorWalkE
set_option linter.unusedVariables false
set_option linter.unusedSimpArgs false
namespace Go.Proofs.YtclgoilfclmibaaGreatDoor
open Go.RowKit Go.Zn
attribute [local go_sem] Oper.semAt_some

theorem targets_snoc (l : List Eff) (e : Eff) : targets (l ++ [e]) = targets l + (if e.target = 0 then 0 else 1) := by
  unfold targets
  rw [List.filter_append, List.length_append]
  by_cases h : e.target = 0
  · rw [if_pos h]; simp [h]
  · rw [if_neg h]; simp [h]
theorem targets_le (l : List Eff) : targets l ≤ l.length := List.length_filter_le _ _
def TgRel (l : List Eff) (w0 : World) (iv nv : Value) (wr : World) : Prop := ∃ i : Nat, iv = .int .i64 (i : Nat) ∧ i ≤ l.length ∧ nv = .int .i64 (targets (l.take i) : Nat) ∧ Kept No w0 wr
set_option maxRecDepth 100000 in
theorem targets_any {l : List Eff} (hl : l.length ≤ 1000000) {w : World} {B : Nat → Prop} {v : Value} (hv : EffsAt w B v l) : Calls Tryz.prog 93 #[v] w fun x w' => x = .returned (.int .i64 (targets l : Nat)) ∧ Kept No w w' := by
  obtain ⟨ad, cap, rfl⟩ := rd_slice hv
  obtain ⟨n, hn⟩ : ∃ n, l.length = n := ⟨_, rfl⟩
  have HN := Lib.hid hn
  have HV := Lib.hid hv
  rw [hn] at hl ⊢
  rw [hn] at HV
  clear hv hn
  go_enter Tryz.func93, Tryz.ntmps93
  go_wp2_with fail
  go_loopw [8, 3] (fun iv nv wr => TgRel l w iv nv wr) (fun iv _ _ => n - (intOf iv).toNat)
  case atStart => exact ⟨0, rfl, Nat.zero_le _, rfl, Kept.refl No w⟩
  case round =>
    obtain ⟨i, rfl, hi, rfl, hk⟩ := hrel
    rw [HN.out] at hi
    have HK := Lib.hid hk
    by_cases hlt : i < n
    · have hil : i < l.length := by rw [HN.out]; exact hlt
      obtain ⟨e, he⟩ : ∃ e, l[i]? = some e := ⟨_, List.getElem?_eq_getElem hil⟩
      obtain ⟨b, off, c1, hs, g0, g1, g2, g3, g4⟩ := (HV.out.no hk).at he
      have HT := Lib.hid (show targets (l.take (i + 1)) = targets (l.take i) + (if e.target = 0 then 0 else 1) by rw [List.take_add_one, he]; exact targets_snoc _ _)
      rw [HN.out] at hs
      cases hs
      have hle := targets_le (l.take i)
      rw [List.length_take] at hle
      obtain ⟨t, ht⟩ : ∃ t, targets (l.take i) = t := ⟨_, rfl⟩
      rw [ht] at HT hle ⊢
      have d1 : decide (i < n) = true := decide_eq_true hlt
      have hi0 : (0 : Int) ≤ (i : Int) := by omega
      have hin : (i : Int) < (n : Int) := by omega
      have q4 : IntKind.i64.wrap ((i : Int) + 1) = (i : Int) + 1 := IntWalk.i64_in _ (by omega)
      have q5 : IntKind.i64.wrap ((t : Int) + 1) = (t : Int) + 1 := IntWalk.i64_in _ (by omega)
      have HI := Lib.hid hlt
      clear hk hlt hil he ht hle
      by_cases h0 : e.target = 0
      · rw [if_pos h0] at HT
        have d2 : (e.target != 0) = false := by simpa using h0
        clear h0
        go_wp2_with fail
        have hI := HI.out
        refine ⟨⟨i + 1, by go_num, by rw [HN.out]; omega, by rw [HT.out]; rfl, ?_⟩, by simp [intOf]; omega⟩
        first | exact HK.out.alloc _ | exact (HK.out.alloc _).put (by have := HK.out.size; simp; omega) _
      · rw [if_neg h0] at HT
        have d2 : (e.target != 0) = true := by simpa using h0
        clear h0
        go_wp2_with fail
        have hI := HI.out
        refine ⟨⟨i + 1, by go_num, by rw [HN.out]; omega, by rw [HT.out]; rfl, ?_⟩, by simp [intOf]; omega⟩
        first | exact HK.out.alloc _ | exact (HK.out.alloc _).put (by have := HK.out.size; simp; omega) _
    · have d1 : decide (i < n) = false := decide_eq_false hlt
      have HR := Lib.hid (show l.take i = l from List.take_of_length_le (by rw [HN.out]; omega))
      clear hlt hk
      go_wp2_with fail
      go_ret
      exact ⟨by rw [HR.out]; rfl, HK.out⟩
theorem plain_any {l : List Eff} (hl : l.length ≤ 1000000) {w : World} {B : Nat → Prop} {v : Value} (hv : EffsAt w B v l) : Calls Tryz.prog 76 #[v] w fun x w' => x = .returned (.bool (decide (targets l = 0))) ∧ Kept No w w' := by
  have HC := Lib.hid (targets_any hl hv)
  obtain ⟨t, ht⟩ : ∃ t, targets l = t := ⟨_, rfl⟩
  rw [ht] at HC ⊢
  have HR := Lib.hid (show ((t : Int) == 0) = decide (t = 0) by by_cases h : t = 0 <;> simp [h])
  clear hv hl ht
  go_enter Tryz.func76, Tryz.ntmps76
  go_wp2_with fail
  refine HC.out.mono ?_
  rintro e w1 ⟨rfl, hk⟩
  have HK := Lib.hid hk
  clear hk
  go_wp2_with fail
  go_ret
  exact ⟨by rw [← HR.out]; rfl, HK.out⟩
end Go.Proofs.YtclgoilfclmibaaGreatDoor
