/-
  Pool: clamping, ranges, what is in a list of kinds, the bare rule.
-/
import Derived.Test.YtclgoilfclmibaaGreatDoorLib
import Derived.Test.YtclgoilfclmibaaGreatDoorRows
import Derived.Test.YtclgoilfclmibaaGreatDoorL
set_option linter.unusedVariables false
set_option linter.unusedSimpArgs false
namespace Go.Proofs.YtclgoilfclmibaaGreatDoor
open Go.RowKit Go.Zn
attribute [local go_sem] Oper.semAt_some

def clampF (n most : Int) : Int := max 0 (min n most)
theorem clamp_any (n most : Int) (w : World) : Calls Tryz.prog 131 #[.int .i64 n, .int .i64 most] w fun e w' => e = .returned (.int .i64 (clampF n most)) ∧ w' = w := by
  go_enter Tryz.func131, Tryz.ntmps131
  go_wp2_with fail
  all_goals
    rename_i h0
    go_ret
    refine ⟨?_, rfl⟩
    show Ending.returned (Value.int .i64 _) = _
    congr 2
    unfold clampF
    (repeat split at h0) <;> omega
theorem within_clamp {n least most : Int} (h0 : 0 ≤ least) (h1 : least ≤ most) (h : least ≤ n) : (clampF n most == n) = decide (n ≤ most) := by
  unfold clampF
  by_cases h2 : n ≤ most
  · rw [decide_eq_true h2]; simp; omega
  · rw [decide_eq_false h2]; simp; omega
theorem ewithin_any (n : Int) {least most : Int} (h0 : 0 ≤ least) (h1 : least ≤ most) (w : World) : Calls Tryz.prog 130 #[.int .i64 n, .int .i64 least, .int .i64 most] w fun e w' => e = .returned (.bool (inB n least most)) ∧ w' = w := by
  have HC := Lib.hid (clamp_any n most w)
  by_cases h : least ≤ n
  · have d1 : decide (least ≤ n) = true := decide_eq_true h
    have HR := Lib.hid (show inB n least most = (clampF n most == n) by rw [within_clamp h0 h1 h]; unfold inB; rw [d1]; rfl)
    clear h h0 h1
    go_enter Tryz.func130, Tryz.ntmps130
    go_wp2_with fail
    refine HC.out.mono ?_
    rintro e w1 ⟨rfl, rfl⟩
    go_wp2_with fail
    go_ret
    exact ⟨by rw [HR.out]; rfl, rfl⟩
  · have d1 : decide (least ≤ n) = false := decide_eq_false h
    have HR := Lib.hid (show inB n least most = false by unfold inB; rw [d1]; rfl)
    clear h h0 h1
    go_enter Tryz.func130, Tryz.ntmps130
    go_wp2_with fail
    go_ret
    exact ⟨by rw [HR.out]; rfl, rfl⟩
theorem cwithin_any (n least most : Int) (w : World) : Calls Tryz.prog 50 #[.int .i64 n, .int .i64 least, .int .i64 most] w fun e w' => e = .returned (.bool (inB n least most)) ∧ w' = w := by
  obtain ⟨v, hv⟩ : ∃ v, decide (n ≤ most) = v := ⟨_, rfl⟩
  by_cases h : least ≤ n
  · have d1 : decide (least ≤ n) = true := decide_eq_true h
    have HR := Lib.hid (show inB n least most = v by unfold inB; rw [d1, hv]; rfl)
    clear h
    go_enter Tryz.func50, Tryz.ntmps50
    go_wp2_with fail
    go_ret
    exact ⟨by rw [HR.out]; rfl, rfl⟩
  · have d1 : decide (least ≤ n) = false := decide_eq_false h
    have HR := Lib.hid (show inB n least most = false by unfold inB; rw [d1]; rfl)
    clear h
    go_enter Tryz.func50, Tryz.ntmps50
    go_wp2_with fail
    go_ret
    exact ⟨by rw [HR.out]; rfl, rfl⟩

/-- whole numbers as cells -/
def ivals (l : List Int) : List Value := l.map fun n => Value.int .i64 n
@[simp] theorem ivals_length (l : List Int) : (ivals l).length = l.length := by simp [ivals]
theorem ivals_one (l : List Int) : ∀ u ∈ ivals l, u.oneCell' = true := by
  intro u hu
  obtain ⟨b, _, rfl⟩ := List.mem_map.1 hu
  rfl
theorem ivals_get (l : List Int) (j : Nat) : (ivals l)[j]? = (l[j]?).map fun n => Value.int .i64 n := by simp [ivals]
/-- the first place of a number, -1 for none -/
def idxF (K : List Int) (x : Int) : Int := if x ∈ K then (K.findIdx fun y => x == y : Nat) else -1
theorem idxF_at {K : List Int} {x : Int} {i : Nat} (hi : i < K.length) (h : x ∉ K.take i) (hx : x = K[i]) : idxF K x = i := by
  have hm : x ∈ K := by rw [hx]; exact List.getElem_mem hi
  unfold idxF
  rw [if_pos hm]
  congr 1
  refine (List.findIdx_eq hi).2 ⟨by simp [hx], fun j hj => ?_⟩
  have hne : x ≠ K[j] := fun e => h (by
    rw [List.mem_iff_getElem]
    exact ⟨j, by rw [List.length_take]; omega, by rw [List.getElem_take]; exact e.symm⟩)
  exact beq_false_of_ne hne
theorem idxF_no {K : List Int} {x : Int} (h : x ∉ K) : idxF K x = -1 := by unfold idxF; rw [if_neg h]
theorem idxF_ge (K : List Int) (x : Int) : decide (0 ≤ idxF K x) = K.contains x := by
  unfold idxF
  by_cases h : x ∈ K
  · rw [if_pos h, List.contains_iff_mem.2 h]; exact decide_eq_true (by omega)
  · rw [if_neg h]
    have : K.contains x = false := by simpa using h
    rw [this]
    decide
def IdxRel (K : List Int) (x : Int) (w0 : World) (iv : Value) (wr : World) : Prop := ∃ i : Nat, iv = .int .i64 (i : Nat) ∧ i ≤ K.length ∧ x ∉ K.take i ∧ wr = w0
theorem index_any {K : List Int} (hK : K.length ≤ 100) (x : Int) {w : World} {B : Nat → Prop} {v : Value} (hv : Rd w B 1 v K.length (ivals K)) : Calls Tryz.prog 128 #[v, .int .i64 x] w fun e w' => e = .returned (.int .i64 (idxF K x)) ∧ w' = w := by
  obtain ⟨ad, cap, rfl⟩ := rd_slice hv
  obtain ⟨n, hn⟩ : ∃ n, K.length = n := ⟨_, rfl⟩
  have HN := Lib.hid hn
  have HV := Lib.hid hv
  rw [hn] at hK ⊢
  rw [hn] at HV
  clear hv hn
  go_enter Tryz.func128, Tryz.ntmps128
  go_wp2_with fail
  go_loopw [8] (fun iv wr => IdxRel K x w iv wr) (fun iv _ => n - (intOf iv).toNat)
  case atStart => exact ⟨0, rfl, Nat.zero_le _, by simp, rfl⟩
  case round =>
    obtain ⟨i, rfl, hi, hf, rfl⟩ := hrel
    rw [HN.out] at hi
    have HF := Lib.hid hf
    by_cases hlt : i < n
    · have hil : i < K.length := by rw [HN.out]; exact hlt
      obtain ⟨_, _, ⟨_, h0⟩ | ⟨b, off, c1, he, _, _, hc⟩⟩ := HV.out
      · omega
      have g1 := hc i _ (by rw [ivals_get, List.getElem?_eq_getElem hil]; rfl)
      cases he
      have HT := Lib.hid (show K.take (i + 1) = K.take i ++ [K[i]] by rw [List.take_add_one, List.getElem?_eq_getElem hil]; rfl)
      have HY := Lib.hid (fun hx => idxF_at (x := x) hil HF.out hx)
      obtain ⟨y, hy⟩ : ∃ y, K[i] = y := ⟨_, rfl⟩
      rw [hy] at g1 HT HY
      have d1 : decide (i < n) = true := decide_eq_true hlt
      have hi0 : (0 : Int) ≤ (i : Int) := by omega
      have hin : (i : Int) < (n : Int) := by omega
      have q4 : IntKind.i64.wrap ((i : Int) + 1) = (i : Int) + 1 := IntWalk.i64_in _ (by omega)
      have HI := Lib.hid hlt
      clear hf hlt hc hy hil
      by_cases h1 : x = y
      · have d2 : (x == y) = true := by simpa using h1
        have HR := Lib.hid (HY.out h1)
        clear h1
        go_wp2_with fail
        go_ret
        exact ⟨by rw [HR.out]; rfl, rfl⟩
      · have d2 : (x == y) = false := by simpa using h1
        have HR := Lib.hid (show x ∉ K.take (i + 1) by rw [HT.out]; simp [h1]; exact HF.out)
        clear h1
        go_wp2_with fail
        have hI := HI.out
        exact ⟨⟨i + 1, by go_num, by rw [HN.out]; omega, HR.out, rfl⟩, by simp [intOf]; omega⟩
    · have d1 : decide (i < n) = false := decide_eq_false hlt
      have HR := Lib.hid (show idxF K x = -1 by
        have := HF.out
        rw [List.take_of_length_le (by rw [HN.out]; omega)] at this
        exact idxF_no this)
      clear hf hlt
      go_wp2_with fail
      go_ret
      exact ⟨by rw [HR.out]; rfl, rfl⟩
theorem contains_any {K : List Int} (hK : K.length ≤ 100) (x : Int) {w : World} {B : Nat → Prop} {v : Value} (hv : Rd w B 1 v K.length (ivals K)) : Calls Tryz.prog 127 #[v, .int .i64 x] w fun e w' => e = .returned (.bool (K.contains x)) ∧ w' = w := by
  have HC := Lib.hid (index_any hK x hv)
  have HR := Lib.hid (idxF_ge K x)
  clear hv hK
  go_enter Tryz.func127, Tryz.ntmps127
  go_wp2_with fail
  refine HC.out.mono ?_
  rintro e w1 ⟨rfl, rfl⟩
  go_wp2_with fail
  go_ret
  exact ⟨by rw [← HR.out]; rfl, rfl⟩
end Go.Proofs.YtclgoilfclmibaaGreatDoor
