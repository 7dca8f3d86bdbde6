/-
  Ticks: First of the program and of the reference.
-/
import Derived.Test.YtchoepcfaadpfaaDoorWalkA
import Derived.Deep.QuietTactic
import Derived.BigQuiet
namespace Go.Proofs.YtchoepcfaadpfaaDoor
open Go.RowKit Go.Zn

/-- some times that lie there -/
def Tms (w : World) (v : Value) (n : Nat) (X : Nat → Int) : Prop :=
  n ≤ 1000 ∧ (∀ k, k < n → Tm (X k)) ∧ ((n = 0 ∧ ∃ ad cap, v = .slice ad 0 cap) ∨ ∃ b off cap, v = .slice (some ⟨b, off, none⟩) n cap ∧ ∀ k, k < n → w.cell? ⟨b, off + k, none⟩ = some (.int .u64 (X k)))
theorem Tms.slice {w : World} {v : Value} {n : Nat} {X : Nat → Int} (h : Tms w v n X) : ∃ ad cap, v = .slice ad n cap := by
  obtain ⟨_, _, ⟨h0, ad, cap, h⟩ | ⟨b, off, cap, h, _⟩⟩ := h
  · subst h0; exact ⟨ad, cap, h⟩
  · exact ⟨_, _, h⟩
theorem Tms.at {w : World} {ad : Option Addr} {n cap : Nat} {X : Nat → Int} (h : Tms w (.slice ad n cap) n X) {k : Nat} (hk : k < n) : ∃ b off, ad = some ⟨b, off, none⟩ ∧ w.cell? ⟨b, off + k, none⟩ = some (.int .u64 (X k)) ∧ Tm (X k) := by
  obtain ⟨_, hb, ⟨h0, _⟩ | ⟨b, off, cap, h, hc⟩⟩ := h
  · omega
  · cases h
    exact ⟨b, off, rfl, hc k hk, hb k hk⟩
theorem Tms.kept {w w' : World} {v : Value} {n : Nat} {X : Nat → Int} (h : Tms w v n X) (hk : Kept No w w') : Tms w' v n X := by
  obtain ⟨h1, h2, h3 | ⟨b, off, cap, h, hc⟩⟩ := h
  · exact ⟨h1, h2, .inl h3⟩
  · exact ⟨h1, h2, .inr ⟨b, off, cap, h, fun k hkn => hk.cell (hc k hkn) (not_no _)⟩⟩
/-- the earliest one -/
def Good (n : Nat) (X : Nat → Int) (i : Nat) : Prop := X i ≠ 18446744073709551615 ∧ ∀ k, k < n → ¬ X k < X i
def FirstIs (n : Nat) (X : Nat → Int) (i no : Int) : Prop :=
  (∃ j : Nat, j < n ∧ i = j ∧ no = 0 ∧ Good n X j ∧ ∀ k, k < j → ¬ Good n X k) ∨ (i = 0 ∧ no = 9 ∧ ∀ k, k < n → ¬ Good n X k)
theorem first_one {n : Nat} {X : Nat → Int} {i no i' no' : Int} (h : FirstIs n X i no) (h' : FirstIs n X i' no') : i = i' ∧ no = no' := by
  rcases h with ⟨j, h1, h2, h3, h4, h5⟩ | ⟨h1, h2, h3⟩
  · rcases h' with ⟨j', g1, g2, g3, g4, g5⟩ | ⟨g1, g2, g3⟩
    · have : j = j' := by
        rcases Nat.lt_trichotomy j j' with hlt | he | hgt
        · exact absurd h4 (g5 j hlt)
        · exact he
        · exact absurd g4 (h5 j' hgt)
      subst this
      exact ⟨by rw [h2, g2], by rw [h3, g3]⟩
    · exact absurd h4 (g3 j h1)
  · rcases h' with ⟨j', g1, g2, g3, g4, g5⟩ | ⟨g1, g2, g3⟩
    · exact absurd g4 (h3 j' g1)
    · exact ⟨by rw [h1, g1], by rw [h2, g2]⟩
/-- what is known after some rounds -/
def BInv (X : Nat → Int) (j : Nat) (at' least : Int) : Prop :=
  (at' = -1 ∧ least = 18446744073709551615 ∧ ∀ k, k < j → 18446744073709551615 ≤ X k) ∨
    (∃ m : Nat, at' = m ∧ m < j ∧ X m = least ∧ least < 18446744073709551615 ∧ (∀ k, k < j → least ≤ X k) ∧ ∀ k, k < m → least < X k)
theorem binv_take {X : Nat → Int} {j : Nat} {a l : Int} (h : BInv X j a l) (hx : X j < l) : BInv X (j + 1) (j : Nat) (X j) := by
  rcases h with ⟨h1, h2, h3⟩ | ⟨m, h1, h2, h3, h4, h5, h6⟩
  · refine .inr ⟨j, rfl, by omega, rfl, by omega, fun k hk => ?_, fun k hk => ?_⟩
    · by_cases e : k = j
      · subst e; omega
      · have := h3 k (by omega); omega
    · have := h3 k hk; omega
  · refine .inr ⟨j, rfl, by omega, rfl, by omega, fun k hk => ?_, fun k hk => ?_⟩
    · by_cases e : k = j
      · subst e; omega
      · have := h5 k (by omega); omega
    · have := h5 k hk; omega
theorem binv_skip {X : Nat → Int} {j : Nat} {a l : Int} (h : BInv X j a l) (hx : ¬ X j < l) : BInv X (j + 1) a l := by
  rcases h with ⟨h1, h2, h3⟩ | ⟨m, h1, h2, h3, h4, h5, h6⟩
  · refine .inl ⟨h1, h2, fun k hk => ?_⟩
    by_cases e : k = j
    · subst e; omega
    · exact h3 k (by omega)
  · refine .inr ⟨m, h1, by omega, h3, h4, fun k hk => ?_, h6⟩
    by_cases e : k = j
    · subst e; omega
    · exact h5 k (by omega)
theorem binv_none {X : Nat → Int} {n : Nat} {a l : Int} (h : BInv X n a l) (hb : ∀ k, k < n → Tm (X k)) (ha : a < 0) : FirstIs n X 0 9 := by
  rcases h with ⟨h1, h2, h3⟩ | ⟨m, h1, h2, h3, h4, h5, h6⟩
  · refine .inr ⟨rfl, rfl, fun k hk hg => ?_⟩
    have := h3 k hk
    have := (hb k hk).2
    exact hg.1 (by omega)
  · omega
theorem binv_some {X : Nat → Int} {n : Nat} {a l : Int} (h : BInv X n a l) (ha : ¬ a < 0) : FirstIs n X a 0 := by
  rcases h with ⟨h1, h2, h3⟩ | ⟨m, h1, h2, h3, h4, h5, h6⟩
  · omega
  · refine .inl ⟨m, h2, h1, rfl, ⟨by omega, fun k hk => ?_⟩, fun k hk hg => ?_⟩
    · have := h5 k hk; omega
    · have := h6 k hk
      exact hg.2 m h2 (by omega)
def FRel (X : Nat → Int) (n : Nat) (a l i : Value) : Prop := ∃ (j : Nat) (av lv : Int), i = .int .i64 (j : Nat) ∧ a = .int .i64 av ∧ l = .int .u64 lv ∧ j ≤ n ∧ -1 ≤ av ∧ av < j ∧ BInv X j av lv
def FirstPost (n : Nat) (X : Nat → Int) (w : World) (e : Ending) (w' : World) : Prop := ∃ i no : Int, e = .returned (.tuple #[.int .i64 i, .int .i64 no]) ∧ FirstIs n X i no ∧ w = w'
set_option maxRecDepth 100000 in
set_option maxHeartbeats 800000 in
theorem first_any {w : World} {v : Value} {n : Nat} {X : Nat → Int} (h : Tms w v n X) : Calls Tryd.prog 24 #[v] w (FirstPost n X w) := by
  obtain ⟨ad, cap, rfl⟩ := h.slice
  have hn := h.1
  have H := Lib.hid h
  clear h
  go_enter Tryd.func24, Tryd.ntmps24
  go_wp2_with fail
  go_loop [4, 5, 6, 7, 10] (fun a l _ _ i => FRel X n a l i) (fun _ _ _ _ i => n - (intOf i).toNat)
  case atStart => exact ⟨0, -1, 18446744073709551615, rfl, rfl, rfl, Nat.zero_le _, by omega, by omega, .inl ⟨rfl, rfl, fun k hk => by omega⟩⟩
  case round =>
    obtain ⟨j, av, lv, rfl, rfl, rfl, hj, h1, h2, hI⟩ := hrel
    have HI := Lib.hid hI
    clear hI
    by_cases hlt : j < n
    · obtain ⟨b, off, rfl, hc, hb⟩ := H.out.at hlt
      have d1 : decide (j < n) = true := by simp; exact hlt
      have HLT := Lib.hid hlt
      obtain ⟨x, hx⟩ : ∃ x, X j = x := ⟨_, rfl⟩
      rw [hx] at hc hb
      have HX := Lib.hid hx
      obtain ⟨hb1, hb2⟩ := hb
      clear hx hlt
      by_cases hxl : x < lv
      · have d2 : decide (x < lv) = true := by simp; exact hxl
        have HXL := Lib.hid hxl
        clear hxl
        go_wp2_with fail
        have hj2 := HLT.out
        refine ⟨⟨j + 1, (j : Nat), x, by go_num, rfl, rfl, by omega, by omega, by omega, ?_⟩, by simp [intOf]; omega⟩
        have := binv_take HI.out (by rw [HX.out]; exact HXL.out)
        rw [HX.out] at this
        exact this
      · have d2 : decide (x < lv) = false := by simp; omega
        have HXL := Lib.hid hxl
        clear hxl
        go_wp2_with fail
        have hj2 := HLT.out
        exact ⟨⟨j + 1, av, lv, by go_num, rfl, rfl, by omega, h1, by omega, binv_skip HI.out (by rw [HX.out]; have := HXL.out; omega)⟩, by simp [intOf]; omega⟩
    · have hjn : n = j := by omega
      have d1 : decide (j < n) = false := by simp; exact Nat.le_of_not_lt hlt
      have HJ := Lib.hid hjn
      clear hlt hjn
      by_cases ha : av < 0
      · have d2 : decide (av < 0) = true := by simp; exact ha
        have HA := Lib.hid ha
        clear ha
        go_wp2_with fail
        go_ret2
        refine ⟨_, _, rfl, ?_, rfl⟩
        have hI := HI.out
        rw [← HJ.out] at hI
        exact binv_none hI H.out.2.1 (by have := HA.out; omega)
      · have d2 : decide (av < 0) = false := by simp; omega
        have HA := Lib.hid ha
        clear ha
        go_wp2_with fail
        go_ret2
        refine ⟨_, _, rfl, ?_, rfl⟩
        have hI := HI.out
        rw [← HJ.out] at hI
        exact binv_some hI (by have := HA.out; omega)
theorem first_yes {w : World} {v : Value} {n : Nat} {X : Nat → Int} (h : Tms w v n X) (i no : Int) (hf : FirstIs n X i no) :
    Calls Tryd.prog 18 #[v, .int .i64 i, .int .i64 no] w fun e w' => e = .returned (.bool true) ∧ w = w' := by
  obtain ⟨ad, cap, rfl⟩ := h.slice
  have H := Lib.hid h
  have HF := Lib.hid hf
  clear h hf
  go_enter Tryd.func18, Tryd.ntmps18
  go_wp2_with fail
  refine (first_any H.out).mono ?_
  rintro e w' ⟨i', no', rfl, hf', rfl⟩
  obtain ⟨rfl, rfl⟩ := first_one hf' HF.out
  clear hf'
  go_wp2_with fail
  go_ret
  exact ⟨rfl, rfl⟩
/-- is the one at i the earliest of so many? -/
def GoodB (j : Nat) (X : Nat → Int) (i : Nat) : Bool := decide (X i ≠ 18446744073709551615 ∧ ∀ k, k < j → ¬ X k < X i)
theorem goodB_zero (X : Nat → Int) (i : Nat) : GoodB 0 X i = (X i != 18446744073709551615) := by
  unfold GoodB
  rw [Bool.eq_iff_iff]
  simp
theorem goodB_less {X : Nat → Int} {i j : Nat} (h : X j < X i) : GoodB (j + 1) X i = false := by
  unfold GoodB
  rw [decide_eq_false_iff_not]
  intro hg
  exact hg.2 j (by omega) h
theorem goodB_skip {X : Nat → Int} {i j : Nat} (h : ¬ X j < X i) : GoodB (j + 1) X i = GoodB j X i := by
  unfold GoodB
  rw [Bool.eq_iff_iff]
  simp only [decide_eq_true_eq]
  constructor
  · exact fun hg => ⟨hg.1, fun k hk => hg.2 k (by omega)⟩
  · refine fun hg => ⟨hg.1, fun k hk => ?_⟩
    by_cases e : k = j
    · subst e; exact h
    · exact hg.2 k (by omega)
def RFRel (X : Nat → Int) (n : Nat) (w : World) (i : Value) (wr : World) : Prop := ∃ j q : Nat, i = .int .i64 (j : Nat) ∧ j ≤ n ∧ (∀ k, k < j → ¬ Good n X k) ∧ wr = w.drewN q
def RFIn (X : Nat → Int) (n i : Nat) (w : World) (least k : Value) (wr : World) : Prop := ∃ j q : Nat, k = .int .i64 (j : Nat) ∧ j ≤ n ∧ least = .bool (GoodB j X i) ∧ wr = w.drewN q
def RFirstPost (n : Nat) (X : Nat → Int) (w : World) (e : Ending) (w' : World) : Prop := ∃ i no : Int, e = .returned (.tuple #[.int .i64 i, .int .i64 no]) ∧ FirstIs n X i no ∧ ∃ q, w' = w.drewN q
set_option maxRecDepth 100000 in
set_option maxHeartbeats 1600000 in
theorem rfirst_any {w : World} {v : Value} {n : Nat} {X : Nat → Int} (h : Tms w v n X) : Calls Tryd.prog 17 #[v] w (RFirstPost n X w) := by
  obtain ⟨ad, cap, rfl⟩ := h.slice
  have hn := h.1
  have H := Lib.hid h
  clear h
  go_enter Tryd.func17, Tryd.ntmps17
  go_wp2_with fail
  go_loopw [4, 5, 6] (fun i _ _ wr => RFRel X n w i wr) (fun i _ _ _ => n - (intOf i).toNat)
  case atStart => exact ⟨0, 0, rfl, Nat.zero_le _, fun k hk => by omega, rfl⟩
  case round =>
    obtain ⟨i, q, rfl, hi, hall, rfl⟩ := hrel
    have HA := Lib.hid hall
    clear hall
    by_cases hlt : i < n
    · obtain ⟨b, off, rfl, hc, hb⟩ := H.out.at hlt
      have d1 : decide (i < n) = true := by simp; exact hlt
      have HLT := Lib.hid hlt
      obtain ⟨x, hx⟩ : ∃ x, X i = x := ⟨_, rfl⟩
      rw [hx] at hc hb
      have HX := Lib.hid hx
      obtain ⟨hb1, hb2⟩ := hb
      have hG0 : GoodB 0 X i = (x != 18446744073709551615) := by rw [goodB_zero, hx]
      have HG0 := Lib.hid hG0
      have HI := Lib.hid hi
      clear hx hlt hG0 hi
      go_wp2_with fail
      go_loopw [5, 6] (fun l k wr => RFIn X n i w l k wr) (fun _ k _ => n - (intOf k).toNat)
      case atStart => exact ⟨0, q, rfl, Nat.zero_le _, by rw [HG0.out], rfl⟩
      case round =>
        obtain ⟨j, q2, rfl, hj, rfl, rfl⟩ := hrel
        by_cases hlt : j < n
        · obtain ⟨b', off', hbb, hcj, hbj⟩ := H.out.at hlt
          have d2 : decide (j < n) = true := by simp; exact hlt
          have hij : (0 : Int) ≤ (i : Int) := by omega
          have hin : (i : Int) < (n : Int) := by have := HLT.out; omega
          have hj0 : (0 : Int) ≤ (j : Int) := by omega
          have hjn : (j : Int) < (n : Int) := by omega
          have HLJ := Lib.hid hlt
          cases hbb
          obtain ⟨y, hy⟩ : ∃ y, X j = y := ⟨_, rfl⟩
          rw [hy] at hcj hbj
          have HY := Lib.hid hy
          obtain ⟨hbj1, hbj2⟩ := hbj
          obtain ⟨g, hg⟩ : ∃ g, GoodB j X i = g := ⟨_, rfl⟩
          have HG := Lib.hid hg
          rw [hg]
          clear hy hlt hj hg
          by_cases hyx : y < x
          · have d3 : decide (y < x) = true := by simp; exact hyx
            have HYX := Lib.hid hyx
            clear hyx
            go_wp2_with fail
            go_quiet (fail)
            go_wp2_with fail
            have hj2 := HLJ.out
            refine ⟨⟨j + 1, _, by go_num, by omega, ?_, rfl⟩, by simp [intOf]; omega⟩
            rw [goodB_less (by rw [HY.out, HX.out]; exact HYX.out)]
          · have d3 : decide (y < x) = false := by simp; omega
            have HYX := Lib.hid hyx
            clear hyx
            go_wp2_with fail
            go_quiet (fail)
            go_wp2_with fail
            have hj2 := HLJ.out
            refine ⟨⟨j + 1, _, by go_num, by omega, ?_, rfl⟩, by simp [intOf]; omega⟩
            rw [goodB_skip (by rw [HY.out, HX.out]; have := HYX.out; omega), HG.out]
        · have hjn : n = j := by omega
          have d2 : decide (j < n) = false := by simp; exact Nat.le_of_not_lt hlt
          have HJ := Lib.hid hjn
          clear hlt hjn hj
          by_cases hg : GoodB j X i = true
          · have HG := Lib.hid hg
            rw [hg]
            clear hg
            go_wp2_with fail
            go_ret2
            have hg := HG.out
            unfold GoodB at hg
            rw [decide_eq_true_eq, ← HJ.out] at hg
            exact ⟨_, _, rfl, .inl ⟨i, HLT.out, rfl, rfl, hg, HA.out⟩, _, rfl⟩
          · have hg2 : GoodB j X i = false := by simpa using hg
            have HG := Lib.hid hg2
            rw [hg2]
            clear hg hg2
            go_wp2_with fail
            have hi2 := HLT.out
            refine ⟨⟨i + 1, _, by go_num, by omega, fun k hk => ?_, rfl⟩, by simp [intOf]; omega⟩
            by_cases e : k = i
            · subst e
              have hg := HG.out
              unfold GoodB at hg
              rw [decide_eq_false_iff_not, ← HJ.out] at hg
              exact hg
            · exact HA.out k (by omega)
    · have hin : n = i := by omega
      have d1 : decide (i < n) = false := by simp; exact Nat.le_of_not_lt hlt
      have HJ := Lib.hid hin
      clear hlt hin hi
      go_wp2_with fail
      go_ret2
      exact ⟨_, _, rfl, .inr ⟨rfl, rfl, by rw [HJ.out]; rw [HJ.out] at HA; exact HA.out⟩, _, rfl⟩
end Go.Proofs.YtchoepcfaadpfaaDoor
