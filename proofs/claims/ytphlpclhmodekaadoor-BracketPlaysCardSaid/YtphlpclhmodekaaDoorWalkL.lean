/-
  Bracket: the law's small functions: ints, seats, ranks.
-/
import Derived.Test.YtphlpclhmodekaaDoorWalkK
set_option linter.unusedVariables false
set_option linter.unusedSimpArgs false
namespace Go.Proofs.YtphlpclhmodekaaDoor
open Go.RowKit Go.Zn
attribute [local go_sem] Oper.semAt_some

def intsI (l : List Int) : List Value := l.map fun j => Value.int .i64 j
theorem intsI_len (l : List Int) : (intsI l).length = l.length := by simp [intsI]
theorem ints_eq (l : List Nat) : ints l = intsI (l.map fun (j : Nat) => (j : Int)) := by simp [ints, intsI]
/-- the cells of a list that reads -/
theorem rd_cells {w : World} {B : Nat → Prop} {v : Value} {l : List Int} (h : Rd w B 1 v l.length (intsI l)) (h0 : l ≠ []) : ∃ b off cap, v = .slice (some ⟨b, off, none⟩) l.length cap ∧ l.length ≤ maxLen ∧ ∀ j x, l[j]? = some x → w.cell? ⟨b, off + j, none⟩ = some (.int .i64 x) := by
  obtain ⟨_, hm, h3⟩ := h
  rcases h3 with ⟨_, hn⟩ | ⟨b, off, cap, hv, hc, hb, hx⟩
  · exact (h0 (List.eq_nil_of_length_eq_zero hn)).elim
  · refine ⟨b, off, cap, hv, hm, fun j x hj => hx j _ ?_⟩
    simp [intsI, hj]

theorem seatsL_any {p : Value} {m a c z x y e0 : Int} {w : World} (hc : Calls Tryd.prog 15 #[p, .int .i64 m] w fun e w' => e = .returned (.tuple #[.int .i64 x, .int .i64 y, .int .i64 e0]) ∧ w' = w) : Calls Tryd.prog 19 #[p, .int .i64 m, .int .i64 a, .int .i64 c, .int .i64 z] w fun e w' => e = .returned (.bool (x == a && (y == c && e0 == z))) ∧ w' = w := by
  obtain ⟨R, hR⟩ : ∃ R, (x == a && (y == c && e0 == z)) = R := ⟨_, rfl⟩
  rw [hR]
  have HC := Lib.hid hc
  clear hc
  cases h1 : (x == a)
  · have HR := Lib.hid (show R = false by rw [← hR, h1]; rfl)
    clear hR
    go_enter Tryd.func19, Tryd.ntmps19
    go_wp2_with fail
    refine HC.out.mono ?_
    rintro e w1 ⟨rfl, hk⟩
    have hk := hk.symm
    subst hk
    go_wp2_with fail
    go_ret
    exact ⟨by rw [HR.out]; rfl, rfl⟩
  · cases h2 : (y == c)
    · have HR := Lib.hid (show R = false by rw [← hR, h1, h2]; rfl)
      clear hR
      go_enter Tryd.func19, Tryd.ntmps19
      go_wp2_with fail
      refine HC.out.mono ?_
      rintro e w1 ⟨rfl, hk⟩
      have hk := hk.symm
      subst hk
      go_wp2_with fail
      go_ret
      exact ⟨by rw [HR.out]; rfl, rfl⟩
    · have HR := Lib.hid (show R = (e0 == z) by rw [← hR, h1, h2]; rfl)
      clear hR
      obtain ⟨t, ht⟩ : ∃ t, (e0 == z) = t := ⟨_, rfl⟩
      rw [ht] at HR
      go_enter Tryd.func19, Tryd.ntmps19
      go_wp2_with fail
      refine HC.out.mono ?_
      rintro e w1 ⟨rfl, hk⟩
      have hk := hk.symm
      subst hk
      go_wp2_with fail
      go_ret
      exact ⟨by rw [HR.out]; rfl, rfl⟩

theorem ranksL_any {p : Value} {m a z x e0 : Int} {w : World} (hc : Calls Tryd.prog 16 #[p, .int .i64 m] w fun e w' => e = .returned (.tuple #[.int .i64 x, .int .i64 e0]) ∧ w' = w) : Calls Tryd.prog 20 #[p, .int .i64 m, .int .i64 a, .int .i64 z] w fun e w' => e = .returned (.bool (x == a && e0 == z)) ∧ w' = w := by
  obtain ⟨R, hR⟩ : ∃ R, (x == a && e0 == z) = R := ⟨_, rfl⟩
  rw [hR]
  have HC := Lib.hid hc
  clear hc
  cases h1 : (x == a)
  · have HR := Lib.hid (show R = false by rw [← hR, h1]; rfl)
    clear hR
    go_enter Tryd.func20, Tryd.ntmps20
    go_wp2_with fail
    refine HC.out.mono ?_
    rintro e w1 ⟨rfl, hk⟩
    have hk := hk.symm
    subst hk
    go_wp2_with fail
    go_ret
    exact ⟨by rw [HR.out]; rfl, rfl⟩
  · have HR := Lib.hid (show R = (e0 == z) by rw [← hR, h1]; rfl)
    clear hR
    obtain ⟨t, ht⟩ : ∃ t, (e0 == z) = t := ⟨_, rfl⟩
    rw [ht] at HR
    go_enter Tryd.func20, Tryd.ntmps20
    go_wp2_with fail
    refine HC.out.mono ?_
    rintro e w1 ⟨rfl, hk⟩
    have hk := hk.symm
    subst hk
    go_wp2_with fail
    go_ret
    exact ⟨by rw [HR.out]; rfl, rfl⟩

set_option maxRecDepth 100000 in
theorem ints_any {w : World} {B C : Nat → Prop} {u v : Value} {l r : List Int} (hu : Rd w B 1 u l.length (intsI l)) (hv : Rd w C 1 v r.length (intsI r)) : Calls Tryd.prog 27 #[u, v] w fun e w' => e = .returned (.bool (decide (l = r))) ∧ Kept No w w' := by
  obtain ⟨R, hR⟩ : ∃ R, decide (l = r) = R := ⟨_, rfl⟩
  rw [hR]
  obtain ⟨au, cu, hu1⟩ := rd_slice hu
  obtain ⟨av, cv, hv1⟩ := rd_slice hv
  by_cases hlen : l.length = r.length
  · obtain ⟨n, hn⟩ : ∃ n, l.length = n := ⟨_, rfl⟩
    have hn2 : r.length = n := by rw [← hlen]; exact hn
    by_cases h0 : n = 0
    · have hl0 : l = [] := List.eq_nil_of_length_eq_zero (by omega)
      have hr0 : r = [] := List.eq_nil_of_length_eq_zero (by omega)
      have HR := Lib.hid (show R = true by rw [← hR, hl0, hr0]; rfl)
      rw [hn] at hu1
      rw [hn2] at hv1
      subst h0 hu1 hv1
      clear hu hv hlen hn hn2 hR hl0 hr0
      go_enter Tryd.func27, Tryd.ntmps27
      go_wp2_with fail
      go_loopw [5] (fun iv wr => iv = .int .i64 0 ∧ wr = w) (fun iv _ => 0)
      case atStart => exact ⟨rfl, rfl⟩
      case round =>
        obtain ⟨rfl, rfl⟩ := hrel
        go_wp2_with fail
        go_ret
        exact ⟨by rw [HR.out]; rfl, Kept.refl No _⟩
    · have hln : l ≠ [] := fun e => by rw [e] at hn; exact h0 hn.symm
      have hrn : r ≠ [] := fun e => by rw [e] at hn2; exact h0 hn2.symm
      obtain ⟨b, o, cap, hue, hm, hcu⟩ := rd_cells hu hln
      obtain ⟨b', o', cap', hve, hm', hcv⟩ := rd_cells hv hrn
      rw [hn] at hue hm
      rw [hn2] at hve
      subst hue hve
      have hmx : (n : Int) ≤ 9223372036854775807 := by unfold maxLen at hm; omega
      have HCU := Lib.hid hcu
      have HCV := Lib.hid hcv
      have HN := Lib.hid (And.intro hn hn2)
      have HR := Lib.hid hR
      clear hcu hcv hu hv hu1 hv1 hlen hn hn2 hR hm hm' hln hrn
      go_enter Tryd.func27, Tryd.ntmps27
      go_wp2_with fail
      go_loopw [5] (fun iv wr => ∃ i : Nat, iv = .int .i64 (i : Nat) ∧ i ≤ n ∧ (∀ j, j < i → l[j]? = r[j]?) ∧ Kept No w wr) (fun iv _ => n - (intOf iv).toNat)
      case atStart => exact ⟨0, rfl, Nat.zero_le _, fun j hj => by omega, Kept.refl No _⟩
      case round =>
        obtain ⟨i, rfl, hi, heq, hk⟩ := hrel
        have HK := Lib.hid hk
        have HEQ := Lib.hid heq
        clear heq
        by_cases hlt : i < n
        · have d1 : decide (i < n) = true := decide_eq_true hlt
          have hx := List.getElem?_eq_getElem (l := l) (i := i) (by have := HN.out.1; omega)
          have hy := List.getElem?_eq_getElem (l := r) (i := i) (by have := HN.out.2; omega)
          obtain ⟨x, hxe⟩ : ∃ x, l[i]? = some x := ⟨_, hx⟩
          obtain ⟨y, hye⟩ : ∃ y, r[i]? = some y := ⟨_, hy⟩
          have cx := hk.cell (HCU.out i x hxe) (not_no _)
          have cy := hk.cell (HCV.out i y hye) (not_no _)
          have HXE := Lib.hid hxe
          have HYE := Lib.hid hye
          have hin : (i : Int) ≤ 9223372036854775807 := by omega
          have q1 : IntKind.i64.wrap ((i : Int) + 1) = (i : Int) + 1 := IntWalk.i64_in _ (by omega)
          have HLT := Lib.hid hlt
          clear hx hy hxe hye hk hi
          by_cases hxy : x = y
          · have q2 : (x != y) = false := by simpa using hxy
            have HXY := Lib.hid hxy
            clear hxy
            go_wp2_with fail
            go_quiet (fail)
            go_wp2_with fail
            refine ⟨⟨i + 1, by go_num, by have := HLT.out; omega, fun j hj => ?_, HK.out.drewN nq⟩, by have := HLT.out; simp [intOf]; omega⟩
            by_cases e : j = i
            · rw [e, HXE.out, HYE.out, HXY.out]
            · exact HEQ.out j (by omega)
          · have q2 : (x != y) = true := by simpa using hxy
            have HRF := Lib.hid (show R = false by
              rw [← HR.out]
              refine decide_eq_false fun e => hxy ?_
              have h1 := HXE.out
              rw [e, HYE.out] at h1
              exact (Option.some.inj h1).symm)
            clear hxy
            go_wp2_with fail
            go_quiet (fail)
            go_wp2_with fail
            go_ret
            exact ⟨by rw [HRF.out]; rfl, HK.out.drewN nq⟩
        · have d1 : decide (i < n) = false := decide_eq_false hlt
          have hin : i = n := by omega
          have HRT := Lib.hid (show R = true by
            rw [← HR.out]
            refine decide_eq_true (List.ext_getElem? fun j => ?_)
            by_cases hj : j < n
            · exact HEQ.out j (by omega)
            · rw [List.getElem?_eq_none (by have := HN.out.1; omega), List.getElem?_eq_none (by have := HN.out.2; omega)])
          clear hlt hk hi
          go_wp2_with fail
          go_ret
          exact ⟨by rw [HRT.out]; rfl, HK.out⟩
  · have HR := Lib.hid (show R = false by rw [← hR]; exact decide_eq_false fun e => hlen (by rw [e]))
    obtain ⟨n, hn⟩ : ∃ n, l.length = n := ⟨_, rfl⟩
    obtain ⟨m, hm⟩ : ∃ m, r.length = m := ⟨_, rfl⟩
    rw [hn] at hu1 hlen
    rw [hm] at hv1 hlen
    subst hu1 hv1
    have q1 : ((n : Int) == (m : Int)) = false := by simp; omega
    have q2 : (n == m) = false := by simpa using hlen
    clear hu hv hn hm hR
    go_enter Tryd.func27, Tryd.ntmps27
    go_wp2_with fail
    go_ret
    exact ⟨by rw [HR.out]; rfl, Kept.refl No _⟩
end Go.Proofs.YtphlpclhmodekaaDoor
