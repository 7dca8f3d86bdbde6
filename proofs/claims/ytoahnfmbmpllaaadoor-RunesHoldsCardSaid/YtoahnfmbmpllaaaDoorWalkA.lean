/-
  Runes: which runes are in spans; letters, widths.
-/
import Derived.Test.YtoahnfmbmpllaaaDoorLib
import Derived.Test.YtoahnfmbmpllaaaDoorRows
import Derived.Test.YtoahnfmbmpllaaaDoorRf
import Derived.Shelf.Unicode.DecodeSlow
set_option linter.unusedVariables false
set_option linter.unusedSimpArgs false
namespace Go.Proofs.YtoahnfmbmpllaaaDoor
open Go.RowKit Go.Zn
attribute [local go_sem] Oper.semAt_some

/-- spans as they lie -/
def Spans (w : World) (b off : Nat) (L : List (Nat × Nat)) : Prop :=
  ∀ i p, L[i]? = some p → w.cell? ⟨b, off + i * 2, none⟩ = some (.int .i32 (p.1 : Nat)) ∧ w.cell? ⟨b, off + i * 2 + 1, none⟩ = some (.int .i32 (p.2 : Nat))
theorem Spans.no {w w' : World} {b off : Nat} {L : List (Nat × Nat)} (h : Spans w b off L) (hk : Kept No w w') : Spans w' b off L :=
  fun i p hp => ⟨hk.cell (h i p hp).1 (not_no _), hk.cell (h i p hp).2 (not_no _)⟩
theorem inL_snoc (r : Nat) (L : List (Nat × Nat)) (p : Nat × Nat) : inL r (L ++ [p]) = (inL r L || (decide (p.1 ≤ r) && decide (r ≤ p.2))) := by simp [inL]
def InRel (r : Nat) (L : List (Nat × Nat)) (w0 : World) (iv : Value) (wr : World) : Prop :=
  ∃ i : Nat, iv = .int .i64 (i : Nat) ∧ i ≤ L.length ∧ inL r (L.take i) = false ∧ Kept No w0 wr
theorem in_any {r : Nat} (hr : r ≤ 1114111) {w : World} {b off cap : Nat} {L : List (Nat × Nat)} (hL : L.length ≤ 100) (hS : Spans w b off L) : Calls Tryd.prog 34 #[.int .i32 (r : Nat), .slice (some ⟨b, off, none⟩) L.length cap] w fun e w' => e = .returned (.bool (inL r L)) ∧ Kept No w w' := by
  have HS := Lib.hid hS
  obtain ⟨n, hn⟩ : ∃ n, L.length = n := ⟨_, rfl⟩
  have HN := Lib.hid hn
  rw [hn] at hL ⊢
  clear hS hn
  go_enter Tryd.func34, Tryd.ntmps34
  go_wp2_with fail
  go_loopw [9] (fun iv wr => InRel r L w iv wr) (fun iv _ => n - (intOf iv).toNat)
  case atStart => exact ⟨0, rfl, Nat.zero_le _, rfl, Kept.refl No w⟩
  case round =>
    obtain ⟨i, rfl, hi, hf, hk⟩ := hrel
    rw [HN.out] at hi
    have HF := Lib.hid hf
    have HK := Lib.hid hk
    by_cases hlt : i < n
    · obtain ⟨⟨p, q⟩, hp⟩ : ∃ p, L[i]? = some p := ⟨_, List.getElem?_eq_getElem (by rw [HN.out]; exact hlt)⟩
      have c0 := hk.cell (HS.out i _ hp).1 (not_no _)
      have c1 := hk.cell (HS.out i _ hp).2 (not_no _)
      have HT := Lib.hid (show L.take (i + 1) = L.take i ++ [(p, q)] by rw [List.take_add_one, hp]; rfl)
      have d1 : decide (i < n) = true := decide_eq_true hlt
      have d1' : decide ((i : Int) < (n : Int)) = true := decide_eq_true (by omega)
      have hi0 : (0 : Int) ≤ (i : Int) := by omega
      have hin : (i : Int) < (n : Int) := by omega
      have q4 : IntKind.i64.wrap ((i : Int) + 1) = (i : Int) + 1 := IntWalk.i64_in _ (by omega)
      have HI := Lib.hid hlt
      clear hf hk hp hlt
      by_cases h1 : p ≤ r
      · have d2 : decide (p ≤ r) = true := decide_eq_true h1
        have d2' : decide ((p : Int) ≤ (r : Int)) = true := decide_eq_true (by omega)
        by_cases h2 : r ≤ q
        · have d3 : decide (r ≤ q) = true := decide_eq_true h2
          have d3' : decide ((r : Int) ≤ (q : Int)) = true := decide_eq_true (by omega)
          have HR := Lib.hid (show inL r L = true by
            rw [← List.take_append_drop (i + 1) L, HT.out]
            unfold inL
            rw [List.any_append, List.any_append]
            simp [h1, h2])
          clear h1 h2
          go_wp2_with fail
          go_ret
          exact ⟨by rw [HR.out]; rfl, by first | exact HK.out.alloc _ | exact (HK.out.alloc _).setCell (fun h => by have := HK.out.size; simp at h; omega) _⟩
        · have d3 : decide (r ≤ q) = false := decide_eq_false h2
          have d3' : decide ((r : Int) ≤ (q : Int)) = false := decide_eq_false (by omega)
          have HR := Lib.hid (show inL r (L.take (i + 1)) = false by rw [HT.out, inL_snoc, HF.out]; simp [h2])
          clear h1 h2
          go_wp2_with fail
          have hI := HI.out
          exact ⟨⟨i + 1, by go_num, by rw [HN.out]; omega, HR.out, by first | exact HK.out.alloc _ | exact (HK.out.alloc _).setCell (fun h => by have := HK.out.size; simp at h; omega) _⟩, by simp [intOf]; omega⟩
      · have d2 : decide (p ≤ r) = false := decide_eq_false h1
        have d2' : decide ((p : Int) ≤ (r : Int)) = false := decide_eq_false (by omega)
        have HR := Lib.hid (show inL r (L.take (i + 1)) = false by rw [HT.out, inL_snoc, HF.out]; simp [h1])
        clear h1
        go_wp2_with fail
        have hI := HI.out
        exact ⟨⟨i + 1, by go_num, by rw [HN.out]; omega, HR.out, by first | exact HK.out.alloc _ | exact (HK.out.alloc _).setCell (fun h => by have := HK.out.size; simp at h; omega) _⟩, by simp [intOf]; omega⟩
    · have d1 : decide (i < n) = false := decide_eq_false hlt
      have d1' : decide ((i : Int) < (n : Int)) = false := decide_eq_false (by omega)
      have HR := Lib.hid (show inL r L = false by
        have := HF.out
        rw [List.take_of_length_le (by rw [HN.out]; omega)] at this
        exact this)
      clear hf hk hlt
      go_wp2_with fail
      go_ret
      exact ⟨by rw [HR.out]; rfl, HK.out⟩
/-- the package's variables -/
structure VS (w : World) : Prop where
  wide : ∃ b off cap, w.cell? ⟨0, 0, none⟩ = some (.slice (some ⟨b, off, none⟩) 4 cap) ∧ Spans w b off wideL
  folds : ∃ b off cap, w.cell? ⟨1, 0, none⟩ = some (.slice (some ⟨b, off, none⟩) 32 cap) ∧ ∀ i, i < 32 → w.cell? ⟨b, off + i, none⟩ = some (.string (strOf (enc (wordsR.getD i []))))
  letters : ∃ b off cap, w.cell? ⟨2, 0, none⟩ = some (.slice (some ⟨b, off, none⟩) 9 cap) ∧ 9 ≤ cap ∧ Spans w b off letL
  tabs : Lib.Utf8Tabs 3 4 w
  most : ∃ m, w.cell? ⟨5, 0, none⟩ = some (.int .i64 m)
theorem VS.no {w w' : World} (h : VS w) (hk : Kept No w w') : VS w' := by
  obtain ⟨⟨b, o, c, h1, h2⟩, ⟨b3, o3, c3, h3, h4⟩, ⟨b5, o5, c5, h5, h6, h7⟩, ht, m, hm⟩ := h
  exact ⟨⟨b, o, c, hk.cell h1 (not_no _), h2.no hk⟩, ⟨b3, o3, c3, hk.cell h3 (not_no _), fun i hi => hk.cell (h4 i hi) (not_no _)⟩, ⟨b5, o5, c5, hk.cell h5 (not_no _), h6, h7.no hk⟩, Utf8Tabs_below ht hk.to_below, m, hk.cell hm (not_no _)⟩
theorem plain_any {r : Nat} (hr : r ≤ 1114111) {w : World} (hV : VS w) : Calls Tryd.prog 29 #[.int .i32 (r : Nat)] w fun e w' => e = .returned (.bool (plainR r)) ∧ Kept No w w' := by
  obtain ⟨b, off, cap, c0, _, hS⟩ := hV.letters
  have HI := Lib.hid (show Calls Tryd.prog 34 #[.int .i32 (r : Nat), .slice (some ⟨b, off, none⟩) 9 cap] w fun e w' => e = .returned (.bool (inL r letL)) ∧ Kept No w w' from in_any hr (L := letL) (by decide) hS)
  cases h : inL r letL
  · rw [h] at HI
    by_cases h1 : 48 ≤ r
    · have d1 : decide (48 ≤ r) = true := decide_eq_true h1
      have d1' : decide ((48 : Int) ≤ (r : Int)) = true := decide_eq_true (by omega)
      obtain ⟨v, hv⟩ : ∃ v, decide (r ≤ 57) = v := ⟨_, rfl⟩
      have hv' : decide ((r : Int) ≤ 57) = v := by rw [← hv]; exact decide_eq_decide.mpr (by omega)
      have HR := Lib.hid (show plainR r = v by unfold plainR; rw [h, d1, hv]; rfl)
      clear h hS h1
      go_enter Tryd.func29, Tryd.ntmps29
      go_wp2_with fail
      refine HI.out.mono ?_
      rintro e w1 ⟨rfl, hk⟩
      have HK := Lib.hid hk
      clear hk
      go_wp2_with fail
      all_goals
        go_ret
        exact ⟨by rw [HR.out]; first | rfl | (rw [hv']) | simp_all, HK.out⟩
    · have d1 : decide (48 ≤ r) = false := decide_eq_false h1
      have d1' : decide ((48 : Int) ≤ (r : Int)) = false := decide_eq_false (by omega)
      have HR := Lib.hid (show plainR r = false by unfold plainR; rw [h, d1]; rfl)
      clear h hS h1
      go_enter Tryd.func29, Tryd.ntmps29
      go_wp2_with fail
      refine HI.out.mono ?_
      rintro e w1 ⟨rfl, hk⟩
      have HK := Lib.hid hk
      clear hk
      go_wp2_with fail
      go_ret
      exact ⟨by rw [HR.out]; rfl, HK.out⟩
  · rw [h] at HI
    have HR := Lib.hid (show plainR r = true by unfold plainR; rw [h]; rfl)
    clear h hS
    go_enter Tryd.func29, Tryd.ntmps29
    go_wp2_with fail
    refine HI.out.mono ?_
    rintro e w1 ⟨rfl, hk⟩
    have HK := Lib.hid hk
    clear hk
    go_wp2_with fail
    go_ret
    exact ⟨by rw [HR.out]; rfl, HK.out⟩
theorem columns_any {r : Nat} (hr : r ≤ 1114111) {w : World} (hV : VS w) : Calls Tryd.prog 16 #[.int .i32 (r : Nat)] w fun e w' => e = .returned (.int .i64 (colR r : Nat)) ∧ Kept No w w' := by
  obtain ⟨b, off, cap, c0, hS⟩ := hV.wide
  have HI := Lib.hid (show Calls Tryd.prog 34 #[.int .i32 (r : Nat), .slice (some ⟨b, off, none⟩) 4 cap] w fun e w' => e = .returned (.bool (inL r wideL)) ∧ Kept No w w' from in_any hr (L := wideL) (by decide) hS)
  by_cases h1 : r < 32
  · have d1 : decide (r < 32) = true := decide_eq_true h1
    have d1' : decide ((r : Int) < 32) = true := decide_eq_true (by omega)
    have HR := Lib.hid (show colR r = 0 by unfold colR; rw [if_pos (.inl h1)])
    clear hS h1 HI
    go_enter Tryd.func16, Tryd.ntmps16
    go_wp2_with fail
    go_ret
    exact ⟨by rw [HR.out]; rfl, Kept.refl No w⟩
  have d1 : decide (r < 32) = false := decide_eq_false h1
  have d1' : decide ((r : Int) < 32) = false := decide_eq_false (by omega)
  by_cases h2 : 127 ≤ r ∧ r ≤ 159
  · have d2 : decide (127 ≤ r) = true := decide_eq_true h2.1
    have d2' : decide ((127 : Int) ≤ (r : Int)) = true := decide_eq_true (by omega)
    have d3 : decide (r ≤ 159) = true := decide_eq_true h2.2
    have d3' : decide ((r : Int) ≤ 159) = true := decide_eq_true (by omega)
    have HR := Lib.hid (show colR r = 0 by unfold colR; rw [if_pos (.inr h2)])
    clear hS h1 HI h2
    go_enter Tryd.func16, Tryd.ntmps16
    go_wp2_with fail
    go_ret
    exact ⟨by rw [HR.out]; rfl, Kept.refl No w⟩
  have HR := Lib.hid (show colR r = if inL r wideL = true then 2 else 1 by unfold colR; rw [if_neg (by omega)])
  obtain ⟨v, hv⟩ : ∃ v, inL r wideL = v := ⟨_, rfl⟩
  rw [hv] at HR HI
  by_cases h3 : 127 ≤ r
  · have d2 : decide (127 ≤ r) = true := decide_eq_true h3
    have d2' : decide ((127 : Int) ≤ (r : Int)) = true := decide_eq_true (by omega)
    have d3 : decide (r ≤ 159) = false := decide_eq_false (by omega)
    have d3' : decide ((r : Int) ≤ 159) = false := decide_eq_false (by omega)
    clear hS h1 h2 h3 hv
    cases v
    all_goals
      go_enter Tryd.func16, Tryd.ntmps16
      go_wp2_with fail
      refine HI.out.mono ?_
      rintro e w1 ⟨rfl, hk⟩
      have HK := Lib.hid hk
      clear hk
      go_wp2_with fail
      go_ret
      exact ⟨by rw [HR.out]; rfl, HK.out⟩
  · have d2 : decide (127 ≤ r) = false := decide_eq_false h3
    have d2' : decide ((127 : Int) ≤ (r : Int)) = false := decide_eq_false (by omega)
    clear hS h1 h2 h3 hv
    cases v
    all_goals
      go_enter Tryd.func16, Tryd.ntmps16
      go_wp2_with fail
      refine HI.out.mono ?_
      rintro e w1 ⟨rfl, hk⟩
      have HK := Lib.hid hk
      clear hk
      go_wp2_with fail
      go_ret
      exact ⟨by rw [HR.out]; rfl, HK.out⟩
end Go.Proofs.YtoahnfmbmpllaaaDoor
