/-
  Pool: slices.Clone of effects and of triggers; card.Copy.
-/
import Derived.Test.YtclgoilfclmibaaGreatDoorOwn
import Derived.Deep.RegionWith
import Derived.Deep.CutRange
set_option linter.unusedVariables false
set_option linter.unusedSimpArgs false
namespace Go.Proofs.YtclgoilfclmibaaGreatDoor
open Go.RowKit Go.Zn
attribute [local go_sem] Oper.semAt_some

theorem eiE : SliceOf Tryz.prog 43 50 5 40 (.agg #[.int .i64 0, .int .i64 0, .int .i64 0, .int .i64 0, .int .i64 0]) := ⟨Tryz.underlying43, info_parts (by kernel_rfl), rfl, by decide, by decide⟩
theorem eiT : SliceOf Tryz.prog 44 71 2 32 (.agg #[.int .i64 0, .slice none 0 0]) := ⟨Tryz.underlying44, info_parts (by kernel_rfl), rfl, by decide, by decide⟩
theorem TrgsC.one {w : World} {B : Nat → Prop} : ∀ {l : List Trg} {cs : List Value}, TrgsC w B l cs → ∀ u ∈ cs, u.oneCell' = true
  | [], _, h, u, hu => by rw [show _ = [] from h] at hu; cases hu
  | t :: l, _, ⟨v, r, h1, h2, h3⟩, u, hu => by
    rw [h1] at hu
    simp only [List.mem_cons] at hu
    rcases hu with rfl | rfl | hu
    · rfl
    · obtain ⟨ad, cap, rfl⟩ := rd_slice h2; rfl
    · exact h3.one u hu
theorem cloneE_nil (w : World) : Calls Tryz.prog 58 #[.slice none 0 0] w fun e w' => e = .returned (.slice none 0 0) ∧ w = w' := by
  have he := fun w a n c => Lib.run_eql_slice_nil (P := Tryz.prog) w 43 50 a n c 0 0 Tryz.underlying43
  go_enter Tryz.func58, Tryz.ntmps58
  go_wp2_with fail
  go_ret
  exact ⟨rfl, rfl⟩
theorem cloneE_some (w : World) (B : Nat → Prop) (a : Addr) (n cap : Nat) (xs : List Value) (h1 : ∀ u ∈ xs, u.oneCell' = true) (hx : Rd w B 5 (.slice (some a) n cap) n xs) (hn : n ≤ 1000000) :
    Calls Tryz.prog 58 #[.slice (some a) n cap] w fun e w' => ∃ v, e = .returned v ∧ w'.ownsRow w.heap.size 50 5 v n xs ∧ Kept No w w' := by
  have he := fun w a n c => Lib.run_eql_slice_nil (P := Tryz.prog) w 43 50 a n c 0 0 Tryz.underlying43
  have hown0 := World.ownsRow_made (base := w.heap.size) (e := 50) (size := 5) w #[] 0 (Nat.le_refl _) (by simp [maxLen]) (by simp)
  have hx2 := hx.alloc (.cells #[] 50)
  have HB := Lib.hid (show (0 + n) * 40 ≤ 140737488355328 by omega)
  have HBS := Lib.hid (show w.heap.size ≤ (w.alloc (.cells #[] 50)).heap.size by simp)
  have HX := Lib.hid hx2
  have H1 := Lib.hid h1
  have HO := Lib.hid hown0
  clear hx2 hx h1 hown0 hn
  go_enter Tryz.func58, Tryz.ntmps58
  go_wp2_with (at_builtin; refine wpList_append_rd rfl rfl rfl rfl eiE HO.out HX.out H1.out HB.out HBS.out ?_; intro v1 w1 hown hg _)
  go_ret
  rw [Nat.zero_add, List.nil_append] at hown
  exact ⟨v1, rfl, hown, (((Kept.refl No w).alloc _).grown hg (fun k e h => by cases e; exact absurd h (Nat.lt_irrefl _)))⟩
theorem cloneE_any {l : List Eff} (hl : l.length ≤ 1000000) {w : World} {B : Nat → Prop} {v : Value} (hv : EffsAt w B v l) :
    Calls Tryz.prog 58 #[v] w fun e w' => ∃ v', e = .returned v' ∧ OwnE w' w.heap.size v' l ∧ Kept No w w' := by
  have hv' := hv
  obtain ⟨hlen, hm, hv2⟩ := hv
  rcases hv2 with ⟨hv2, hm0⟩ | ⟨b, off, cap, hv2, hc, hb, hcell⟩
  · have hl0 : l = [] := List.eq_nil_of_length_eq_zero hm0
    subst hl0
    rcases hv2 with hv2 | ⟨a, hv2⟩
    · subst hv2
      refine (cloneE_nil w).mono fun e w' ⟨he, hw⟩ => ?_
      subst hw
      exact ⟨_, he, World.ownsRow_nil _ _ _ _, Kept.refl _ _⟩
    · subst hv2
      exact cloneE_some w B a 0 0 [] (by simp) hv' (by omega)
  · subst hv2
    exact cloneE_some w B ⟨b, off, none⟩ l.length cap (effsCs l) (effsCs_one l) hv' hl
theorem cloneT_nil (w : World) : Calls Tryz.prog 59 #[.slice none 0 0] w fun e w' => e = .returned (.slice none 0 0) ∧ w = w' := by
  have he := fun w a n c => Lib.run_eql_slice_nil (P := Tryz.prog) w 44 71 a n c 0 0 Tryz.underlying44
  go_enter Tryz.func59, Tryz.ntmps59
  go_wp2_with fail
  go_ret
  exact ⟨rfl, rfl⟩
theorem cloneT_some (w : World) (B : Nat → Prop) (a : Addr) (n cap : Nat) (xs : List Value) (h1 : ∀ u ∈ xs, u.oneCell' = true) (hx : Rd w B 2 (.slice (some a) n cap) n xs) (hn : n ≤ 1000000) :
    Calls Tryz.prog 59 #[.slice (some a) n cap] w fun e w' => ∃ v, e = .returned v ∧ w'.ownsRow w.heap.size 71 2 v n xs ∧ Kept No w w' := by
  have he := fun w a n c => Lib.run_eql_slice_nil (P := Tryz.prog) w 44 71 a n c 0 0 Tryz.underlying44
  have hown0 := World.ownsRow_made (base := w.heap.size) (e := 71) (size := 2) w #[] 0 (Nat.le_refl _) (by simp [maxLen]) (by simp)
  have hx2 := hx.alloc (.cells #[] 71)
  have HB := Lib.hid (show (0 + n) * 32 ≤ 140737488355328 by omega)
  have HBS := Lib.hid (show w.heap.size ≤ (w.alloc (.cells #[] 71)).heap.size by simp)
  have HX := Lib.hid hx2
  have H1 := Lib.hid h1
  have HO := Lib.hid hown0
  clear hx2 hx h1 hown0 hn
  go_enter Tryz.func59, Tryz.ntmps59
  go_wp2_with (at_builtin; refine wpList_append_rd rfl rfl rfl rfl eiT HO.out HX.out H1.out HB.out HBS.out ?_; intro v1 w1 hown hg _)
  go_ret
  rw [Nat.zero_add, List.nil_append] at hown
  exact ⟨v1, rfl, hown, (((Kept.refl No w).alloc _).grown hg (fun k e h => by cases e; exact absurd h (Nat.lt_irrefl _)))⟩
theorem cloneT_any {l : List Trg} (hl : l.length ≤ 1000000) {w : World} {B : Nat → Prop} {v : Value} (hv : TrgsAt w B v l) :
    Calls Tryz.prog 59 #[v] w fun e w' => ∃ v' cs, e = .returned v' ∧ w'.ownsRow w.heap.size 71 2 v' l.length cs ∧ TrgsC w' B l cs ∧ Kept No w w' := by
  obtain ⟨cs, hv, hc2⟩ := hv
  have hv' := hv
  obtain ⟨hlen, hm, hv2⟩ := hv
  rcases hv2 with ⟨hv2, hm0⟩ | ⟨b, off, cap, hv2, hc, hb, hcell⟩
  · have hl0 : l = [] := List.eq_nil_of_length_eq_zero hm0
    subst hl0
    obtain rfl : cs = [] := hc2
    rcases hv2 with hv2 | ⟨a, hv2⟩
    · subst hv2
      refine (cloneT_nil w).mono fun e w' ⟨he, hw⟩ => ?_
      subst hw
      exact ⟨_, [], he, World.ownsRow_nil _ _ _ _, rfl, Kept.refl _ _⟩
    · subst hv2
      exact (cloneT_some w B a 0 0 [] (by simp) hv' (by omega)).mono fun e w' ⟨v, he, ho, hk⟩ => ⟨v, [], he, ho, rfl, hk⟩
  · subst hv2
    exact (cloneT_some w B ⟨b, off, none⟩ l.length cap cs hc2.one hv' hl).mono fun e w' ⟨v, he, ho, hk⟩ => ⟨v, cs, he, ho, hc2.no hk, hk⟩
end Go.Proofs.YtclgoilfclmibaaGreatDoor
