/-
  Bracket: nil and zero brackets: the walk of BracketNone.
-/
import Derived.Test.YtphlpclhmodekaaDoorWalkM
set_option linter.unusedVariables false
set_option linter.unusedSimpArgs false
namespace Go.Proofs.YtphlpclhmodekaaDoor
open Go.RowKit Go.Zn
attribute [local go_sem] Oper.semAt_some

set_option maxRecDepth 100000 in
theorem eqB_zero (W : World) : Sem.run Tryd.prog (binOp .eql 46 (.agg Tryd.zeroCells46.toList.toArray) (.agg Tryd.zeroCells46)) W = .ok (.bool true) W := by kernel_rfl
set_option maxRecDepth 100000 in
theorem none_zero {z : Nat} {w : World} (hb : w.heap[z]? = some (.cells Tryd.zeroCells46 46 (0, 0))) : Calls Tryd.prog 30 #[.pointer (some ⟨z, 0, none⟩)] w fun e w' => e = .returned (.bool true) ∧ w' = w := by
  have hr : w.rangeAt z 0 Tryd.zeroCells46.toList := fun j v hv => by
    rw [obj_cell hb (0 + j), Nat.zero_add, ← Array.getElem?_toList]; exact hv
  have hi : (Tryd.prog.info? 46).map (·.size) = some Tryd.zeroCells46.toList.length := by kernel_rfl
  have heq := eqB_zero
  obtain ⟨cs, hcs⟩ : ∃ cs, Tryd.zeroCells46.toList = cs := ⟨_, rfl⟩
  rw [hcs] at hr hi heq
  have HR := Lib.hid hr
  have HI := Lib.hid hi
  clear hb hr hi hcs
  go_enter Tryd.func30, Tryd.ntmps30
  go_wp2_with (refine wpList_load_want 46 _ rfl (by rfl) z 0 rfl cs _ HR.out Tryd.underlying46 rfl HI.out ?_)
  go_ret
  exact ⟨rfl, rfl⟩
/-- a bracket that is nil or zero -/
def NoneK (p : Value) (w : World) : Prop := Calls Tryd.prog 30 #[p] w fun e w' => e = .returned (.bool true) ∧ w' = w
theorem report_none {p : Value} {w : World} (hn : NoneK p w) (m s : Int) : Calls Tryd.prog 13 #[p, .int .i64 m, .int .i64 s] w fun e w' => e = .returned (.int .i64 1) ∧ w' = w := by
  have HN := Lib.hid hn
  clear hn
  go_enter Tryd.func13, Tryd.ntmps13
  go_wp2_with fail
  refine HN.out.mono ?_
  rintro e w1 ⟨rfl, hk⟩
  have hk := hk.symm
  subst hk
  go_wp2_with fail
  go_ret
  exact ⟨rfl, rfl⟩
theorem undo_none {p : Value} {w : World} (hn : NoneK p w) (m : Int) : Calls Tryd.prog 14 #[p, .int .i64 m] w fun e w' => e = .returned (.int .i64 1) ∧ w' = w := by
  have HN := Lib.hid hn
  clear hn
  go_enter Tryd.func14, Tryd.ntmps14
  go_wp2_with fail
  refine HN.out.mono ?_
  rintro e w1 ⟨rfl, hk⟩
  have hk := hk.symm
  subst hk
  go_wp2_with fail
  go_ret
  exact ⟨rfl, rfl⟩
theorem seats_none {p : Value} {w : World} (hn : NoneK p w) (m : Int) : Calls Tryd.prog 15 #[p, .int .i64 m] w fun e w' => e = .returned (.tuple #[.int .i64 0, .int .i64 0, .int .i64 1]) ∧ w' = w := by
  have HN := Lib.hid hn
  clear hn
  go_enter Tryd.func15, Tryd.ntmps15
  go_wp2_with fail
  refine HN.out.mono ?_
  rintro e w1 ⟨rfl, hk⟩
  have hk := hk.symm
  subst hk
  go_wp2_with fail
  go_ret3
  exact ⟨rfl, rfl⟩
theorem openl_none {p : Value} {w : World} (hn : NoneK p w)  : Calls Tryd.prog 10 #[p] w fun e w' => e = .returned (.slice none 0 0) ∧ w' = w := by
  have HN := Lib.hid hn
  clear hn
  go_enter Tryd.func10, Tryd.ntmps10
  go_wp2_with fail
  refine HN.out.mono ?_
  rintro e w1 ⟨rfl, hk⟩
  have hk := hk.symm
  subst hk
  go_wp2_with fail
  go_ret
  exact ⟨rfl, rfl⟩
theorem champion_none {p : Value} {w : World} (hn : NoneK p w)  : Calls Tryd.prog 11 #[p] w fun e w' => e = .returned (.int .i64 (-1)) ∧ w' = w := by
  have HN := Lib.hid hn
  clear hn
  go_enter Tryd.func11, Tryd.ntmps11
  go_wp2_with fail
  refine HN.out.mono ?_
  rintro e w1 ⟨rfl, hk⟩
  have hk := hk.symm
  subst hk
  go_wp2_with fail
  go_ret
  exact ⟨rfl, rfl⟩
theorem rank_none {p : Value} {w : World} (hn : NoneK p w) (m : Int) : Calls Tryd.prog 16 #[p, .int .i64 m] w fun e w' => e = .returned (.tuple #[.int .i64 0, .int .i64 1]) ∧ w' = w := by
  have HN := Lib.hid hn
  clear hn
  go_enter Tryd.func16, Tryd.ntmps16
  go_wp2_with fail
  refine HN.out.mono ?_
  rintro e w1 ⟨rfl, hk⟩
  have hk := hk.symm
  subst hk
  go_wp2_with fail
  go_ret2
  exact ⟨rfl, rfl⟩
theorem matches_none {p : Value} {w : World} (hn : NoneK p w)  : Calls Tryd.prog 21 #[p] w fun e w' => e = .returned (.int .i64 0) ∧ w' = w := by
  have HN := Lib.hid hn
  clear hn
  go_enter Tryd.func21, Tryd.ntmps21
  go_wp2_with fail
  refine HN.out.mono ?_
  rintro e w1 ⟨rfl, hk⟩
  have hk := hk.symm
  subst hk
  go_wp2_with fail
  go_ret
  exact ⟨rfl, rfl⟩
theorem text_none {p : Value} {w : World} (hn : NoneK p w)  : Calls Tryd.prog 12 #[p] w fun e w' => e = .returned (.string { data := #[] }) ∧ w' = w := by
  have HN := Lib.hid hn
  clear hn
  go_enter Tryd.func12, Tryd.ntmps12
  go_wp2_with fail
  refine HN.out.mono ?_
  rintro e w1 ⟨rfl, hk⟩
  have hk := hk.symm
  subst hk
  go_wp2_with fail
  go_ret
  exact ⟨rfl, rfl⟩
theorem copy_none {p : Value} {w : World} (hn : NoneK p w)  : Calls Tryd.prog 22 #[p] w fun e w' => e = .returned (.pointer none) ∧ w' = w := by
  have HN := Lib.hid hn
  clear hn
  go_enter Tryd.func22, Tryd.ntmps22
  go_wp2_with fail
  refine HN.out.mono ?_
  rintro e w1 ⟨rfl, hk⟩
  have hk := hk.symm
  subst hk
  go_wp2_with fail
  go_ret
  exact ⟨rfl, rfl⟩
theorem seatsL_none {p : Value} {w : World} (hn : NoneK p w) (m : Int) : Calls Tryd.prog 19 #[p, .int .i64 m, .int .i64 0, .int .i64 0, .int .i64 1] w fun e w' => e = .returned (.bool true) ∧ w' = w := seatsL_any (seats_none hn m)
theorem ranksL_none {p : Value} {w : World} (hn : NoneK p w) (m : Int) : Calls Tryd.prog 20 #[p, .int .i64 m, .int .i64 0, .int .i64 1] w fun e w' => e = .returned (.bool true) ∧ w' = w := ranksL_any (rank_none hn m)
set_option maxRecDepth 100000 in
set_option maxHeartbeats 4000000 in
theorem none_any (m s : Int) (w : World) : Calls Tryd.prog 5 #[.int .i64 m, .int .i64 s] w fun e w' => e = .returned (.bool true) ∧ Kept No w w' := by
  obtain ⟨w1, hw1⟩ : ∃ w1, w.alloc (.cells Tryd.zeroCells46 46) = w1 := ⟨_, rfl⟩
  obtain ⟨w2, hw2⟩ : ∃ w2, w1.alloc (.cells #[.pointer none, .pointer (some ⟨w.heap.size, 0, none⟩)] 24) = w2 := ⟨_, rfl⟩
  obtain ⟨g, hg⟩ : ∃ g, w1.heap.size = g := ⟨_, rfl⟩
  have HZ := Lib.hid (show NoneK (.pointer (some ⟨w.heap.size, 0, none⟩)) w2 from none_zero (by rw [← hw2, ← hw1]; exact obj_alloc (heap_alloc_new w _) _))
  have HL := Lib.hid (show NoneK (.pointer none) w2 from none_nil w2)
  have hb : w2.heap[g]? = some (.cells #[.pointer none, .pointer (some ⟨w.heap.size, 0, none⟩)] 24 (0, 0)) := by rw [← hw2, ← hg]; exact heap_alloc_new w1 _
  have c0 := obj_cell hb 0
  have c1 := obj_cell hb 1
  have HK := Lib.hid (show Kept No w w2 by rw [← hw2, ← hw1]; exact (((Kept.refl No w).alloc _).alloc _))
  have HKN := Lib.hid (known_any w2)
  clear hb
  go_enter Tryd.func5, Tryd.ntmps5
  go_wp2_with fail
  go_loopw [11] (fun iv wr => ∃ i : Nat, iv = .int .i64 (i : Nat) ∧ i ≤ 2 ∧ wr = w2) (fun iv _ => 2 - (intOf iv).toNat)
  case atStart => exact ⟨0, rfl, by decide, rfl⟩
  case round =>
    obtain ⟨i, rfl, hi, rfl⟩ := hrel
    obtain rfl | rfl | rfl : i = 0 ∨ i = 1 ∨ i = 2 := by omega
    · go_wp2_with fail
      refine (report_none HL.out m s).mono ?_
      rintro e wz ⟨rfl, hk⟩
      have hk := hk.symm
      subst hk
      go_wp2_with fail
      refine (undo_none HL.out m).mono ?_
      rintro e wz ⟨rfl, hk⟩
      have hk := hk.symm
      subst hk
      go_wp2_with fail
      refine (seatsL_none HL.out m).mono ?_
      rintro e wz ⟨rfl, hk⟩
      have hk := hk.symm
      subst hk
      go_wp2_with fail
      refine (openl_none HL.out ).mono ?_
      rintro e wz ⟨rfl, hk⟩
      have hk := hk.symm
      subst hk
      go_wp2_with fail
      refine (champion_none HL.out ).mono ?_
      rintro e wz ⟨rfl, hk⟩
      have hk := hk.symm
      subst hk
      go_wp2_with fail
      refine (ranksL_none HL.out m).mono ?_
      rintro e wz ⟨rfl, hk⟩
      have hk := hk.symm
      subst hk
      go_wp2_with fail
      refine (matches_none HL.out ).mono ?_
      rintro e wz ⟨rfl, hk⟩
      have hk := hk.symm
      subst hk
      go_wp2_with fail
      refine (text_none HL.out ).mono ?_
      rintro e wz ⟨rfl, hk⟩
      have hk := hk.symm
      subst hk
      go_wp2_with fail
      refine (copy_none HL.out ).mono ?_
      rintro e wz ⟨rfl, hk⟩
      have hk := hk.symm
      subst hk
      go_wp2_with fail
      exact ⟨⟨1, by go_num, by decide, trivial⟩, by simp [intOf]⟩
    · go_wp2_with fail
      refine (report_none HZ.out m s).mono ?_
      rintro e wz ⟨rfl, hk⟩
      have hk := hk.symm
      subst hk
      go_wp2_with fail
      refine (undo_none HZ.out m).mono ?_
      rintro e wz ⟨rfl, hk⟩
      have hk := hk.symm
      subst hk
      go_wp2_with fail
      refine (seatsL_none HZ.out m).mono ?_
      rintro e wz ⟨rfl, hk⟩
      have hk := hk.symm
      subst hk
      go_wp2_with fail
      refine (openl_none HZ.out ).mono ?_
      rintro e wz ⟨rfl, hk⟩
      have hk := hk.symm
      subst hk
      go_wp2_with fail
      refine (champion_none HZ.out ).mono ?_
      rintro e wz ⟨rfl, hk⟩
      have hk := hk.symm
      subst hk
      go_wp2_with fail
      refine (ranksL_none HZ.out m).mono ?_
      rintro e wz ⟨rfl, hk⟩
      have hk := hk.symm
      subst hk
      go_wp2_with fail
      refine (matches_none HZ.out ).mono ?_
      rintro e wz ⟨rfl, hk⟩
      have hk := hk.symm
      subst hk
      go_wp2_with fail
      refine (text_none HZ.out ).mono ?_
      rintro e wz ⟨rfl, hk⟩
      have hk := hk.symm
      subst hk
      go_wp2_with fail
      refine (copy_none HZ.out ).mono ?_
      rintro e wz ⟨rfl, hk⟩
      have hk := hk.symm
      subst hk
      go_wp2_with fail
      exact ⟨⟨2, by go_num, by decide, trivial⟩, by simp [intOf]⟩
    · go_wp2_with fail
      refine HKN.out.mono ?_
      rintro e wz ⟨rfl, hk⟩
      have HKE := Lib.hid (HK.out.and hk)
      clear hk
      go_wp2_with fail
      go_ret
      exact ⟨rfl, HKE.out⟩
end Go.Proofs.YtphlpclhmodekaaDoor
