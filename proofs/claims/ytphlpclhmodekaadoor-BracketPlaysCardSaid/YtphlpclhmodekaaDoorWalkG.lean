/-
  Bracket: Undo.
-/
import Derived.Test.YtphlpclhmodekaaDoorWalkF
import Derived.Deep.QuietTactic
import Derived.BigQuiet
set_option linter.unusedVariables false
set_option linter.unusedSimpArgs false
namespace Go.Proofs.YtphlpclhmodekaaDoor
open Go.RowKit Go.Zn
attribute [local go_sem] Oper.semAt_some

theorem undo_not {k E : Nat} {f : Nat → Nat} {b : Nat} {w : World} (hB : BS k E f b w) {m : Nat} (hm : m + 1 < 2 ^ k) (h0 : f m = 0) : Calls Tryd.prog 14 #[.pointer (some ⟨b, 0, none⟩), .int .i64 (m : Nat)] w fun e w' => e = .returned (.int .i64 8) ∧ Kept No w w' := by
  have hle := hB.z.le
  obtain ⟨H, hH, hH1, _⟩ := hB.z.pow
  have HN := Lib.hid (fun w (hB : BS k E f b w) => none_no hB)
  have HNX := Lib.hid (fun w (hB : BS k E f b w) => next_any hB hm)
  obtain ⟨n, hn⟩ : ∃ n, nextF k m = n := ⟨_, rfl⟩
  rw [hn] at HNX
  have cm := hB.won hm
  obtain ⟨S, hS⟩ : ∃ S, 2 ^ k = S := ⟨_, rfl⟩
  have c1 : w.cell? ⟨b, 1, none⟩ = some (.int .i64 (S : Nat)) := by rw [← hS]; exact hB.size
  have HB := Lib.hid hB
  have q0 : IntKind.i64.wrap ((S : Int) - 1) = (S : Int) - 1 := IntWalk.i64_in _ (by omega)
  have q0' : IntKind.i64.wrap ((S : Int) - 2) = (S : Int) - 2 := IntWalk.i64_in _ (by omega)
  have q1 : decide ((S : Int) - 1 ≤ (m : Int)) = false := decide_eq_false (by omega)
  have hmo : m < 63 := by omega
  have hfm := hB.wf.le m
  obtain ⟨dm, hdm⟩ : ∃ d, f m = d := ⟨_, rfl⟩
  rw [hdm] at cm hfm
  have hfm2 : dm = 0 := by omega
  have HDM := Lib.hid hdm
  clear hdm
  clear hB hS hle hH hH1 hm hn hfm h0
  obtain rfl := hfm2
  go_enter Tryd.func14, Tryd.ntmps14
  go_wp2_with fail
  refine (HN.out _ HB.out).mono ?_
  rintro e w1 ⟨rfl, hk⟩
  have hk := hk.symm
  subst hk
  go_wp2_with fail
  go_quiet (first | (go_at_call 37; exact Calls.quiet_of_same (HNX.out _ (HB.out.drewN _))))
  go_wp2_with fail
  go_ret
  exact ⟨rfl, (Kept.refl No w).drewN nq⟩
theorem undo_bye {k E : Nat} {f : Nat → Nat} {b : Nat} {w : World} (hB : BS k E f b w) {m : Nat} (hm : m + 1 < 2 ^ k) (hby : byeF k E m = true) : Calls Tryd.prog 14 #[.pointer (some ⟨b, 0, none⟩), .int .i64 (m : Nat)] w fun e w' => e = .returned (.int .i64 8) ∧ Kept No w w' := by
  have hle := hB.z.le
  obtain ⟨H, hH, hH1, _⟩ := hB.z.pow
  have HN := Lib.hid (fun w (hB : BS k E f b w) => none_no hB)
  have HBY := Lib.hid (fun w (hB : BS k E f b w) => (show Calls Tryd.prog 28 #[.pointer (some ⟨b, 0, none⟩), .int .i64 (m : Nat)] w fun e w' => e = .returned (.bool true) ∧ w' = w from hby ▸ bye_any hB hm))
  have HNX := Lib.hid (fun w (hB : BS k E f b w) => next_any hB hm)
  have h0 := hB.wf.bye m hby
  obtain ⟨n, hn⟩ : ∃ n, nextF k m = n := ⟨_, rfl⟩
  rw [hn] at HNX
  have cm := hB.won hm
  obtain ⟨S, hS⟩ : ∃ S, 2 ^ k = S := ⟨_, rfl⟩
  have c1 : w.cell? ⟨b, 1, none⟩ = some (.int .i64 (S : Nat)) := by rw [← hS]; exact hB.size
  have HB := Lib.hid hB
  have q0 : IntKind.i64.wrap ((S : Int) - 1) = (S : Int) - 1 := IntWalk.i64_in _ (by omega)
  have q0' : IntKind.i64.wrap ((S : Int) - 2) = (S : Int) - 2 := IntWalk.i64_in _ (by omega)
  have q1 : decide ((S : Int) - 1 ≤ (m : Int)) = false := decide_eq_false (by omega)
  have hmo : m < 63 := by omega
  have hfm := hB.wf.le m
  obtain ⟨dm, hdm⟩ : ∃ d, f m = d := ⟨_, rfl⟩
  rw [hdm] at cm hfm
  have hfm2 : dm = 1 := by omega
  have HDM := Lib.hid hdm
  clear hdm
  clear hB hS hle hH hH1 hm hn hfm hby h0
  obtain rfl := hfm2
  go_enter Tryd.func14, Tryd.ntmps14
  go_wp2_with fail
  refine (HN.out _ HB.out).mono ?_
  rintro e w1 ⟨rfl, hk⟩
  have hk := hk.symm
  subst hk
  go_wp2_with fail
  go_quiet (first | (go_at_call 28; exact Calls.quiet_of_same (HBY.out _ (HB.out.drewN _))) | (go_at_call 37; exact Calls.quiet_of_same (HNX.out _ (HB.out.drewN _))))
  go_wp2_with fail
  go_ret
  exact ⟨rfl, (Kept.refl No w).drewN nq⟩
theorem undo_last {k E : Nat} {f : Nat → Nat} {b : Nat} {w : World} (hB : BS k E f b w) {m : Nat} (hm : m + 1 < 2 ^ k) (hby : byeF k E m = false) (hf : f m ≠ 0) (hl : ¬ m + 2 < 2 ^ k) : Calls Tryd.prog 14 #[.pointer (some ⟨b, 0, none⟩), .int .i64 (m : Nat)] w fun e w' => e = .returned (.int .i64 0) ∧ BS k E (upd f m 0) b w' ∧ Kept (fun i => i = b) w w' := by
  have hle := hB.z.le
  obtain ⟨H, hH, hH1, _⟩ := hB.z.pow
  have HN := Lib.hid (fun w (hB : BS k E f b w) => none_no hB)
  have HBY := Lib.hid (fun w (hB : BS k E f b w) => (show Calls Tryd.prog 28 #[.pointer (some ⟨b, 0, none⟩), .int .i64 (m : Nat)] w fun e w' => e = .returned (.bool false) ∧ w' = w from hby ▸ bye_any hB hm))
  have HNX := Lib.hid (fun w (hB : BS k E f b w) => next_any hB hm)
  have hx : f (nextF k m) = 0 := hB.wf.out _ (by unfold nextF; omega)
  have HP := Lib.hid (fun w (hB : BS k E f b w) => hB.put (v := 0) hm (hB.wf.undo hB.z hm hby hx))
  obtain ⟨n, hn⟩ : ∃ n, nextF k m = n := ⟨_, rfl⟩
  rw [hn] at HNX
  have cm := hB.won hm
  obtain ⟨S, hS⟩ : ∃ S, 2 ^ k = S := ⟨_, rfl⟩
  have c1 : w.cell? ⟨b, 1, none⟩ = some (.int .i64 (S : Nat)) := by rw [← hS]; exact hB.size
  have HB := Lib.hid hB
  have q0 : IntKind.i64.wrap ((S : Int) - 1) = (S : Int) - 1 := IntWalk.i64_in _ (by omega)
  have q0' : IntKind.i64.wrap ((S : Int) - 2) = (S : Int) - 2 := IntWalk.i64_in _ (by omega)
  have q1 : decide ((S : Int) - 1 ≤ (m : Int)) = false := decide_eq_false (by omega)
  have q2 : decide ((m : Int) < (S : Int) - 2) = false := decide_eq_false (by omega)
  have hmo : m < 63 := by omega
  have hfm := hB.wf.le m
  obtain ⟨dm, hdm⟩ : ∃ d, f m = d := ⟨_, rfl⟩
  rw [hdm] at cm hfm
  have hfm2 : dm = 1 ∨ dm = 2 := by omega
  have HDM := Lib.hid hdm
  clear hdm
  clear hB hS hle hH hH1 hm hn hfm hby hf hl hx
  obtain rfl | rfl := hfm2
  all_goals
    go_enter Tryd.func14, Tryd.ntmps14
    go_wp2_with fail
    refine (HN.out _ HB.out).mono ?_
    rintro e w1 ⟨rfl, hk⟩
    have hk := hk.symm
    subst hk
    go_wp2_with fail
    go_quiet (first | (go_at_call 28; exact Calls.quiet_of_same (HBY.out _ (HB.out.drewN _))) | (go_at_call 37; exact Calls.quiet_of_same (HNX.out _ (HB.out.drewN _))))
    have ym := (HB.out.drewN nq).free (2 + m)
    have HY := Lib.hid (HP.out _ (HB.out.drewN nq))
    go_wp2_with fail
    go_ret
    exact ⟨rfl, HY.out, (((Kept.refl No w).drewN nq).any (T := fun i => i = b)).setCell (fun _ => rfl) _⟩
theorem undo_done {k E : Nat} {f : Nat → Nat} {b : Nat} {w : World} (hB : BS k E f b w) {m : Nat} (hm : m + 1 < 2 ^ k) (hby : byeF k E m = false) (hf : f m ≠ 0) (hl : m + 2 < 2 ^ k) (hx : f (nextF k m) ≠ 0) : Calls Tryd.prog 14 #[.pointer (some ⟨b, 0, none⟩), .int .i64 (m : Nat)] w fun e w' => e = .returned (.int .i64 8) ∧ Kept No w w' := by
  have hle := hB.z.le
  obtain ⟨H, hH, hH1, _⟩ := hB.z.pow
  have HN := Lib.hid (fun w (hB : BS k E f b w) => none_no hB)
  have HBY := Lib.hid (fun w (hB : BS k E f b w) => (show Calls Tryd.prog 28 #[.pointer (some ⟨b, 0, none⟩), .int .i64 (m : Nat)] w fun e w' => e = .returned (.bool false) ∧ w' = w from hby ▸ bye_any hB hm))
  have HNX := Lib.hid (fun w (hB : BS k E f b w) => next_any hB hm)
  obtain ⟨n, hn⟩ : ∃ n, nextF k m = n := ⟨_, rfl⟩
  rw [hn] at HNX
  have hn1 : n + 1 < 2 ^ k := by unfold nextF at hn; omega
  have cn := hB.won hn1
  have hn63 : n < 63 := by omega
  have cm := hB.won hm
  obtain ⟨S, hS⟩ : ∃ S, 2 ^ k = S := ⟨_, rfl⟩
  have c1 : w.cell? ⟨b, 1, none⟩ = some (.int .i64 (S : Nat)) := by rw [← hS]; exact hB.size
  have HB := Lib.hid hB
  have q0 : IntKind.i64.wrap ((S : Int) - 1) = (S : Int) - 1 := IntWalk.i64_in _ (by omega)
  have q0' : IntKind.i64.wrap ((S : Int) - 2) = (S : Int) - 2 := IntWalk.i64_in _ (by omega)
  have q1 : decide ((S : Int) - 1 ≤ (m : Int)) = false := decide_eq_false (by omega)
  have q2 : decide ((m : Int) < (S : Int) - 2) = true := decide_eq_true (by omega)
  have hmo : m < 63 := by omega
  have hfm := hB.wf.le m
  have hfn := hB.wf.le n
  obtain ⟨dm, hdm⟩ : ∃ d, f m = d := ⟨_, rfl⟩
  rw [hdm] at cm hfm
  have hfm2 : dm = 1 ∨ dm = 2 := by omega
  obtain ⟨dn, hdn⟩ : ∃ d, f n = d := ⟨_, rfl⟩
  rw [hdn] at cn hfn
  have hfn2 : dn = 1 ∨ dn = 2 := by rw [hn] at hx; omega
  have HDM := Lib.hid hdm
  clear hdm
  have HDN := Lib.hid hdn
  clear hdn
  clear hB hS hle hH hH1 hm hn hfm hfn hby hf hl hx hn1
  obtain rfl | rfl := hfm2
  all_goals
    rcases hfn2 with rfl | rfl
    all_goals
      go_enter Tryd.func14, Tryd.ntmps14
      go_wp2_with fail
      refine (HN.out _ HB.out).mono ?_
      rintro e w1 ⟨rfl, hk⟩
      have hk := hk.symm
      subst hk
      go_wp2_with fail
      go_quiet (first | (go_at_call 28; exact Calls.quiet_of_same (HBY.out _ (HB.out.drewN _))) | (go_at_call 37; exact Calls.quiet_of_same (HNX.out _ (HB.out.drewN _))))
      go_wp2_with fail
      go_ret
      exact ⟨rfl, (Kept.refl No w).drewN nq⟩
theorem undo_next {k E : Nat} {f : Nat → Nat} {b : Nat} {w : World} (hB : BS k E f b w) {m : Nat} (hm : m + 1 < 2 ^ k) (hby : byeF k E m = false) (hf : f m ≠ 0) (hl : m + 2 < 2 ^ k) (hx : f (nextF k m) = 0) : Calls Tryd.prog 14 #[.pointer (some ⟨b, 0, none⟩), .int .i64 (m : Nat)] w fun e w' => e = .returned (.int .i64 0) ∧ BS k E (upd f m 0) b w' ∧ Kept (fun i => i = b) w w' := by
  have hle := hB.z.le
  obtain ⟨H, hH, hH1, _⟩ := hB.z.pow
  have HN := Lib.hid (fun w (hB : BS k E f b w) => none_no hB)
  have HBY := Lib.hid (fun w (hB : BS k E f b w) => (show Calls Tryd.prog 28 #[.pointer (some ⟨b, 0, none⟩), .int .i64 (m : Nat)] w fun e w' => e = .returned (.bool false) ∧ w' = w from hby ▸ bye_any hB hm))
  have HNX := Lib.hid (fun w (hB : BS k E f b w) => next_any hB hm)
  have HP := Lib.hid (fun w (hB : BS k E f b w) => hB.put (v := 0) hm (hB.wf.undo hB.z hm hby hx))
  obtain ⟨n, hn⟩ : ∃ n, nextF k m = n := ⟨_, rfl⟩
  rw [hn] at HNX
  have hn1 : n + 1 < 2 ^ k := by unfold nextF at hn; omega
  have cn := hB.won hn1
  have hn63 : n < 63 := by omega
  have cm := hB.won hm
  obtain ⟨S, hS⟩ : ∃ S, 2 ^ k = S := ⟨_, rfl⟩
  have c1 : w.cell? ⟨b, 1, none⟩ = some (.int .i64 (S : Nat)) := by rw [← hS]; exact hB.size
  have HB := Lib.hid hB
  have q0 : IntKind.i64.wrap ((S : Int) - 1) = (S : Int) - 1 := IntWalk.i64_in _ (by omega)
  have q0' : IntKind.i64.wrap ((S : Int) - 2) = (S : Int) - 2 := IntWalk.i64_in _ (by omega)
  have q1 : decide ((S : Int) - 1 ≤ (m : Int)) = false := decide_eq_false (by omega)
  have q2 : decide ((m : Int) < (S : Int) - 2) = true := decide_eq_true (by omega)
  have hmo : m < 63 := by omega
  have hfm := hB.wf.le m
  have hfn := hB.wf.le n
  obtain ⟨dm, hdm⟩ : ∃ d, f m = d := ⟨_, rfl⟩
  rw [hdm] at cm hfm
  have hfm2 : dm = 1 ∨ dm = 2 := by omega
  obtain ⟨dn, hdn⟩ : ∃ d, f n = d := ⟨_, rfl⟩
  rw [hdn] at cn hfn
  have hfn2 : dn = 0 := by rw [hn] at hx; omega
  have HDM := Lib.hid hdm
  clear hdm
  have HDN := Lib.hid hdn
  clear hdn
  clear hB hS hle hH hH1 hm hn hfm hfn hby hf hl hx hn1
  obtain rfl | rfl := hfm2
  all_goals
    subst hfn2
    go_enter Tryd.func14, Tryd.ntmps14
    go_wp2_with fail
    refine (HN.out _ HB.out).mono ?_
    rintro e w1 ⟨rfl, hk⟩
    have hk := hk.symm
    subst hk
    go_wp2_with fail
    go_quiet (first | (go_at_call 28; exact Calls.quiet_of_same (HBY.out _ (HB.out.drewN _))) | (go_at_call 37; exact Calls.quiet_of_same (HNX.out _ (HB.out.drewN _))))
    have ym := (HB.out.drewN nq).free (2 + m)
    have HY := Lib.hid (HP.out _ (HB.out.drewN nq))
    go_wp2_with fail
    go_ret
    exact ⟨rfl, HY.out, (((Kept.refl No w).drewN nq).any (T := fun i => i = b)).setCell (fun _ => rfl) _⟩
end Go.Proofs.YtphlpclhmodekaaDoor
