/-
  Pool: the reader of bytes: number, most.
-/
import Derived.Test.YtclgoilfclmibaaGreatDoorTk
set_option linter.unusedVariables false
set_option linter.unusedSimpArgs false
namespace Go.Proofs.YtclgoilfclmibaaGreatDoor
open Go.RowKit Go.Zn
attribute [local go_sem] Oper.semAt_some

theorem take_one (s : RS) : ∃ x : UInt8, (takeF 1 s).1 = [x] ∧ x.toNat = (numF s).1 ∧ (takeF 1 s).2 = (numF s).2 := by
  rcases s with _ | _ | ⟨x, r⟩
  · exact ⟨0, rfl, rfl, rfl⟩
  · exact ⟨0, rfl, rfl, rfl⟩
  · refine ⟨x, ?_, rfl, ?_⟩ <;> simp [takeF, numF]
theorem mostF_le (n : Nat) (s : RS) : (mostF n s).1 ≤ n := by
  unfold mostF
  rcases numF s with ⟨x, _ | r⟩
  · exact Nat.zero_le _
  · simp only
    split
    · exact Nat.zero_le _
    · exact Nat.le_of_not_lt (by assumption)
def NumPost (g : Nat) (B : Nat → Prop) (q : Nat × RS) (w : World) (e : Ending) (w' : World) : Prop := e = .returned (.int .i64 (q.1 : Nat)) ∧ RdrAt w' g B q.2 ∧ Kept (fun b => b = g) w w'
set_option maxRecDepth 100000 in
theorem number_any {g : Nat} {B : Nat → Prop} (hB : ∀ b, B b → b ≠ g) {s : RS} {w : World} (h : RdrAt w g B s) : Calls Tryz.prog 64 #[.pointer (some ⟨g, 0, none⟩)] w (NumPost g B (numF s) w) := by
  have HT := Lib.hid (take_any (n := 1) (by decide) hB h)
  obtain ⟨x, h1, h2, h3⟩ := take_one s
  have H1 := Lib.hid h1
  have H2 := Lib.hid h2
  have H3 := Lib.hid h3
  clear h hB h1 h2 h3
  go_enter Tryz.func64, Tryz.ntmps64
  go_wp2_with fail
  refine HT.out.mono ?_
  rintro e w1 ⟨v, rfl, hr, hrd, hk⟩
  rw [H1.out] at hr
  obtain ⟨_, _, ⟨_, h0⟩ | ⟨b, off, cap, rfl, hcap, _, hc⟩⟩ := hr
  · omega
  have g0 : w1.cell? ⟨b, off, none⟩ = some (.int .u8 (x.toNat : Nat)) := hc 0 _ rfl
  have HRD := Lib.hid hrd
  have HK := Lib.hid hk
  have hx := x.toNat_lt
  obtain ⟨y, hy⟩ : ∃ y, x.toNat = y := ⟨_, rfl⟩
  rw [hy] at g0 hx
  rw [hy] at H2
  clear hrd hk hc hy
  go_wp2_with fail
  go_ret
  exact ⟨by rw [← H2.out]; rfl, by rw [← H3.out]; exact HRD.out, HK.out⟩
set_option maxRecDepth 100000 in
set_option maxHeartbeats 1600000 in
theorem most_any {g n : Nat} {B : Nat → Prop} (hn : n ≤ 1000) (hB : ∀ b, B b → b ≠ g) {s : RS} {w : World} (h : RdrAt w g B s) : Calls Tryz.prog 66 #[.pointer (some ⟨g, 0, none⟩), .int .i64 (n : Nat)] w (NumPost g B (mostF n s) w) := by
  have HT := Lib.hid (number_any hB h)
  obtain ⟨⟨x, s1⟩, hq⟩ : ∃ q, numF s = q := ⟨_, rfl⟩
  rw [hq] at HT
  have HBk := Lib.hid hB
  have HKr := Lib.hid (Kept.refl (fun b => b = g) w)
  rcases s1 with _ | r
  · have HM := Lib.hid (show mostF n s = (0, none) by unfold mostF; rw [hq])
    clear h hB hq
    go_enter Tryz.func66, Tryz.ntmps66
    go_wp2_with fail
    refine HT.out.mono ?_
    rintro e w1 ⟨rfl, ⟨v, e, hg, he, hv⟩, hk⟩
    have c1 := obj_cell hg 1
    have d1 : (e == 0) = false := by simpa using he
    have d2 : (e != 0) = true := by simpa using he
    have HG := Lib.hid hg
    have HE := Lib.hid he
    have HV := Lib.hid hv
    have HK := Lib.hid hk
    clear hg he hv hk
    go_wp2_with fail
    go_ret
    exact ⟨by rw [HM.out]; rfl, by rw [HM.out]; exact ⟨v, e, HG.out, HE.out, HV.out⟩, HK.out⟩
  · by_cases hlt : n < x
    · have HM := Lib.hid (show mostF n s = (0, none) by unfold mostF; rw [hq]; simp only; rw [if_pos hlt])
      have d1 : decide (n < x) = true := decide_eq_true hlt
      clear h hB hq hlt
      go_enter Tryz.func66, Tryz.ntmps66
      go_wp2_with fail
      refine HT.out.mono ?_
      rintro e w1 ⟨rfl, ⟨v, hg, hr⟩, hk⟩
      obtain ⟨ad, cap, rfl⟩ := rd_slice hr
      have c1 := obj_cell hg 1
      have f1 : w1.frozen? ⟨g, 1, none⟩ = false := obj_free hg 1
      have HS := Lib.hid (obj_store hg 1 (.int .i64 6))
      have HK := Lib.hid (hk.setCell (p := ⟨g, 1, none⟩) (fun _ => rfl) (.int .i64 6))
      clear hg hr hk
      go_wp2_with fail
      go_ret
      exact ⟨by rw [HM.out]; rfl, by rw [HM.out]; exact ⟨_, 6, HS.out, by decide, rfl⟩, HK.out⟩
    · have HM := Lib.hid (show mostF n s = (x, some r) by unfold mostF; rw [hq]; simp only; rw [if_neg hlt])
      have d1 : decide (n < x) = false := decide_eq_false hlt
      clear h hB hq hlt
      go_enter Tryz.func66, Tryz.ntmps66
      go_wp2_with fail
      refine HT.out.mono ?_
      rintro e w1 ⟨rfl, ⟨v, hg, hr⟩, hk⟩
      have c1 := obj_cell hg 1
      have HG := Lib.hid hg
      have HR := Lib.hid hr
      have HK := Lib.hid hk
      clear hg hr hk
      go_wp2_with fail
      go_ret
      exact ⟨by rw [HM.out]; rfl, by rw [HM.out]; exact ⟨v, HG.out, HR.out⟩, HK.out⟩
end Go.Proofs.YtclgoilfclmibaaGreatDoor
