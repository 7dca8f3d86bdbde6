/-
  Pool: the reader of bytes: effects.
-/
import Derived.Test.YtclgoilfclmibaaGreatDoorDe
set_option linter.unusedVariables false
set_option linter.unusedSimpArgs false
namespace Go.Proofs.YtclgoilfclmibaaGreatDoor
open Go.RowKit Go.Zn
attribute [local go_sem] Oper.semAt_some

def EffPost (g : Nat) (B : Nat → Prop) (q : List Eff × RS) (w : World) (e : Ending) (w' : World) : Prop := ∃ v, e = .returned v ∧ OwnE w' w.heap.size v q.1 ∧ RdrAt w' g B q.2 ∧ Kept (fun b => b = g) w w'
set_option maxRecDepth 100000 in
set_option maxHeartbeats 1600000 in
theorem effects_any {g : Nat} {B : Nat → Prop} (hB : ∀ b, B b → b ≠ g) : ∀ {s : RS} {w : World}, RdrAt w g B s → Calls Tryz.prog 67 #[.pointer (some ⟨g, 0, none⟩)] w (EffPost g B (effF s) w)
  | none, w, h => by
    obtain ⟨v, e, hg, he, hv⟩ := h
    have c1 := obj_cell hg 1
    have d2 : (e != 0) = true := by simpa using he
    have HG := Lib.hid hg
    have HE := Lib.hid he
    have HV := Lib.hid hv
    clear hg he hv hB
    go_enter Tryz.func67, Tryz.ntmps67
    go_wp2_with fail
    go_ret
    exact ⟨_, rfl, World.ownsRow_nil _ _ _ _, ⟨v, e, HG.out, HE.out, HV.out⟩, Kept.refl _ w⟩
  | some r, w, h => by
    obtain ⟨v, hg, hr⟩ := h
    have hglt := obj_lt hg
    have HDE := Lib.hid (edecode_any hr)
    have HBk := Lib.hid (fun b (_ : b < w.heap.size) (h : B b) => (show ¬ b = g from hB b h))
    cases hq : edec r with
    | none =>
      obtain ⟨v2, hs2, hr2⟩ := slice_from hr (n := 0) (Nat.zero_le _)
      obtain ⟨ad2, cap2, rfl⟩ := rd_slice hr2
      have hs2' : ∀ W, (Instr.sliceAt 51 v (some (.int .i64 0)) none none).run Tryz.prog W = .ok (.slice ad2 (r.length - 0) cap2) W := hs2
      have HF := Lib.hid (show effF (some r) = ([], none) by unfold effF; simp only; rw [hq])
      rw [hq] at HDE
      obtain ⟨ad, cap, rfl⟩ := rd_slice hr
      have c0 := obj_cell hg 0
      have c1 := obj_cell hg 1
      have HG := Lib.hid hg
      have HR2 := Lib.hid hr2
      obtain ⟨m, hm⟩ : ∃ m, r.length = m := ⟨_, rfl⟩
      rw [hm, Nat.sub_zero] at hs2' HR2
      rw [hm] at c0 HDE HG
      clear hg hr hr2 hB hs2 hm hq
      go_enter Tryz.func67, Tryz.ntmps67
      go_wp2_with fail
      refine HDE.out.mono ?_
      rintro e w1 ⟨er, rfl, her, hk⟩
      have hg1 := hk.obj HG.out (not_no _)
      have c0 := obj_cell hg1 0
      have c1 := obj_cell hg1 1
      have f0 : w1.frozen? ⟨g, 0, none⟩ = false := obj_free hg1 0
      have f1 : w1.frozen? ⟨g, 1, none⟩ = false := obj_free hg1 1
      have HS := Lib.hid (obj_store (obj_store hg1 0 (.slice ad2 m cap2)) 1 (.int .i64 er))
      have HK := Lib.hid (((hk.any (T := fun b => b = g)).setCell (p := ⟨g, 0, none⟩) (fun _ => rfl) (.slice ad2 m cap2)).setCell (p := ⟨g, 1, none⟩) (fun _ => rfl) (.int .i64 er))
      have HER := Lib.hid her
      clear hg1 hk her
      go_wp2_with fail
      go_ret
      exact ⟨.slice none 0 0, rfl, by rw [HF.out]; exact World.ownsRow_nil _ _ _ _, by rw [HF.out]; exact ⟨_, er, HS.out, HER.out, rfl⟩, HK.out⟩
    | some p =>
      obtain ⟨l, k⟩ := p
      have hkr : k ≤ r.length := by
        obtain ⟨_, h2, h3⟩ := edec_some hq
        rw [h2, List.length_append, h3]; omega
      obtain ⟨v2, hs2, hr2⟩ := slice_from hr (n := k) hkr
      obtain ⟨ad2, cap2, rfl⟩ := rd_slice hr2
      have HF := Lib.hid (show effF (some r) = (l, some (r.drop k)) by unfold effF; simp only; rw [hq])
      rw [hq] at HDE
      obtain ⟨ad, cap, rfl⟩ := rd_slice hr
      have c0 := obj_cell hg 0
      have c1 := obj_cell hg 1
      have HG := Lib.hid hg
      have HR2 := Lib.hid hr2
      have HDL := Lib.hid (show (r.drop k).length = r.length - k from List.length_drop ..)
      obtain ⟨m, hm⟩ : ∃ m, r.length = m := ⟨_, rfl⟩
      rw [hm] at hs2 HR2 hkr HDL
      rw [hm] at c0 HDE HG
      clear hg hr hr2 hB hm hq
      go_enter Tryz.func67, Tryz.ntmps67
      go_wp2_with fail
      refine HDE.out.mono ?_
      rintro e w1 ⟨lv, rfl, hown, hk⟩
      obtain ⟨adl, capl, rfl⟩ := owned_slice hown
      have hg1 := hk.obj HG.out (not_no _)
      have c0 := obj_cell hg1 0
      have c1 := obj_cell hg1 1
      have f0 : w1.frozen? ⟨g, 0, none⟩ = false := obj_free hg1 0
      have f1 : w1.frozen? ⟨g, 1, none⟩ = false := obj_free hg1 1
      have HS := Lib.hid (obj_store (obj_store hg1 0 (.slice ad2 (m - k) cap2)) 1 (.int .i64 0))
      have hkS := ((Kept.refl (fun b => b = g) w1).setCell (p := ⟨g, 0, none⟩) (fun _ => rfl) (.slice ad2 (m - k) cap2)).setCell (p := ⟨g, 1, none⟩) (fun _ => rfl) (.int .i64 0)
      have HKS := Lib.hid hkS
      have HK := Lib.hid ((hk.any (T := fun b => b = g)).and hkS)
      have HOW := Lib.hid (OwnE.kept hown hkS (.of_obj hg1 (by decide)))
      clear hg1 hk hkS hown
      go_wp2_with fail
      go_ret
      exact ⟨.slice adl l.length capl, rfl, by rw [HF.out]; exact HOW.out, by rw [HF.out]; exact ⟨_, HS.out, by rw [HDL.out]; exact HR2.out.kept HK.out HBk.out⟩, HK.out⟩
end Go.Proofs.YtclgoilfclmibaaGreatDoor
