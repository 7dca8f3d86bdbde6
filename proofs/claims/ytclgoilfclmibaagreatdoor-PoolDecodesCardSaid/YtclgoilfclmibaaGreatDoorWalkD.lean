/-
  Pool: which effects are valid.
-/
import Derived.Test.YtclgoilfclmibaaGreatDoorWalkC
import Derived.Handy
set_option linter.unusedVariables false
set_option linter.unusedSimpArgs false
namespace Go.Proofs.YtclgoilfclmibaaGreatDoor
open Go.RowKit Go.Zn
attribute [local go_sem] Oper.semAt_some

theorem valid_any (e : Eff) (w : World) : Calls Tryz.prog 74 #[effV e] w fun x w' => x = .returned (.bool (evalid e)) ∧ Kept No w w' := by
  have HO := Lib.hid (fun w' => of_any e.code w')
  have HB := Lib.hid (fun (K : List Int) (hK : K.length ≤ 100) v g w' (hv : Rd w' (fun i => i = g) 1 v K.length (ivals K)) => bare_any hK e hv)
  have HC := Lib.hid (fun (K : List Int) (hK : K.length ≤ 100) v g w' (hv : Rd w' (fun i => i = g) 1 v K.length (ivals K)) (most : Int) (hm : 1 ≤ most) => counted_any hK hm e hv)
  have HP := Lib.hid (fun (K : List Int) (hK : K.length ≤ 100) v g w' (hv : Rd w' (fun i => i = g) 1 v K.length (ivals K)) (least : Int) (h0 : 0 ≤ least) (hm : least ≤ 9) => paired_any hK h0 hm e hv)
  have HF := Lib.hid (fun (K : List Int) (hK : K.length ≤ 100) v g w' (hv : Rd w' (fun i => i = g) 1 v K.length (ivals K)) (most : Int) (hm : 1 ≤ most) => coloured_any hK hm e hv)
  have HE := Lib.hid (fun (P : Eff → Bool) (h : ∀ e' : Eff, e'.code = e.code → evalid e' = P e') => h e rfl)
  have HK0 := Lib.hid (Kept.refl No w)
  obtain ⟨b, hb⟩ : ∃ b, evalid e = b := ⟨_, rfl⟩
  have hEV : effV e = .agg #[.int .i64 e.code, .int .i64 e.target, .int .i64 e.n, .int .i64 e.m, .int .i64 e.col] := rfl
  rw [hb, hEV]
  rw [hEV] at HB HC HP HF
  rw [hb] at HE
  obtain ⟨c, hc⟩ : ∃ c, e.code = c := ⟨_, rfl⟩
  rw [hc] at HO HB HC HP HF HE ⊢
  clear hc hb hEV
  go_enter Tryz.func74, Tryz.ntmps74
  go_wp2_with fail
  refine (HO.out _).mono ?_
  rintro x w1 ⟨r, rfl, hr, hk⟩
  have hobj := hk.obj (World.alloc_at rfl _) (not_no _)
  have c0 := (obj_cell hobj 0).trans rfl
  have c1 := (obj_cell hobj 1).trans rfl
  have c2 := (obj_cell hobj 2).trans rfl
  have c3 := (obj_cell hobj 3).trans rfl
  have c4 := (obj_cell hobj 4).trans rfl
  have HK := Lib.hid ((HK0.out.alloc _).and hk)
  clear hk hobj
  rcases hr with ⟨rfl, h1⟩ | ⟨K, v, g, hK, hv, rfl, h1⟩ | ⟨K, v, g, most, hK, hv, hm, rfl, h1⟩ | ⟨K, v, g, least, hK, hv, h0, hm, rfl, h1⟩ | ⟨K, v, g, most, hK, hv, hm, rfl, h1⟩
  · have HR := Lib.hid (HE.out (fun _ => false) h1)
    clear h1
    go_wp2_with fail
    go_ret
    exact ⟨by rw [HR.out]; rfl, HK.out⟩
  · have HR := Lib.hid (HE.out (fun e' => bareF K e') h1)
    have HX := Lib.hid (HB.out K hK v g w1 hv)
    clear h1 hK hv
    go_wp2_with fail
    refine HX.out.mono ?_
    rintro x w2 ⟨rfl, hk⟩
    have HK2 := Lib.hid (HK.out.and hk)
    clear hk
    go_wp2_with fail
    go_ret
    exact ⟨by rw [HR.out]; rfl, HK2.out⟩
  · have HR := Lib.hid (HE.out (fun e' => countF K most e') h1)
    have HX := Lib.hid (HC.out K hK v g w1 hv most hm)
    clear h1 hK hv
    go_wp2_with fail
    refine HX.out.mono ?_
    rintro x w2 ⟨rfl, hk⟩
    have HK2 := Lib.hid (HK.out.and hk)
    clear hk
    go_wp2_with fail
    go_ret
    exact ⟨by rw [HR.out]; rfl, HK2.out⟩
  · have HR := Lib.hid (HE.out (fun e' => pairF K least e') h1)
    have HX := Lib.hid (HP.out K hK v g w1 hv least h0 hm)
    clear h1 hK hv
    go_wp2_with fail
    refine HX.out.mono ?_
    rintro x w2 ⟨rfl, hk⟩
    have HK2 := Lib.hid (HK.out.and hk)
    clear hk
    go_wp2_with fail
    go_ret
    exact ⟨by rw [HR.out]; rfl, HK2.out⟩
  · have HR := Lib.hid (HE.out (fun e' => colF K most e') h1)
    have HX := Lib.hid (HF.out K hK v g w1 hv most hm)
    clear h1 hK hv
    go_wp2_with fail
    refine HX.out.mono ?_
    rintro x w2 ⟨rfl, hk⟩
    have HK2 := Lib.hid (HK.out.and hk)
    clear hk
    go_wp2_with fail
    go_ret
    exact ⟨by rw [HR.out]; rfl, HK2.out⟩
end Go.Proofs.YtclgoilfclmibaaGreatDoor
