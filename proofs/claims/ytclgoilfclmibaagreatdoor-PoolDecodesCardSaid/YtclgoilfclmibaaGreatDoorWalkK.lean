/-
  Pool: triggers.
-/
import Derived.Test.YtclgoilfclmibaaGreatDoorWalkJ
set_option linter.unusedVariables false
set_option linter.unusedSimpArgs false
namespace Go.Proofs.YtclgoilfclmibaaGreatDoor
open Go.RowKit Go.Zn
attribute [local go_sem] Oper.semAt_some

def trgOk (t : Trg) : Bool := inB t.when 1 3 && inB t.effs.length 1 2 && allE t.effs && decide (targets t.effs = 0)
def trgsTo (l : List Trg) : Nat → Bool
  | 0 => true
  | i + 1 => trgsTo l i && (match l[i]? with
    | some t => trgOk t && !(l.take i).any fun x => x.when == t.when
    | none => true)
def trgsB (l : List Trg) : Bool := trgsTo l l.length && decide (l.length ≤ 2)
theorem trgsTo_up {l : List Trg} {i : Nat} (h : trgsTo l i = false) : ∀ j, i ≤ j → trgsTo l j = false
  | j, hj => by
    by_cases e : i = j
    · subst e; exact h
    · obtain ⟨k, rfl⟩ : ∃ k, j = k + 1 := ⟨j - 1, by omega⟩
      rw [trgsTo, trgsTo_up h k (by omega)]; rfl
def ToRel (l : List Trg) (w0 : World) (iv : Value) (wr : World) : Prop := ∃ i : Nat, iv = .int .i64 (i : Nat) ∧ i ≤ l.length ∧ trgsTo l i = true ∧ Kept No w0 wr
theorem trgs_no {l : List Trg} {i : Nat} {t : Trg} (hi : l[i]? = some t) (h : trgOk t = false ∨ ((l.take i).any fun x => x.when == t.when) = true) : trgsB l = false := by
  have : trgsTo l (i + 1) = false := by
    rw [trgsTo, hi]
    rcases h with h | h <;> simp [h]
  unfold trgsB
  rw [trgsTo_up this _ (by have := (List.getElem?_eq_some_iff.1 hi).1; omega)]
  rfl
theorem trgs_up {l : List Trg} {i : Nat} {t : Trg} (hi : l[i]? = some t) (h0 : trgsTo l i = true) (h1 : trgOk t = true) (h2 : ((l.take i).any fun x => x.when == t.when) = false) : trgsTo l (i + 1) = true := by
  rw [trgsTo, hi, h0]
  simp [h1, h2]
set_option maxRecDepth 100000 in
set_option maxHeartbeats 2000000 in
theorem triggers_any {l : List Trg} (hl : l.length ≤ 1000000) (hle : ∀ t ∈ l, t.effs.length ≤ 1000000) {w : World} {B : Nat → Prop} {v : Value} (hv : TrgsAt w B v l) : Calls Tryz.prog 55 #[v] w fun x w' => x = .returned (.bool (trgsB l)) ∧ Kept No w w' := by
  obtain ⟨ad, cap, rfl⟩ := hv.slice
  obtain ⟨n, hn⟩ : ∃ n, l.length = n := ⟨_, rfl⟩
  have HN := Lib.hid hn
  have HV := Lib.hid hv
  have HL := Lib.hid hle
  rw [hn] at hl ⊢
  rw [hn] at HV
  clear hv hn hle
  go_enter Tryz.func55, Tryz.ntmps55
  go_wp2_with fail
  go_loopw [7] (fun iv wr => ToRel l w iv wr) (fun iv _ => n - (intOf iv).toNat)
  case atStart => exact ⟨0, rfl, Nat.zero_le _, rfl, Kept.refl No w⟩
  case round =>
    obtain ⟨i, rfl, hi, hf, hk⟩ := hrel
    rw [HN.out] at hi
    have HF := Lib.hid hf
    have HK := Lib.hid hk
    by_cases hlt : i < n
    · have hil : i < l.length := by rw [HN.out]; exact hlt
      obtain ⟨t, ht⟩ : ∃ t, l[i]? = some t := ⟨_, List.getElem?_eq_getElem hil⟩
      have hVt := HV.out
      obtain ⟨b, off, c1, ev, hs, hcap, g0, g1, hE⟩ := (HV.out.no hk).at ht
      have hel := HL.out t (List.mem_of_getElem? ht)
      have HNO := Lib.hid (fun h => trgs_no ht h)
      have HUP := Lib.hid (fun h1 h2 => trgs_up ht HF.out h1 h2)
      rw [HN.out] at hs
      cases hs
      rw [HN.out] at hcap
      have hic : i ≤ cap := by omega
      have hic' : (i : Int) ≤ (cap : Int) := by omega
      have HTK := Lib.hid (fun w' (hk' : Kept No w w') => TrgsAt.take (hVt.no hk') (i := i) (by omega))
      have HIL := Lib.hid (show (l.take i).length ≤ 1000000 by rw [List.length_take]; omega)
      obtain ⟨adv, capv, rfl⟩ := rd_slice hE
      have hok : trgOk t = (inB t.when 1 3 && inB t.effs.length 1 2 && allE t.effs && decide (targets t.effs = 0)) := rfl
      have HW1 := Lib.hid (fun w' => cwithin_any t.when 1 3 w')
      have HW2 := Lib.hid (fun w' => cwithin_any t.effs.length 1 2 w')
      have HA := Lib.hid (fun w' (hk : Kept No wr w') => allE_any hel (hE.no hk))
      have HPL := Lib.hid (fun w' (hk : Kept No wr w') => plain_any hel (hE.no hk))
      have HH := Lib.hid (fun g w' (hk' : Kept No w w') (hg : w'.cell? ⟨g, 0, none⟩ = some (.int .i64 t.when)) => hast_any g t.when HIL.out (HTK.out w' hk') hg)
      obtain ⟨b1, h1⟩ : ∃ b, inB t.when 1 3 = b := ⟨_, rfl⟩
      obtain ⟨b2, h2⟩ : ∃ b, inB t.effs.length 1 2 = b := ⟨_, rfl⟩
      obtain ⟨b3, h3⟩ : ∃ b, allE t.effs = b := ⟨_, rfl⟩
      obtain ⟨b4, h4⟩ : ∃ b, decide (targets t.effs = 0) = b := ⟨_, rfl⟩
      obtain ⟨b5, h5⟩ : ∃ b, ((l.take i).any fun x => x.when == t.when) = b := ⟨_, rfl⟩
      rw [h1, h2, h3, h4] at hok
      rw [h1] at HW1
      rw [h2] at HW2
      rw [h3] at HA
      rw [h4] at HPL
      rw [h5] at HH HNO HUP
      obtain ⟨m, hm⟩ : ∃ m, t.effs.length = m := ⟨_, rfl⟩
      rw [hm] at HW2 HA HPL
      rw [hm] at g1
      have hm64 : m ≤ 1000000 := by omega
      have d1 : decide (i < n) = true := decide_eq_true hlt
      have hi0 : (0 : Int) ≤ (i : Int) := by omega
      have hin : (i : Int) < (n : Int) := by omega
      have q4 : IntKind.i64.wrap ((i : Int) + 1) = (i : Int) + 1 := IntWalk.i64_in _ (by omega)
      have HI := Lib.hid hlt
      have HOK := Lib.hid hok
      clear hf hk hlt hil ht hok hVt hE hel hcap h1 h2 h3 h4 h5 hm
      go_wp2_with fail
      refine (HW1.out _).mono ?_
      rintro x w1 ⟨rfl, rfl⟩
      cases b1
      · have HO := Lib.hid (HNO.out (.inl HOK.out))
        go_wp2_with fail
        go_ret
        exact ⟨by rw [HO.out]; rfl, by first | exact HK.out.alloc _ | exact (HK.out.alloc _).put (by have := HK.out.size; simp; omega) _⟩
      · go_wp2_with fail
        refine (HW2.out _).mono ?_
        rintro x w1 ⟨rfl, rfl⟩
        cases b2
        · have HO := Lib.hid (HNO.out (.inl HOK.out))
          go_wp2_with fail
          go_ret
          exact ⟨by rw [HO.out]; rfl, by first | exact HK.out.alloc _ | exact (HK.out.alloc _).put (by have := HK.out.size; simp; omega) _⟩
        · go_wp2_with fail
          refine (HA.out _ ((Kept.refl No wr).alloc _)).mono ?_
          rintro x w1 ⟨rfl, hk⟩
          have hobj := hk.obj (World.alloc_at rfl _) (not_no _)
          have m0 := (obj_cell hobj 0).trans rfl
          have m1 := (obj_cell hobj 1).trans rfl
          have HK1 := Lib.hid (((Kept.refl No wr).alloc _).and hk)
          have HB := Lib.hid hobj
          clear hk hobj
          cases b3
          · have HO := Lib.hid (HNO.out (.inl HOK.out))
            go_wp2_with fail
            go_ret
            exact ⟨by rw [HO.out]; rfl, HK.out.and HK1.out⟩
          · go_wp2_with fail
            refine (HPL.out _ HK1.out).mono ?_
            rintro x w2 ⟨rfl, hk⟩
            have hobj := hk.obj HB.out (not_no _)
            have m0 := (obj_cell hobj 0).trans rfl
            have m1 := (obj_cell hobj 1).trans rfl
            have HK2 := Lib.hid (HK1.out.and hk)
            clear hk hobj
            cases b4
            · have HO := Lib.hid (HNO.out (.inl HOK.out))
              go_wp2_with fail
              go_ret
              exact ⟨by rw [HO.out]; rfl, HK.out.and HK2.out⟩
            · go_wp2_with fail
              refine (HH.out _ _ (HK.out.and HK2.out) m0).mono ?_
              rintro x w3 ⟨rfl, hk⟩
              have HK3 := Lib.hid ((HK.out.and HK2.out).and hk)
              clear hk
              cases b5
              · have HO := Lib.hid (HUP.out HOK.out rfl)
                go_wp2_with fail
                have hI := HI.out
                exact ⟨⟨i + 1, by go_num, by rw [HN.out]; omega, HO.out, HK3.out⟩, by simp [intOf]; omega⟩
              · have HO := Lib.hid (HNO.out (.inr rfl))
                go_wp2_with fail
                go_ret
                exact ⟨by rw [HO.out]; rfl, HK3.out⟩
    · have d1 : decide (i < n) = false := decide_eq_false hlt
      have hin : i = n := by omega
      have HD := Lib.hid (show decide ((n : Int) ≤ 2) = decide (n ≤ 2) from decide_eq_decide.mpr (by omega))
      have HR := Lib.hid (show trgsB l = decide (n ≤ 2) by
        unfold trgsB
        have := HF.out
        rw [hin, ← HN.out] at this
        rw [this, HN.out]
        rfl)
      clear hf hlt hk
      go_wp2_with fail
      go_ret
      exact ⟨by rw [HR.out, ← HD.out]; rfl, HK.out⟩
end Go.Proofs.YtclgoilfclmibaaGreatDoor
