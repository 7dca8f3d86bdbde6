/-
  Pool: light cards.
-/
import Derived.Test.YtclgoilfclmibaaDoorRc
set_option linter.unusedVariables false
set_option linter.unusedSimpArgs false
namespace Go.Proofs.YtclgoilfclmibaaDoor
open Go Go.RowKit Go.Zn
attribute [local go_sem] Oper.semAt_some

def lightC (c : Crd) : Bool := decide (c.name.length ≤ 100) && (decide (c.effs.length ≤ 10) && (decide (c.trgs.length ≤ 5) && c.trgs.all fun t => decide (t.effs.length ≤ 10)))
def lightF (l : List Crd) : Bool := decide (l.length ≤ 30) && l.all lightC
theorem lightC_no {c : Crd} (h : 100 < c.name.length ∨ 10 < c.effs.length ∨ 5 < c.trgs.length ∨ ∃ t ∈ c.trgs, 10 < t.effs.length) : lightC c = false := by
  unfold lightC
  rcases h with h | h | h | ⟨t, ht, h⟩
  · rw [decide_eq_false (by omega)]; rfl
  · rw [decide_eq_false (p := c.effs.length ≤ 10) (by omega)]; simp
  · rw [decide_eq_false (p := c.trgs.length ≤ 5) (by omega)]; simp
  · have : (c.trgs.all fun t => decide (t.effs.length ≤ 10)) = false := by
      rw [List.all_eq_false]
      exact ⟨t, ht, by simp; omega⟩
    rw [this]; simp
theorem lightF_no {l : List Crd} {c : Crd} (hc : c ∈ l) (h : lightC c = false) : lightF l = false := by
  unfold lightF
  have : l.all lightC = false := by rw [List.all_eq_false]; exact ⟨c, hc, by simp [h]⟩
  rw [this]; simp
theorem lightF_out {l : List Crd} (h : lightF l = true) : l.length ≤ 30 ∧ ∀ c ∈ l, c.name.length ≤ 100 ∧ c.effs.length ≤ 10 ∧ c.trgs.length ≤ 5 ∧ ∀ t ∈ c.trgs, t.effs.length ≤ 10 := by
  unfold lightF lightC at h
  simpa using h
def LtRel (l : List Crd) (w : World) (iv : Value) (wr : World) : Prop := ∃ i : Nat, iv = .int .i64 (i : Nat) ∧ i ≤ l.length ∧ (∀ c ∈ l.take i, lightC c = true) ∧ Kept No w wr
set_option maxRecDepth 100000 in
set_option maxHeartbeats 4000000 in
theorem light_any {l : List Crd} {w : World} {B : Nat → Prop} {v : Value} (h : CrdsAt w B v l) : Calls Tryd.prog 19 #[v] w fun e w' => e = .returned (.bool (lightF l)) ∧ Kept No w w' := by
  obtain ⟨ad, cap, rfl⟩ := h.slice
  have HP := Lib.hid h
  obtain ⟨n, hn⟩ : ∃ n, l.length = n := ⟨_, rfl⟩
  have HN := Lib.hid hn
  rw [hn] at HP ⊢
  by_cases h30 : 30 < n
  · have h1 : (30 : Int) < (n : Int) := by omega
    have HR := Lib.hid (show lightF l = false by unfold lightF; rw [hn, decide_eq_false (by omega)]; rfl)
    clear h hn h30
    go_enter Tryd.func19, Tryd.ntmps19
    go_wp2_with fail
    go_ret
    exact ⟨by rw [HR.out]; rfl, Kept.refl No w⟩
  have h1 : ¬ ((30 : Int) < (n : Int)) := by omega
  have H30 := Lib.hid (show n ≤ 30 by omega)
  clear h hn h30
  go_enter Tryd.func19, Tryd.ntmps19
  go_wp2_with fail
  go_loopw [12] (fun iv wr => LtRel l w iv wr) (fun iv _ => n - (intOf iv).toNat)
  case atStart => exact ⟨0, rfl, Nat.zero_le _, by simp, Kept.refl No w⟩
  case round =>
    obtain ⟨i, rfl, hi, hf, hk⟩ := hrel
    rw [HN.out] at hi
    have HK := Lib.hid hk
    have HF := Lib.hid hf
    by_cases hlt : i < n
    · have hil : i < l.length := by rw [HN.out]; exact hlt
      obtain ⟨c, hc⟩ : ∃ c, l[i]? = some c := ⟨_, List.getElem?_eq_getElem hil⟩
      obtain ⟨b, off, cap1, ev, tv, hs, hcap, hrg, hca⟩ := (HP.out.no hk).at hc
      obtain ⟨ade, cape, rfl⟩ := rd_slice hca.effs
      obtain ⟨adt, capt, rfl⟩ := hca.trgs.slice
      rw [HN.out] at hs
      cases hs
      have hmem := List.mem_of_getElem? hc
      have HMEM := Lib.hid hmem
      have HTK := Lib.hid (show l.take (i + 1) = l.take i ++ [c] by rw [List.take_add_one, hc]; rfl)
      have HCA := Lib.hid hca
      obtain ⟨ne, hne⟩ : ∃ n, c.effs.length = n := ⟨_, rfl⟩
      obtain ⟨nt, hnt⟩ : ∃ n, c.trgs.length = n := ⟨_, rfl⟩
      obtain ⟨nn, hnn⟩ : ∃ n, c.name.length = n := ⟨_, rfl⟩
      have HRG := Lib.hid (show wr.rangeAt b (off + i * 14) [.string (strOf c.name), .int .i64 c.kind, .int .i64 c.o0, .int .i64 c.o1, .int .i64 c.o2, .int .i64 c.o3, .int .i64 c.any, .int .i64 c.makes, .int .i64 c.power, .int .i64 c.tough, .int .i64 c.keys, .slice ade ne cape, .slice adt nt capt, .int .i64 c.rarity] from by rw [← hne, ← hnt]; exact hrg)
      have hsz : (strOf c.name).size = nn := by rw [strOf_size]; exact hnn
      have HNE := Lib.hid hne
      have HNT := Lib.hid hnt
      have HNN := Lib.hid hnn
      rw [hne, hnt] at HCA
      have d1 : decide (i < n) = true := decide_eq_true hlt
      have hi0 : (0 : Int) ≤ (i : Int) := by omega
      have hin : (i : Int) < (n : Int) := by omega
      have q4 : IntKind.i64.wrap ((i : Int) + 1) = (i : Int) + 1 := IntWalk.i64_in _ (by have := H30.out; omega)
      have HI := Lib.hid hlt
      clear hk hf hlt hil hc hrg hca hcap hmem hne hnt hnn
      by_cases e1 : 100 < nn
      · have t1 : (100 : Int) < (nn : Int) := by omega
        have HR := Lib.hid (lightF_no HMEM.out (lightC_no (Or.inl (by rw [HNN.out]; exact e1))))
        clear e1
        go_wp2_with (with_reducible refine wpList_load_mid rfl 35 _ rfl b (off + i * 14) rfl _ _ HRG.out Tryd.underlying35 rfl (by kernel_rfl) ?_)
        go_ret
        exact ⟨by rw [HR.out]; rfl, HK.out.alloc _⟩
      have t1 : ¬ ((100 : Int) < (nn : Int)) := by omega
      by_cases e2 : 10 < ne
      · have t2 : (10 : Int) < (ne : Int) := by omega
        have HR := Lib.hid (lightF_no HMEM.out (lightC_no (Or.inr (Or.inl (by rw [HNE.out]; exact e2)))))
        clear e1 e2
        go_wp2_with (with_reducible refine wpList_load_mid rfl 35 _ rfl b (off + i * 14) rfl _ _ HRG.out Tryd.underlying35 rfl (by kernel_rfl) ?_)
        go_ret
        exact ⟨by rw [HR.out]; rfl, HK.out.alloc _⟩
      have t2 : ¬ ((10 : Int) < (ne : Int)) := by omega
      by_cases e3 : 5 < nt
      · have t3 : (5 : Int) < (nt : Int) := by omega
        have HR := Lib.hid (lightF_no HMEM.out (lightC_no (Or.inr (Or.inr (Or.inl (by rw [HNT.out]; exact e3))))))
        clear e1 e2 e3
        go_wp2_with (with_reducible refine wpList_load_mid rfl 35 _ rfl b (off + i * 14) rfl _ _ HRG.out Tryd.underlying35 rfl (by kernel_rfl) ?_)
        go_ret
        exact ⟨by rw [HR.out]; rfl, HK.out.alloc _⟩
      have t3 : ¬ ((5 : Int) < (nt : Int)) := by omega
      have E := Lib.hid (And.intro (show nn ≤ 100 by omega) (And.intro (show ne ≤ 10 by omega) (show nt ≤ 5 by omega)))
      have HKA := Lib.hid ((Kept.refl No wr).alloc (.cells #[.string (strOf c.name), .int .i64 c.kind, .int .i64 c.o0, .int .i64 c.o1, .int .i64 c.o2, .int .i64 c.o3, .int .i64 c.any, .int .i64 c.makes, .int .i64 c.power, .int .i64 c.tough, .int .i64 c.keys, .slice ade ne cape, .slice adt nt capt, .int .i64 c.rarity] 35))
      clear e1 e2 e3
      go_wp2_with (with_reducible refine wpList_load_mid rfl 35 _ rfl b (off + i * 14) rfl _ _ HRG.out Tryd.underlying35 rfl (by kernel_rfl) ?_)
      go_loopw [35] (fun iv W => ∃ j : Nat, iv = .int .i64 (j : Nat) ∧ j ≤ nt ∧ (∀ t ∈ c.trgs.take j, t.effs.length ≤ 10) ∧ Kept No w W ∧ CrdAt W B c (.slice ade ne cape) (.slice adt nt capt)) (fun iv _ => nt - (intOf iv).toNat)
      case atStart => exact ⟨0, rfl, Nat.zero_le _, by simp, HK.out.alloc _, HCA.out.no HKA.out⟩
      case round =>
        obtain ⟨j, rfl, hj, hf, hk, hca⟩ := hrel
        have HKJ := Lib.hid hk
        have HCJ := Lib.hid hca
        have HFJ := Lib.hid hf
        by_cases hlt : j < nt
        · have hil : j < c.trgs.length := by rw [HNT.out]; exact hlt
          obtain ⟨t, ht⟩ : ∃ t, c.trgs[j]? = some t := ⟨_, List.getElem?_eq_getElem hil⟩
          obtain ⟨b', off', c1', ev', hs', _, k0, k1, hE⟩ := hca.trgs.at ht
          obtain ⟨adf, cpf, rfl⟩ := rd_slice hE
          rw [HNT.out] at hs'
          cases hs'
          have HTJ := Lib.hid (show c.trgs.take (j + 1) = c.trgs.take j ++ [t] by rw [List.take_add_one, ht]; rfl)
          have HMT := Lib.hid (List.mem_of_getElem? ht)
          obtain ⟨nf, hnf⟩ : ∃ n, t.effs.length = n := ⟨_, rfl⟩
          have HNF := Lib.hid hnf
          rw [hnf] at k1
          have d5 : decide (j < nt) = true := decide_eq_true hlt
          have hj0 : (0 : Int) ≤ (j : Int) := by omega
          have hjn : (j : Int) < (nt : Int) := by omega
          have q5 : IntKind.i64.wrap ((j : Int) + 1) = (j : Int) + 1 := IntWalk.i64_in _ (by have := E.out; omega)
          have HJ := Lib.hid hlt
          clear hk hca hf hlt hil ht hE hnf
          by_cases e4 : 10 < nf
          · have t4 : (10 : Int) < (nf : Int) := by omega
            have HR := Lib.hid (lightF_no HMEM.out (lightC_no (Or.inr (Or.inr (Or.inr ⟨t, HMT.out, by rw [HNF.out]; exact e4⟩)))))
            clear e4
            go_wp2_with fail
            go_ret
            exact ⟨by rw [HR.out]; rfl, HKJ.out.alloc _⟩
          · have t4 : ¬ ((10 : Int) < (nf : Int)) := by omega
            have H4 := Lib.hid (show nf ≤ 10 by omega)
            clear e4
            go_wp2_with fail
            have hJ := HJ.out
            refine ⟨⟨j + 1, by go_num, by omega, fun x hx => ?_, HKJ.out.alloc _, HCJ.out.no ((Kept.refl No _).alloc _)⟩, by simp [intOf]; omega⟩
            rw [HTJ.out] at hx
            rcases List.mem_append.1 hx with hx | hx
            · exact HFJ.out x hx
            · simp at hx; subst hx; rw [HNF.out]; exact H4.out
        · have d5 : decide (j < nt) = false := decide_eq_false hlt
          have HLC := Lib.hid (show lightC c = true by
            have h1 := HFJ.out
            rw [List.take_of_length_le (by rw [HNT.out]; omega)] at h1
            have h2 := E.out
            unfold lightC
            rw [HNN.out, HNE.out, HNT.out, decide_eq_true h2.1, decide_eq_true h2.2.1, decide_eq_true h2.2.2]
            simpa using h1)
          clear hk hca hf hlt
          go_wp2_with fail
          have hI := HI.out
          refine ⟨⟨i + 1, by go_num, by rw [HN.out]; omega, fun x hx => ?_, HKJ.out⟩, by simp [intOf]; omega⟩
          rw [HTK.out] at hx
          rcases List.mem_append.1 hx with hx | hx
          · exact HF.out x hx
          · simp at hx; subst hx; exact HLC.out
    · have d1 : decide (i < n) = false := decide_eq_false hlt
      have HR := Lib.hid (show lightF l = true by
        have h1 := HF.out
        rw [List.take_of_length_le (by rw [HN.out]; omega)] at h1
        unfold lightF
        rw [HN.out, decide_eq_true H30.out]
        simpa using h1)
      clear hlt hk hf
      go_wp2_with fail
      go_ret
      exact ⟨by rw [HR.out]; rfl, HK.out⟩
end Go.Proofs.YtclgoilfclmibaaDoor
