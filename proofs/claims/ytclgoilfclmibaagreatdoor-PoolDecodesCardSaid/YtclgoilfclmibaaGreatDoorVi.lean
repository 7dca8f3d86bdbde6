/-
  Pool: the document's errors, finds and selections of cards.
-/
import Derived.Test.YtclgoilfclmibaaGreatDoorVh
import Derived.Test.YtclgoilfclmibaaGreatDoorRl
set_option linter.unusedVariables false
set_option linter.unusedSimpArgs false
namespace Go.Proofs.YtclgoilfclmibaaGreatDoor
open Go Go.RowKit Go.Zn
attribute [local go_sem] Oper.semAt_some

def rfindV (l : List Crd) (s : List UInt8) : Value := match nmAt l s with
  | some i => .tuple #[.int .i64 (i : Nat), .bool true]
  | none => .tuple #[.int .i64 0, .bool false]
theorem nmAt_found {l : List Crd} {s : List UInt8} {i : Nat} {c : Crd} (h : nmAt (l.take i) s = none) (hc : l[i]? = some c) (he : c.name = s) : nmAt l s = some i := by
  obtain ⟨hi, hce⟩ := List.getElem?_eq_some_iff.1 hc
  have hno := nmAt_none.1 h
  unfold nmAt
  rw [List.findIdx?_eq_some_iff_getElem]
  refine ⟨hi, by simp [hce, he], fun j hj => ?_⟩
  have hjl : j < l.length := by omega
  have : ¬ l[j].name = s := fun e => hno (by
    unfold names
    rw [List.mem_map]
    exact ⟨l[j], by rw [List.mem_iff_getElem]; exact ⟨j, by rw [List.length_take]; omega, by rw [List.getElem_take]⟩, e⟩)
  simpa using this
theorem nmAt_up {l : List Crd} {s : List UInt8} {i : Nat} {c : Crd} (h : nmAt (l.take i) s = none) (hc : l[i]? = some c) (he : c.name ≠ s) : nmAt (l.take (i + 1)) s = none := by
  rw [nmAt_none] at h ⊢
  have hT : l.take (i + 1) = l.take i ++ [c] := by rw [List.take_add_one, hc]; rfl
  rw [hT, names_snoc]
  simp only [List.mem_append, List.mem_singleton, not_or]
  exact ⟨h, fun e => he e.symm⟩
theorem str_eq {a b : List UInt8} : ((strOf a).toList == (strOf b).toList) = decide (a = b) := by
  rw [strOf_toList, strOf_toList]
  by_cases h : a = b <;> simp [h]
def FdRel (l : List Crd) (s : List UInt8) (w : World) (iv : Value) (wr : World) : Prop := ∃ i : Nat, iv = .int .i64 (i : Nat) ∧ i ≤ l.length ∧ nmAt (l.take i) s = none ∧ wr = w
set_option maxRecDepth 100000 in
set_option maxHeartbeats 4000000 in
theorem rfind_any {l : List Crd} (hl : l.length ≤ 1000000) (s : List UInt8) {w : World} {B : Nat → Prop} {v : Value} (hv : CrdsAt w B v l) : Calls Tryz.prog 12 #[v, .string (strOf s)] w fun e w' => e = .returned (rfindV l s) ∧ w' = w := by
  obtain ⟨ad, cap, rfl⟩ := hv.slice
  obtain ⟨n, hn⟩ : ∃ n, l.length = n := ⟨_, rfl⟩
  have HN := Lib.hid hn
  have HV := Lib.hid hv
  rw [hn] at hl HV ⊢
  clear hv hn
  go_enter Tryz.func12, Tryz.ntmps12
  go_wp2_with fail
  go_loopw [6] (fun iv wr => FdRel l s w iv wr) (fun iv _ => n - (intOf iv).toNat)
  case atStart => exact ⟨0, rfl, Nat.zero_le _, rfl, rfl⟩
  case round =>
    obtain ⟨i, rfl, hi, hf, rfl⟩ := hrel
    rw [HN.out] at hi
    have HF := Lib.hid hf
    by_cases hlt : i < n
    · have hil : i < l.length := by rw [HN.out]; exact hlt
      obtain ⟨c, hc⟩ : ∃ c, l[i]? = some c := ⟨_, List.getElem?_eq_getElem hil⟩
      obtain ⟨b, off, cap1, ev, tv, hs, hcap, hrg, hca⟩ := HV.out.at hc
      rw [HN.out] at hs
      cases hs
      have g0 : wr.cell? ⟨b, off + i * 14, none⟩ = some (.string (strOf c.name)) := hrg 0 _ rfl
      have he := str_eq (a := c.name) (b := s)
      have HC := Lib.hid hc
      have d1 : decide (i < n) = true := decide_eq_true hlt
      have hi0 : (0 : Int) ≤ (i : Int) := by omega
      have hin : (i : Int) < (n : Int) := by omega
      have q4 : IntKind.i64.wrap ((i : Int) + 1) = (i : Int) + 1 := IntWalk.i64_in _ (by omega)
      have HI := Lib.hid hlt
      clear hf hlt hil hc hrg hca hcap
      by_cases hcs : c.name = s
      · rw [decide_eq_true hcs] at he
        have HR := Lib.hid (show rfindV l s = .tuple #[.int .i64 (i : Nat), .bool true] by unfold rfindV; rw [nmAt_found HF.out HC.out hcs])
        clear hcs
        go_wp2_with fail
        go_ret2
        exact ⟨by first | rfl | (rw [HR.out]; rfl), rfl⟩
      · rw [decide_eq_false hcs] at he
        have HU := Lib.hid (nmAt_up HF.out HC.out hcs)
        clear hcs
        go_wp2_with fail
        have hI := HI.out
        exact ⟨⟨i + 1, by go_num, by rw [HN.out]; omega, HU.out, rfl⟩, by simp [intOf]; omega⟩
    · have d1 : decide (i < n) = false := decide_eq_false hlt
      have HR := Lib.hid (show rfindV l s = .tuple #[.int .i64 0, .bool false] by
        have := HF.out
        rw [List.take_of_length_le (by rw [HN.out]; omega)] at this
        unfold rfindV; rw [this])
      clear hf hlt
      go_wp2_with fail
      go_ret2
      exact ⟨by first | rfl | (rw [HR.out]; rfl), rfl⟩
def Wr1Rel (l : List Crd) (w : World) (iv : Value) (wr : World) : Prop := ∃ i : Nat, iv = .int .i64 (i : Nat) ∧ i ≤ l.length ∧ (∀ c ∈ l.take i, cvalid c = true) ∧ Kept No w wr
def Wr2Rel (l : List Crd) (w : World) (iv : Value) (wr : World) : Prop := ∃ i : Nat, iv = .int .i64 (i : Nat) ∧ i ≤ l.length ∧ (names (l.take i)).Nodup ∧ Kept No w wr
set_option maxRecDepth 100000 in
set_option maxHeartbeats 8000000 in
theorem rwrong_any {l : List Crd} (hl : l.length ≤ 1000000) (hsm : ∀ c ∈ l, Sm c) {w : World} {B : Nat → Prop} {v : Value} (hv : CrdsAt w B v l) : Calls Tryz.prog 8 #[v] w fun e w' => e = .returned (.int .i64 (wrongF l)) ∧ Kept No w w' := by
  obtain ⟨ad, cap, rfl⟩ := hv.slice
  obtain ⟨n, hn⟩ : ∃ n, l.length = n := ⟨_, rfl⟩
  have HN := Lib.hid hn
  have HV := Lib.hid hv
  have HSM := Lib.hid hsm
  obtain ⟨er, her⟩ : ∃ er, wrongF l = er := ⟨_, rfl⟩
  have HER := Lib.hid her
  have HFD := Lib.hid (fun (s : List UInt8) W (hk : Kept No w W) => rfind_any hl s (hv.no hk))
  rw [her]
  rw [hn] at hl HV HFD ⊢
  clear hv hn hsm her
  by_cases h4 : 400 < n
  · obtain rfl : er = 5 := by rw [← HER.out]; exact wrong_5 (by rw [HN.out]; exact h4)
    have h4' : 400 < (n : Int) := by omega
    go_enter Tryz.func8, Tryz.ntmps8
    go_wp2_with fail
    go_ret
    exact ⟨rfl, Kept.refl No w⟩
  have h4' : ¬ (400 < (n : Int)) := by omega
  have H4 := Lib.hid (show ¬ 400 < l.length by rw [HN.out]; exact h4)
  go_enter Tryz.func8, Tryz.ntmps8
  go_wp2_with fail
  clear h4 h4'
  go_loopw [3] (fun iv wr => Wr1Rel l w iv wr) (fun iv _ => n - (intOf iv).toNat)
  case atStart => exact ⟨0, rfl, Nat.zero_le _, fun c h => by simp at h, Kept.refl No w⟩
  case round =>
    obtain ⟨i, rfl, hi, hf, hk⟩ := hrel
    rw [HN.out] at hi
    have HF := Lib.hid hf
    have HK := Lib.hid hk
    by_cases hlt : i < n
    · have hil : i < l.length := by rw [HN.out]; exact hlt
      obtain ⟨c, hc⟩ : ∃ c, l[i]? = some c := ⟨_, List.getElem?_eq_getElem hil⟩
      obtain ⟨b, off, cap1, ev, tv, hs, hcap, hrg, hca⟩ := (HV.out.no hk).at hc
      obtain ⟨ade, cape, rfl⟩ := rd_slice hca.effs
      obtain ⟨adt, capt, rfl⟩ := hca.trgs.slice
      rw [HN.out] at hs
      cases hs
      have HRG := Lib.hid (show wr.rangeAt b (off + i * 14) [.string (strOf c.name), .int .i64 c.kind, .int .i64 c.o0, .int .i64 c.o1, .int .i64 c.o2, .int .i64 c.o3, .int .i64 c.any, .int .i64 c.makes, .int .i64 c.power, .int .i64 c.tough, .int .i64 c.keys, .slice ade c.effs.length cape, .slice adt c.trgs.length capt, .int .i64 c.rarity] from hrg)
      have HCV := Lib.hid (rcvalid_any (HSM.out c (List.mem_of_getElem? hc)) hca)
      obtain ⟨q, hq⟩ : ∃ q, cvalid c = q := ⟨_, rfl⟩
      rw [hq] at HCV
      have HT := Lib.hid (show l.take (i + 1) = l.take i ++ [c] by rw [List.take_add_one, hc]; rfl)
      have HQ := Lib.hid (And.intro (List.mem_of_getElem? hc) hq)
      have d1 : decide (i < n) = true := decide_eq_true hlt
      have hi0 : (0 : Int) ≤ (i : Int) := by omega
      have hin : (i : Int) < (n : Int) := by omega
      have q4 : IntKind.i64.wrap ((i : Int) + 1) = (i : Int) + 1 := IntWalk.i64_in _ (by omega)
      have HI := Lib.hid hlt
      clear hf hk hlt hil hc hrg hca hcap hq
      go_wp2_with (with_reducible refine wpList_load_mid rfl 46 _ rfl b (off + i * 14) rfl [.string (strOf c.name), .int .i64 c.kind, .int .i64 c.o0, .int .i64 c.o1, .int .i64 c.o2, .int .i64 c.o3, .int .i64 c.any, .int .i64 c.makes, .int .i64 c.power, .int .i64 c.tough, .int .i64 c.keys, .slice ade c.effs.length cape, .slice adt c.trgs.length capt, .int .i64 c.rarity] _ HRG.out Tryz.underlying46 rfl (by kernel_rfl) ?_)
      refine HCV.out.mono ?_
      rintro e w2 ⟨rfl, hk2⟩
      have HK2 := Lib.hid (HK.out.and hk2)
      clear hk2
      cases q
      · obtain rfl : er = 2 := by rw [← HER.out]; exact wrong_2 H4.out HQ.out.1 HQ.out.2
        go_wp2_with fail
        go_ret
        exact ⟨rfl, HK2.out⟩
      · have HU := Lib.hid (show ∀ c ∈ l.take (i + 1), cvalid c = true by
          rw [HT.out]
          intro x hx
          rcases List.mem_append.1 hx with h | h
          · exact HF.out x h
          · obtain rfl : x = c := by simpa using h
            exact HQ.out.2)
        go_wp2_with fail
        have hI := HI.out
        exact ⟨⟨i + 1, by go_num, by rw [HN.out]; omega, HU.out, HK2.out⟩, by simp [intOf]; omega⟩
    · have d1 : decide (i < n) = false := decide_eq_false hlt
      have HVA := Lib.hid (show ∀ c ∈ l, cvalid c = true by
        have := HF.out
        rw [List.take_of_length_le (by rw [HN.out]; omega)] at this
        exact this)
      clear hf hlt hk
      go_wp2_with fail
      go_loopw [4] (fun iv wr => Wr2Rel l w iv wr) (fun iv _ => n - (intOf iv).toNat)
      case atStart => exact ⟨0, rfl, Nat.zero_le _, by simp [names], HK.out⟩
      case round =>
        obtain ⟨j, rfl, hj, hnd, hk⟩ := hrel
        rw [HN.out] at hj
        have HND := Lib.hid hnd
        have HKJ := Lib.hid hk
        by_cases hlt : j < n
        · have hil : j < l.length := by rw [HN.out]; exact hlt
          obtain ⟨c, hc⟩ : ∃ c, l[j]? = some c := ⟨_, List.getElem?_eq_getElem hil⟩
          obtain ⟨b, off, cap1, ev, tv, hs, hcap, hrg, hca⟩ := (HV.out.no hk).at hc
          rw [HN.out] at hs
          cases hs
          have g0 : wr.cell? ⟨b, off + j * 14, none⟩ = some (.string (strOf c.name)) := hrg 0 _ rfl
          have HT := Lib.hid (show l.take (j + 1) = l.take j ++ [c] by rw [List.take_add_one, hc]; rfl)
          have hFD := Lib.hid (HFD.out c.name _ hk)
          have HC := Lib.hid hc
          have d1 : decide (j < n) = true := decide_eq_true hlt
          have hi0 : (0 : Int) ≤ (j : Int) := by omega
          have hin : (j : Int) < (n : Int) := by omega
          have q4 : IntKind.i64.wrap ((j : Int) + 1) = (j : Int) + 1 := IntWalk.i64_in _ (by omega)
          have HI := Lib.hid hlt
          clear hnd hk hlt hil hc hrg hca hcap
          by_cases hin2 : c.name ∈ names (l.take j)
          · have hx : ∃ x, nmAt l c.name = some x ∧ x < j := by
              have hne : nmAt (l.take j) c.name ≠ none := fun h => nmAt_none.1 h hin2
              obtain ⟨x, hx⟩ := Option.ne_none_iff_exists'.1 hne
              have hxl := nmAt_lt hx
              rw [List.length_take] at hxl
              refine ⟨x, ?_, by omega⟩
              unfold nmAt at hx ⊢
              rw [List.findIdx?_eq_some_iff_getElem] at hx ⊢
              obtain ⟨h1, h2, h3⟩ := hx
              refine ⟨by omega, by rw [List.getElem_take] at h2; exact h2, fun k hk => ?_⟩
              have := h3 k hk
              rw [List.getElem_take] at this
              exact this
            obtain ⟨x, hx1, hx2⟩ := hx
            have hxi : (x : Int) < (j : Int) := by omega
            have dx : decide (x < j) = true := decide_eq_true hx2
            have hV : rfindV l c.name = .tuple #[.int .i64 (x : Nat), .bool true] := by unfold rfindV; rw [hx1]
            rw [hV] at hFD
            obtain rfl : er = 11 := by
              rw [← HER.out]
              refine wrong_11 H4.out HVA.out fun h => ?_
              have h2 := nodup_take (j + 1) h
              rw [HT.out, names_snoc] at h2
              have := (List.nodup_append.1 h2).2.2 _ hin2 _ (List.mem_singleton.2 rfl)
              exact this rfl
            clear hin2 hx1 hx2 hV
            go_wp2_with fail
            refine hFD.out.mono ?_
            rintro e w3 ⟨rfl, rfl⟩
            go_wp2_with fail
            go_ret
            exact ⟨rfl, HKJ.out⟩
          · have hV : rfindV l c.name = .tuple #[.int .i64 (j : Nat), .bool true] := by unfold rfindV; rw [nmAt_found (nmAt_none.2 hin2) HC.out rfl]
            rw [hV] at hFD
            have HU := Lib.hid (show (names (l.take (j + 1))).Nodup by rw [HT.out, names_snoc]; exact nodup_snoc HND.out hin2)
            have hjj : ¬ ((j : Int) < (j : Int)) := by omega
            clear hin2 hV
            go_wp2_with fail
            refine hFD.out.mono ?_
            rintro e w3 ⟨rfl, rfl⟩
            go_wp2_with fail
            have hI := HI.out
            exact ⟨⟨j + 1, by go_num, by rw [HN.out]; omega, HU.out, HKJ.out⟩, by simp [intOf]; omega⟩
        · have d1 : decide (j < n) = false := decide_eq_false hlt
          obtain rfl : er = 0 := by
            rw [← HER.out]
            have := HND.out
            rw [List.take_of_length_le (by rw [HN.out]; omega)] at this
            exact wrong_0 H4.out HVA.out this
          clear hnd hlt hk
          go_wp2_with fail
          go_ret
          exact ⟨rfl, HKJ.out⟩
set_option maxRecDepth 100000 in
set_option maxHeartbeats 4000000 in
theorem rselect_any (k r : Int) {w : World} {B : Nat → Prop} {v : Value} {l : List Crd} (h : CrdsAt w B v l) (hl : l.length ≤ 1000000) : Calls Tryz.prog 19 #[v, .int .i64 k, .int .i64 r] w (SelPost k r l w) := by
  by_cases x : k = 0
  · subst x
    by_cases z : r = 0
    · subst z
      obtain ⟨ad, cap, rfl⟩ := h.slice
      obtain ⟨n, hn⟩ : ∃ n, l.length = n := ⟨_, rfl⟩
      have HN := Lib.hid hn
      have HV := Lib.hid h
      rw [hn] at hl HV ⊢
      clear h hn
      go_enter Tryz.func19, Tryz.ntmps19
      go_wp2_with fail
      go_loopw [7, 8] (fun ov iv wr => SelRel 0 0 l w ov iv wr) (fun _ iv _ => n - (intOf iv).toNat)
      case atStart => exact ⟨0, rfl, Nat.zero_le _, ⟨rfl, .inl ⟨rfl, rfl⟩⟩, Kept.refl No w⟩
      case round =>
        obtain ⟨i, rfl, hi, ho, hk⟩ := hrel
        rw [HN.out] at hi
        have HOO := Lib.hid ho
        have HK := Lib.hid hk
        by_cases hlt : i < n
        · have hil : i < l.length := by rw [HN.out]; exact hlt
          obtain ⟨c, hc⟩ : ∃ c, l[i]? = some c := ⟨_, List.getElem?_eq_getElem hil⟩
          obtain ⟨b, off, cap1, ev, tv, hs, hcap, hrg, hca⟩ := (HV.out.no hk).at hc
          rw [HN.out] at hs
          cases hs
          have g1 : wr.cell? ⟨b, off + i * 14 + 1, none⟩ = some (.int .i64 c.kind) := hrg 1 _ rfl
          have g13 : wr.cell? ⟨b, off + i * 14 + 13, none⟩ = some (.int .i64 c.rarity) := hrg 13 _ rfl
          have HT := Lib.hid (show selF (l.take (i + 1)) 0 0 = selF (l.take i) 0 0 ++ (if fitsF 0 0 c then [i] else []) by
            have e : l.take (i + 1) = l.take i ++ [c] := by rw [List.take_add_one, hc]; rfl
            rw [e, sel_snoc, List.length_take, Nat.min_eq_left (by omega)])
          have HO := Lib.hid ho
          have HFI : fitsF 0 0 c = ((((0 : Int) == 0) || (c.kind == 0)) && (((0 : Int) == 0) || (c.rarity == 0))) := rfl
          have HF := Lib.hid HFI
          have HLE := Lib.hid (show ((selF (l.take i) 0 0).length + 1) * 8 ≤ 140737488355328 by have := sel_le (l.take i) 0 0; rw [List.length_take] at this; omega)
          have HSZ := Lib.hid hk.size
          have d1 : decide (i < n) = true := decide_eq_true hlt
          have hi0 : (0 : Int) ≤ (i : Int) := by omega
          have hin : (i : Int) < (n : Int) := by omega
          have q4 : IntKind.i64.wrap ((i : Int) + 1) = (i : Int) + 1 := IntWalk.i64_in _ (by omega)
          have HI := Lib.hid hlt
          clear hk hlt hil hc hrg hca hcap ho HFI
          have HUP := Lib.hid (show selF (l.take (i + 1)) 0 0 = selF (l.take i) 0 0 ++ [i] by rw [HT.out, HF.out]; simp [*])
          go_wp2_with (at_builtin; refine wpList_append_rd rfl rfl rfl rfl eiI (owned_kept HO.out ((Kept.refl No wr).alloc _) fun _ _ _ => not_no _) (rd_i1 wr i rfl) (by intro u hu; simp [nvals] at hu; subst hu; rfl) HLE.out (by have := HSZ.out; simp; omega) ?_; intro v5 w5 hown5 hg5 _)
          have hI := HI.out
          have HRL := Lib.hid (show SelRel 0 0 l w v5 (.int .i64 ((i : Int) + 1)) w5 from ⟨i + 1, by go_num, by rw [HN.out]; omega, by
            rw [HUP.out]
            show World.ownsRow _ _ _ _ _ _ _
            rw [List.length_append, show nvals (selF (l.take i) 0 0 ++ [i]) = nvals (selF (l.take i) 0 0) ++ nvals [i] by simp [nvals]]
            exact hown5, (HK.out.alloc _).grown hg5 (fun q e h => absurd (HO.out.lt q e).1 (by omega))⟩)
          go_roundw
          case rel => first | exact HRL.out | ((repeat apply Exists.intro); exact ⟨HRL.out, rfl⟩)
          case measure => simp [intOf]; omega
        · have d1 : decide (i < n) = false := decide_eq_false hlt
          have HR := Lib.hid (show l.take i = l from List.take_of_length_le (by rw [HN.out]; omega))
          clear hlt hk ho
          go_wp2_with fail
          go_ret
          exact ⟨_, rfl, HR.out ▸ HOO.out, HK.out⟩
    · skip
      obtain ⟨ad, cap, rfl⟩ := h.slice
      obtain ⟨n, hn⟩ : ∃ n, l.length = n := ⟨_, rfl⟩
      have HN := Lib.hid hn
      have HV := Lib.hid h
      rw [hn] at hl HV ⊢
      clear h hn
      go_enter Tryz.func19, Tryz.ntmps19
      go_wp2_with fail
      go_loopw [7, 8] (fun ov iv wr => SelRel 0 r l w ov iv wr) (fun _ iv _ => n - (intOf iv).toNat)
      case atStart => exact ⟨0, rfl, Nat.zero_le _, ⟨rfl, .inl ⟨rfl, rfl⟩⟩, Kept.refl No w⟩
      case round =>
        obtain ⟨i, rfl, hi, ho, hk⟩ := hrel
        rw [HN.out] at hi
        have HOO := Lib.hid ho
        have HK := Lib.hid hk
        by_cases hlt : i < n
        · have hil : i < l.length := by rw [HN.out]; exact hlt
          obtain ⟨c, hc⟩ : ∃ c, l[i]? = some c := ⟨_, List.getElem?_eq_getElem hil⟩
          obtain ⟨b, off, cap1, ev, tv, hs, hcap, hrg, hca⟩ := (HV.out.no hk).at hc
          rw [HN.out] at hs
          cases hs
          have g1 : wr.cell? ⟨b, off + i * 14 + 1, none⟩ = some (.int .i64 c.kind) := hrg 1 _ rfl
          have g13 : wr.cell? ⟨b, off + i * 14 + 13, none⟩ = some (.int .i64 c.rarity) := hrg 13 _ rfl
          have HT := Lib.hid (show selF (l.take (i + 1)) 0 r = selF (l.take i) 0 r ++ (if fitsF 0 r c then [i] else []) by
            have e : l.take (i + 1) = l.take i ++ [c] := by rw [List.take_add_one, hc]; rfl
            rw [e, sel_snoc, List.length_take, Nat.min_eq_left (by omega)])
          have HO := Lib.hid ho
          have HFI : fitsF 0 r c = ((((0 : Int) == 0) || (c.kind == 0)) && ((r == 0) || (c.rarity == r))) := rfl
          have HF := Lib.hid HFI
          have HLE := Lib.hid (show ((selF (l.take i) 0 r).length + 1) * 8 ≤ 140737488355328 by have := sel_le (l.take i) 0 r; rw [List.length_take] at this; omega)
          have HSZ := Lib.hid hk.size
          have d1 : decide (i < n) = true := decide_eq_true hlt
          have hi0 : (0 : Int) ≤ (i : Int) := by omega
          have hin : (i : Int) < (n : Int) := by omega
          have q4 : IntKind.i64.wrap ((i : Int) + 1) = (i : Int) + 1 := IntWalk.i64_in _ (by omega)
          have HI := Lib.hid hlt
          clear hk hlt hil hc hrg hca hcap ho HFI
          have zf : ¬ r = 0 := z
          have ze : (r == 0) = false := by simpa using z
          have zn : (r != 0) = true := by simpa using z
          by_cases u : c.rarity = r
          · have ue : (c.rarity == r) = true := by simpa using u
            have un : (c.rarity != r) = false := by simpa using u
            have HUP := Lib.hid (show selF (l.take (i + 1)) 0 r = selF (l.take i) 0 r ++ [i] by rw [HT.out, HF.out]; simp [*])
            go_wp2_with (at_builtin; refine wpList_append_rd rfl rfl rfl rfl eiI (owned_kept HO.out ((Kept.refl No wr).alloc _) fun _ _ _ => not_no _) (rd_i1 wr i rfl) (by intro u hu; simp [nvals] at hu; subst hu; rfl) HLE.out (by have := HSZ.out; simp; omega) ?_; intro v5 w5 hown5 hg5 _)
            have hI := HI.out
            have HRL := Lib.hid (show SelRel 0 r l w v5 (.int .i64 ((i : Int) + 1)) w5 from ⟨i + 1, by go_num, by rw [HN.out]; omega, by
              rw [HUP.out]
              show World.ownsRow _ _ _ _ _ _ _
              rw [List.length_append, show nvals (selF (l.take i) 0 r ++ [i]) = nvals (selF (l.take i) 0 r) ++ nvals [i] by simp [nvals]]
              exact hown5, (HK.out.alloc _).grown hg5 (fun q e h => absurd (HO.out.lt q e).1 (by omega))⟩)
            go_roundw
            case rel => first | exact HRL.out | ((repeat apply Exists.intro); exact ⟨HRL.out, rfl⟩)
            case measure => simp [intOf]; omega
          have ue : (c.rarity == r) = false := by simpa using u
          have un : (c.rarity != r) = true := by simpa using u
          have HUP := Lib.hid (show selF (l.take (i + 1)) 0 r = selF (l.take i) 0 r by rw [HT.out, HF.out]; simp [*])
          go_wp2_with fail
          have hI := HI.out
          exact ⟨⟨i + 1, by go_num, by rw [HN.out]; omega, by rw [HUP.out]; exact HO.out, HK.out⟩, by simp [intOf]; omega⟩
        · have d1 : decide (i < n) = false := decide_eq_false hlt
          have HR := Lib.hid (show l.take i = l from List.take_of_length_le (by rw [HN.out]; omega))
          clear hlt hk ho
          go_wp2_with fail
          go_ret
          exact ⟨_, rfl, HR.out ▸ HOO.out, HK.out⟩
  · by_cases z : r = 0
    · subst z
      obtain ⟨ad, cap, rfl⟩ := h.slice
      obtain ⟨n, hn⟩ : ∃ n, l.length = n := ⟨_, rfl⟩
      have HN := Lib.hid hn
      have HV := Lib.hid h
      rw [hn] at hl HV ⊢
      clear h hn
      go_enter Tryz.func19, Tryz.ntmps19
      go_wp2_with fail
      go_loopw [7, 8] (fun ov iv wr => SelRel k 0 l w ov iv wr) (fun _ iv _ => n - (intOf iv).toNat)
      case atStart => exact ⟨0, rfl, Nat.zero_le _, ⟨rfl, .inl ⟨rfl, rfl⟩⟩, Kept.refl No w⟩
      case round =>
        obtain ⟨i, rfl, hi, ho, hk⟩ := hrel
        rw [HN.out] at hi
        have HOO := Lib.hid ho
        have HK := Lib.hid hk
        by_cases hlt : i < n
        · have hil : i < l.length := by rw [HN.out]; exact hlt
          obtain ⟨c, hc⟩ : ∃ c, l[i]? = some c := ⟨_, List.getElem?_eq_getElem hil⟩
          obtain ⟨b, off, cap1, ev, tv, hs, hcap, hrg, hca⟩ := (HV.out.no hk).at hc
          rw [HN.out] at hs
          cases hs
          have g1 : wr.cell? ⟨b, off + i * 14 + 1, none⟩ = some (.int .i64 c.kind) := hrg 1 _ rfl
          have g13 : wr.cell? ⟨b, off + i * 14 + 13, none⟩ = some (.int .i64 c.rarity) := hrg 13 _ rfl
          have HT := Lib.hid (show selF (l.take (i + 1)) k 0 = selF (l.take i) k 0 ++ (if fitsF k 0 c then [i] else []) by
            have e : l.take (i + 1) = l.take i ++ [c] := by rw [List.take_add_one, hc]; rfl
            rw [e, sel_snoc, List.length_take, Nat.min_eq_left (by omega)])
          have HO := Lib.hid ho
          have HFI : fitsF k 0 c = (((k == 0) || (c.kind == k)) && (((0 : Int) == 0) || (c.rarity == 0))) := rfl
          have HF := Lib.hid HFI
          have HLE := Lib.hid (show ((selF (l.take i) k 0).length + 1) * 8 ≤ 140737488355328 by have := sel_le (l.take i) k 0; rw [List.length_take] at this; omega)
          have HSZ := Lib.hid hk.size
          have d1 : decide (i < n) = true := decide_eq_true hlt
          have hi0 : (0 : Int) ≤ (i : Int) := by omega
          have hin : (i : Int) < (n : Int) := by omega
          have q4 : IntKind.i64.wrap ((i : Int) + 1) = (i : Int) + 1 := IntWalk.i64_in _ (by omega)
          have HI := Lib.hid hlt
          clear hk hlt hil hc hrg hca hcap ho HFI
          have xe : (k == 0) = false := by simpa using x
          have xn : (k != 0) = true := by simpa using x
          by_cases y : c.kind = k
          rotate_left
          · have ye : (c.kind == k) = false := by simpa using y
            have yn : (c.kind != k) = true := by simpa using y
            have HUP := Lib.hid (show selF (l.take (i + 1)) k 0 = selF (l.take i) k 0 by rw [HT.out, HF.out]; simp [*])
            go_wp2_with fail
            have hI := HI.out
            exact ⟨⟨i + 1, by go_num, by rw [HN.out]; omega, by rw [HUP.out]; exact HO.out, HK.out⟩, by simp [intOf]; omega⟩
          have ye : (c.kind == k) = true := by simpa using y
          have yn : (c.kind != k) = false := by simpa using y
          have HUP := Lib.hid (show selF (l.take (i + 1)) k 0 = selF (l.take i) k 0 ++ [i] by rw [HT.out, HF.out]; simp [*])
          go_wp2_with (at_builtin; refine wpList_append_rd rfl rfl rfl rfl eiI (owned_kept HO.out ((Kept.refl No wr).alloc _) fun _ _ _ => not_no _) (rd_i1 wr i rfl) (by intro u hu; simp [nvals] at hu; subst hu; rfl) HLE.out (by have := HSZ.out; simp; omega) ?_; intro v5 w5 hown5 hg5 _)
          have hI := HI.out
          have HRL := Lib.hid (show SelRel k 0 l w v5 (.int .i64 ((i : Int) + 1)) w5 from ⟨i + 1, by go_num, by rw [HN.out]; omega, by
            rw [HUP.out]
            show World.ownsRow _ _ _ _ _ _ _
            rw [List.length_append, show nvals (selF (l.take i) k 0 ++ [i]) = nvals (selF (l.take i) k 0) ++ nvals [i] by simp [nvals]]
            exact hown5, (HK.out.alloc _).grown hg5 (fun q e h => absurd (HO.out.lt q e).1 (by omega))⟩)
          go_roundw
          case rel => first | exact HRL.out | ((repeat apply Exists.intro); exact ⟨HRL.out, rfl⟩)
          case measure => simp [intOf]; omega
        · have d1 : decide (i < n) = false := decide_eq_false hlt
          have HR := Lib.hid (show l.take i = l from List.take_of_length_le (by rw [HN.out]; omega))
          clear hlt hk ho
          go_wp2_with fail
          go_ret
          exact ⟨_, rfl, HR.out ▸ HOO.out, HK.out⟩
    · skip
      obtain ⟨ad, cap, rfl⟩ := h.slice
      obtain ⟨n, hn⟩ : ∃ n, l.length = n := ⟨_, rfl⟩
      have HN := Lib.hid hn
      have HV := Lib.hid h
      rw [hn] at hl HV ⊢
      clear h hn
      go_enter Tryz.func19, Tryz.ntmps19
      go_wp2_with fail
      go_loopw [7, 8] (fun ov iv wr => SelRel k r l w ov iv wr) (fun _ iv _ => n - (intOf iv).toNat)
      case atStart => exact ⟨0, rfl, Nat.zero_le _, ⟨rfl, .inl ⟨rfl, rfl⟩⟩, Kept.refl No w⟩
      case round =>
        obtain ⟨i, rfl, hi, ho, hk⟩ := hrel
        rw [HN.out] at hi
        have HOO := Lib.hid ho
        have HK := Lib.hid hk
        by_cases hlt : i < n
        · have hil : i < l.length := by rw [HN.out]; exact hlt
          obtain ⟨c, hc⟩ : ∃ c, l[i]? = some c := ⟨_, List.getElem?_eq_getElem hil⟩
          obtain ⟨b, off, cap1, ev, tv, hs, hcap, hrg, hca⟩ := (HV.out.no hk).at hc
          rw [HN.out] at hs
          cases hs
          have g1 : wr.cell? ⟨b, off + i * 14 + 1, none⟩ = some (.int .i64 c.kind) := hrg 1 _ rfl
          have g13 : wr.cell? ⟨b, off + i * 14 + 13, none⟩ = some (.int .i64 c.rarity) := hrg 13 _ rfl
          have HT := Lib.hid (show selF (l.take (i + 1)) k r = selF (l.take i) k r ++ (if fitsF k r c then [i] else []) by
            have e : l.take (i + 1) = l.take i ++ [c] := by rw [List.take_add_one, hc]; rfl
            rw [e, sel_snoc, List.length_take, Nat.min_eq_left (by omega)])
          have HO := Lib.hid ho
          have HFI : fitsF k r c = (((k == 0) || (c.kind == k)) && ((r == 0) || (c.rarity == r))) := rfl
          have HF := Lib.hid HFI
          have HLE := Lib.hid (show ((selF (l.take i) k r).length + 1) * 8 ≤ 140737488355328 by have := sel_le (l.take i) k r; rw [List.length_take] at this; omega)
          have HSZ := Lib.hid hk.size
          have d1 : decide (i < n) = true := decide_eq_true hlt
          have hi0 : (0 : Int) ≤ (i : Int) := by omega
          have hin : (i : Int) < (n : Int) := by omega
          have q4 : IntKind.i64.wrap ((i : Int) + 1) = (i : Int) + 1 := IntWalk.i64_in _ (by omega)
          have HI := Lib.hid hlt
          clear hk hlt hil hc hrg hca hcap ho HFI
          have xe : (k == 0) = false := by simpa using x
          have xn : (k != 0) = true := by simpa using x
          by_cases y : c.kind = k
          rotate_left
          · have ye : (c.kind == k) = false := by simpa using y
            have yn : (c.kind != k) = true := by simpa using y
            have HUP := Lib.hid (show selF (l.take (i + 1)) k r = selF (l.take i) k r by rw [HT.out, HF.out]; simp [*])
            go_wp2_with fail
            have hI := HI.out
            exact ⟨⟨i + 1, by go_num, by rw [HN.out]; omega, by rw [HUP.out]; exact HO.out, HK.out⟩, by simp [intOf]; omega⟩
          have ye : (c.kind == k) = true := by simpa using y
          have yn : (c.kind != k) = false := by simpa using y
          have zf : ¬ r = 0 := z
          have ze : (r == 0) = false := by simpa using z
          have zn : (r != 0) = true := by simpa using z
          by_cases u : c.rarity = r
          · have ue : (c.rarity == r) = true := by simpa using u
            have un : (c.rarity != r) = false := by simpa using u
            have HUP := Lib.hid (show selF (l.take (i + 1)) k r = selF (l.take i) k r ++ [i] by rw [HT.out, HF.out]; simp [*])
            go_wp2_with (at_builtin; refine wpList_append_rd rfl rfl rfl rfl eiI (owned_kept HO.out ((Kept.refl No wr).alloc _) fun _ _ _ => not_no _) (rd_i1 wr i rfl) (by intro u hu; simp [nvals] at hu; subst hu; rfl) HLE.out (by have := HSZ.out; simp; omega) ?_; intro v5 w5 hown5 hg5 _)
            have hI := HI.out
            have HRL := Lib.hid (show SelRel k r l w v5 (.int .i64 ((i : Int) + 1)) w5 from ⟨i + 1, by go_num, by rw [HN.out]; omega, by
              rw [HUP.out]
              show World.ownsRow _ _ _ _ _ _ _
              rw [List.length_append, show nvals (selF (l.take i) k r ++ [i]) = nvals (selF (l.take i) k r) ++ nvals [i] by simp [nvals]]
              exact hown5, (HK.out.alloc _).grown hg5 (fun q e h => absurd (HO.out.lt q e).1 (by omega))⟩)
            go_roundw
            case rel => first | exact HRL.out | ((repeat apply Exists.intro); exact ⟨HRL.out, rfl⟩)
            case measure => simp [intOf]; omega
          have ue : (c.rarity == r) = false := by simpa using u
          have un : (c.rarity != r) = true := by simpa using u
          have HUP := Lib.hid (show selF (l.take (i + 1)) k r = selF (l.take i) k r by rw [HT.out, HF.out]; simp [*])
          go_wp2_with fail
          have hI := HI.out
          exact ⟨⟨i + 1, by go_num, by rw [HN.out]; omega, by rw [HUP.out]; exact HO.out, HK.out⟩, by simp [intOf]; omega⟩
        · have d1 : decide (i < n) = false := decide_eq_false hlt
          have HR := Lib.hid (show l.take i = l from List.take_of_length_le (by rw [HN.out]; omega))
          clear hlt hk ho
          go_wp2_with fail
          go_ret
          exact ⟨_, rfl, HR.out ▸ HOO.out, HK.out⟩
end Go.Proofs.YtclgoilfclmibaaGreatDoor
