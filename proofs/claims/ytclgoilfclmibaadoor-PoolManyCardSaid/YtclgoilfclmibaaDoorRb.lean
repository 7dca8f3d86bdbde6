/-
  Pool: lists of cards that are alike; what is shown, found; pools that are looked at.
-/
import Derived.Test.YtclgoilfclmibaaDoorRa
set_option linter.unusedVariables false
set_option linter.unusedSimpArgs false
namespace Go.Proofs.YtclgoilfclmibaaDoor
open Go Go.RowKit Go.Zn
attribute [local go_sem] Oper.semAt_some

theorem rng_kept {w w' : World} {b off : Nat} {cs : List Value} (hk : Kept No w w') (h : w.rangeAt b off cs) : w'.rangeAt b off cs := fun j v hj => hk.cell (h j v hj) (not_no _)
theorem nvals_get' (l : List Nat) (j : Nat) : (nvals l)[j]? = (l[j]?).map fun n => Value.int .i64 (n : Nat) := by simp [nvals]
set_option maxRecDepth 100000 in
theorem isame_any {l : List Nat} (hl : l.length ≤ 1000000) {w : World} {B C : Nat → Prop} {v1 v2 : Value} (h1 : Rd w B 1 v1 l.length (nvals l)) (h2 : Rd w C 1 v2 l.length (nvals l)) : Calls Tryd.prog 20 #[v1, v2] w fun e w' => e = .returned (.bool true) ∧ ∃ q, w' = w.drewN q := by
  obtain ⟨ad1, cap1, rfl⟩ := rd_slice h1
  obtain ⟨ad2, cap2, rfl⟩ := rd_slice h2
  obtain ⟨n, hn⟩ : ∃ n, l.length = n := ⟨_, rfl⟩
  have HN := Lib.hid hn
  have H1 := Lib.hid h1
  have H2 := Lib.hid h2
  rw [hn] at H1 H2 hl ⊢
  clear h1 h2 hn
  go_enter Tryd.func20, Tryd.ntmps20
  go_wp2_with fail
  go_loopw [5] (fun iv wr => IxRel2 n w iv wr) (fun iv _ => n - (intOf iv).toNat)
  case atStart => exact ⟨0, rfl, Nat.zero_le _, 0, (World.drewN_zero w).symm⟩
  case round =>
    obtain ⟨i, rfl, hi, q, rfl⟩ := hrel
    by_cases hlt : i < n
    · have hil : i < l.length := by rw [HN.out]; exact hlt
      obtain ⟨_, _, ⟨_, h0⟩ | ⟨b, off, c1, hs, _, _, hc⟩⟩ := H1.out
      · omega
      obtain ⟨_, _, ⟨_, h0⟩ | ⟨b', off', c1', hs', _, _, hc'⟩⟩ := H2.out
      · omega
      obtain ⟨x, hx⟩ : ∃ x, l[i] = x := ⟨_, rfl⟩
      have g0 : w.cell? ⟨b, off + i, none⟩ = some (.int .i64 (x : Nat)) := hc i _ (by rw [nvals_get', List.getElem?_eq_getElem hil, hx]; rfl)
      have k0 : w.cell? ⟨b', off' + i, none⟩ = some (.int .i64 (x : Nat)) := hc' i _ (by rw [nvals_get', List.getElem?_eq_getElem hil, hx]; rfl)
      cases hs
      cases hs'
      have d1 : decide (i < n) = true := decide_eq_true hlt
      have hi0 : (0 : Int) ≤ (i : Int) := by omega
      have hin : (i : Int) < (n : Int) := by omega
      have q4 : IntKind.i64.wrap ((i : Int) + 1) = (i : Int) + 1 := IntWalk.i64_in _ (by omega)
      have HI := Lib.hid hlt
      clear hlt hil hx hc hc'
      go_wp2_with fail
      go_quiet (fail)
      go_wp2_with fail
      have hI := HI.out
      exact ⟨⟨i + 1, by go_num, by omega, _, rfl⟩, by simp [intOf]; omega⟩
    · have d1 : decide (i < n) = false := decide_eq_false hlt
      clear hlt
      go_wp2_with fail
      go_ret
      exact ⟨rfl, _, rfl⟩
set_option maxRecDepth 100000 in
set_option maxHeartbeats 4000000 in
theorem csame_any {l : List Crd} (hl : l.length ≤ 1000000) (hsm : ∀ c ∈ l, Sm c) {w : World} {B C : Nat → Prop} {v1 v2 : Value} (h1 : CrdsAt w B v1 l) (h2 : CrdsAt w C v2 l) : Calls Tryd.prog 27 #[v1, v2] w fun e w' => e = .returned (.bool true) ∧ Kept No w w' := by
  obtain ⟨ad1, cap1, rfl⟩ := h1.slice
  obtain ⟨ad2, cap2, rfl⟩ := h2.slice
  obtain ⟨n, hn⟩ : ∃ n, l.length = n := ⟨_, rfl⟩
  have HN := Lib.hid hn
  have H1 := Lib.hid h1
  have H2 := Lib.hid h2
  have HSM := Lib.hid hsm
  rw [hn] at H1 H2 hl ⊢
  clear h1 h2 hn hsm
  go_enter Tryd.func27, Tryd.ntmps27
  go_wp2_with fail
  go_loopw [5] (fun iv wr => ∃ i : Nat, iv = .int .i64 (i : Nat) ∧ i ≤ n ∧ Kept No w wr) (fun iv _ => n - (intOf iv).toNat)
  case atStart => exact ⟨0, rfl, Nat.zero_le _, Kept.refl No w⟩
  case round =>
    obtain ⟨i, rfl, hi, hk⟩ := hrel
    have HK := Lib.hid hk
    by_cases hlt : i < n
    · have hil : i < l.length := by rw [HN.out]; exact hlt
      obtain ⟨c, hc⟩ : ∃ c, l[i]? = some c := ⟨_, List.getElem?_eq_getElem hil⟩
      obtain ⟨b, off, c1, ev, tv, hs, hcap, hrg, hca⟩ := (H1.out.no hk).at hc
      obtain ⟨b', off', c1', ev', tv', hs', hcap', hrg', hca'⟩ := (H2.out.no hk).at hc
      obtain ⟨ade, cape, rfl⟩ := rd_slice hca.effs
      obtain ⟨adt, capt, rfl⟩ := hca.trgs.slice
      obtain ⟨ade2, cape2, rfl⟩ := rd_slice hca'.effs
      obtain ⟨adt2, capt2, rfl⟩ := hca'.trgs.slice
      rw [HN.out] at hs hs'
      cases hs
      cases hs'
      have HRG := Lib.hid (show wr.rangeAt b (off + i * 14) [.string (strOf c.name), .int .i64 c.kind, .int .i64 c.o0, .int .i64 c.o1, .int .i64 c.o2, .int .i64 c.o3, .int .i64 c.any, .int .i64 c.makes, .int .i64 c.power, .int .i64 c.tough, .int .i64 c.keys, .slice ade c.effs.length cape, .slice adt c.trgs.length capt, .int .i64 c.rarity] from hrg)
      have HRG2 := Lib.hid (show wr.rangeAt b' (off' + i * 14) [.string (strOf c.name), .int .i64 c.kind, .int .i64 c.o0, .int .i64 c.o1, .int .i64 c.o2, .int .i64 c.o3, .int .i64 c.any, .int .i64 c.makes, .int .i64 c.power, .int .i64 c.tough, .int .i64 c.keys, .slice ade2 c.effs.length cape2, .slice adt2 c.trgs.length capt2, .int .i64 c.rarity] from hrg')
      have HEQ := Lib.hid (fun W (hkW : Kept No wr W) => equal_any (HSM.out c (List.mem_of_getElem? hc)) (hca.no hkW) (hca'.no hkW))
      have d1 : decide (i < n) = true := decide_eq_true hlt
      have hi0 : (0 : Int) ≤ (i : Int) := by omega
      have hin : (i : Int) < (n : Int) := by omega
      have q4 : IntKind.i64.wrap ((i : Int) + 1) = (i : Int) + 1 := IntWalk.i64_in _ (by omega)
      have HI := Lib.hid hlt
      clear hk hlt hil hc hrg hrg' hca hca' hcap hcap'
      go_wp2_with fail
      refine wp_region_held_drew (S := (fun W' => Kept No wr W')) (by kernel_rfl) (Kept.refl No wr).drew (fun hHeld => ?_)
      refine wpAnyH_take (i := 0) (v := .slice (some ⟨b, off, none⟩) n cap1) rfl (by kernel_rfl) (by kernel_rfl) (by kernel_rfl) (fun _ _ _ h => h) (Or.inl ⟨by rfl, ?_⟩) (by assumption) ?_
      · intro W2 hSw; skip; go_simp
      simp only [Act.put, List.getElem_toArray, List.getElem_cons_zero, List.getElem_cons_succ, List.setIfInBounds_toArray, List.set_cons_zero, List.set_cons_succ]
      refine wpAnyH_take (i := 1) (v := .int .i64 (i : Nat)) rfl (by kernel_rfl) (by kernel_rfl) (by kernel_rfl) (fun _ _ _ h => h) (Or.inl ⟨by rfl, ?_⟩) (by assumption) ?_
      · intro W2 hSw; skip; go_simp
      simp only [Act.put, List.getElem_toArray, List.getElem_cons_zero, List.getElem_cons_succ, List.setIfInBounds_toArray, List.set_cons_zero, List.set_cons_succ]
      refine wpAnyH_take (i := 2) (v := .pointer (some ⟨b, off + i * 14, none⟩)) rfl (by kernel_rfl) (by kernel_rfl) (by kernel_rfl) (fun _ _ _ h => h) (Or.inl ⟨by rfl, ?_⟩) (by assumption) ?_
      · intro W2 hSw; skip; go_simp
      simp only [Act.put, List.getElem_toArray, List.getElem_cons_zero, List.getElem_cons_succ, List.setIfInBounds_toArray, List.set_cons_zero, List.set_cons_succ]
      refine wpAnyH_take (i := 3) (v := .agg #[.string (strOf c.name), .int .i64 c.kind, .int .i64 c.o0, .int .i64 c.o1, .int .i64 c.o2, .int .i64 c.o3, .int .i64 c.any, .int .i64 c.makes, .int .i64 c.power, .int .i64 c.tough, .int .i64 c.keys, .slice ade c.effs.length cape, .slice adt c.trgs.length capt, .int .i64 c.rarity]) rfl (by kernel_rfl) (by kernel_rfl) (by kernel_rfl) (fun _ _ _ h => h) (yieldsIf_load_mid (by rfl) 35 (.tmp 19) rfl b (off + i * 14) rfl [.string (strOf c.name), .int .i64 c.kind, .int .i64 c.o0, .int .i64 c.o1, .int .i64 c.o2, .int .i64 c.o3, .int .i64 c.any, .int .i64 c.makes, .int .i64 c.power, .int .i64 c.tough, .int .i64 c.keys, .slice ade c.effs.length cape, .slice adt c.trgs.length capt, .int .i64 c.rarity] _ (fun W2 hSw => rng_kept hSw HRG.out) Tryd.underlying35 rfl (by kernel_rfl)) (by assumption) ?_
      simp only [Act.put, List.getElem_toArray, List.getElem_cons_zero, List.getElem_cons_succ, List.setIfInBounds_toArray, List.set_cons_zero, List.set_cons_succ]
      refine wpAnyH_take (i := 4) (v := .slice (some ⟨b', off', none⟩) n cap2) rfl (by kernel_rfl) (by kernel_rfl) (by kernel_rfl) (fun _ _ _ h => h) (Or.inl ⟨by rfl, ?_⟩) (by assumption) ?_
      · intro W2 hSw; skip; go_simp
      simp only [Act.put, List.getElem_toArray, List.getElem_cons_zero, List.getElem_cons_succ, List.setIfInBounds_toArray, List.set_cons_zero, List.set_cons_succ]
      refine wpAnyH_take (i := 5) (v := .int .i64 (i : Nat)) rfl (by kernel_rfl) (by kernel_rfl) (by kernel_rfl) (fun _ _ _ h => h) (Or.inl ⟨by rfl, ?_⟩) (by assumption) ?_
      · intro W2 hSw; skip; go_simp
      simp only [Act.put, List.getElem_toArray, List.getElem_cons_zero, List.getElem_cons_succ, List.setIfInBounds_toArray, List.set_cons_zero, List.set_cons_succ]
      refine wpAnyH_take (i := 6) (v := .pointer (some ⟨b', off' + i * 14, none⟩)) rfl (by kernel_rfl) (by kernel_rfl) (by kernel_rfl) (fun _ _ _ h => h) (Or.inl ⟨by rfl, ?_⟩) (by assumption) ?_
      · intro W2 hSw; skip; go_simp
      simp only [Act.put, List.getElem_toArray, List.getElem_cons_zero, List.getElem_cons_succ, List.setIfInBounds_toArray, List.set_cons_zero, List.set_cons_succ]
      refine wpAnyH_take (i := 7) (v := .agg #[.string (strOf c.name), .int .i64 c.kind, .int .i64 c.o0, .int .i64 c.o1, .int .i64 c.o2, .int .i64 c.o3, .int .i64 c.any, .int .i64 c.makes, .int .i64 c.power, .int .i64 c.tough, .int .i64 c.keys, .slice ade2 c.effs.length cape2, .slice adt2 c.trgs.length capt2, .int .i64 c.rarity]) rfl (by kernel_rfl) (by kernel_rfl) (by kernel_rfl) (fun _ _ _ h => h) (yieldsIf_load_mid (by rfl) 35 (.tmp 23) rfl b' (off' + i * 14) rfl [.string (strOf c.name), .int .i64 c.kind, .int .i64 c.o0, .int .i64 c.o1, .int .i64 c.o2, .int .i64 c.o3, .int .i64 c.any, .int .i64 c.makes, .int .i64 c.power, .int .i64 c.tough, .int .i64 c.keys, .slice ade2 c.effs.length cape2, .slice adt2 c.trgs.length capt2, .int .i64 c.rarity] _ (fun W2 hSw => rng_kept hSw HRG2.out) Tryd.underlying35 rfl (by kernel_rfl)) (by assumption) ?_
      simp only [Act.put, List.getElem_toArray, List.getElem_cons_zero, List.getElem_cons_succ, List.setIfInBounds_toArray, List.set_cons_zero, List.set_cons_succ]
      refine wpAnyH_ready (rs := [8]) (by kernel_rfl) (by simp) ?_
      refine AllReadyH.cons rfl (fun K hK => ?_) AllReadyH.nil
      go_simp
      go_at_call 37
      refine (HEQ.out _ (Kept.refl No wr).drew).mono ?_
      rintro e9 w9 ⟨rfl, hk9⟩
      refine hK.out _ _ ((Kept.refl No wr).drew.and hk9) (fun _ => ?_)
      have HK9 := Lib.hid ((Kept.refl No wr).drew.and hk9)
      have hH9 := HK9.out
      clear hK K hk9
      try simp only [Act.put, List.getElem_toArray, List.getElem_cons_zero, List.getElem_cons_succ, List.setIfInBounds_toArray, List.set_cons_zero, List.set_cons_succ]
      refine wpAnyH_take (i := 9) (v := .bool false) rfl (by kernel_rfl) (by kernel_rfl) (by kernel_rfl) (fun _ _ _ h => h) (Or.inl ⟨by rfl, ?_⟩) (by assumption) ?_
      · intro W2 hSw; skip; go_simp
      simp only [Act.put, List.getElem_toArray, List.getElem_cons_zero, List.getElem_cons_succ, List.setIfInBounds_toArray, List.set_cons_zero, List.set_cons_succ]
      refine wpAnyH_done (by kernel_rfl) ?_ _
      go_wp2_with fail
      have hI := HI.out
      exact ⟨⟨i + 1, by go_num, by omega, HK.out.and HK9.out⟩, by simp [intOf]; omega⟩
    · have d1 : decide (i < n) = false := decide_eq_false hlt
      clear hlt hk
      go_wp2_with fail
      go_ret
      exact ⟨rfl, HK.out⟩
def ShowC (c : Crd) (er : Int) (W : World) (e : Ending) (w' : World) : Prop := ∃ ev2 tv2, e = .returned (.tuple #[crdV c ev2 tv2, .int .i64 er]) ∧ CrdAt w' (fun _ => True) c ev2 tv2 ∧ Kept No W w'
theorem show_no {er : Int} {W : World} {f : FuncId} {args : Array Value} (h : Calls Tryd.prog f args W (CardNo er W)) : Calls Tryd.prog f args W (ShowC zC er W) := h.mono fun e w' ⟨h1, h2⟩ => ⟨.slice none 0 0, .slice none 0 0, h1, ⟨rd_nil _ _ _, ⟨[], rd_nil _ _ _, rfl⟩⟩, h2⟩
theorem show_ok {c : Crd} {W : World} {f : FuncId} {args : Array Value} (h : Calls Tryd.prog f args W (CardOk c W)) : Calls Tryd.prog f args W (ShowC c 0 W) := h.mono fun e w' ⟨ev, tv, h1, h2, h3⟩ => ⟨ev, tv, h1, CrdAt.mono ⟨h2.effs.at, h2.trgs.at⟩ (fun _ _ _ => trivial), h3⟩
set_option maxRecDepth 100000 in
set_option maxHeartbeats 4000000 in
theorem shows_any {c : Crd} (hs : Sm c) {er i : Int} {p : Value} {w : World} {C : Nat → Prop} {ev tv : Value} (h : CrdAt w C c ev tv) (hc : ∀ W, Kept No w W → Calls Tryd.prog 36 #[p, .int .i64 i] W (ShowC c er W)) :
    Calls Tryd.prog 16 #[p, .int .i64 i, crdV c ev tv, .int .i64 er] w fun e w' => e = .returned (.bool true) ∧ Kept No w w' := by
  have he := h.effs
  obtain ⟨ade, cape, rfl⟩ := rd_slice he
  obtain ⟨adt, capt, rfl⟩ := h.trgs.slice
  have HC := Lib.hid hc
  have H := Lib.hid h
  have HSM := Lib.hid hs
  have HK1 := Lib.hid ((Kept.refl No w).alloc (.cells #[.string (strOf c.name), .int .i64 c.kind, .int .i64 c.o0, .int .i64 c.o1, .int .i64 c.o2, .int .i64 c.o3, .int .i64 c.any, .int .i64 c.makes, .int .i64 c.power, .int .i64 c.tough, .int .i64 c.keys, .slice ade c.effs.length cape, .slice adt c.trgs.length capt, .int .i64 c.rarity] 35))
  have HO1 := Lib.hid (show (w.alloc (.cells #[.string (strOf c.name), .int .i64 c.kind, .int .i64 c.o0, .int .i64 c.o1, .int .i64 c.o2, .int .i64 c.o3, .int .i64 c.any, .int .i64 c.makes, .int .i64 c.power, .int .i64 c.tough, .int .i64 c.keys, .slice ade c.effs.length cape, .slice adt c.trgs.length capt, .int .i64 c.rarity] 35)).heap[w.heap.size]? = some (.cells #[.string (strOf c.name), .int .i64 c.kind, .int .i64 c.o0, .int .i64 c.o1, .int .i64 c.o2, .int .i64 c.o3, .int .i64 c.any, .int .i64 c.makes, .int .i64 c.power, .int .i64 c.tough, .int .i64 c.keys, .slice ade c.effs.length cape, .slice adt c.trgs.length capt, .int .i64 c.rarity] 35 (0, 0)) from heap_alloc_new w _)
  clear he h hc hs
  unfold crdV
  go_enter Tryd.func16, Tryd.ntmps16
  go_wp2_with fail
  refine (HC.out _ HK1.out).mono ?_
  rintro e w2 ⟨ev2, tv2, rfl, hca2, hk2⟩
  obtain ⟨ade2, cape2, rfl⟩ := rd_slice hca2.effs
  obtain ⟨adt2, capt2, rfl⟩ := hca2.trgs.slice
  have HK2 := Lib.hid (HK1.out.and hk2)
  have HO2 := Lib.hid (obj_alloc (hk2.obj HO1.out (not_no _)) (.cells #[.string (strOf c.name), .int .i64 c.kind, .int .i64 c.o0, .int .i64 c.o1, .int .i64 c.o2, .int .i64 c.o3, .int .i64 c.any, .int .i64 c.makes, .int .i64 c.power, .int .i64 c.tough, .int .i64 c.keys, .slice ade2 c.effs.length cape2, .slice adt2 c.trgs.length capt2, .int .i64 c.rarity] 35))
  have HO3 := Lib.hid (show (w2.alloc (.cells #[.string (strOf c.name), .int .i64 c.kind, .int .i64 c.o0, .int .i64 c.o1, .int .i64 c.o2, .int .i64 c.o3, .int .i64 c.any, .int .i64 c.makes, .int .i64 c.power, .int .i64 c.tough, .int .i64 c.keys, .slice ade2 c.effs.length cape2, .slice adt2 c.trgs.length capt2, .int .i64 c.rarity] 35)).heap[w2.heap.size]? = some (.cells #[.string (strOf c.name), .int .i64 c.kind, .int .i64 c.o0, .int .i64 c.o1, .int .i64 c.o2, .int .i64 c.o3, .int .i64 c.any, .int .i64 c.makes, .int .i64 c.power, .int .i64 c.tough, .int .i64 c.keys, .slice ade2 c.effs.length cape2, .slice adt2 c.trgs.length capt2, .int .i64 c.rarity] 35 (0, 0)) from heap_alloc_new w2 _)
  have HEQ := Lib.hid (equal_any HSM.out (hca2.no ((Kept.refl No w2).alloc (.cells #[.string (strOf c.name), .int .i64 c.kind, .int .i64 c.o0, .int .i64 c.o1, .int .i64 c.o2, .int .i64 c.o3, .int .i64 c.any, .int .i64 c.makes, .int .i64 c.power, .int .i64 c.tough, .int .i64 c.keys, .slice ade2 c.effs.length cape2, .slice adt2 c.trgs.length capt2, .int .i64 c.rarity] 35))) (H.out.no (HK2.out.alloc (.cells #[.string (strOf c.name), .int .i64 c.kind, .int .i64 c.o0, .int .i64 c.o1, .int .i64 c.o2, .int .i64 c.o3, .int .i64 c.any, .int .i64 c.makes, .int .i64 c.power, .int .i64 c.tough, .int .i64 c.keys, .slice ade2 c.effs.length cape2, .slice adt2 c.trgs.length capt2, .int .i64 c.rarity] 35))))
  clear hk2 hca2
  unfold crdV
  go_wp2_with (first | (with_reducible refine wpList_load_row rfl 35 _ rfl w2.heap.size rfl 35 _ (0, 0) _ HO3.out Tryd.underlying35 rfl (by kernel_rfl) ?_) | (with_reducible refine wpList_load_row rfl 35 _ rfl w.heap.size rfl 35 _ (0, 0) _ HO2.out Tryd.underlying35 rfl (by kernel_rfl) ?_))
  refine HEQ.out.mono ?_
  rintro e w3 ⟨rfl, hk3⟩
  have HK3 := Lib.hid ((HK2.out.alloc (.cells #[.string (strOf c.name), .int .i64 c.kind, .int .i64 c.o0, .int .i64 c.o1, .int .i64 c.o2, .int .i64 c.o3, .int .i64 c.any, .int .i64 c.makes, .int .i64 c.power, .int .i64 c.tough, .int .i64 c.keys, .slice ade2 c.effs.length cape2, .slice adt2 c.trgs.length capt2, .int .i64 c.rarity] 35)).and hk3)
  clear hk3
  go_wp2_with fail
  go_ret
  exact ⟨rfl, HK3.out⟩
set_option maxRecDepth 100000 in
theorem finds_any {p s : Value} {a b : Int} {w : World} (hc : Calls Tryd.prog 38 #[p, s] w fun e w' => e = .returned (.tuple #[.int .i64 a, .int .i64 b]) ∧ w = w') : Calls Tryd.prog 17 #[p, s, .int .i64 a, .int .i64 b] w fun e w' => e = .returned (.bool true) ∧ w' = w := by
  have HC := Lib.hid hc
  clear hc
  go_enter Tryd.func17, Tryd.ntmps17
  go_wp2_with fail
  refine HC.out.mono ?_
  rintro e w2 ⟨rfl, rfl⟩
  go_wp2_with fail
  go_ret
  exact ⟨rfl, rfl⟩
set_option maxRecDepth 100000 in
theorem wrong_any {l : List Crd} (hl : l.length ≤ 1000000) (hsm : ∀ c ∈ l, Sm c) (hw : wrongF l ≠ 0) {w : World} {B : Nat → Prop} {v : Value} (h : CrdsAt w B v l) : Calls Tryd.prog 8 #[.int .i64 (wrongF l), v] w fun e w' => e = .returned (.bool true) ∧ Kept No w w' := by
  have HC := Lib.hid (pnew_any hl hsm h)
  obtain ⟨ad, cap, rfl⟩ := h.slice
  obtain ⟨er, her⟩ : ∃ er, wrongF l = er := ⟨_, rfl⟩
  obtain ⟨n, hn⟩ : ∃ n, l.length = n := ⟨_, rfl⟩
  unfold NewPost at HC
  rw [her] at HC hw ⊢
  rw [hn] at HC ⊢
  clear h hsm hl her hn
  go_enter Tryd.func8, Tryd.ntmps8
  go_wp2_with fail
  refine HC.out.mono ?_
  rintro e w2 ⟨hk, ⟨h0, _⟩ | ⟨_, rfl⟩⟩
  · exact absurd h0 hw
  have HK := Lib.hid hk
  clear hk
  go_wp2_with fail
  go_ret
  exact ⟨rfl, HK.out⟩
set_option maxRecDepth 100000 in
theorem decodes_any {b : List UInt8} (hl : b.length ≤ 1000000) (hw : (pdecF b).1 ≠ 0) {w : World} {B : Nat → Prop} {v : Value} (h : Rd w B 1 v b.length (bts b)) : Calls Tryd.prog 9 #[v, .int .i64 (pdecF b).1] w fun e w' => e = .returned (.bool true) ∧ Kept No w w' := by
  have HC := Lib.hid (pdecode_any hl h)
  obtain ⟨ad, cap, rfl⟩ := rd_slice h
  obtain ⟨q, hq⟩ : ∃ q, pdecF b = q := ⟨_, rfl⟩
  obtain ⟨n, hn⟩ : ∃ n, b.length = n := ⟨_, rfl⟩
  unfold PDecPost at HC
  obtain ⟨er, l⟩ := q
  rw [hq] at HC hw ⊢
  rw [hn] at HC ⊢
  simp only at hw HC ⊢
  clear h hl hq hn
  go_enter Tryd.func9, Tryd.ntmps9
  go_wp2_with fail
  refine HC.out.mono ?_
  rintro e w2 ⟨hk, ⟨h0, _⟩ | ⟨_, rfl⟩⟩
  · exact absurd h0 hw
  have HK := Lib.hid hk
  clear hk
  go_wp2_with fail
  go_ret
  exact ⟨rfl, HK.out⟩
theorem nmAt_at {l : List Crd} (hn : (names l).Nodup) {i : Nat} {c : Crd} (hc : l[i]? = some c) : nmAt l c.name = some i := by
  obtain ⟨hi, he⟩ := List.getElem?_eq_some_iff.1 hc
  unfold nmAt
  rw [List.findIdx?_eq_some_iff_getElem]
  refine ⟨hi, by simp [he], fun j hj => ?_⟩
  have hjl : j < l.length := by omega
  have h1 := (List.pairwise_iff_getElem.1 hn) j i (by simp [names]; omega) (by simp [names]; omega) hj
  simp only [names, List.getElem_map, he] at h1
  simpa using h1
theorem findV_at {l : List Crd} {s : List UInt8} {i : Nat} (h : nmAt l s = some i) : findV l s = .tuple #[.int .i64 (i : Nat), .int .i64 0] := by unfold findV; rw [h]
theorem findV_no {l : List Crd} {s : List UInt8} (h : nmAt l s = none) : findV l s = .tuple #[.int .i64 0, .int .i64 9] := by unfold findV; rw [h]
theorem sm_zC : Sm zC := ⟨by decide, by decide, by decide, fun t ht => (by cases ht), by decide, by decide⟩
theorem zc_at (w : World) : CrdAt w (fun _ => True) zC (.slice none 0 0) (.slice none 0 0) := ⟨rd_nil _ _ _, ⟨[], rd_nil _ _ _, rfl⟩⟩
set_option maxRecDepth 100000 in
set_option maxHeartbeats 4000000 in
theorem looks_any {l : List Crd} (hw : wrongF l = 0) {w : World} {B C : Nat → Prop} {p v : Value} (hp : PoolAt w B p l) (hv : CrdsAt w C v l) : Calls Tryd.prog 11 #[p, v] w fun e w' => e = .returned (.bool true) ∧ Kept No w w' := by
  obtain ⟨h400, hval, hnd⟩ := wrong_out hw
  have hsm : ∀ c ∈ l, Sm c := fun c hc => sm_of_valid (hval c hc)
  have HLEN := Lib.hid (len_any hp)
  have HCARDS := Lib.hid (cards_any hp (by omega) hsm)
  have HP := Lib.hid hp
  have HV := Lib.hid hv
  have HSAME := Lib.hid (fun W V (hk : Kept No w W) (ho : OwnCs W w.heap.size V l) => csame_any (l := l) (by omega) hsm ho.at (hv.no hk))
  have HOUT := Lib.hid (fun W (hk : Kept No w W) (i : Int) (hi : i < 0 ∨ (l.length : Int) ≤ i) => shows_any (p := p) (i := i) (er := 3) sm_zC (zc_at W) (fun W2 hk2 => show_no (card_out (hp.no (hk.and hk2)) hi)))
  have HSM := Lib.hid hsm
  have HND := Lib.hid hnd
  obtain ⟨ad, cap, rfl⟩ := hv.slice
  obtain ⟨g, mm, pv, rfl, hpi⟩ := hp
  obtain ⟨n, hn⟩ : ∃ n, l.length = n := ⟨_, rfl⟩
  have HN := Lib.hid hn
  rw [hn] at HLEN HSAME HOUT HV h400 ⊢
  have HL := Lib.hid h400
  clear hv hw hval hnd hsm hn hpi h400
  go_enter Tryd.func11, Tryd.ntmps11
  go_wp2_with fail
  refine HLEN.out.mono ?_
  rintro e w' ⟨rfl, rfl⟩
  go_wp2_with fail
  refine HCARDS.out.mono ?_
  rintro e w2 ⟨V, rfl, ho, hk2⟩
  have HS2 := Lib.hid (HSAME.out _ _ hk2 ho)
  have HK2 := Lib.hid hk2
  obtain ⟨ad2, cap2, rfl⟩ := ho.at.slice
  clear ho hk2
  go_wp2_with fail
  refine HS2.out.mono ?_
  rintro e w3 ⟨rfl, hk3⟩
  have HK3 := Lib.hid (HK2.out.and hk3)
  clear hk3
  go_wp2_with fail
  refine (HOUT.out _ HK3.out (-1) (Or.inl (by decide))).mono ?_
  rintro e w4 ⟨rfl, hk4⟩
  have HK4 := Lib.hid (HK3.out.and hk4)
  clear hk4
  go_wp2_with fail
  refine (HOUT.out _ HK4.out (n : Nat) (Or.inr (Int.le_refl _))).mono ?_
  rintro e w5 ⟨rfl, hk5⟩
  have HK5 := Lib.hid (HK4.out.and hk5)
  clear hk5
  go_wp2_with fail
  go_loopw [38] (fun iv wr => ∃ i : Nat, iv = .int .i64 (i : Nat) ∧ i ≤ n ∧ Kept No w wr) (fun iv _ => n - (intOf iv).toNat)
  case atStart => exact ⟨0, rfl, Nat.zero_le _, HK5.out⟩
  case round =>
    obtain ⟨i, rfl, hi, hk⟩ := hrel
    have HK := Lib.hid hk
    by_cases hlt : i < n
    · have hil : i < l.length := by rw [HN.out]; exact hlt
      obtain ⟨c, hc⟩ : ∃ c, l[i]? = some c := ⟨_, List.getElem?_eq_getElem hil⟩
      obtain ⟨b, off, c1, ev, tv, hs, hcap, hrg, hca⟩ := (HV.out.no hk).at hc
      obtain ⟨ade, cape, rfl⟩ := rd_slice hca.effs
      obtain ⟨adt, capt, rfl⟩ := hca.trgs.slice
      rw [HN.out] at hs
      cases hs
      have HRG := Lib.hid (show wr.rangeAt b (off + i * 14) [.string (strOf c.name), .int .i64 c.kind, .int .i64 c.o0, .int .i64 c.o1, .int .i64 c.o2, .int .i64 c.o3, .int .i64 c.any, .int .i64 c.makes, .int .i64 c.power, .int .i64 c.tough, .int .i64 c.keys, .slice ade c.effs.length cape, .slice adt c.trgs.length capt, .int .i64 c.rarity] from hrg)
      have hcs := HSM.out c (List.mem_of_getElem? hc)
      have HSH := Lib.hid (shows_any (p := .pointer (some ⟨g, 0, none⟩)) (i := (i : Nat)) (er := 0) hcs hca (fun W2 hk2 => show_ok (card_ok (HP.out.no (hk.and hk2)) hc hcs)))
      have HF := Lib.hid (fun W (hkW : Kept No w W) => finds_any (findV_at (nmAt_at HND.out hc) ▸ find_any (HP.out.no hkW) hcs.name))
      have d1 : decide (i < n) = true := decide_eq_true hlt
      have hi0 : (0 : Int) ≤ (i : Int) := by omega
      have hin : (i : Int) < (n : Int) := by omega
      have q4 : IntKind.i64.wrap ((i : Int) + 1) = (i : Int) + 1 := IntWalk.i64_in _ (by have := HL.out; omega)
      have HI := Lib.hid hlt
      clear hk hlt hil hc hrg hca hcap hcs
      go_wp2_with (with_reducible refine wpList_load_mid rfl 35 _ rfl b (off + i * 14) rfl [.string (strOf c.name), .int .i64 c.kind, .int .i64 c.o0, .int .i64 c.o1, .int .i64 c.o2, .int .i64 c.o3, .int .i64 c.any, .int .i64 c.makes, .int .i64 c.power, .int .i64 c.tough, .int .i64 c.keys, .slice ade c.effs.length cape, .slice adt c.trgs.length capt, .int .i64 c.rarity] _ HRG.out Tryd.underlying35 rfl (by kernel_rfl) ?_)
      refine HSH.out.mono ?_
      rintro e w6 ⟨rfl, hk6⟩
      have x0 : w6.cell? ⟨b, off + i * 14, none⟩ = some (.string (strOf c.name)) := hk6.cell (HRG.out 0 _ rfl) (not_no _)
      have HK6 := Lib.hid (HK.out.and hk6)
      clear hk6
      go_wp2_with fail
      refine (HF.out _ HK6.out).mono ?_
      rintro e w7 ⟨rfl, rfl⟩
      go_wp2_with fail
      have hI := HI.out
      exact ⟨⟨i + 1, by go_num, by omega, HK6.out⟩, by simp [intOf]; omega⟩
    · have d1 : decide (i < n) = false := decide_eq_false hlt
      clear hlt hk
      go_wp2_with fail
      go_ret
      exact ⟨rfl, HK.out⟩
end Go.Proofs.YtclgoilfclmibaaDoor
