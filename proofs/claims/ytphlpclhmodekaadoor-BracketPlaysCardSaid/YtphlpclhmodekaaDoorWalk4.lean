/-
  Bracket: Copy.
-/
import Derived.Test.YtphlpclhmodekaaDoorWalkZ
set_option linter.unusedVariables false
set_option linter.unusedSimpArgs false
namespace Go.Proofs.YtphlpclhmodekaaDoor
open Go.RowKit Go.Zn
attribute [local go_sem] Oper.semAt_some

theorem heap_setCells_same (b : Nat) : ∀ (vs : List Value) (o : Nat) (w : World) (cs : Array Value) (t : TypeId), w.heap[b]? = some (.cells cs t (0, 0)) → ∃ cs', (w.setCells b o vs).heap[b]? = some (.cells cs' t (0, 0)) ∧ cs'.size = cs.size
  | [], _, w, cs, t, h => ⟨cs, h, rfl⟩
  | v :: r, o, w, cs, t, h => by
    obtain ⟨cs', h1, h2⟩ := heap_setCells_same b r (o + 1) (w.setCell ⟨b, o, none⟩ v) _ t (obj_store h o v)
    exact ⟨cs', h1, by rw [h2]; simp⟩
theorem kept_setCells {S : Nat → Prop} {a : World} (b : Nat) : ∀ (vs : List Value) (o : Nat) (w : World), Kept S a w → (b < a.heap.size → S b) → Kept S a (w.setCells b o vs)
  | [], _, w, h, _ => h
  | v :: r, o, w, h, hb => kept_setCells b r (o + 1) _ (h.setCell (p := ⟨b, o, none⟩) hb v) hb
theorem heap_setCells_all {w : World} {b : Nat} {zs : Array Value} {t : TypeId} {vs : List Value} (h : w.heap[b]? = some (.cells zs t (0, 0))) (hs : zs.size = vs.length) (ht : w.there b 0 vs.length) : (w.setCells b 0 vs).heap[b]? = some (.cells vs.toArray t (0, 0)) := by
  obtain ⟨cs', h1, h2⟩ := heap_setCells_same b vs 0 w zs t h
  have hr := World.rangeAt_setCells_same w b 0 vs ht
  have e : cs' = vs.toArray := by
    apply Array.ext_getElem?
    intro j
    by_cases hj : j < vs.length
    · have h3 := hr j vs[j] (List.getElem?_eq_getElem hj)
      rw [obj_cell h1 (0 + j), Nat.zero_add] at h3
      rw [h3, List.getElem?_toArray, List.getElem?_eq_getElem hj]
    · rw [Array.getElem?_eq_none (by omega), List.getElem?_toArray, List.getElem?_eq_none (by omega)]
  rw [h1, e]
set_option maxRecDepth 100000 in
theorem copy_any {k E : Nat} {f : Nat → Nat} {b : Nat} {w : World} (hB : BS k E f b w) : Calls Tryd.prog 22 #[.pointer (some ⟨b, 0, none⟩)] w fun e w' => ∃ c, e = .returned (.pointer (some ⟨c, 0, none⟩)) ∧ w.heap.size ≤ c ∧ BS k E f c w' ∧ Kept No w w' := by
  have HN := Lib.hid (none_no hB)
  have hr : w.rangeAt b 0 (cellsB E (2 ^ k) f) := fun j v hv => by
    rw [obj_cell hB.hb (0 + j), List.getElem?_toArray, Nat.zero_add]; exact hv
  have hi : (Tryd.prog.info? 46).map (·.size) = some (cellsB E (2 ^ k) f).length := by rw [cellsB_len]; kernel_rfl
  have h1 := cellsB_one E (2 ^ k) f
  have hl := cellsB_len E (2 ^ k) f
  have HB := Lib.hid hB
  obtain ⟨cs, hcs⟩ : ∃ cs, cellsB E (2 ^ k) f = cs := ⟨_, rfl⟩
  rw [hcs] at hr hi h1 hl
  have HR := Lib.hid hr
  have HI := Lib.hid hi
  have H1 := Lib.hid h1
  have HL := Lib.hid hl
  have HCS := Lib.hid hcs
  clear hB hr hi hcs h1 hl
  go_enter Tryd.func22, Tryd.ntmps22
  go_wp2_with fail
  refine HN.out.mono ?_
  rintro e w1 ⟨rfl, hk⟩
  have hk := hk.symm
  subst hk
  have hz := heap_alloc_new w (.cells Tryd.zeroCells46 46)
  have hz65 : Tryd.zeroCells46.size = 65 := by kernel_rfl
  have hth : (w.alloc (.cells Tryd.zeroCells46 46)).there w.heap.size 0 cs.length := fun j hj => by
    rw [HL.out] at hj
    refine ⟨?_, obj_free hz (0 + j)⟩
    rw [obj_cell hz (0 + j), Array.getElem?_eq_getElem (by omega)]
    rfl
  have HTH := Lib.hid hth
  have HNB := Lib.hid (show BS k E f w.heap.size ((w.alloc (.cells Tryd.zeroCells46 46)).setCells w.heap.size 0 cs) from ⟨HB.out.z, HB.out.wf, by rw [HCS.out]; exact heap_setCells_all hz (by rw [hz65, HL.out]) hth⟩)
  have HNK := Lib.hid (show Kept No w ((w.alloc (.cells Tryd.zeroCells46 46)).setCells w.heap.size 0 cs) from kept_setCells _ cs 0 _ ((Kept.refl No w).alloc _) (fun h => by omega))
  have HA1 := Lib.hid (show cs.toArray.all (·.oneCell') = true from by rw [Array.all_eq_true_iff_forall_mem]; intro v hv; exact H1.out v (by simpa using hv))
  clear hz hz65 hth
  go_wp2_with (first | (refine wpList_load_want 46 _ rfl (by rfl) b 0 rfl cs _ HR.out Tryd.underlying46 rfl HI.out ?_) | (refine wpList_store_mid rfl 46 _ _ rfl w.heap.size 0 cs.toArray rfl rfl HTH.out HI.out HA1.out ?_))
  go_ret
  exact ⟨w.heap.size, rfl, Nat.le_refl _, HNB.out, HNK.out⟩
end Go.Proofs.YtphlpclhmodekaaDoor
