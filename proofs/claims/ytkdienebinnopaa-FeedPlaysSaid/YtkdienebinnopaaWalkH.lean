/-
  The reference: Add.
-/
import Derived.Test.YtkdienebinnopaaWalkG
import Derived.Deep.RegionLaw
import Derived.RangeFuncBox
namespace Go.Proofs.Ytkdienebinnopaa
open Go.RowKit Go.Zn

theorem evc_one : ∀ (l : List (Nat × List UInt8)) (ds : List Value), (∀ (i : Nat) (e : Nat × List UInt8) (d : Value), l[i]? = some e → ds[i]? = some d → d.oneCell' = true) → ∀ u ∈ evc l ds, u.oneCell' = true
  | [], _, _, u, h => by simp [evc] at h
  | _ :: _, [], _, u, h => by simp [evc] at h
  | e :: l, d :: ds, hd, u, h => by
    simp [evc] at h
    rcases h with rfl | rfl | h
    · rfl
    · exact hd 0 e u rfl rfl
    · exact evc_one l ds (fun i e' d' h1 h2 => hd (i + 1) e' d' (by simpa using h1) (by simpa using h2)) u h
theorem rd_tail2 {w : World} {B : Nat → Prop} {g off n cap : Nat} {u v : Value} {xs : List Value} (h : Rd w B 2 (.slice (some ⟨g, off, none⟩) (n + 1) cap) (n + 1) (u :: v :: xs)) : Rd w B 2 (.slice (some ⟨g, off + 2, none⟩) n (cap - 1)) n xs := by
  obtain ⟨hl, hm, ⟨hv, hn⟩ | ⟨b, o, c, hv, hc, hb, hcell⟩⟩ := h
  · omega
  · cases hv
    refine ⟨by simp at hl; omega, by omega, .inr ⟨g, off + 2, cap - 1, rfl, by omega, fun _ => hb (by simp), fun j x hj => ?_⟩⟩
    have := hcell (j + 2) x (by simpa using hj)
    rwa [show off + (j + 2) = off + 2 + j from by omega] at this
theorem REv.tail {w : World} {B : Nat → Prop} {g off n cap : Nat} {e : Nat × List UInt8} {l : List (Nat × List UInt8)} (h : REv w B (.slice (some ⟨g, off, none⟩) (n + 1) cap) (e :: l)) (hn : l.length = n) : REv w B (.slice (some ⟨g, off + 2, none⟩) n (cap - 1)) l := by
  obtain ⟨ds, h1, h2, h3⟩ := h
  subst hn
  match ds, h1, h2, h3 with
  | d :: ds, h1, h2, h3 => exact ⟨ds, by simpa using h1, rd_tail2 h2, fun i e' d' hi hd => h3 (i + 1) e' d' (by simpa using hi) (by simpa using hd)⟩
theorem radd_evs {w w1 wB wC w4 : World} {B : Nat → Prop} {l : List (Nat × List UInt8)} {ds : List Value} {last p n : Nat} {bs : List UInt8} {vA vB vC : Value} {blk : Obj} (hn : l.length = n) (hds : ds.length = l.length) (hp : bs.length = p)
    (hdat : ∀ (i : Nat) (e : Nat × List UInt8) (d : Value), l[i]? = some e → ds[i]? = some d → Rd w B 1 d e.2.length (bts e.2)) (kw4 : Kept No w w4) (hlt : w.heap.size < w1.heap.size)
    (hA : wB.ownsRow w1.heap.size 40 2 vA n (evc l ds)) (hB : wB.ownsRow w1.heap.size 5 1 vB p (bts bs)) (hgC : (wB.alloc blk).grownBy wC vA.ownBlock) (hC : wC.ownsRow w1.heap.size 40 2 vC (n + 1) (evc l ds ++ [.int .u32 ((last : Int) + 1), vB]))
    (k4 : Kept (fun i => i = w.heap.size) wC w4) : REv w4 (fun i => (B i ∧ i < w.heap.size) ∨ w1.heap.size ≤ i) vC (l ++ [(last + 1, bs)]) := by
  have kBC : Kept (fun i => vA.ownBlock = some i) wB wC := ((Kept.refl (fun i => vA.ownBlock = some i) wB).alloc blk).grown hgC (fun k e _ => e)
  refine ⟨ds ++ [vB], by simp [hds], ?_, ?_⟩
  · rw [evc_snoc _ _ _ _ hds, List.length_append, List.length_singleton, hn]
    have h1 := owned_kept hC k4 (fun b _ e h => by have := (hC.lt b e).1; omega)
    have e1 : ((last : Int) + 1) = ((last + 1 : Nat) : Int) := by omega
    rw [e1] at h1
    exact (rd_owned h1).mono (fun b _ hb => .inr hb)
  · intro i e d hi hd
    by_cases hl : i < ds.length
    · rw [List.getElem?_append_left (by omega)] at hi
      rw [List.getElem?_append_left hl] at hd
      exact (((hdat i e d hi hd).mono (C := fun i => B i ∧ i < w.heap.size) (fun b hb hB => ⟨hB, hb⟩)).kept kw4 (fun _ _ _ => not_no _)).mono (fun b _ hb => .inl hb)
    · rw [List.getElem?_append_right (by omega)] at hi hd
      have hi0 : i - ds.length = 0 := by
        rcases Nat.eq_zero_or_pos (i - ds.length) with h | h
        · exact h
        · rw [List.getElem?_eq_none (by simp; omega)] at hd; cases hd
      rw [hi0] at hd
      rw [← hds, hi0] at hi
      simp at hi hd
      subst hi; subst hd
      have h1 := owned_kept hB kBC (fun b _ e h => row_types hB hA (by decide) e h)
      have h2 := owned_kept h1 k4 (fun b _ e h => by have := (h1.lt b e).1; omega)
      rw [← hp] at h2
      exact (rd_owned h2).mono (fun b _ hb => .inr hb)
/-- what the region of Add holds on to -/
def AddS (w1 : World) (n : Nat) (kv : Value) (last1 : Int) (w' : World) : Prop := w'.cell? ⟨n, 1, none⟩ = some kv ∧ w'.cell? ⟨n, 2, none⟩ = some (.int .u32 last1) ∧ Kept No w1 w'
theorem addS_of {w1 w' : World} {n : Nat} {kv : Value} {last1 : Int} (c1 : w1.cell? ⟨n, 1, none⟩ = some kv) (c2 : w1.cell? ⟨n, 2, none⟩ = some (.int .u32 last1)) (h : Kept No w1 w') : AddS w1 n kv last1 w' :=
  ⟨h.cell c1 (not_no _), h.cell c2 (not_no _), h⟩
def addEvs (k last : Nat) (l : List (Nat × List UInt8)) (bs : List UInt8) : List (Nat × List UInt8) := if k < l.length + 1 then (l ++ [(last + 1, bs)]).tail else l ++ [(last + 1, bs)]
def addLost (k lost : Nat) (l : List (Nat × List UInt8)) : Nat := if k < l.length + 1 then lost + 1 else lost
def RAddPost (w : World) (B C : Nat → Prop) (k last acked lost : Nat) (l : List (Nat × List UInt8)) (bs : List UInt8) (e : Ending) (w' : World) : Prop :=
  ∃ v, e = .returned (.tuple #[refV k v (last + 1) acked (addLost k lost l), .int .u32 (last + 1 : Nat), .int .i64 0]) ∧ REv w' (fun i => B i ∨ w.heap.size ≤ i) v (addEvs k last l bs) ∧ Kept No w w'
def Tn (n : Nat) : Nat → Prop := fun k => k = n ∨ k = n + 1
theorem kept_res {n : Nat} {w w' : World} (h : Kept (Tn n) w w') (a b c d e : Value) : Kept (Tn n) w (((((w'.setCell ⟨n + 1, 0, none⟩ a).setCell ⟨n + 1, 1, none⟩ b).setCell ⟨n + 1, 2, none⟩ c).setCell ⟨n + 1, 3, none⟩ d).setCell ⟨n + 1, 4, none⟩ e).drew :=
  (((((h.setCell (p := ⟨n + 1, 0, none⟩) (fun _ => .inr rfl) a).setCell (p := ⟨n + 1, 1, none⟩) (fun _ => .inr rfl) b).setCell (p := ⟨n + 1, 2, none⟩) (fun _ => .inr rfl) c).setCell (p := ⟨n + 1, 3, none⟩) (fun _ => .inr rfl) d).setCell (p := ⟨n + 1, 4, none⟩) (fun _ => .inr rfl) e).drew
theorem radd_close {w w1 w4 w9 : World} {B C : Nat → Prop} {k last acked lost lost' : Nat} {l l' : List (Nat × List UInt8)} {bs : List UInt8} {v : Value} (hs1 : w1.heap.size = w.heap.size + 2) (kw4 : Kept No w w4)
    (hl : addLost k lost l = lost') (hl' : addEvs k last l bs = l') (hev : REv w4 (fun i => B i ∧ i < w.heap.size ∨ w1.heap.size ≤ i) v l') (kk : Kept (Tn w.heap.size) w4 w9) :
    RAddPost w B C k last acked lost l bs (.returned (.tuple #[refV k v (last + 1) acked lost', .int .u32 (last + 1 : Nat), .int .i64 0])) w9 := by
  refine ⟨v, by rw [hl], ?_, kw4.new kk (fun i h => by rcases h with h | h <;> omega)⟩
  rw [hl']
  exact (hev.kept kk (fun b _ hb h => by rcases hb with hb | hb <;> rcases h with h | h <;> omega)).mono (fun b _ hb => by
    rcases hb with hb | hb
    · exact .inl hb.1
    · exact .inr (by omega))
set_option maxRecDepth 100000 in
set_option maxHeartbeats 3200000 in
theorem radd_ok (w : World) (B C : Nat → Prop) (k : Nat) (kv : Value) (last acked lost : Nat) (l : List (Nat × List UInt8)) (h : REv w B kv l) (hlen : l.length ≤ 1000000) (hl2 : last < 4294967294) (ho2 : lost < 4294967294) (hk : k ≤ 1000000) (hk1' : 1 ≤ k)
    (dv : Value) (bs : List UInt8) (p : Nat) (hp : bs.length = p) (hd : Rd w C 1 dv p (bts bs)) (hp2 : p ≤ 65535) :
    Calls Try.prog 19 #[refV k kv last acked lost, dv] w (RAddPost w B C k last acked lost l bs) := by
  obtain ⟨ad, cap, rfl⟩ := h.slice
  obtain ⟨dd, dc, rfl⟩ := rd_slice hd
  unfold refV
  obtain ⟨n, hn⟩ : ∃ n, l.length = n := ⟨_, rfl⟩
  rw [hn] at h ⊢
  have H := Lib.hid h
  have HN := Lib.hid hn
  have HP := Lib.hid hp
  have HD := Lib.hid hd
  have hn9 : (n : Int) ≤ 1000000 := by omega
  have hdp : decide ((65535 : Int) < (p : Int)) = false := by simp; omega
  clear h hn hd hp
  go_enter Try.func19, Try.ntmps19
  go_wp2_with fail
  obtain ⟨w1, hw1⟩ : ∃ w1, ((w.alloc (.cells #[.int .i64 (k : Nat), .slice ad n cap, .int .u32 ((last : Int) + 1), .int .u32 (acked : Nat), .int .u32 (lost : Nat)] 31)).alloc
      (.cells #[.int .i64 0, .slice none 0 0, .int .u32 0, .int .u32 0, .int .u32 0] 31)) = w1 := ⟨_, rfl⟩
  have hk1 : Kept No w w1 := by rw [← hw1]; exact ((Kept.refl No w).alloc _).alloc _
  have hs1 : w1.heap.size = w.heap.size + 2 := by rw [← hw1]; simp
  have hb1 : w1.heap[w.heap.size]? = some (.cells #[.int .i64 (k : Nat), .slice ad n cap, .int .u32 ((last : Int) + 1), .int .u32 (acked : Nat), .int .u32 (lost : Nat)] 31 (0, 0)) := by rw [← hw1]; exact obj_alloc (heap_alloc_new w _) _
  have hb2 : w1.heap[w.heap.size + 1]? = some (.cells #[.int .i64 0, .slice none 0 0, .int .u32 0, .int .u32 0, .int .u32 0] 31 (0, 0)) := by rw [← hw1]; exact World.alloc_at (by simp) _
  rw [hw1]
  clear hw1
  have q1 : w1.cell? ⟨w.heap.size, 1, none⟩ = some (.slice ad n cap) := obj_cell hb1 1
  have q2 : w1.cell? ⟨w.heap.size, 2, none⟩ = some (.int .u32 ((last : Int) + 1)) := obj_cell hb1 2
  obtain ⟨ds, hds, hrow, hdat⟩ := H.out
  have hone : ∀ u ∈ evc l ds, u.oneCell' = true := evc_one l ds (fun i e d h1 h2 => by obtain ⟨a, c, rfl⟩ := rd_slice (hdat i e d h1 h2); rfl)
  rw [HN.out] at hrow
  have HROW := Lib.hid hrow
  have HDS := Lib.hid hds
  have HDAT := Lib.hid hdat
  have HONE := Lib.hid hone
  have HK1 := Lib.hid hk1
  have HB1 := Lib.hid hb1
  have HB2 := Lib.hid hb2
  clear hds hrow hdat hone hk1 hb1 hb2
  have HS1 := Lib.hid hs1
  clear hs1
  go_region_law (first
      | (refine step_append_rdo (v := .slice none 0 0) (xv := .slice ad n cap) rfl rfl rfl rfl ei28 (World.ownsRow_nil _ w1.heap.size _ _) (HROW.out.kept (HK1.out.and ((Kept.refl No w1).drew)) (fun _ _ _ => not_no _)) HONE.out (by omega) (Nat.le_refl _) ?_; intro vA wA hownA hgA _; rw [Nat.zero_add, List.nil_append] at hownA; have hkA : Kept No w1 wA := ((Kept.refl No w1).drew).grown hgA (fun k e => by cases e); have hA2 : wA.cell? ⟨w.heap.size, 2, none⟩ = some (.int .u32 ((last : Int) + 1)) := hkA.cell q2 (not_no _))
      | (refine step_append_rdo (v := .slice none 0 0) (xv := .slice dd p dc) rfl rfl rfl rfl ei36 (World.ownsRow_nil _ w1.heap.size _ _) (HD.out.kept (HK1.out.and hkA) (fun _ _ _ => not_no _)) (bts_one bs) (by omega) hkA.size ?_; intro vB wB hownB hgB _; rw [Nat.zero_add, List.nil_append] at hownB; obtain ⟨adB, capB, rfl⟩ := owned_slice hownB; have hkB : Kept No w1 wB := hkA.grown hgB (fun k e => by cases e); have hB2 : wB.cell? ⟨w.heap.size, 2, none⟩ = some (.int .u32 ((last : Int) + 1)) := hkB.cell q2 (not_no _))
      | (refine step_append_rdo (v := vA) (xv := .slice (some ⟨wB.heap.size, 0, none⟩) 1 1) rfl rfl rfl rfl ei28 ((hownA.kept hgB (Classical.em _)).alloc (.cells #[.int .u32 ((last : Int) + 1), .slice adB p capB] 40)) (rd_new2 wB _ _ 40) (by intro u hu; simp at hu; rcases hu with rfl | rfl <;> rfl) (by omega) (by have := hkB.size; simp; omega) ?_; intro vC wC hownC hgC _; obtain ⟨gC, capC, rfl⟩ := ownsRow_succ hownC; have hkC : Kept No w1 wC := (hkB.alloc _).grown hgC (fun k e hlt => by have := (hownA.lt k e).1; omega); have hC1 : wC.cell? ⟨w.heap.size, 1, none⟩ = some (.slice ad n cap) := hkC.cell q1 (not_no _); have hCf : wC.frozen? ⟨w.heap.size, 1, none⟩ = false := obj_free (hkC.obj HB1.out (not_no _)) 1))
  all_goals
    have hs1 := HS1.out
    have hlt1 : w.heap.size < w1.heap.size := by omega
    have hgc : w1.heap.size ≤ gC := (hownC.lt gC rfl).1
    have hcap : n + 1 ≤ capC := by
      obtain ⟨_, ⟨hv, _⟩ | ⟨g, c, cur, hv, _, _, hnc, _⟩⟩ := hownC
      · cases hv
      · cases hv; exact hnc
    have hcm : capC ≤ maxLen := by
      obtain ⟨_, ⟨hv, _⟩ | ⟨g, c, cur, hv, _, _, hnc, hcm, _⟩⟩ := hownC
      · cases hv
      · cases hv; exact hcm
    have hb4 : (wC.setCell ⟨w.heap.size, 1, none⟩ (.slice (some ⟨gC, 0, none⟩) (n + 1) capC)).heap[w.heap.size]? = some (.cells #[.int .i64 (k : Nat), .slice (some ⟨gC, 0, none⟩) (n + 1) capC, .int .u32 ((last : Int) + 1), .int .u32 (acked : Nat), .int .u32 (lost : Nat)] 31 (0, 0)) := obj_store (hkC.obj HB1.out (not_no _)) 1 _
    have hb5 : (wC.setCell ⟨w.heap.size, 1, none⟩ (.slice (some ⟨gC, 0, none⟩) (n + 1) capC)).heap[w.heap.size + 1]? = some (.cells #[.int .i64 0, .slice none 0 0, .int .u32 0, .int .u32 0, .int .u32 0] 31 (0, 0)) := obj_setCell (hkC.obj HB2.out (not_no _)) _ (by simp)
    have k4 : Kept (fun i => i = w.heap.size) wC (wC.setCell ⟨w.heap.size, 1, none⟩ (.slice (some ⟨gC, 0, none⟩) (n + 1) capC)) := (Kept.refl (fun i => i = w.heap.size) wC).setCell (p := ⟨w.heap.size, 1, none⟩) (fun _ => rfl) _
    have kw4 : Kept No w (wC.setCell ⟨w.heap.size, 1, none⟩ (.slice (some ⟨gC, 0, none⟩) (n + 1) capC)) := (HK1.out.and hkC).new k4 (fun i e => by omega)
    have hev : REv (wC.setCell ⟨w.heap.size, 1, none⟩ (.slice (some ⟨gC, 0, none⟩) (n + 1) capC)) (fun i => (B i ∧ i < w.heap.size) ∨ w1.heap.size ≤ i) (.slice (some ⟨gC, 0, none⟩) (n + 1) capC) (l ++ [(last + 1, bs)]) := by
      exact radd_evs HN.out HDS.out HP.out HDAT.out kw4 hlt1 (hownA.kept hgB (Classical.em _)) hownB hgC hownC k4
    obtain ⟨w4, hw4⟩ : ∃ w4, wC.setCell ⟨w.heap.size, 1, none⟩ (.slice (some ⟨gC, 0, none⟩) (n + 1) capC) = w4 := ⟨_, rfl⟩
    have hs4 : w.heap.size + 1 < w4.heap.size := by have := hkC.size; have := k4.size; rw [hw4] at this; omega
    rw [hw4] at hb4 hb5 kw4 hev k4 ⊢
    clear hw4
    have c1 : w4.cell? ⟨w.heap.size, 0, none⟩ = some (.int .i64 (k : Nat)) := obj_cell hb4 0
    have c2 : w4.cell? ⟨w.heap.size, 1, none⟩ = some (.slice (some ⟨gC, 0, none⟩) (n + 1) capC) := obj_cell hb4 1
    have c3 : w4.cell? ⟨w.heap.size, 2, none⟩ = some (.int .u32 ((last : Int) + 1)) := obj_cell hb4 2
    have c4 : w4.cell? ⟨w.heap.size, 3, none⟩ = some (.int .u32 (acked : Nat)) := obj_cell hb4 3
    have c5 : w4.cell? ⟨w.heap.size, 4, none⟩ = some (.int .u32 (lost : Nat)) := obj_cell hb4 4
    have z1 := obj_free hb4 1
    have z4 := obj_free hb4 4
    have d1 : w4.cell? ⟨w.heap.size + 1, 0, none⟩ = some (.int .i64 0) := obj_cell hb5 0
    have d2 : w4.cell? ⟨w.heap.size + 1, 1, none⟩ = some (.slice none 0 0) := obj_cell hb5 1
    have d3 : w4.cell? ⟨w.heap.size + 1, 2, none⟩ = some (.int .u32 0) := obj_cell hb5 2
    have d4 : w4.cell? ⟨w.heap.size + 1, 3, none⟩ = some (.int .u32 0) := obj_cell hb5 3
    have d5 : w4.cell? ⟨w.heap.size + 1, 4, none⟩ = some (.int .u32 0) := obj_cell hb5 4
    have y1 := obj_free hb5 0
    have y2 := obj_free hb5 1
    have y3 := obj_free hb5 2
    have y4 := obj_free hb5 3
    have y5 := obj_free hb5 4
    have HEV := Lib.hid hev
    have HKW := Lib.hid kw4
    have HCAP := Lib.hid hcap
    have HS4 := Lib.hid hs4
    have HL2 := Lib.hid hl2
    have hcm9 : (capC : Int) ≤ 9223372036854775807 := by unfold maxLen at hcm; omega
    have hla : (last : Int) < 4294967294 := by omega
    have hlo : (lost : Int) < 4294967294 := by omega
    clear hb4 hb5 kw4 k4 hev hownA hownB hownC hgA hgB hgC hkA hkB hkC hA2 hB2 hC1 hCf q1 q2 hs1 hgc hcm hlt1 hs4
    by_cases hful : k < n + 1
    · have hd1 : decide ((k : Int) < (n : Int) + 1) = true := by simp; omega
      have hd2 : (k : Int) < (n : Int) + 1 := by omega
      have hcc : (1 : Int) < (capC : Int) := by omega
      have hcn : (1 : Int) ≤ (n : Int) := by omega
      have HF := Lib.hid hful
      clear hful
      go_wp2_with fail
      go_region
      all_goals
        go_wp2
        refine bodyPost_ret (v := .tuple #[.agg #[.int .i64 (k : Nat), .slice (some ⟨gC, 2, none⟩) n (capC - 1), .int .u32 ((last : Int) + 1), .int .u32 (acked : Nat), .int .u32 ((lost : Int) + 1)], .int .u32 ((last : Int) + 1), .int .i64 0]) (by simp [results, Try.results19, go_sem, *]) rfl ?_
        have hn' := HN.out
        have hf' := HF.out
        have e1 : ((last : Int) + 1) = ((last + 1 : Nat) : Int) := by omega
        have e2 : ((lost : Int) + 1) = ((lost + 1 : Nat) : Int) := by omega
        rw [e1, e2]
        match l, hn', HEV.out with
        | [], hn', _ => simp at hn'; omega
        | e0 :: l0, hn', hev0 =>
          refine radd_close HS1.out HKW.out (by simp only [addLost]; rw [if_pos (by omega)]) (by simp only [addEvs]; rw [if_pos (by omega)]; rfl) (REv.tail hev0 (by simp at hn' ⊢; omega)) ?_
          exact kept_res (((Kept.refl _ w4).setCell (p := ⟨w.heap.size, 1, none⟩) (fun _ => .inl rfl) _).setCell (p := ⟨w.heap.size, 4, none⟩) (fun _ => .inl rfl) _) _ _ _ _ _
    · have hd1 : decide ((k : Int) < (n : Int) + 1) = false := by simp; omega
      have hd2 : (n : Int) + 1 ≤ (k : Int) := by omega
      have HF := Lib.hid hful
      clear hful
      go_wp2_with fail
      go_region
      all_goals
        go_wp2
        refine bodyPost_ret (v := .tuple #[.agg #[.int .i64 (k : Nat), .slice (some ⟨gC, 0, none⟩) (n + 1) capC, .int .u32 ((last : Int) + 1), .int .u32 (acked : Nat), .int .u32 (lost : Nat)], .int .u32 ((last : Int) + 1), .int .i64 0]) (by simp [results, Try.results19, go_sem, *]) rfl ?_
        have hn' := HN.out
        have hf' := HF.out
        have e1 : ((last : Int) + 1) = ((last + 1 : Nat) : Int) := by omega
        rw [e1]
        refine radd_close HS1.out HKW.out (by simp only [addLost]; rw [if_neg (by omega)]) (by simp only [addEvs]; rw [if_neg (by omega)]) HEV.out ?_
        exact kept_res (Kept.refl _ w4) _ _ _ _ _
theorem radd_long (w : World) (k : Nat) (kv : Value) (hkv : ∃ ad n c, kv = .slice ad n c) (last acked lost : Nat) (dd : Option Addr) (p dc : Nat) (hp : 65535 < p) (hp2 : p ≤ maxLen) :
    Calls Try.prog 19 #[refV k kv last acked lost, .slice dd p dc] w fun e w' => e = .returned (.tuple #[refV k kv last acked lost, .int .u32 0, .int .i64 5]) ∧ Kept No w w' := by
  obtain ⟨ad, n, c, rfl⟩ := hkv
  have hd : decide ((65535 : Int) < (p : Int)) = true := by simp; omega
  unfold maxLen at hp2
  unfold refV
  go_enter Try.func19, Try.ntmps19
  go_wp2
  refine bodyPost_ret (v := .tuple #[.agg #[.int .i64 (k : Nat), .slice ad n c, .int .u32 (last : Nat), .int .u32 (acked : Nat), .int .u32 (lost : Nat)], .int .u32 0, .int .i64 5]) (by simp [results, Try.results19, go_sem]) rfl ⟨rfl, ?_⟩
  exact ((Kept.refl No w).alloc _).alloc _
end Go.Proofs.Ytkdienebinnopaa
