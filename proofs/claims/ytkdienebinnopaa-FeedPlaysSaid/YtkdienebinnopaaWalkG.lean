/-
  The reference: Since and Ack.
-/
import Derived.Test.YtkdienebinnopaaWalkF
namespace Go.Proofs.Ytkdienebinnopaa
open Go.RowKit Go.Zn

/-- the events from a number on -/
def fromN (x : Nat) (l : List (Nat × List UInt8)) : List (Nat × List UInt8) := l.filter fun e => decide (x ≤ e.1)
theorem fromN_snoc (x : Nat) (l : List (Nat × List UInt8)) (j : Nat) (e : Nat × List UInt8) (h : l[j]? = some e) : fromN x (l.take (j + 1)) = fromN x (l.take j) ++ (if x ≤ e.1 then [e] else []) := by
  obtain ⟨hj, he⟩ := List.getElem?_eq_some_iff.1 h
  rw [List.take_succ_eq_append_getElem hj, he]
  by_cases hx : x ≤ e.1 <;> simp [fromN, List.filter_append, hx]
theorem fromN_le (x : Nat) (l : List (Nat × List UInt8)) (j : Nat) : (fromN x (l.take j)).length ≤ l.length := by
  unfold fromN
  have := List.length_filter_le (fun e : Nat × List UInt8 => decide (x ≤ e.1)) (l.take j)
  have := List.length_take_le j l
  have := List.length_take_le' j l
  omega
/-- out, after some rounds -/
def RSinceRel (w : World) (B : Nat → Prop) (x : Nat) (l : List (Nat × List UInt8)) (n : Nat) (o i : Value) (wr : World) : Prop :=
  ∃ (j : Nat) (ds : List Value), i = .int .i64 j ∧ j ≤ n ∧ ds.length = (fromN x (l.take j)).length ∧ wr.ownsRow (w.heap.size + 1) 40 2 o (fromN x (l.take j)).length (evc (fromN x (l.take j)) ds) ∧
    (∀ (i : Nat) (e : Nat × List UInt8) (d : Value), (fromN x (l.take j))[i]? = some e → ds[i]? = some d → Rd w B 1 d e.2.length (bts e.2)) ∧ Kept No w wr ∧ w.heap.size + 1 ≤ wr.heap.size
def RSincePost (w : World) (B : Nat → Prop) (l : List (Nat × List UInt8)) (e : Ending) (w' : World) : Prop :=
  ∃ v, e = .returned v ∧ REv w' (fun k => B k ∨ w.heap.size ≤ k) v l ∧ Kept No w w'
theorem rsince_step {w wr w1 : World} {B : Nat → Prop} {x n j : Nat} {l : List (Nat × List UInt8)} {o o' : Value} {ds : List Value} {e : Nat × List UInt8} {d : Value} {blk : Obj}
    (hds : ds.length = (fromN x (l.take j)).length) (hown : wr.ownsRow (w.heap.size + 1) 40 2 o (fromN x (l.take j)).length (evc (fromN x (l.take j)) ds))
    (hd : ∀ (i : Nat) (e : Nat × List UInt8) (d : Value), (fromN x (l.take j))[i]? = some e → ds[i]? = some d → Rd w B 1 d e.2.length (bts e.2)) (hk : Kept No w wr) (hsz : w.heap.size + 1 ≤ wr.heap.size)
    (hj : j < n) (he : l[j]? = some e) (hx : x ≤ e.1) (hr : Rd w B 1 d e.2.length (bts e.2)) (hown1 : w1.ownsRow (w.heap.size + 1) 40 2 o' ((fromN x (l.take j)).length + 1) (evc (fromN x (l.take j)) ds ++ [.int .u32 (e.1 : Nat), d])) (hg : (wr.alloc blk).grownBy w1 o.ownBlock) :
    RSinceRel w B x l n o' (.int .i64 (j + 1 : Nat)) w1 := by
  have e1 : fromN x (l.take (j + 1)) = fromN x (l.take j) ++ [e] := by rw [fromN_snoc x l j e he, if_pos hx]
  refine ⟨j + 1, ds ++ [d], rfl, hj, ?_, ?_, ?_, ?_, ?_⟩
  · rw [e1]; simp [hds]
  · rw [e1, evc_snoc _ _ _ _ hds, List.length_append]; exact hown1
  · rw [e1]
    intro i e' d' hi hd'
    by_cases hlt : i < ds.length
    · rw [List.getElem?_append_left (by omega)] at hi
      rw [List.getElem?_append_left hlt] at hd'
      exact hd i e' d' hi hd'
    · rw [List.getElem?_append_right (by omega)] at hi hd'
      have hi0 : i - ds.length = 0 := by
        rcases Nat.eq_zero_or_pos (i - ds.length) with h | h
        · exact h
        · rw [List.getElem?_eq_none (by simp; omega)] at hd'; cases hd'
      rw [hi0] at hd'
      rw [← hds, hi0] at hi
      simp at hi hd'
      subst hi; subst hd'
      exact hr
  · refine (hk.alloc blk).grown hg (fun k e2 hlt => ?_)
    have := (hown.lt k e2).1
    omega
  · have := hg.size; simp at this; omega
set_option maxRecDepth 100000 in
set_option maxHeartbeats 800000 in
theorem rsince_any (w : World) (B : Nat → Prop) (most : Int) (kv : Value) (last acked lost x : Nat) (l : List (Nat × List UInt8)) (h : REv w B kv l) (hlen : l.length ≤ 1000000) (hx2 : x < 4294967296) :
    Calls Try.prog 23 #[refV most kv last acked lost, .int .u32 x] w (RSincePost w B (fromN x l)) := by
  obtain ⟨ad, cap, rfl⟩ := h.slice
  unfold refV
  obtain ⟨n, hn⟩ : ∃ n, l.length = n := ⟨_, rfl⟩
  rw [hn] at h ⊢
  have H := Lib.hid h
  have HN := Lib.hid hn
  have hn9 : (n : Int) ≤ 1000000 := by omega
  clear h hn
  go_enter Try.func23, Try.ntmps23
  go_wp2
  obtain ⟨w1, hw1⟩ : ∃ w1, w.alloc (.cells #[.int .i64 most, .slice ad n cap, .int .u32 (last : Nat), .int .u32 (acked : Nat), .int .u32 (lost : Nat)] 31) = w1 := ⟨_, rfl⟩
  have hk1 : Kept No w w1 := by rw [← hw1]; exact (Kept.refl No w).alloc _
  have hs1 : w.heap.size + 1 ≤ w1.heap.size := by rw [← hw1]; simp
  have hb1 : w1.heap[w.heap.size]? = some (.cells #[.int .i64 most, .slice ad n cap, .int .u32 (last : Nat), .int .u32 (acked : Nat), .int .u32 (lost : Nat)] 31 (0, 0)) := by rw [← hw1]; exact heap_alloc_new w _
  rw [hw1]
  clear hw1
  go_loopw [5, 6] (fun o i wr => RSinceRel w B x l n o i wr ∧ wr.heap[w.heap.size]? = some (.cells #[.int .i64 most, .slice ad n cap, .int .u32 (last : Nat), .int .u32 (acked : Nat), .int .u32 (lost : Nat)] 31 (0, 0))) (fun _ i _ => n - (intOf i).toNat)
  case atStart => exact ⟨⟨0, [], rfl, Nat.zero_le _, rfl, World.ownsRow_nil _ _ _ _, (fun i e d hi => by simp [fromN] at hi), hk1, hs1⟩, hb1⟩
  case round =>
    obtain ⟨⟨j, ds, rfl, hj, hds, hown, hdd, hk, hsz⟩, hb⟩ := hrel
    have hcb : wr.cell? ⟨w.heap.size, 1, none⟩ = some (.slice ad n cap) := obj_cell hb 1
    have HDS := Lib.hid hds
    have HOWN := Lib.hid hown
    have HDD := Lib.hid hdd
    have HK := Lib.hid hk
    have HB := Lib.hid hb
    have HSZ := Lib.hid hsz
    clear hds hown hdd hk hb hsz hk1 hs1 hb1
    by_cases hlt : j < n
    · have hd : decide (j < n) = true := by simp; exact hlt
      obtain ⟨b, off, e, dd, dc, rfl, hle, hc1, hc2, hr⟩ := H.out.at (i := j) (by rw [HN.out]; exact hlt)
      have g1 := HK.out.cell hc1 (not_no _)
      have g2 := HK.out.cell hc2 (not_no _)
      have hj0 : (0 : Int) ≤ (j : Int) := by omega
      have hj1 : (j : Int) < (n : Int) := by omega
      have HLE := Lib.hid hle
      have HR := Lib.hid hr
      have HJ := Lib.hid hlt
      clear hle hr hlt hj hc1 hc2
      by_cases hxe : x ≤ e.1
      · have hd2 : decide (x ≤ e.1) = true := by simp; exact hxe
        have HX := Lib.hid hxe
        clear hxe
        go_wp2_with (at_builtin; refine wpList_append_rd rfl rfl rfl rfl ei28 (HOWN.out.alloc (.cells #[.int .u32 (e.1 : Nat), .slice dd e.2.length dc] 40)) (rd_new2 wr _ _ 40) (by intro u hu; simp at hu; rcases hu with rfl | rfl <;> rfl) (by have := fromN_le x l j; have := HN.out; omega) (by have := HSZ.out; simp; omega) ?_; intro v2 w2 hown2 hg2 _)
        have hg3 : (wr.alloc (.cells #[.int .u32 (e.1 : Nat), .slice dd e.2.length dc] 40)).grownBy w2 u5.ownBlock := hg2
        refine ⟨⟨?_, ?_⟩, by have := HJ.out; simp [intOf]; omega⟩
        · have e3 : (j : Int) + 1 = ((j + 1 : Nat) : Int) := by omega
          rw [e3]
          exact rsince_step HDS.out HOWN.out HDD.out HK.out HSZ.out HJ.out HLE.out HX.out HR.out hown2 hg3
        · exact (((Kept.refl (fun i => u5.ownBlock = some i) wr).alloc _).grown hg3 (fun k e _ => e)).obj HB.out (fun e => by have := (HOWN.out.lt _ e).1; omega)
      · have hd2 : decide (x ≤ e.1) = false := by simp; omega
        have HX := Lib.hid hxe
        clear hxe
        go_wp2
        refine ⟨⟨⟨j + 1, ds, by go_num, HJ.out, ?_⟩, HB.out⟩, by have := HJ.out; simp [intOf]; omega⟩
        have e1 : fromN x (l.take (j + 1)) = fromN x (l.take j) := by rw [fromN_snoc x l j e HLE.out, if_neg HX.out, List.append_nil]
        rw [e1]
        exact ⟨HDS.out, HOWN.out, HDD.out, HK.out, HSZ.out⟩
    · have hd : decide (j < n) = false := by simp; omega
      have HJ := Lib.hid hlt
      have HJ2 := Lib.hid hj
      clear hlt hj
      go_wp2
      go_ret
      have e1 : l.take j = l := List.take_of_length_le (by have := HJ.out; have := HN.out; omega)
      have g1 := HDS.out
      have g2 := HOWN.out
      have g3 := HDD.out
      rw [e1] at g1 g2 g3
      exact ⟨u5, rfl, ⟨ds, g1, (rd_owned g2).mono (fun i _ hi => .inr (by omega)), fun i e d hi hd => ((g3 i e d hi hd).kept HK.out (fun _ _ _ => not_no _)).mono (fun _ _ hb => .inl hb)⟩, HK.out⟩

def RAckPost (w : World) (B : Nat → Prop) (most : Int) (last acked lost x : Nat) (l : List (Nat × List UInt8)) (e : Ending) (w' : World) : Prop :=
  ∃ v, e = .returned (.tuple #[refV most v last (max acked x) lost, .int .i64 (l.length - (fromN (max acked x + 1) l).length : Nat), .int .i64 0]) ∧ REv w' (fun k => B k ∨ w.heap.size ≤ k) v (fromN (max acked x + 1) l) ∧ Kept No w w'
set_option maxRecDepth 100000 in
set_option maxHeartbeats 800000 in
theorem rack_range (w : World) (most : Int) (kv : Value) (hkv : ∃ ad n c, kv = .slice ad n c) (last acked lost x : Nat) (hx : last < x) (hx2 : x < 4294967296) :
    Calls Try.prog 20 #[refV most kv last acked lost, .int .u32 x] w fun e w' => e = .returned (.tuple #[refV most kv last acked lost, .int .i64 0, .int .i64 3]) ∧ Kept No w w' := by
  obtain ⟨ad, n, c, rfl⟩ := hkv
  have hd : decide (last < x) = true := by simp; exact hx
  clear hx
  unfold refV
  go_enter Try.func20, Try.ntmps20
  go_wp2
  refine bodyPost_ret (v := .tuple #[.agg #[.int .i64 most, .slice ad n c, .int .u32 (last : Nat), .int .u32 (acked : Nat), .int .u32 (lost : Nat)], .int .i64 0, .int .i64 3]) (by simp [results, Try.results20, go_sem]) rfl ⟨rfl, ?_⟩
  exact ((Kept.refl No w).alloc _).alloc _
set_option maxRecDepth 100000 in
set_option maxHeartbeats 800000 in
theorem rack_ok (w : World) (B : Nat → Prop) (most : Int) (kv : Value) (last acked lost x : Nat) (l : List (Nat × List UInt8)) (h : REv w B kv l) (hlen : l.length ≤ 1000000) (hx : x ≤ last) (hl2 : last < 4294967295) (ha : acked < 4294967295) :
    Calls Try.prog 20 #[refV most kv last acked lost, .int .u32 x] w (RAckPost w B most last acked lost x l) := by
  obtain ⟨ad, cap, rfl⟩ := h.slice
  unfold refV
  obtain ⟨n, hn⟩ : ∃ n, l.length = n := ⟨_, rfl⟩
  rw [hn] at h ⊢
  have H := Lib.hid h
  have HN := Lib.hid hn
  have hn9 : (n : Int) ≤ 1000000 := by omega
  have hd : decide (last < x) = false := by simp; omega
  have HX := Lib.hid hx
  clear h hn hx
  obtain ⟨m, hm⟩ : ∃ m, max acked x = m := ⟨_, rfl⟩
  have hM : (max (acked : Int) (x : Int)) = (m : Int) := by omega
  have hm9 : (m : Int) < 4294967295 := by have := HX.out; omega
  go_enter Try.func20, Try.ntmps20
  go_wp2_with fail
  obtain ⟨w1, hw1⟩ : ∃ w1, ((w.alloc (.cells #[.int .i64 most, .slice ad n cap, .int .u32 (last : Nat), .int .u32 (m : Nat), .int .u32 (lost : Nat)] 31)).alloc
      (.cells #[.int .i64 0, .slice none 0 0, .int .u32 0, .int .u32 0, .int .u32 0] 31)) = w1 := ⟨_, rfl⟩
  have hk1 : Kept No w w1 := by rw [← hw1]; exact ((Kept.refl No w).alloc _).alloc _
  have hs1 : w1.heap.size = w.heap.size + 2 := by rw [← hw1]; simp
  have hb1 : w1.heap[w.heap.size]? = some (.cells #[.int .i64 most, .slice ad n cap, .int .u32 (last : Nat), .int .u32 (m : Nat), .int .u32 (lost : Nat)] 31 (0, 0)) := by rw [← hw1]; exact obj_alloc (heap_alloc_new w _) _
  have hb2 : w1.heap[w.heap.size + 1]? = some (.cells #[.int .i64 0, .slice none 0 0, .int .u32 0, .int .u32 0, .int .u32 0] 31 (0, 0)) := by rw [← hw1]; exact World.alloc_at (by simp) _
  rw [hw1]
  have em : (m : Int) + 1 = ((m + 1 : Nat) : Int) := by omega
  rw [em]
  have hc := rsince_any w1 (fun k => B k ∧ k < w.heap.size) most (.slice ad n cap) last m lost (m + 1) l ((H.out.mono (C := fun k => B k ∧ k < w.heap.size) (fun b hb hB => ⟨hB, hb⟩)).kept hk1 (fun _ _ _ => not_no _)) hlen (by omega)
  unfold refV at hc
  refine hc.mono ?_
  rintro e w2 ⟨v, rfl, hev, hk2⟩
  obtain ⟨ad2, cap2, rfl⟩ := hev.slice
  have hb3 := hk2.obj hb1 (not_no _)
  have hb4 := hk2.obj hb2 (not_no _)
  have c1 : w2.cell? ⟨w.heap.size, 0, none⟩ = some (.int .i64 most) := obj_cell hb3 0
  have c2 : w2.cell? ⟨w.heap.size, 1, none⟩ = some (.slice ad n cap) := obj_cell hb3 1
  have c3 : w2.cell? ⟨w.heap.size, 2, none⟩ = some (.int .u32 (last : Nat)) := obj_cell hb3 2
  have c4 : w2.cell? ⟨w.heap.size, 3, none⟩ = some (.int .u32 (m : Nat)) := obj_cell hb3 3
  have c5 : w2.cell? ⟨w.heap.size, 4, none⟩ = some (.int .u32 (lost : Nat)) := obj_cell hb3 4
  have z1 := obj_free hb3 1
  have d1 : w2.cell? ⟨w.heap.size + 1, 0, none⟩ = some (.int .i64 0) := obj_cell hb4 0
  have d2 : w2.cell? ⟨w.heap.size + 1, 1, none⟩ = some (.slice none 0 0) := obj_cell hb4 1
  have d3 : w2.cell? ⟨w.heap.size + 1, 2, none⟩ = some (.int .u32 0) := obj_cell hb4 2
  have d4 : w2.cell? ⟨w.heap.size + 1, 3, none⟩ = some (.int .u32 0) := obj_cell hb4 3
  have d5 : w2.cell? ⟨w.heap.size + 1, 4, none⟩ = some (.int .u32 0) := obj_cell hb4 4
  have y1 := obj_free hb4 0
  have y2 := obj_free hb4 1
  have y3 := obj_free hb4 2
  have y4 := obj_free hb4 3
  have y5 := obj_free hb4 4
  have HEV := Lib.hid hev
  have HK := Lib.hid (hk1.and hk2)
  have hle : (fromN (m + 1) l).length ≤ n := by have h1 := fromN_le (m + 1) l n; rw [List.take_of_length_le (by rw [HN.out]; exact Nat.le_refl _)] at h1; have := HN.out; omega
  obtain ⟨q, hq⟩ : ∃ q, (fromN (m + 1) l).length = q := ⟨_, rfl⟩
  rw [hq] at hle ⊢
  have hq1 : (q : Int) ≤ (n : Int) := by omega
  have HQ := Lib.hid hq
  have HM := Lib.hid hm
  have HB3 := Lib.hid hb3
  have HS1 := Lib.hid hs1
  clear hw1 hk1 hs1 hb1 hb2 em hc hev hk2 hb3 hb4 hm hM hq
  go_wp2_with fail
  go_region
  all_goals
    go_wp2
    refine bodyPost_ret (v := .tuple #[.agg #[.int .i64 most, .slice ad2 q cap2, .int .u32 (last : Nat), .int .u32 (m : Nat), .int .u32 (lost : Nat)], .int .i64 ((n : Int) - (q : Int)), .int .i64 0]) (by simp [results, Try.results20, go_sem, *]) rfl ?_
    have hm := HM.out
    have hq := HQ.out
    have hs1 := HS1.out
    have kk : Kept (fun k => k = w.heap.size ∨ k = w.heap.size + 1) w2 ((((((w2.setCell ⟨w.heap.size, 1, none⟩ (.slice ad2 q cap2)).setCell ⟨w.heap.size + 1, 0, none⟩ (.int .i64 most)).setCell ⟨w.heap.size + 1, 1, none⟩ (.slice ad2 q cap2)).setCell ⟨w.heap.size + 1, 2, none⟩ (.int .u32 (last : Nat))).setCell ⟨w.heap.size + 1, 3, none⟩ (.int .u32 (m : Nat))).setCell ⟨w.heap.size + 1, 4, none⟩ (.int .u32 (lost : Nat))).drew :=
      (((((((Kept.refl _ w2).setCell (p := ⟨w.heap.size, 1, none⟩) (fun _ => .inl rfl) _).setCell (p := ⟨w.heap.size + 1, 0, none⟩) (fun _ => .inr rfl) _).setCell (p := ⟨w.heap.size + 1, 1, none⟩) (fun _ => .inr rfl) _).setCell (p := ⟨w.heap.size + 1, 2, none⟩) (fun _ => .inr rfl) _).setCell (p := ⟨w.heap.size + 1, 3, none⟩) (fun _ => .inr rfl) _).setCell (p := ⟨w.heap.size + 1, 4, none⟩) (fun _ => .inr rfl) _).drew
    refine ⟨.slice ad2 q cap2, ?_, ?_, ?_⟩
    · rw [hm, hq, HN.out]
      have e1 : ((n - q : Nat) : Int) = (n : Int) - (q : Int) := by omega
      rw [e1]
      rfl
    · have h2 := HEV.out
      rw [hq] at h2
      rw [hm]
      exact ((h2.kept kk (fun b _ hb h => by
        rcases hb with hb | hb
        · have := hb.2; rcases h with h | h <;> omega
        · rcases h with h | h <;> omega)).mono (fun b _ hb => by
        rcases hb with hb | hb
        · exact .inl hb.1
        · exact .inr (by omega)))
    · exact HK.out.new kk (fun i h => by rcases h with h | h <;> omega)
end Go.Proofs.Ytkdienebinnopaa
