/-
  Copy: a second feed, its ring its own, its data shared.
-/
import Derived.Test.YtkdienebinnopaaWalkI
namespace Go.Proofs.Ytkdienebinnopaa
open Go.RowKit Go.Zn

set_option maxHeartbeats 400000 in
theorem clone59 (w : World) (B : Nat → Prop) (a : Addr) (n cap : Nat) (xs : List Value) (hx : Rd w B 1 (.slice (some a) n cap) n xs) (h1 : ∀ u ∈ xs, u.oneCell' = true) (hn : n ≤ 1000) :
    Calls Try.prog 33 #[.slice (some a) n cap] w fun e w' => ∃ v, e = .returned v ∧ w'.ownsRow w.heap.size 36 1 v n xs ∧ Kept No w w' := by
  have he := fun w a n c => Lib.run_eql_slice_nil (P := Try.prog) w 59 36 a n c 0 0 Try.underlying59
  have hown0 := World.ownsRow_made (base := w.heap.size) (e := 36) (size := 1) w #[] 0 (Nat.le_refl _) (by simp [maxLen]) (by simp)
  have hx2 := hx.alloc (.cells #[] 36)
  have hb : (0 + n) * 24 ≤ 140737488355328 := by omega
  have hbs : w.heap.size ≤ (w.alloc (.cells #[] 36)).heap.size := by simp
  go_enter Try.func33, Try.ntmps33
  go_wp2_with (at_builtin; refine wpList_append_rd rfl rfl rfl rfl ei59 hown0 hx2 h1 hb hbs ?_; intro v1 w1 hown hg _)
  go_ret
  rw [Nat.zero_add, List.nil_append] at hown
  exact ⟨v1, rfl, hown, (((Kept.refl No w).alloc _).grown hg (fun k e h => by cases e; exact absurd h (Nat.lt_irrefl _)))⟩
/-- the new ring and the old one, side by side -/
theorem ring_take {ring cur : Array Value} {k : Nat} (h : List.take k cur.toList = List.take k ring.toList) {j : Nat} (hj : j < k) : cur[j]? = ring[j]? := by
  have e1 : (List.take k cur.toList)[j]? = (List.take k ring.toList)[j]? := by rw [h]
  rw [List.getElem?_take, List.getElem?_take, if_pos hj, if_pos hj, Array.getElem?_toList, Array.getElem?_toList] at e1
  exact e1
theorem copy_close {w w2 : World} {b rb : Nat} {s : FS} (h : FOk w b rb s) {ring : Array Value} {v : Value} {c0 : Nat} (hr : w.heap[rb]? = some (.cells ring 36 (0, 0)))
    (hk : Kept No w w2) (hb : w2.heap[w.heap.size]? = some (.cells (fcells rb s.k c0 s.f s.n s.a s.l) 61 (0, 0))) (ho : w2.ownsRow (w.heap.size + 1) 36 1 v s.k (List.take s.k ring.toList)) :
    ∃ rb', FOk (w2.setCell ⟨w.heap.size, 0, none⟩ v) w.heap.size rb' s ∧ Rg (w2.setCell ⟨w.heap.size, 0, none⟩ v) rb' s.k s.f s.n s.dat (fun i => i ≠ b ∧ i ≠ rb ∧ i < w.heap.size) ∧ w.heap.size ≤ rb' := by
  obtain ⟨⟨hf, ⟨ring', h1, h2, h3⟩, r1, r2, r3, r4, r5, r6, r7, r8, r9, r10⟩, ha, hl⟩ := h
  rw [hr] at h1
  obtain rfl : ring = ring' := by cases h1; rfl
  have hkw : Kept No w (w2.setCell ⟨w.heap.size, 0, none⟩ v) := hk.new (S' := fun i => i = w.heap.size) ((Kept.refl (fun i => i = w.heap.size) w2).setCell (p := ⟨w.heap.size, 0, none⟩) (fun _ => rfl) _) (fun i e => by omega)
  obtain ⟨q1, q2⟩ := ho
  rcases q2 with ⟨q2, q3⟩ | ⟨g, cap, cur, hv, hg, hh, hnc, hcm, hcs, hx⟩
  · omega
  · rw [Nat.mul_one] at hx
    subst hv
    have hh3 : (w2.setCell ⟨w.heap.size, 0, none⟩ (.slice (some ⟨g, 0, none⟩) s.k cap)).heap[g]? = some (.cells cur 36 (0, 0)) := obj_setCell hh _ (show g ≠ w.heap.size by omega)
    have hsz := h2.1
    have hcsz : s.k ≤ cur.size := by
      have := q1
      rw [← hx, List.length_take] at this
      simp at this
      omega
    refine ⟨g, ⟨⟨⟨cap, hnc, ?_⟩, ⟨cur, hh3, ⟨hcsz, fun j u hj hu => ?_⟩, fun m hm hn => ?_⟩, by omega, r2, r3, r4, r5, r6, r7, r8, r9, r10⟩, ha, hl⟩, ⟨cur, hh3, fun m hm hn => ?_⟩, by omega⟩
    · exact obj_store hb 0 _
    · rw [ring_take hx hj] at hu
      exact h2.2 j u hj hu
    · obtain ⟨u, hu, hd⟩ := h3 m hm hn
      rw [← ring_take hx (Nat.mod_lt m (by omega))] at hu
      exact ⟨u, hu, (hd.mono fun i hi _ => (⟨by omega, by omega⟩ : i ≠ w.heap.size ∧ i ≠ g)).kept hkw (fun _ _ _ => not_no _)⟩
    · obtain ⟨u, hu, hd⟩ := h3 m hm hn
      rw [← ring_take hx (Nat.mod_lt m (by omega))] at hu
      exact ⟨u, hu, (hd.mono fun i hi hq => (⟨hq.1, hq.2, hi⟩ : i ≠ b ∧ i ≠ rb ∧ i < w.heap.size)).kept hkw (fun _ _ _ => not_no _)⟩
def CopyPost (b rb : Nat) (s : FS) (w : World) (e : Ending) (w' : World) : Prop :=
  ∃ b' rb', e = .returned (.pointer (some ⟨b', 0, none⟩)) ∧ FOk w' b' rb' s ∧ Rg w' rb' s.k s.f s.n s.dat (fun i => i ≠ b ∧ i ≠ rb ∧ i < w.heap.size) ∧ w.heap.size ≤ b' ∧ w.heap.size ≤ rb' ∧ Kept No w w'
set_option maxRecDepth 100000 in
set_option maxHeartbeats 1600000 in
theorem copy_ok {w : World} {b rb : Nat} {s : FS} (h : FOk w b rb s) : Calls Try.prog 24 #[.pointer (some ⟨b, 0, none⟩)] w (CopyPost b rb s w) := by
  obtain ⟨rc, hrc, hobj⟩ := h.1.hf
  obtain ⟨ring, hring, hrok, _⟩ := h.1.ring
  have c1 := h.1.hf.c1
  have c2 := h.1.hf.c2
  have c3 := h.1.hf.c3
  have c4 := h.1.hf.c4
  have c0 : w.cell? ⟨b, 0, none⟩ = some (.slice (some ⟨rb, 0, none⟩) s.k rc) := obj_cell hobj 0
  have hn0 : 0 < s.n := by have := h.1.fn; have := h.1.f1; omega
  have hk2 := h.1.k2
  have hrd : Rd w (fun _ => True) 1 (.slice (some ⟨rb, 0, none⟩) s.k rc) s.k (List.take s.k ring.toList) :=
    ⟨by rw [List.length_take, Nat.mul_one]; have := hrok.1; simp; omega, by unfold maxLen; omega, .inr ⟨rb, 0, rc, rfl, hrc, fun _ => trivial, fun j u hj => by
      rw [Nat.zero_add, obj_cell hring]
      rw [List.getElem?_take] at hj
      split at hj
      · rw [Array.getElem?_toList] at hj; exact hj
      · cases hj⟩⟩
  have hone : ∀ u ∈ List.take s.k ring.toList, u.oneCell' = true := fun u hu => by
    obtain ⟨j, hj⟩ := List.getElem?_of_mem hu
    rw [List.getElem?_take] at hj
    split at hj
    · rw [Array.getElem?_toList] at hj; exact hrok.2 j u (by omega) hj
    · cases hj
  have d0 : (w.alloc (.cells #[.slice (some ⟨rb, 0, none⟩) s.k rc, .int .u32 (s.f : Nat), .int .u32 (s.n : Nat), .int .u32 (s.a : Nat), .int .u32 (s.l : Nat)] 61)).cell? ⟨b, 0, none⟩ = some (.slice (some ⟨rb, 0, none⟩) s.k rc) := ((Kept.refl No w).alloc _).cell c0 (not_no _)
  have H := Lib.hid h
  have HRD := Lib.hid hrd
  have HO := Lib.hid hone
  have HR := Lib.hid hring
  clear h hrd hone hring hrok hrc hobj
  go_enter Try.func24, Try.ntmps24
  go_wp2_with (go_at_call 28; refine (zero_no b s.n _ c2 hn0).mono ?_; rintro e w' ⟨rfl, rfl⟩)
  obtain ⟨w1, hw1⟩ : ∃ w1, w.alloc (.cells #[.slice (some ⟨rb, 0, none⟩) s.k rc, .int .u32 (s.f : Nat), .int .u32 (s.n : Nat), .int .u32 (s.a : Nat), .int .u32 (s.l : Nat)] 61) = w1 := ⟨_, rfl⟩
  have hk1 : Kept No w w1 := by rw [← hw1]; exact (Kept.refl No w).alloc _
  have hb1 : w1.heap[w.heap.size]? = some (.cells (fcells rb s.k rc s.f s.n s.a s.l) 61 (0, 0)) := by rw [← hw1]; exact heap_alloc_new w _
  have hs1 : w1.heap.size = w.heap.size + 1 := by rw [← hw1]; simp
  rw [hw1]
  have HK1 := Lib.hid hk1
  have HB1 := Lib.hid hb1
  have HS1 := Lib.hid hs1
  clear hw1 d0 c0 c1 c2 c3 c4 hk1 hb1 hs1
  refine (clone59 w1 (fun _ => True) ⟨rb, 0, none⟩ s.k rc _ (HRD.out.kept HK1.out (fun _ _ _ => not_no _)) HO.out hk2).mono ?_
  rintro e w2 ⟨v, rfl, hown, hk⟩
  obtain ⟨ad2, cap2, rfl⟩ := owned_slice hown
  have hb2 := hk.obj HB1.out (not_no _)
  have e1 : w2.cell? ⟨w.heap.size, 0, none⟩ = some (.slice (some ⟨rb, 0, none⟩) s.k rc) := obj_cell hb2 0
  have e2 : w2.frozen? ⟨w.heap.size, 0, none⟩ = false := obj_free hb2 0
  have HK2 := Lib.hid (HK1.out.and hk)
  have HB2 := Lib.hid hb2
  have HOW := Lib.hid hown
  clear hk hb2 hown
  go_wp2_with fail
  go_ret
  have hown := HOW.out
  rw [HS1.out] at hown
  obtain ⟨rb', q1, q2, q3⟩ := copy_close H.out HR.out HK2.out HB2.out hown
  exact ⟨_, rb', rfl, q1, q2, Nat.le_refl _, q3, HK2.out.new (S' := fun i => i = w.heap.size) ((Kept.refl (fun i => i = w.heap.size) w2).setCell (p := ⟨w.heap.size, 0, none⟩) (fun _ => rfl) _) (fun i e => by omega)⟩
end Go.Proofs.Ytkdienebinnopaa
