/-
  Since, which goes through the events that are kept by a range over a function.
-/
import Derived.Test.YtkdienebinnopaaWalkD
import Derived.Test.YtkdienebinnopaaLibR
namespace Go.Proofs.Ytkdienebinnopaa
open Go.RowKit Go.Zn Go.Shelf
attribute [local go_sem] Oper.semAt_some

/-- The cells of events: a number, and the value of the data. -/
def evc : List (Nat × List UInt8) → List Value → List Value
  | e :: l, d :: ds => .int .u32 (e.1 : Nat) :: d :: evc l ds
  | _, _ => []
theorem evc_length : ∀ (l : List (Nat × List UInt8)) (ds : List Value), ds.length = l.length → (evc l ds).length = l.length * 2
  | [], [], _ => rfl
  | e :: l, d :: ds, h => by simp [evc]; rw [evc_length l ds (by simpa using h)]; omega
theorem evc_snoc : ∀ (l : List (Nat × List UInt8)) (ds : List Value) (e : Nat × List UInt8) (d : Value), ds.length = l.length → evc (l ++ [e]) (ds ++ [d]) = evc l ds ++ [.int .u32 (e.1 : Nat), d]
  | [], [], e, d, _ => rfl
  | e' :: l, d' :: ds, e, d, h => by simp [evc]; exact evc_snoc l ds e d (by simpa using h)
theorem evc_get : ∀ (l : List (Nat × List UInt8)) (ds : List Value) (i : Nat) (e : Nat × List UInt8) (d : Value), l[i]? = some e → ds[i]? = some d → (evc l ds)[2 * i]? = some (.int .u32 (e.1 : Nat)) ∧ (evc l ds)[2 * i + 1]? = some d
  | e' :: l, d' :: ds, 0, e, d, h1, h2 => by simp at h1 h2; subst h1; subst h2; simp [evc]
  | e' :: l, d' :: ds, i + 1, e, d, h1, h2 => by
    have h3 := evc_get l ds i e d (by simpa using h1) (by simpa using h2)
    have e1 : 2 * (i + 1) = 2 * i + 1 + 1 := by omega
    rw [e1]
    simpa [evc] using h3

/-- Events that the call owns: their row, and the data of each. -/
def EvsOwn (w : World) (base : Nat) (v : Value) (l : List (Nat × List UInt8)) : Prop :=
  ∃ ds : List Value, ds.length = l.length ∧ w.ownsRow base 40 2 v l.length (evc l ds) ∧ ∀ (i : Nat) (e : Nat × List UInt8) (d : Value), l[i]? = some e → ds[i]? = some d → w.ownsRow base 5 1 d e.2.length (bts e.2)

theorem ei28 : SliceOf Try.prog 28 40 2 32 (.agg #[.int .u32 0, .slice none 0 0]) := ⟨Try.underlying28, info_parts (by kernel_rfl), rfl, by decide, by decide⟩

/-- what a round needs of the world where Since has begun to range -/
def SinceI (n0 : Nat) (w : World) (dat : Nat → List UInt8) {s n : Nat} (pre : List (Num s n)) (W : World) : Prop :=
  (∃ v, Boxed W n0 28 v ∧ EvsOwn W (n0 + 3) v (pre.map fun y => (y.1, dat y.1))) ∧ Below n0 w W ∧ n0 + 3 ≤ W.heap.size
theorem sinceI_own (n0 B : Nat) (w : World) (dat : Nat → List UInt8) {s n : Nat} (hn : n0 ≤ w.heap.size) (hB : n0 ≤ B) : OwnFrom B (SinceI n0 w dat (s := s) (n := n)) := by
  intro pre W W' row h hg hr
  obtain ⟨⟨v, hb, ds, h1, h2, h3⟩, h4⟩ := h
  have hcells : ∀ (k : Nat) (c : Array Value) (t : TypeId) (fz : Nat × Nat), W.heap[k]? = some (.cells c t fz) → some k ≠ row := by
    intro k c t fz hk e
    obtain ⟨_, o, ho, hc⟩ := hr k e.symm
    rw [hk] at ho
    cases ho
    cases hc
  have hrow : ∀ {base e size : Nat} {v : Value} {n : Nat} {xs : List Value}, W.ownsRow base e size v n xs → W'.ownsRow base e size v n xs := by
    intro base e size v n xs h
    refine h.kept hg ?_
    obtain ⟨_, ⟨hv, hn⟩ | ⟨g, cap, cur, hv, hg2, hh, _⟩⟩ := h
    · left; subst hv; rfl
    · right; subst hv; exact hcells g _ _ _ hh
  refine ⟨⟨v, hb.kept hg (hcells _ _ _ _ hb), ds, h1, hrow h2, fun i e d hi hd => hrow (h3 i e d hi hd)⟩, h4.1.grown hg (Nat.le_trans hn h4.1.size) (fun k e => Nat.le_trans hB (hr k e).1), Nat.le_trans h4.2 hg.size⟩

theorem row_types {W : World} {base base' e e' size size' : Nat} {v v' : Value} {n n' : Nat} {xs xs' : List Value} (h : W.ownsRow base e size v n xs) (h' : W.ownsRow base' e' size' v' n' xs') (hne : e ≠ e') {k : Nat} (hk : v.ownBlock = some k) : v'.ownBlock ≠ some k := by
  intro hk'
  obtain ⟨_, ⟨hv, _⟩ | ⟨g, cap, cur, hv, _, hh, _⟩⟩ := h
  · subst hv; cases hk
  · obtain ⟨_, ⟨hv', _⟩ | ⟨g', cap', cur', hv', _, hh', _⟩⟩ := h'
    · subst hv'; cases hk'
    · subst hv; subst hv'
      cases hk
      cases hk'
      rw [hh] at hh'
      cases hh'
      exact hne rfl
theorem keepsOthers_of {T : Nat → Prop} {W W' : World} (h : Kept T W W') (hT : ∀ k o, T k → W.heap[k]? = some o → o.isCells = true) : KeepsOthers W W' :=
  ⟨h.size, fun k o hk ho => h.obj hk (fun e => by rw [hT k o e hk] at ho; cases ho)⟩
theorem since_close {w W W1 W2 : World} {n0 N : Nat} {dat : Nat → List UInt8} {s n : Nat} {pre : List (Num s n)} {y : Num s n} {v v2 d : Value} {ds : List Value} {blk : Obj} (hN : N ≤ n0 + 3)
    (hds : ds.length = (pre.map fun y => (y.1, dat y.1)).length) (hrow : W.ownsRow (n0 + 3) 40 2 v (pre.map fun y => (y.1, dat y.1)).length (evc (pre.map fun y => (y.1, dat y.1)) ds))
    (hdat : ∀ (i : Nat) (e : Nat × List UInt8) (d : Value), (pre.map fun y => (y.1, dat y.1))[i]? = some e → ds[i]? = some d → W.ownsRow (n0 + 3) 5 1 d e.2.length (bts e.2))
    (hbox : Boxed W n0 28 v) (hbel : Below n0 w W) (hsz : n0 + 3 ≤ W.heap.size) (hn0 : n0 = w.heap.size) (hk1 : Kept No W W1) (hown1 : W1.ownsRow W.heap.size 5 1 d (dat y.1).length (bts (dat y.1)))
    (hown2 : W2.ownsRow (n0 + 3) 40 2 v2 ((pre.map fun y => (y.1, dat y.1)).length + 1) (evc (pre.map fun y => (y.1, dat y.1)) ds ++ [.int .u32 (y.1 : Nat), d])) (hg : (W1.alloc blk).grownBy W2 v.ownBlock) :
    KeepsOthers W (W2.setCell ⟨n0, 0, none⟩ v2) ∧ Kept (Sx n0 N) W (W2.setCell ⟨n0, 0, none⟩ v2) ∧ SinceI n0 w dat (pre ++ [y]) (W2.setCell ⟨n0, 0, none⟩ v2) := by
  have kW2 : Kept (fun i => v.ownBlock = some i) W W2 := ((hk1.any).alloc blk).grown hg (fun k e _ => e)
  have kW3 : Kept (fun i => i = n0 ∨ v.ownBlock = some i) W (W2.setCell ⟨n0, 0, none⟩ v2) := (kW2.mono fun _ _ e => .inr e).setCell (p := ⟨n0, 0, none⟩) (fun _ => .inl rfl) _
  have hv : ∀ i, v.ownBlock = some i → n0 + 3 ≤ i ∧ i < W.heap.size := fun i e => hrow.lt i e
  have k13 : Kept (fun i => i = n0 ∨ v.ownBlock = some i) W1 (W2.setCell ⟨n0, 0, none⟩ v2) := (((Kept.refl _ W1).alloc blk).grown hg (fun k e _ => .inr e)).setCell (p := ⟨n0, 0, none⟩) (fun _ => .inl rfl) _
  refine ⟨keepsOthers_of kW3 (fun k o hk ho => ?_), kW3.mono (fun i _ e => ?_), ⟨v2, ?_, ds ++ [d], ?_, ?_, ?_⟩, ?_, ?_⟩
  · rcases hk with rfl | hk
    · rw [show W.heap[k]? = _ from hbox] at ho; cases ho; rfl
    · obtain ⟨_, ⟨hv', _⟩ | ⟨g, cap, cur, hv', _, hh, _⟩⟩ := hrow
      · subst hv'; cases hk
      · subst hv'; cases hk; rw [hh] at ho; cases ho; rfl
  · rcases e with e | e
    · exact .inl e
    · exact .inr (by have := (hv i e).1; omega)
  · have hb2 : Boxed W2 n0 28 v := kW2.obj hbox (fun e => by have := (hv _ e).1; omega)
    exact hb2.set v2
  · simp [hds]
  · rw [List.map_append, List.map_singleton, evc_snoc _ _ _ _ hds, List.length_append, List.length_singleton]
    exact owned_kept hown2 ((Kept.refl (fun i => i = n0) W2).setCell (p := ⟨n0, 0, none⟩) (fun _ => rfl) _) (fun b _ e h => by have := (hown2.lt b e).1; omega)
  · intro i e d' hi hd
    rw [List.map_append, List.map_singleton] at hi
    by_cases hlt : i < ds.length
    · rw [List.getElem?_append_left (by omega)] at hi
      rw [List.getElem?_append_left hlt] at hd
      have hr := hdat i e d' hi hd
      exact owned_kept hr kW3 (fun b _ e h => by
        rcases h with h | h
        · have := (hr.lt b e).1; omega
        · exact row_types hr hrow (by decide) e h)
    · rw [List.getElem?_append_right (by omega)] at hi hd
      have hi0 : i - ds.length = 0 := by
        rcases Nat.eq_zero_or_pos (i - ds.length) with h | h
        · exact h
        · rw [List.getElem?_eq_none (by simp; omega)] at hd; cases hd
      rw [hi0] at hd
      rw [← hds, hi0] at hi
      simp at hi hd
      subst hi; subst hd
      refine owned_mono (owned_kept hown1 k13 (fun b _ e h => ?_)) hsz
      have hb := (hown1.lt b e).1
      rcases h with h | h
      · omega
      · have := (hv _ h).2; omega
  · exact hbel.trans (kW3.below (fun i _ e => by rcases e with e | e; omega; have := (hv i e).1; omega) (by omega))
  · have := kW3.size; omega

def SincePost (w : World) (s n : Nat) (dat : Nat → List UInt8) (e : Ending) (w' : World) : Prop :=
  ∃ v, e = .returned (.tuple #[v, .int .i64 0]) ∧ EvsOwn w' (w.heap.size + 3) v ((List.range' s (n - s)).map fun m => (m, dat m)) ∧ Kept No w w'

set_option maxRecDepth 100000 in
set_option maxHeartbeats 800000 in
theorem since_any (b rb k f n a l x : Nat) (dat : Nat → List UInt8) (w : World) (h : IsFeed w b rb k f n a l dat) (hx : x < 4294967296) :
    Calls Try.prog 14 #[.pointer (some ⟨b, 0, none⟩), .int .u32 x] w (SincePost w (max x f) n dat) := by
  refine (callsIn_wide (n := 9)).1 ?_
  have c2 := h.hf.c2
  have fn : 0 < n := by have := h.fn; have := h.f1; omega
  refine callsIn_of_wp_marks Try.func14 rfl trivial ?_ rfl
  simp only [Try.ntmps14, List.size_toArray, List.length_cons, List.length_nil, Nat.reduceAdd, Nat.reduceSub, Array.replicate_succ, Array.replicate_zero, List.push_toArray, List.append_toArray, List.nil_append, List.cons_append]
  gi_wp2_with (first | (refine ⟨trivial, ?_⟩; gi_at_call 28; refine (callsIn_wide.2 (zero_no b n _ c2 (by omega))).mono ?_; rintro e w' ⟨rfl, rfl⟩) | (refine ⟨trivial, ?_⟩; gi_at_call 29; refine (kept_in Fence.wide _ trivial rfl _ _ _ x rfl rfl _).mono ?_; rintro e w' ⟨rfl, rfl⟩))
  obtain ⟨ring, hr1, hrs, hrr⟩ := h.ring
  have H := Lib.hid h
  have hlt := h.lt
  obtain ⟨w3, hw3⟩ : ∃ w3, (((w.alloc (.cells #[.slice none 0 0] 28)).alloc (.cells #[.pointer (some ⟨b, 0, none⟩)] 22)).alloc (.cells #[.int .u32 (x : Nat)] 29)) = w3 := ⟨_, rfl⟩
  have k3 : Kept No w w3 := by rw [← hw3]; exact (((Kept.refl No w).alloc _).alloc _).alloc _
  have s3 : w3.heap.size = w.heap.size + 3 := by rw [← hw3]; simp
  have b0 : w3.heap[w.heap.size]? = some (.cells #[.slice none 0 0] 28 (0, 0)) := by rw [← hw3]; exact obj_alloc (obj_alloc (heap_alloc_new w _) _) _
  have b1 : w3.cell? ⟨w.heap.size + 1, 0, none⟩ = some (.pointer (some ⟨b, 0, none⟩)) := by rw [← hw3, World.cell?_alloc_past _ _ _ (by simp), World.cell?_alloc_at _ _ _ _ (by simp)]; rfl
  have b2 : w3.cell? ⟨w.heap.size + 1 + 1, 0, none⟩ = some (.int .u32 (x : Nat)) := by rw [← hw3, World.cell?_alloc_at _ _ _ _ (by simp)]; rfl
  rw [hw3]
  clear hw3
  have hbel : Below w.heap.size w w3 := k3.to_below
  refine wpIn_rangeFunc_ownF (w0 := w3) rfl (by decide) (gf := 34) (lb := #[.pointer (some ⟨w.heap.size + 1 + 1, 0, none⟩), .pointer (some ⟨w.heap.size + 1, 0, none⟩)]) rfl trivial (enters_of Try.func34 (by kernel_rfl) rfl)
    (kept1_stops w.heap.size w3.heap.size b rb k f n a l x ring (w.heap.size + 1 + 1) (w.heap.size + 1) 8 (by decide) (by omega) (by omega) (by omega) (by omega) h.k1 h.k2 h.n2 h.fn hx w3 rfl (by omega) (by omega) b2 b1 (h.hf.keep k3 (not_no _)) (k3.obj hr1 (not_no _)) hrs.1)
    (fun h k => h.and k) (fun W lb o o' hl hh ho hw => (Kept.refl _ W).grown (grownBy_putObj' W lb o') (fun k e _ => by cases e; exact .inr hl)) (Below.refl _ _) (fun _ => rfl)
    (SinceI w.heap.size w dat) (fun _ _ _ => False) (sinceI_own _ _ w dat (Nat.le_refl _) (by omega)) (fun _ _ _ _ _ hs _ _ => hs)
    ⟨⟨.slice none 0 0, b0, [], rfl, World.ownsRow_nil _ _ _ _, fun i e d hi => by simp at hi⟩, hbel, by omega⟩
    (fun y => { tmps := #[.pointer (some ⟨b, 0, none⟩), .int .u32 (x : Nat), undef, undef, .slice none 0 0, .int .i64 0, .pointer (some ⟨w.heap.size, 0, none⟩), .int .u32 (y.1 : Nat), ringAt ring k y.1, .pointer (some ⟨b, 0, none⟩), .bool false, .pointer (some ⟨b, 0, none⟩), .int .u32 (x : Nat),
      .func (.func 34) #[] #[.pointer (some ⟨w.heap.size + 1 + 1, 0, none⟩), .pointer (some ⟨w.heap.size + 1, 0, none⟩)], .int .u32 (y.1 : Nat), ringAt ring k y.1, undef, undef, undef, undef, undef, undef, undef, undef], defers := [] }) ?assign ?body ?done ?stop
  case assign =>
    intro l x W K hK
    gi_wp2
    exact hK
  case body =>
    rintro lp pre y W ⟨⟨v, hbox, ds, hds, hrow, hdat⟩, hbel2, hsz⟩ hlen
    have hnk := h.nk
    have hk2 := h.k2
    have hcell := hbox.cell
    have hfree := hbox.frozen
    have hFW : IsFeed W b rb k f n a l dat := H.out.kept (S := fun i => w.heap.size ≤ i) ⟨hbel2.os, hbel2.tape, hbel2.output, hbel2.size, fun k hk _ => hbel2.block k hk⟩ (fun i hi hs => by omega)
    have hrd : Rd W (fun i => i ≠ b ∧ i ≠ rb) 1 (ringAt ring k y.1) (dat y.1).length (bts (dat y.1)) := by
      obtain ⟨v', hv', hr'⟩ := hrr y.1 (by have := y.2.1; omega) y.2.2
      have e1 : ringAt ring k y.1 = v' := by simp [ringAt, Array.getD_eq_getD_getElem?, hv']
      rw [e1]
      exact hr'.kept (S := fun i => w.heap.size ≤ i) ⟨hbel2.os, hbel2.tape, hbel2.output, hbel2.size, fun k hk _ => hbel2.block k hk⟩ (fun i hi _ hs => by omega)
    have HRD := Lib.hid hrd
    have HLE := Lib.hid (hFW.dl y.1 (by have := y.2.1; omega) y.2.2)
    have HFW := Lib.hid hFW
    have HDS := Lib.hid hds
    have HROW := Lib.hid hrow
    have HDAT := Lib.hid hdat
    have HBOX := Lib.hid hbox
    have HRR := Lib.hid hrr
    clear hrd hFW hds hrow hdat hbox hrr hr1 hrs c2
    gi_wp2
    refine wpIn_region_round (by kernel_rfl) (by kernel_rfl) ?_
    refine wpAnyIn_take (i := 1) (v := .int .u32 (y.1 : Nat)) rfl rfl (by kernel_rfl) (by kernel_rfl) (by kernel_rfl) (fun _ _ _ h => h) ⟨Or.inl ⟨by rfl, ?_⟩, fun _ => rfl⟩ ?_
    · intro w; go_simp
    refine wpAnyIn_take (i := 2) (v := ringAt ring k y.1) rfl rfl (by kernel_rfl) (by kernel_rfl) (by kernel_rfl) (fun _ _ _ h => h) ⟨Or.inl ⟨by rfl, ?_⟩, fun _ => rfl⟩ ?_
    · intro w; go_simp
    refine wpAnyIn_ready (rs := [0, 3]) (by kernel_rfl) (by simp) ?_
    refine AllReadyIn.cons rfl (fun K hK => ?_) (AllReadyIn.cons rfl (fun K hK => ?_) AllReadyIn.nil)
    · go_simp
      refine hK _ _ ?_; clear hK K
      refine wpAnyIn_ready (rs := [3]) (by kernel_rfl) (by simp) ?_
      refine AllReadyIn.cons rfl (fun K hK => ?_) AllReadyIn.nil
      go_simp
      refine ⟨trivial, ?_⟩
      refine (callsIn_wide.2 (clone_any _ _ _ _ (dat y.1) HRD.out.drew HLE.out)).mono ?_
      rintro e W1 ⟨v1, rfl, hown1, hk1⟩
      obtain ⟨ad1, cap1, rfl⟩ := owned_slice hown1
      refine hK _ _ ?_; clear hK K
      refine wpAnyIn_take (i := 4) (v := .agg #[.int .u32 (y.1 : Nat), .slice ad1 (dat y.1).length cap1]) rfl rfl (by kernel_rfl) (by kernel_rfl) (by kernel_rfl) (fun _ _ _ h => h) ⟨Or.inl ⟨by rfl, ?_⟩, fun _ => rfl⟩ ?_
      · intro w; go_simp
      refine wpAnyIn_ready (rs := [5]) (by kernel_rfl) (by simp) ?_
      refine AllReadyIn.cons rfl (fun K hK => ?_) AllReadyIn.nil
      go_simp
      refine hK _ _ ?_; clear hK K
      refine wpAnyIn_ready (rs := [6]) (by kernel_rfl) (by simp) ?_
      refine AllReadyIn.cons rfl (fun K hK => ?_) AllReadyIn.nil
      refine step_append_rd (xv := .slice (some ⟨W1.heap.size, 0, none⟩) 1 1) rfl rfl rfl rfl ei28 (((owned_kept HROW.out hk1.of_drew (fun _ _ _ => not_no _))).alloc (.cells #[.int .u32 (y.1 : Nat), .slice ad1 (dat y.1).length cap1] 40)) (rd_new2 W1 _ _ 40) (by intro u hu; simp at hu; rcases hu with rfl | rfl <;> rfl) (by rw [List.length_map]; omega) (by have := hk1.size; simp at this ⊢; omega) ?_
      intro v2 W2 hown2 hg2 _
      obtain ⟨ad2, cap2, e2⟩ := owned_slice hown2; rw [List.length_map] at e2; subst e2
      refine hK _ _ ?_; clear hK K
      refine wpAnyIn_ready (rs := [7]) (by kernel_rfl) (by simp) ?_
      refine AllReadyIn.cons rfl (fun K hK => ?_) AllReadyIn.nil
      have hb2 : Boxed W2 w.heap.size 28 v := (((hk1.of_drew.any).alloc _).grown (S := fun i => v.ownBlock = some i) hg2 (fun k e _ => e)).obj HBOX.out (fun e => by have := (HROW.out.lt _ e).1; omega)
      have hc2 := hb2.cell
      have hf2 := hb2.frozen
      go_simp
      refine hK _ _ ?_; clear hK K
      refine wpAnyIn_done (by kernel_rfl) ?_ _
      exact since_close (by omega) HDS.out HROW.out HDAT.out HBOX.out hbel2 hsz rfl hk1.of_drew hown1 hown2 hg2
    · go_simp
      refine ⟨trivial, ?_⟩
      refine (callsIn_wide.2 (clone_any _ _ _ _ (dat y.1) HRD.out.drew HLE.out)).mono ?_
      rintro e W1 ⟨v1, rfl, hown1, hk1⟩
      obtain ⟨ad1, cap1, rfl⟩ := owned_slice hown1
      refine hK _ _ ?_; clear hK K
      refine wpAnyIn_take (i := 4) (v := .agg #[.int .u32 (y.1 : Nat), .slice ad1 (dat y.1).length cap1]) rfl rfl (by kernel_rfl) (by kernel_rfl) (by kernel_rfl) (fun _ _ _ h => h) ⟨Or.inl ⟨by rfl, ?_⟩, fun _ => rfl⟩ ?_
      · intro w; go_simp
      have hlt1 : w.heap.size < W1.heap.size := by have := hk1.size; simp at this; omega
      have hcell1 : W1.cell? ⟨w.heap.size, 0, none⟩ = some v := hk1.of_drew.cell hcell (not_no _)
      refine wpAnyIn_ready (rs := [0, 5]) (by kernel_rfl) (by simp) ?_
      refine AllReadyIn.cons rfl (fun K hK => ?_) (AllReadyIn.cons rfl (fun K hK => ?_) AllReadyIn.nil)
      · go_simp
        refine hK _ _ ?_; clear hK K
        refine wpAnyIn_ready (rs := [5]) (by kernel_rfl) (by simp) ?_
        refine AllReadyIn.cons rfl (fun K hK => ?_) AllReadyIn.nil
        go_simp
        refine hK _ _ ?_; clear hK K
        refine wpAnyIn_ready (rs := [6]) (by kernel_rfl) (by simp) ?_
        refine AllReadyIn.cons rfl (fun K hK => ?_) AllReadyIn.nil
        refine step_append_rd (xv := .slice (some ⟨W1.heap.size, 0, none⟩) 1 1) rfl rfl rfl rfl ei28 (((owned_kept HROW.out hk1.of_drew (fun _ _ _ => not_no _))).alloc (.cells #[.int .u32 (y.1 : Nat), .slice ad1 (dat y.1).length cap1] 40)) (rd_new2 W1 _ _ 40) (by intro u hu; simp at hu; rcases hu with rfl | rfl <;> rfl) (by rw [List.length_map]; omega) (by have := hk1.size; simp at this ⊢; omega) ?_
        intro v2 W2 hown2 hg2 _
        obtain ⟨ad2, cap2, e2⟩ := owned_slice hown2; rw [List.length_map] at e2; subst e2
        refine hK _ _ ?_; clear hK K
        refine wpAnyIn_ready (rs := [7]) (by kernel_rfl) (by simp) ?_
        refine AllReadyIn.cons rfl (fun K hK => ?_) AllReadyIn.nil
        have hb2 : Boxed W2 w.heap.size 28 v := (((hk1.of_drew.any).alloc _).grown (S := fun i => v.ownBlock = some i) hg2 (fun k e _ => e)).obj HBOX.out (fun e => by have := (HROW.out.lt _ e).1; omega)
        have hc2 := hb2.cell
        have hf2 := hb2.frozen
        go_simp
        refine hK _ _ ?_; clear hK K
        refine wpAnyIn_done (by kernel_rfl) ?_ _
        exact since_close (by omega) HDS.out HROW.out HDAT.out HBOX.out hbel2 hsz rfl hk1.of_drew hown1 hown2 hg2
      · go_simp
        refine hK _ _ ?_; clear hK K
        refine wpAnyIn_ready (rs := [0]) (by kernel_rfl) (by simp) ?_
        refine AllReadyIn.cons rfl (fun K hK => ?_) AllReadyIn.nil
        go_simp
        refine hK _ _ ?_; clear hK K
        refine wpAnyIn_ready (rs := [6]) (by kernel_rfl) (by simp) ?_
        refine AllReadyIn.cons rfl (fun K hK => ?_) AllReadyIn.nil
        refine step_append_rd (xv := .slice (some ⟨W1.heap.size, 0, none⟩) 1 1) rfl rfl rfl rfl ei28 (((owned_kept HROW.out hk1.of_drew (fun _ _ _ => not_no _))).alloc (.cells #[.int .u32 (y.1 : Nat), .slice ad1 (dat y.1).length cap1] 40)) (rd_new2 W1 _ _ 40) (by intro u hu; simp at hu; rcases hu with rfl | rfl <;> rfl) (by rw [List.length_map]; omega) (by have := hk1.size; simp at this ⊢; omega) ?_
        intro v2 W2 hown2 hg2 _
        obtain ⟨ad2, cap2, e2⟩ := owned_slice hown2; rw [List.length_map] at e2; subst e2
        refine hK _ _ ?_; clear hK K
        refine wpAnyIn_ready (rs := [7]) (by kernel_rfl) (by simp) ?_
        refine AllReadyIn.cons rfl (fun K hK => ?_) AllReadyIn.nil
        have hb2 : Boxed W2 w.heap.size 28 v := (((hk1.of_drew.any).alloc _).grown (S := fun i => v.ownBlock = some i) hg2 (fun k e _ => e)).obj HBOX.out (fun e => by have := (HROW.out.lt _ e).1; omega)
        have hc2 := hb2.cell
        have hf2 := hb2.frozen
        go_simp
        refine hK _ _ ?_; clear hK K
        refine wpAnyIn_done (by kernel_rfl) ?_ _
        exact since_close (by omega) HDS.out HROW.out HDAT.out HBOX.out hbel2 hsz rfl hk1.of_drew hown1 hown2 hg2
  case done =>
    rintro D ys W hD hS ⟨⟨v, hbox, ds, hds, hrow, hdat⟩, hbel2, hsz⟩ hK
    obtain ⟨ad2, cap2, e2⟩ := owned_slice hrow
    rw [List.length_map] at e2
    subst e2
    have hcell := hbox.cell
    have HDS := Lib.hid hds
    have HROW := Lib.hid hrow
    have HDAT := Lib.hid hdat
    have HBOX := Lib.hid hbox
    have HS := Lib.hid hS
    have HK := Lib.hid hK
    clear hds hrow hdat hbox hrr hr1 hrs c2 hS hK
    gi_wp2
    refine ⟨by simp, .inl ⟨_, _, rfl, run_takeDeferred HK.out, ?_⟩⟩
    refine ⟨_, results_tmp2 rfl _ _ _, _, rfl, ?_, ?_⟩
    · have he : (ys.map fun y => (y.1, dat y.1)) = (List.range' (max x f) (n - max x f)).map fun m => (m, dat m) := by
        rw [← HS.out, List.map_map]; rfl
      rw [← he]
      exact ⟨ds, HDS.out, ownsRow_putObj HROW.out _ HK.out rfl, fun i e d hi hd => ownsRow_putObj (HDAT.out i e d hi hd) _ HK.out rfl⟩
    · exact Kept.of_below (hbel2.trans (belowK_b (w := w) (Nat.le_refl _) W D _ _ (by omega) HK.out rfl rfl))
  case stop =>
    rintro D c pre W _ _ h _
    exact h.elim
end Go.Proofs.Ytkdienebinnopaa
