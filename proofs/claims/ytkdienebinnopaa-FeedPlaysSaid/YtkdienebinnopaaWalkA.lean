/-
  The walks through the small functions of package feed: zero, at, drop, New, Clone.
-/
import Derived.Test.YtkdienebinnopaaRows
import Derived.Test.YtkdienebinnopaaLib
import Derived.Deep.QuietTactic
import Derived.BigQuiet
namespace Go.Proofs.Ytkdienebinnopaa
open Go.RowKit Go.Zn

/-- A feed's own cells (the ring's slice may have more capacity than length: a copy's has). -/
def fcells (rb k c f n a l : Nat) : Array Value := #[.slice (some ⟨rb, 0, none⟩) k c, .int .u32 f, .int .u32 n, .int .u32 a, .int .u32 l]
def HasFeed (w : World) (b rb k f n a l : Nat) : Prop := ∃ c, k ≤ c ∧ w.heap[b]? = some (.cells (fcells rb k c f n a l) 61 (0, 0))
theorem HasFeed.c0 {w : World} {b rb k f n a l : Nat} (h : HasFeed w b rb k f n a l) : ∃ c, w.cell? ⟨b, 0, none⟩ = some (.slice (some ⟨rb, 0, none⟩) k c) := by obtain ⟨c, _, h⟩ := h; exact ⟨c, obj_cell h 0⟩
theorem HasFeed.c1 {w : World} {b rb k f n a l : Nat} (h : HasFeed w b rb k f n a l) : w.cell? ⟨b, 1, none⟩ = some (.int .u32 f) := by obtain ⟨c, _, h⟩ := h; exact obj_cell h 1
theorem HasFeed.c2 {w : World} {b rb k f n a l : Nat} (h : HasFeed w b rb k f n a l) : w.cell? ⟨b, 2, none⟩ = some (.int .u32 n) := by obtain ⟨c, _, h⟩ := h; exact obj_cell h 2
theorem HasFeed.c3 {w : World} {b rb k f n a l : Nat} (h : HasFeed w b rb k f n a l) : w.cell? ⟨b, 3, none⟩ = some (.int .u32 a) := by obtain ⟨c, _, h⟩ := h; exact obj_cell h 3
theorem HasFeed.c4 {w : World} {b rb k f n a l : Nat} (h : HasFeed w b rb k f n a l) : w.cell? ⟨b, 4, none⟩ = some (.int .u32 l) := by obtain ⟨c, _, h⟩ := h; exact obj_cell h 4
theorem HasFeed.fz {w : World} {b rb k f n a l : Nat} (h : HasFeed w b rb k f n a l) (j : Nat) : w.frozen? ⟨b, j, none⟩ = false := by obtain ⟨c, _, h⟩ := h; exact obj_free h j
theorem HasFeed.lt {w : World} {b rb k f n a l : Nat} (h : HasFeed w b rb k f n a l) : b < w.heap.size := by obtain ⟨c, _, h⟩ := h; exact obj_lt h
theorem HasFeed.keep {S : Nat → Prop} {w' : World} {w : World} {b rb k f n a l : Nat} (h : HasFeed w b rb k f n a l) (hk : Kept S w w') (hb : ¬ S b) : HasFeed w' b rb k f n a l := by obtain ⟨c, hc, h⟩ := h; exact ⟨c, hc, hk.obj h hb⟩
theorem HasFeed.far {w : World} {b rb k f n a l : Nat} (h : HasFeed w b rb k f n a l) {p : Addr} (u : Value) (hp : b ≠ p.block) : HasFeed (w.setCell p u) b rb k f n a l := by obtain ⟨c, hc, h⟩ := h; exact ⟨c, hc, obj_setCell h u hp⟩
theorem HasFeed.set1 {w : World} {b rb k f n a l : Nat} (h : HasFeed w b rb k f n a l) (x : Nat) : HasFeed (w.setCell ⟨b, 1, none⟩ (.int .u32 (x : Nat))) b rb k x n a l := by obtain ⟨c, hc, h⟩ := h; exact ⟨c, hc, obj_store h 1 _⟩
theorem HasFeed.set2 {w : World} {b rb k f n a l : Nat} (h : HasFeed w b rb k f n a l) (x : Nat) : HasFeed (w.setCell ⟨b, 2, none⟩ (.int .u32 (x : Nat))) b rb k f x a l := by obtain ⟨c, hc, h⟩ := h; exact ⟨c, hc, obj_store h 2 _⟩
theorem HasFeed.set3 {w : World} {b rb k f n a l : Nat} (h : HasFeed w b rb k f n a l) (x : Nat) : HasFeed (w.setCell ⟨b, 3, none⟩ (.int .u32 (x : Nat))) b rb k f n x l := by obtain ⟨c, hc, h⟩ := h; exact ⟨c, hc, obj_store h 3 _⟩
theorem HasFeed.set4 {w : World} {b rb k f n a l : Nat} (h : HasFeed w b rb k f n a l) (x : Nat) : HasFeed (w.setCell ⟨b, 4, none⟩ (.int .u32 (x : Nat))) b rb k f n a x := by obtain ⟨c, hc, h⟩ := h; exact ⟨c, hc, obj_store h 4 _⟩
theorem HasFeed.drewN {w : World} {b rb k f n a l : Nat} (h : HasFeed w b rb k f n a l) (q : Nat) : HasFeed (w.drewN q) b rb k f n a l := h
set_option maxHeartbeats 400000 in
theorem zero_nil (w : World) :
    Calls Try.prog 28 #[.pointer none] w fun e w' => e = .returned (.bool true) ∧ w = w' := by
  go_enter Try.func28, Try.ntmps28
  go_wp2
  go_ret
  exact ⟨rfl, rfl⟩
set_option maxHeartbeats 400000 in
theorem zero_zero (b : Nat) (w : World) (h2 : w.cell? ⟨b, 2, none⟩ = some (.int .u32 0)) :
    Calls Try.prog 28 #[.pointer (some ⟨b, 0, none⟩)] w fun e w' => e = .returned (.bool true) ∧ w = w' := by
  go_enter Try.func28, Try.ntmps28
  go_wp2
  go_ret
  exact ⟨rfl, rfl⟩
set_option maxHeartbeats 400000 in
theorem zero_no (b n : Nat) (w : World) (h2 : w.cell? ⟨b, 2, none⟩ = some (.int .u32 n)) (hn : 0 < n) :
    Calls Try.prog 28 #[.pointer (some ⟨b, 0, none⟩)] w fun e w' => e = .returned (.bool false) ∧ w = w' := by
  have hn0 : ((n : Int) == 0) = false := by rw [beq_eq_false_iff_ne]; omega
  go_enter Try.func28, Try.ntmps28
  go_wp2
  go_ret
  exact ⟨rfl, rfl⟩
set_option maxHeartbeats 400000 in
theorem new_bad (n : Int) (w : World) (hn : n < 1 ∨ 1000 < n) :
    Calls Try.prog 8 #[.int .i64 n] w fun e w' => e = .returned (.tuple #[.pointer none, .int .i64 2]) ∧ w = w' := by
  by_cases h1 : n < 1
  · go_enter Try.func8, Try.ntmps8
    go_wp2
    go_ret2
    exact ⟨rfl, rfl⟩
  · have h2 : 1000 < n := by omega
    go_enter Try.func8, Try.ntmps8
    go_wp2
    go_ret2
    exact ⟨rfl, rfl⟩
set_option maxHeartbeats 400000 in
theorem at_any (b rb k f n a l m : Nat) (w : World) (hf : HasFeed w b rb k f n a l) (hk : 0 < k) (hk2 : k ≤ 1000) (hm : m < 4294967296) :
    Calls Try.prog 32 #[.pointer (some ⟨b, 0, none⟩), .int .u32 m] w fun e w' => e = .returned (.pointer (some ⟨rb, m % k, none⟩)) ∧ ∃ q, w' = w.drewN q := by
  obtain ⟨rc, c0⟩ := hf.c0
  have h1 : (0 : Int) < (k : Int) := by omega
  have h2 : (0 : Int) ≤ (m : Int) := by omega
  have h3 : (m : Int) % (k : Int) < (k : Int) := Int.emod_lt_of_pos _ (by omega)
  have h4 : 0 ≤ (m : Int) % (k : Int) := Int.emod_nonneg _ (by omega)
  go_enter Try.func32, Try.ntmps32
  go_wp2
  go_quiet (fail)
  go_wp2
  go_ret
  exact ⟨rfl, _, rfl⟩
set_option maxHeartbeats 400000 in
theorem drop_any (b rb k f n a l : Nat) (ring : Array Value) (w : World) (hf : HasFeed w b rb k f n a l) (hr : w.heap[rb]? = some (.cells ring 36 (0, 0))) (hs : k ≤ ring.size) (hne : b ≠ rb) (hk : 0 < k) (hk2 : k ≤ 1000) (hm : f < 4294967295) :
    Calls Try.prog 31 #[.pointer (some ⟨b, 0, none⟩)] w fun e w' => e = .returned (.tuple #[]) ∧ HasFeed w' b rb k (f + 1) n a l ∧ w'.heap[rb]? = some (.cells (ring.setIfInBounds (f % k) (.slice none 0 0)) 36 (0, 0)) ∧ Kept (fun i => i = b ∨ i = rb) w w' := by
  have c1 := hf.c1
  have hj : (w.cell? ⟨rb, f % k, none⟩).isSome = true := by rw [obj_cell hr]; simp; have := Nat.mod_lt f hk; omega
  obtain ⟨v0, hv0⟩ := Option.isSome_iff_exists.1 hj
  have z1 := hf.fz 1
  have z2 := obj_free hr (f % k)
  clear hj
  go_enter Try.func31, Try.ntmps31
  go_wp2_with (go_at_call 32; refine (at_any b rb k f n a l f _ hf hk hk2 (by omega)).mono ?_; rintro e w' ⟨rfl, q, rfl⟩)
  go_end0
  have e1 : (f : Int) + 1 = ((f + 1 : Nat) : Int) := by omega
  rw [e1]
  have g1 : HasFeed ((w.drewN q).setCell ⟨rb, f % k, none⟩ (.slice none 0 0)) b rb k f n a l := (hf.drewN q).far _ hne
  have g2 : ((w.drewN q).setCell ⟨rb, f % k, none⟩ (.slice none 0 0)).heap[rb]? = some (.cells (ring.setIfInBounds (f % k) (.slice none 0 0)) 36 (0, 0)) := obj_store (w := w.drewN q) hr _ _
  refine ⟨rfl, ?_, obj_setCell g2 _ (fun e => hne e.symm), ?_⟩
  · exact g1.set1 _
  · exact (((Kept.refl _ w).drewN q).setCell (p := ⟨rb, f % k, none⟩) (fun _ => .inr rfl) _).setCell (p := ⟨b, 1, none⟩) (fun _ => .inl rfl) _
theorem ei36 : SliceOf Try.prog 36 5 1 1 (.int .u8 0) := ⟨Try.underlying36, info_parts (by kernel_rfl), rfl, by decide, by decide⟩
set_option maxHeartbeats 400000 in
theorem clone_nil (w : World) : Calls Try.prog 30 #[.slice none 0 0] w fun e w' => e = .returned (.slice none 0 0) ∧ w = w' := by
  have he := fun w a n c => Lib.run_eql_slice_nil (P := Try.prog) w 36 5 a n c 0 0 Try.underlying36
  go_enter Try.func30, Try.ntmps30
  go_wp2
  go_ret
  exact ⟨rfl, rfl⟩
set_option maxHeartbeats 400000 in
theorem clone_some (w : World) (B : Nat → Prop) (a : Addr) (n cap : Nat) (xs : List UInt8) (hx : Rd w B 1 (.slice (some a) n cap) n (bts xs)) (hn : n ≤ 65535) :
    Calls Try.prog 30 #[.slice (some a) n cap] w fun e w' => ∃ v, e = .returned v ∧ w'.ownsRow w.heap.size 5 1 v n (bts xs) ∧ Kept No w w' := by
  have he := fun w a n c => Lib.run_eql_slice_nil (P := Try.prog) w 36 5 a n c 0 0 Try.underlying36
  have hown0 := World.ownsRow_made (base := w.heap.size) (e := 5) (size := 1) w #[] 0 (Nat.le_refl _) (by simp [maxLen]) (by simp)
  have hx2 := hx.alloc (.cells #[] 5)
  have hb : (0 + n) * 1 ≤ 140737488355328 := by omega
  have hbs : w.heap.size ≤ (w.alloc (.cells #[] 5)).heap.size := by simp
  go_enter Try.func30, Try.ntmps30
  go_wp2_with (at_builtin; refine wpList_append_rd rfl rfl rfl rfl ei36 hown0 hx2 (bts_one xs) hb hbs ?_; intro v1 w1 hown hg _)
  go_ret
  rw [Nat.zero_add, List.nil_append] at hown
  exact ⟨v1, rfl, hown, (((Kept.refl No w).alloc _).grown hg (fun k e h => by cases e; exact absurd h (Nat.lt_irrefl _)))⟩
/-- 'slices.Clone' of bytes. -/
theorem clone_any (w : World) (B : Nat → Prop) (v : Value) (n : Nat) (xs : List UInt8) (hx : Rd w B 1 v n (bts xs)) (hn : n ≤ 65535) :
    Calls Try.prog 30 #[v] w fun e w' => ∃ v', e = .returned v' ∧ w'.ownsRow w.heap.size 5 1 v' n (bts xs) ∧ Kept No w w' := by
  have hx' := hx
  obtain ⟨hl, hm, hv⟩ := hx
  rcases hv with ⟨hv, hm0⟩ | ⟨b, off, cap, hv, hc, hb, hcell⟩
  · subst hm0
    rcases hv with hv | ⟨a, hv⟩
    · subst hv
      have hnews : bts xs = [] := List.eq_nil_of_length_eq_zero (by rw [hl])
      refine (clone_nil w).mono fun e w' ⟨he, hw⟩ => ?_
      subst hw
      rw [hnews]
      exact ⟨_, he, World.ownsRow_nil _ _ _ _, Kept.refl _ _⟩
    · subst hv
      exact clone_some w B a 0 0 xs hx' hn
  · subst hv
    exact clone_some w B ⟨b, off, none⟩ n cap xs hx' hn

theorem ei59 : SliceOf Try.prog 59 36 1 24 (.slice none 0 0) := ⟨Try.underlying59, info_parts (by kernel_rfl), rfl, by decide, by decide⟩
/-- A ring: room for so many events, and slices in it. -/
def RingOk (k : Nat) (ring : Array Value) : Prop := k ≤ ring.size ∧ ∀ j v, j < k → ring[j]? = some v → v.oneCell' = true
theorem RingOk.set {k : Nat} {ring : Array Value} (h : RingOk k ring) (i : Nat) (u : Value) (hu : u.oneCell' = true) : RingOk k (ring.setIfInBounds i u) := by
  refine ⟨by simpa using h.1, fun j v hj hv => ?_⟩
  rw [Array.getElem?_setIfInBounds] at hv
  split at hv
  · split at hv
    · cases hv; exact hu
    · cases hv
  · exact h.2 j v hj hv
/-- A feed: its cells, its ring, and what the events that are kept hold. -/
structure IsFeed (w : World) (b rb k f n a l : Nat) (dat : Nat → List UInt8) : Prop where
  hf : HasFeed w b rb k f n a l
  ring : ∃ ring, w.heap[rb]? = some (.cells ring 36 (0, 0)) ∧ RingOk k ring ∧ ∀ m, f ≤ m → m < n → ∃ v, ring[m % k]? = some v ∧ Rd w (fun i => i ≠ b ∧ i ≠ rb) 1 v (dat m).length (bts (dat m))
  ne : b ≠ rb
  k1 : 1 ≤ k
  k2 : k ≤ 1000
  f1 : 1 ≤ f
  fn : f ≤ n
  nk : n ≤ f + k
  n2 : n < 4294967295
  af : a < n
  ln : l ≤ n
  dl : ∀ m, f ≤ m → m < n → (dat m).length ≤ 65535
def Bk (b rb : Nat) : Nat → Prop := fun i => i = b ∨ i = rb

theorem IsFeed.kept {S : Nat → Prop} {w w' : World} {b rb k f n a l : Nat} {dat : Nat → List UInt8} (h : IsFeed w b rb k f n a l dat) (hk : Kept S w w') (hb : ∀ i, i < w.heap.size → ¬ S i) : IsFeed w' b rb k f n a l dat := by
  obtain ⟨hf, ⟨ring, h1, h2, h3⟩, r⟩ := h
  refine ⟨hf.keep hk (hb _ hf.lt), ⟨ring, hk.obj h1 (hb _ (obj_lt h1)), h2, fun m hm hn => ?_⟩, by assumption, by assumption, by assumption, by assumption, by assumption, by assumption, by assumption, by assumption, by assumption, by assumption⟩
  obtain ⟨v, hv, hr⟩ := h3 m hm hn
  exact ⟨v, hv, hr.kept hk fun i hi _ => hb i hi⟩
theorem IsFeed.drewN {w : World} {b rb k f n a l : Nat} {dat : Nat → List UInt8} (h : IsFeed w b rb k f n a l dat) (q : Nat) : IsFeed (w.drewN q) b rb k f n a l dat := h.kept ((Kept.refl No w).drewN q) (fun _ _ => not_no _)
theorem IsFeed.lt {w : World} {b rb k f n a l : Nat} {dat : Nat → List UInt8} (h : IsFeed w b rb k f n a l dat) : b < w.heap.size ∧ rb < w.heap.size := by
  obtain ⟨hf, ⟨ring, h1, h2, h3⟩, r⟩ := h
  exact ⟨hf.lt, obj_lt h1⟩
theorem IsFeed.congr {w : World} {b rb k f n a l : Nat} {dat dat' : Nat → List UInt8} (h : IsFeed w b rb k f n a l dat) (hd : ∀ m, f ≤ m → m < n → dat m = dat' m) : IsFeed w b rb k f n a l dat' := by
  obtain ⟨hf, ⟨ring, h1, h2, h3⟩, r1, r2, r3, r4, r5, r6, r7, r8, r9, r10⟩ := h
  refine ⟨hf, ⟨ring, h1, h2, fun m hm hn => ?_⟩, r1, r2, r3, r4, r5, r6, r7, r8, r9, fun m hm hn => by rw [← hd m hm hn]; exact r10 m hm hn⟩
  rw [← hd m hm hn]
  exact h3 m hm hn
def NewPost (k : Nat) (w : World) (e : Ending) (w' : World) : Prop :=
  ∃ b rb, e = .returned (.tuple #[.pointer (some ⟨b, 0, none⟩), .int .i64 0]) ∧ IsFeed w' b rb k 1 1 0 0 (fun _ => []) ∧ w.heap.size ≤ rb ∧ rb < b ∧ Kept No w w'
set_option maxHeartbeats 400000 in
theorem new_ok (k : Nat) (w : World) (hk : 1 ≤ k) (hk2 : k ≤ 1000) : Calls Try.prog 8 #[.int .i64 k] w (NewPost k w) := by
  have hk3 : ¬ (k : Int) < 1 := by omega
  have hk4 : ¬ 1000 < (k : Int) := by omega
  obtain ⟨i, hi, hz0, hz1, hz2⟩ := ei59.hi
  have hb2 : i.bytes * k ≤ 281474976710656 := by rw [hz2]; omega
  have HZ := Lib.hid hz2
  clear hz2
  go_enter Try.func8, Try.ntmps8
  go_wp2_with (at_make; refine wpList_make_full _ rfl _ _ 59 rfl w.heap.size 36 i (.slice none 0 0) 1 Try.underlying59 hi hz0 hz1 _ _ _ _ k rfl rfl rfl rfl hb2 (by unfold maxLen; omega) (Nat.le_refl _) ?_; intro w1 hown hg)
  go_ret2
  obtain ⟨h1, h2⟩ := hown
  rcases h2 with ⟨h2, h3⟩ | ⟨g, cap, cur, hv, hg2, hh, hnc, hcm, hcs, hx⟩
  · omega
  · simp only [Value.slice.injEq, Option.some.injEq, Addr.mk.injEq] at hv
    obtain ⟨⟨rfl, _, _⟩, _, rfl⟩ := hv
    have hlt := obj_lt hh
    exact ⟨w1.heap.size, w.heap.size, rfl, ⟨⟨k, Nat.le_refl _, heap_alloc_new w1 _⟩, ⟨cur, obj_alloc hh _, ⟨by omega, fun j v hj hv => by
      have e1 : (madeCells (Value.slice none 0 0).cells (k * 1)).toList = List.replicate (k * 1) (Value.slice none 0 0) := toList_madeCells_one _ _
      rw [e1] at hx
      have e2 : (List.replicate (k * 1) (Value.slice none 0 0))[j]? = some v := by
        rw [← hx, List.getElem?_take, if_pos (by omega), Array.getElem?_toList]
        exact hv
      rw [List.getElem?_replicate, if_pos (by omega)] at e2
      cases e2
      rfl⟩, fun m h1 h2 => by omega⟩, by omega, hk, hk2, by omega, by omega, by omega, by omega, by omega, by omega, fun m h1 h2 => by omega⟩, Nat.le_refl _, hlt,
      ((Kept.refl No w).grown hg (fun k h => by cases h)).alloc _⟩
end Go.Proofs.Ytkdienebinnopaa
