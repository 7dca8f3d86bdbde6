/-
  The walks through Add, Ack, Range, Acked, Lost and Copy of package feed.
-/
import Derived.Test.YtkdienebinnopaaWalkA
namespace Go.Proofs.Ytkdienebinnopaa
open Go.RowKit Go.Zn

theorem mod_ne {m n k : Nat} (h1 : m < n) (h2 : n < m + k) : m % k ≠ n % k := by
  intro h
  have e1 := Nat.div_add_mod m k
  have e2 := Nat.div_add_mod n k
  rw [h] at e1
  have h3 : k * (m / k) < k * (n / k) := by omega
  have h4 : m / k < n / k := Nat.lt_of_mul_lt_mul_left h3
  have h5 : k * (m / k + 1) ≤ k * (n / k) := Nat.mul_le_mul_left k h4
  rw [Nat.mul_add, Nat.mul_one] at h5
  omega
def upd (dat : Nat → List UInt8) (n : Nat) (bs : List UInt8) : Nat → List UInt8 := fun m => if m = n then bs else dat m

theorem IsFeed.full {w : World} {b rb k f n a l : Nat} {dat : Nat → List UInt8} (h : IsFeed w b rb k f n a l dat) :
    ∃ ring : Array Value, w.heap[rb]? = some (.cells ring 36 (0, 0)) ∧ k ≤ ring.size := by
  obtain ⟨hf, ⟨ring, h1, h2, h3⟩, r⟩ := h
  exact ⟨ring, h1, h2.1⟩

/-- The data of the events that are kept lie among Q. -/
def Rg (w : World) (rb k f n : Nat) (dat : Nat → List UInt8) (Q : Nat → Prop) : Prop :=
  ∃ ring, w.heap[rb]? = some (.cells ring 36 (0, 0)) ∧ ∀ m, f ≤ m → m < n → ∃ v, ring[m % k]? = some v ∧ Rd w Q 1 v (dat m).length (bts (dat m))
theorem IsFeed.rg {w : World} {b rb k f n a l : Nat} {dat : Nat → List UInt8} (h : IsFeed w b rb k f n a l dat) : Rg w rb k f n dat (fun i => i ≠ b ∧ i ≠ rb ∧ i < w.heap.size) := by
  obtain ⟨hf, ⟨ring, h1, h2, h3⟩, r⟩ := h
  refine ⟨ring, h1, fun m hm hn => ?_⟩
  obtain ⟨v, hv, hr⟩ := h3 m hm hn
  exact ⟨v, hv, hr.mono fun i hi hb => ⟨hb.1, hb.2, hi⟩⟩
theorem Rg.kept {S Q : Nat → Prop} {w w' : World} {rb k f n : Nat} {dat : Nat → List UInt8} (h : Rg w rb k f n dat Q) (hk : Kept S w w') (hr : ¬ S rb) (hQ : ∀ i, i < w.heap.size → Q i → ¬ S i) : Rg w' rb k f n dat Q := by
  obtain ⟨ring, h1, h3⟩ := h
  refine ⟨ring, hk.obj h1 hr, fun m hm hn => ?_⟩
  obtain ⟨v, hv, hr⟩ := h3 m hm hn
  exact ⟨v, hv, hr.kept hk hQ⟩
theorem Rg.mono {Q R : Nat → Prop} {w : World} {rb k f n : Nat} {dat : Nat → List UInt8} (h : Rg w rb k f n dat Q) (hQ : ∀ i, i < w.heap.size → Q i → R i) : Rg w rb k f n dat R := by
  obtain ⟨ring, h1, h3⟩ := h
  refine ⟨ring, h1, fun m hm hn => ?_⟩
  obtain ⟨v, hv, hr⟩ := h3 m hm hn
  exact ⟨v, hv, hr.mono hQ⟩
theorem Rg.set {Q : Nat → Prop} {w : World} {b rb k f n : Nat} {dat : Nat → List UInt8} (h : Rg w rb k f n dat Q) (hb : b ≠ rb) (hQ : ∀ i, Q i → i ≠ b ∧ i ≠ rb) (j : Nat) (u : Value) : Rg (w.setCell ⟨b, j, none⟩ u) rb k f n dat Q := by
  obtain ⟨ring, h1, h3⟩ := h
  refine ⟨ring, obj_setCell h1 _ hb.symm, fun m hm hn => ?_⟩
  obtain ⟨v, hv, hr⟩ := h3 m hm hn
  exact ⟨v, hv, hr.kept (S := Bk b rb) ((Kept.refl _ w).setCell (p := ⟨b, j, none⟩) (fun _ => .inl rfl) _) (fun i hi hq hc => by rcases hc with rfl | rfl; exact (hQ _ hq).1 rfl; exact (hQ _ hq).2 rfl)⟩
/-- a feed stays where its blocks and the blocks of its data are not touched -/
theorem IsFeed.with {S Q : Nat → Prop} {w w' : World} {b rb k f n a l : Nat} {dat : Nat → List UInt8} (h : IsFeed w b rb k f n a l dat) (g : Rg w rb k f n dat Q) (hk : Kept S w w') (hb : ¬ S b) (hrb : ¬ S rb) (hQ : ∀ i, i < w.heap.size → Q i → ¬ S i) : IsFeed w' b rb k f n a l dat := by
  obtain ⟨hf, ⟨ring, h1, h2, h3⟩, r1, r2, r3, r4, r5, r6, r7, r8, r9, r10⟩ := h
  obtain ⟨ring', g1, g3⟩ := g
  rw [h1] at g1
  obtain rfl : ring = ring' := by cases g1; rfl
  refine ⟨hf.keep hk hb, ⟨ring, hk.obj h1 hrb, h2, fun m hm hn => ?_⟩, r1, r2, r3, r4, r5, r6, r7, r8, r9, r10⟩
  obtain ⟨v, hv, hr⟩ := h3 m hm hn
  obtain ⟨v', hv', hr'⟩ := g3 m hm hn
  rw [hv] at hv'
  obtain rfl : v = v' := by cases hv'; rfl
  exact ⟨v, hv, (hr.both hr').kept hk (fun i hi hq => hQ i hi hq.2) |>.mono fun i _ hq => hq.1⟩

/-- 'drop', of a whole feed. -/
def DropPost (b rb k f n a l : Nat) (dat : Nat → List UInt8) (w : World) (e : Ending) (w' : World) : Prop :=
  e = .returned (.tuple #[]) ∧ IsFeed w' b rb k (f + 1) n a l dat ∧ Kept (Bk b rb) w w'
def DropPostQ (b rb k f n a l : Nat) (dat : Nat → List UInt8) (w : World) (e : Ending) (w' : World) : Prop :=
  DropPost b rb k f n a l dat w e w' ∧ ∀ Q : Nat → Prop, (∀ i, Q i → i ≠ b ∧ i ≠ rb) → Rg w rb k f n dat Q → Rg w' rb k (f + 1) n dat Q
theorem drop_feedQ {w : World} {b rb k f n a l : Nat} {dat : Nat → List UInt8} (h : IsFeed w b rb k f n a l dat) (hlt : f < n) :
    Calls Try.prog 31 #[.pointer (some ⟨b, 0, none⟩)] w (DropPostQ b rb k f n a l dat w) := by
  obtain ⟨hf, ⟨ring, h1, h2, h3⟩, r1, r2, r3, r4, r5, r6, r7, r8, r9, r10⟩ := h
  refine (drop_any b rb k f n a l ring w hf h1 h2.1 r1 r2 r3 (by omega)).mono ?_
  rintro e w' ⟨he, g1, g2, g3⟩
  refine ⟨⟨he, ⟨g1, ⟨_, g2, h2.set _ _ rfl, fun m hm hn => ?_⟩, r1, r2, r3, by omega, by omega, by omega, r7, by omega, r9, fun m hm hn => r10 m (by omega) hn⟩, g3⟩, fun Q hQ g => ?_⟩
  · obtain ⟨v, hv, hr⟩ := h3 m (by omega) hn
    refine ⟨v, ?_, hr.kept g3 (fun i hi hb hc => ?_)⟩
    · rw [Array.getElem?_setIfInBounds_ne (mod_ne (by omega) (by omega))]
      exact hv
    · rcases hc with rfl | rfl
      · exact hb.1 rfl
      · exact hb.2 rfl
  · obtain ⟨ring', q1, q3⟩ := g
    rw [h1] at q1
    obtain rfl : ring = ring' := by cases q1; rfl
    refine ⟨_, g2, fun m hm hn => ?_⟩
    obtain ⟨v, hv, hr⟩ := q3 m (by omega) hn
    refine ⟨v, ?_, hr.kept g3 (fun i hi hq hc => ?_)⟩
    · rw [Array.getElem?_setIfInBounds_ne (mod_ne (by omega) (by omega))]
      exact hv
    · rcases hc with rfl | rfl
      · exact (hQ _ hq).1 rfl
      · exact (hQ _ hq).2 rfl
theorem drop_feed {w : World} {b rb k f n a l : Nat} {dat : Nat → List UInt8} (h : IsFeed w b rb k f n a l dat) (hlt : f < n) :
    Calls Try.prog 31 #[.pointer (some ⟨b, 0, none⟩)] w (DropPost b rb k f n a l dat w) := (drop_feedQ h hlt).mono fun _ _ h => h.1

def AddPost (b rb k f n a l : Nat) (dat : Nat → List UInt8) (w : World) (e : Ending) (w' : World) : Prop :=
  e = .returned (.tuple #[.int .u32 n, .int .i64 0]) ∧ IsFeed w' b rb k f (n + 1) a l dat ∧ Kept (Bk b rb) w w'
def AddPostQ (b rb k f0 f n a l : Nat) (dat0 dat : Nat → List UInt8) (w : World) (e : Ending) (w' : World) : Prop :=
  AddPost b rb k f n a l dat w e w' ∧ ∀ Q : Nat → Prop, (∀ i, Q i → i ≠ b ∧ i ≠ rb) → Rg w rb k f0 n dat0 Q → Rg w' rb k f (n + 1) dat (fun i => Q i ∨ w.heap.size ≤ i)
theorem add_closeQ {w1 : World} {b rb k f n a l base : Nat} {dat : Nat → List UInt8} {Q : Nat → Prop} (h : IsFeed w1 b rb k f n a l dat) (g : Rg w1 rb k f n dat Q) (hQ : ∀ i, Q i → i ≠ b ∧ i ≠ rb) (hroom : n < f + k) {ad : Option Addr} {cap q : Nat} {bs : List UInt8}
    (ho : w1.ownsRow base 5 1 (.slice ad q cap) q (bts bs)) (hb : b < base) (hrb : rb < base) (hq : bs.length = q) :
    Rg ((w1.setCell ⟨rb, n % k, none⟩ (.slice ad q cap)).setCell ⟨b, 2, none⟩ (.int .u32 ((n : Int) + 1))) rb k f (n + 1) (upd dat n bs) (fun i => Q i ∨ base ≤ i) := by
  obtain ⟨hf, ⟨ring', h1, h2, h3⟩, r1, r2, r3, r4, r5, r6, r7, r8, r9, r10⟩ := h
  obtain ⟨ring, g1, g3⟩ := g
  rw [g1] at h1
  obtain rfl : ring = ring' := by cases h1; rfl
  have hk : Kept (Bk b rb) w1 ((w1.setCell ⟨rb, n % k, none⟩ (.slice ad q cap)).setCell ⟨b, 2, none⟩ (.int .u32 ((n : Int) + 1))) :=
    (((Kept.refl _ w1).setCell (p := ⟨rb, n % k, none⟩) (fun _ => .inr rfl) _).setCell (p := ⟨b, 2, none⟩) (fun _ => .inl rfl) _)
  refine ⟨ring.setIfInBounds (n % k) (.slice ad q cap), obj_setCell (obj_store g1 _ _) _ (fun e => r1 e.symm), fun m hm hn => ?_⟩
  by_cases e : m = n
  · subst e
    refine ⟨.slice ad q cap, ?_, ?_⟩
    · rw [Array.getElem?_setIfInBounds_self_of_lt (by have := h2.1; have := Nat.mod_lt m (show 0 < k by omega); omega)]
    · have e2 : upd dat m bs m = bs := by simp [upd]
      rw [e2, hq]
      exact ((rd_owned ho).kept hk (fun i hi hb hc => by rcases hc with rfl | rfl <;> omega)).mono fun i _ hi => .inr hi
  · obtain ⟨v, hv, hr⟩ := g3 m hm (by omega)
    have e2 : upd dat n bs m = dat m := by simp [upd, e]
    rw [e2]
    refine ⟨v, ?_, (hr.kept hk (fun i hi hq9 hc => by rcases hc with rfl | rfl; exact (hQ _ hq9).1 rfl; exact (hQ _ hq9).2 rfl)).mono fun i _ hi => .inl hi⟩
    rw [Array.getElem?_setIfInBounds_ne (fun h => mod_ne (m := m) (n := n) (k := k) (by omega) (by omega) h.symm)]
    exact hv
theorem add_close {w1 : World} {b rb k f n a l base : Nat} {dat : Nat → List UInt8} (h : IsFeed w1 b rb k f n a l dat) (hroom : n < f + k) (hn2 : n + 1 < 4294967295) {ad : Option Addr} {cap q : Nat} {bs : List UInt8}
    (ho : w1.ownsRow base 5 1 (.slice ad q cap) q (bts bs)) (hb : b < base) (hrb : rb < base) (hq : bs.length = q) (hlen : q ≤ 65535) :
    IsFeed ((w1.setCell ⟨rb, n % k, none⟩ (.slice ad q cap)).setCell ⟨b, 2, none⟩ (.int .u32 ((n : Int) + 1))) b rb k f (n + 1) a l (upd dat n bs) := by
  obtain ⟨hf, ⟨ring, h1, h2, h3⟩, r1, r2, r3, r4, r5, r6, r7, r8, r9, r10⟩ := h
  have hk : Kept (Bk b rb) w1 ((w1.setCell ⟨rb, n % k, none⟩ (.slice ad q cap)).setCell ⟨b, 2, none⟩ (.int .u32 ((n : Int) + 1))) :=
    (((Kept.refl _ w1).setCell (p := ⟨rb, n % k, none⟩) (fun _ => .inr rfl) _).setCell (p := ⟨b, 2, none⟩) (fun _ => .inl rfl) _)
  refine ⟨?_, ⟨ring.setIfInBounds (n % k) (.slice ad q cap), obj_setCell (obj_store h1 _ _) _ (fun e => r1 e.symm), h2.set _ _ rfl, fun m hm hn => ?_⟩, r1, r2, r3, r4, by omega, by omega, hn2, by omega, by omega, fun m hm hn => ?_⟩
  · have e1 : (n : Int) + 1 = ((n + 1 : Nat) : Int) := by omega
    rw [e1]
    exact (hf.far _ r1).set2 _
  · by_cases e : m = n
    · subst e
      refine ⟨.slice ad q cap, ?_, ?_⟩
      · rw [Array.getElem?_setIfInBounds_self_of_lt (by have := h2.1; have := Nat.mod_lt m (show 0 < k by omega); omega)]
      · have e2 : upd dat m bs m = bs := by simp [upd]
        rw [e2, hq]
        exact ((rd_owned ho).mono fun i _ hi => ⟨by omega, by omega⟩).kept hk (fun i hi hb hc => by rcases hc with rfl | rfl; exact hb.1 rfl; exact hb.2 rfl)
    · obtain ⟨v, hv, hr⟩ := h3 m hm (by omega)
      have e2 : upd dat n bs m = dat m := by simp [upd, e]
      rw [e2]
      refine ⟨v, ?_, hr.kept hk (fun i hi hb hc => by rcases hc with rfl | rfl; exact hb.1 rfl; exact hb.2 rfl)⟩
      rw [Array.getElem?_setIfInBounds_ne (fun h => mod_ne (m := m) (n := n) (k := k) (by omega) (by omega) h.symm)]
      exact hv
  · by_cases e : m = n
    · subst e; simp [upd, hq]; exact hlen
    · have e2 : upd dat n bs m = dat m := by simp [upd, e]
      rw [e2]; exact r10 m hm (by omega)
set_option maxHeartbeats 400000 in
theorem add_roomQ (b rb k f n a l : Nat) (dat : Nat → List UInt8) (w : World) (h : IsFeed w b rb k f n a l dat) (hroom : n < f + k) (hn2 : n + 1 < 4294967295) (B : Nat → Prop) (v : Value) (bs : List UInt8) (q : Nat) (hq : bs.length = q) (hv : Rd w B 1 v q (bts bs)) (hv2 : ∃ ad cap, v = .slice ad q cap) (hlen : q ≤ 65535) :
    Calls Try.prog 16 #[.pointer (some ⟨b, 0, none⟩), v] w (AddPostQ b rb k f f n a l dat (upd dat n bs) w) := by
  obtain ⟨ad, cap, rfl⟩ := hv2
  have H := Lib.hid h
  have hf := h.hf
  have k1 := h.k1
  have k2 := h.k2
  have fn : (f : Int) ≤ (n : Int) := by have := h.fn; omega
  have f1 : (1 : Int) ≤ (f : Int) := by have := h.f1; omega
  have n2 : (n : Int) < 4294967295 := by have := h.n2; omega
  have hne : ((n : Int) - (f : Int) == (k : Int)) = false := by rw [beq_eq_false_iff_ne]; omega
  have hq1 : decide ((65535 : Int) < (q : Int)) = false := by simp; omega
  have hq2 : (0 : Int) ≤ (q : Int) := by omega
  obtain ⟨rc, c0⟩ := hf.c0
  have c1 := hf.c1
  have c2 := hf.c2
  have z2 := hf.fz 2
  have HV := Lib.hid hv
  have HQ := Lib.hid hq
  clear h hv hq
  go_enter Try.func16, Try.ntmps16
  go_wp2_with (go_at_call 28; refine (zero_no b n _ c2 (by omega)).mono ?_; rintro e w' ⟨rfl, rfl⟩)
  go_quiet (fail)
  go_wp2_with (go_at_call 32; refine (at_any b rb k f n a l n _ (hf.drewN _) (by omega) k2 (by omega)).mono ?_; rintro e w' ⟨rfl, q2, rfl⟩)
  refine (clone_any _ B _ q bs (HV.out.drewN _) hlen).mono ?_
  rintro e w1 ⟨v1, rfl, hown, hkk⟩
  obtain ⟨ad1, cap1, rfl⟩ := owned_slice hown
  have hkk := hkk.of_drewN
  have hf1 : HasFeed w1 b rb k f n a l := hf.keep hkk (not_no _)
  obtain ⟨ring, hr0, hrs⟩ := H.out.full
  have hr1 := hkk.obj hr0 (not_no _)
  have d2 := hf1.c2
  have y2 := hf1.fz 2
  have y3 := obj_free hr1 (n % k)
  obtain ⟨v0, hv0⟩ : ∃ v0, w1.cell? ⟨rb, n % k, none⟩ = some v0 := by
    rw [obj_cell hr1]
    exact Option.isSome_iff_exists.1 (by simp; have := Nat.mod_lt n (show 0 < k by omega); omega)
  have HK := Lib.hid hkk
  have HO := Lib.hid hown
  have HF := Lib.hid hf1
  have HR := Lib.hid hr1
  have HS := Lib.hid hrs
  clear hkk hown hf1 hr0 hr1 hrs c0 c1 c2 z2 hf hne hq1
  have hbr := H.out.ne
  go_wp2
  go_ret2
  have hb := H.out.lt
  exact ⟨⟨rfl, add_close (H.out.kept HK.out (fun _ _ => not_no _)) hroom hn2 HO.out hb.1 hb.2 HQ.out hlen, ((HK.out.any).setCell (p := ⟨rb, n % k, none⟩) (fun _ => .inr rfl) _).setCell (p := ⟨b, 2, none⟩) (fun _ => .inl rfl) _⟩,
    fun Q hQ g => add_closeQ (H.out.kept HK.out (fun _ _ => not_no _)) (g.kept HK.out (not_no _) (fun _ _ _ => not_no _)) hQ hroom HO.out hb.1 hb.2 HQ.out⟩
theorem add_room (b rb k f n a l : Nat) (dat : Nat → List UInt8) (w : World) (h : IsFeed w b rb k f n a l dat) (hroom : n < f + k) (hn2 : n + 1 < 4294967295) (B : Nat → Prop) (v : Value) (bs : List UInt8) (q : Nat) (hq : bs.length = q) (hv : Rd w B 1 v q (bts bs)) (hv2 : ∃ ad cap, v = .slice ad q cap) (hlen : q ≤ 65535) :
    Calls Try.prog 16 #[.pointer (some ⟨b, 0, none⟩), v] w (AddPost b rb k f n a l (upd dat n bs) w) := (add_roomQ b rb k f n a l dat w h hroom hn2 B v bs q hq hv hv2 hlen).mono fun _ _ h => h.1

theorem lost_store {w : World} {b rb k f n a l : Nat} {dat : Nat → List UInt8} (h : IsFeed w b rb k f n a l dat) (hl : l + 1 ≤ n) : IsFeed (w.setCell ⟨b, 4, none⟩ (.int .u32 ((l : Int) + 1))) b rb k f n a (l + 1) dat := by
  have h' := h
  obtain ⟨hf, ⟨ring, h1, h2, h3⟩, r1, r2, r3, r4, r5, r6, r7, r8, r9, r10⟩ := h
  refine ⟨?_, ⟨ring, obj_setCell h1 _ (fun e => r1 e.symm), h2, fun m hm hn => ?_⟩, r1, r2, r3, r4, r5, r6, r7, r8, hl, r10⟩
  · have e1 : (l : Int) + 1 = ((l + 1 : Nat) : Int) := by omega
    rw [e1]
    exact hf.set4 _
  · obtain ⟨v, hv, hr⟩ := h3 m hm hn
    exact ⟨v, hv, hr.kept (S := Bk b rb) ((Kept.refl _ w).setCell (p := ⟨b, 4, none⟩) (fun _ => .inl rfl) _) (fun i hi hb hc => by rcases hc with rfl | rfl; exact hb.1 rfl; exact hb.2 rfl)⟩
set_option maxHeartbeats 400000 in
theorem add_fullQ (b rb k f n a l : Nat) (dat : Nat → List UInt8) (w : World) (h : IsFeed w b rb k f n a l dat) (hfull : n = f + k) (hl : l + 1 ≤ n) (hn2 : n + 1 < 4294967295) (B : Nat → Prop) (hB : ∀ i, B i → i ≠ b ∧ i ≠ rb) (v : Value) (bs : List UInt8) (q : Nat) (hq : bs.length = q) (hv : Rd w B 1 v q (bts bs)) (hv2 : ∃ ad cap, v = .slice ad q cap) (hlen : q ≤ 65535) :
    Calls Try.prog 16 #[.pointer (some ⟨b, 0, none⟩), v] w (AddPostQ b rb k f (f + 1) n a (l + 1) dat (upd dat n bs) w) := by
  obtain ⟨ad, cap, rfl⟩ := hv2
  have H := Lib.hid h
  have hf := h.hf
  have k1 := h.k1
  have k2 := h.k2
  have hbr := h.ne
  have fn : (f : Int) ≤ (n : Int) := by have := h.fn; omega
  have f1 : (1 : Int) ≤ (f : Int) := by have := h.f1; omega
  have n2 : (n : Int) < 4294967295 := by have := h.n2; omega
  have hne : ((n : Int) - (f : Int) == (k : Int)) = true := by rw [beq_iff_eq]; omega
  have hq1 : decide ((65535 : Int) < (q : Int)) = false := by simp; omega
  have hq2 : (0 : Int) ≤ (q : Int) := by omega
  have l0 : (l : Int) + 1 ≤ (n : Int) := by omega
  have hfn : f < n := by omega
  obtain ⟨rc, c0⟩ := hf.c0
  have c1 := hf.c1
  have c2 := hf.c2
  have HV := Lib.hid hv
  have HQ := Lib.hid hq
  have HB := Lib.hid hB
  have HFU := Lib.hid hfull
  clear h hv hq hfull hB
  go_enter Try.func16, Try.ntmps16
  go_wp2_with (go_at_call 28; refine (zero_no b n _ c2 (by omega)).mono ?_; rintro e w' ⟨rfl, rfl⟩)
  go_quiet (fail)
  go_wp2_with fail
  refine (drop_feedQ (H.out.drewN nq) hfn).mono ?_
  rintro e w1 ⟨⟨rfl, hd, hkd⟩, hrg⟩
  have hrg2 : ∀ Q : Nat → Prop, (∀ i, Q i → i ≠ b ∧ i ≠ rb) → Rg w rb k f n dat Q → Rg (w1.setCell ⟨b, 4, none⟩ (.int .u32 ((l : Int) + 1))) rb k (f + 1) n dat Q := fun Q hQ g => (hrg Q hQ (g.kept ((Kept.refl No w).drewN nq) (not_no _) (fun _ _ _ => not_no _))).set hbr hQ 4 _
  have HRG := Lib.hid hrg2
  clear hrg hrg2
  have hl1 : w1.cell? ⟨b, 4, none⟩ = some (.int .u32 (l : Int)) := hd.hf.c4
  have y4 := hd.hf.fz 4
  have hl2 := lost_store hd hl
  have hkd2 : Kept (Bk b rb) w (w1.setCell ⟨b, 4, none⟩ (.int .u32 ((l : Int) + 1))) := hkd.of_drewN.setCell (p := ⟨b, 4, none⟩) (fun _ => .inl rfl) _
  have cc2 : (w1.setCell ⟨b, 4, none⟩ (.int .u32 ((l : Int) + 1))).cell? ⟨b, 2, none⟩ = some (.int .u32 (n : Int)) := hl2.hf.c2
  have HD2 := Lib.hid hl2
  have HK2 := Lib.hid hkd2
  clear hd hkd hne c0 c1 c2 hf hl2 hkd2
  go_wp2_with fail
  obtain ⟨w2, hw2⟩ : ∃ w2, w1.setCell ⟨b, 4, none⟩ (.int .u32 ((l : Int) + 1)) = w2 := ⟨_, rfl⟩
  rw [hw2] at HD2 HK2 HRG ⊢
  clear cc2 hl1 y4 hw2
  refine (at_any b rb k (f + 1) n a (l + 1) n w2 HD2.out.hf (by omega) k2 (by omega)).mono ?_
  rintro e w' ⟨rfl, q2, rfl⟩
  go_wp2_with fail
  refine (clone_any _ (fun i => i ≠ b ∧ i ≠ rb) _ q bs (((HV.out.mono fun i _ hi => HB.out i hi).kept HK2.out (fun i hi hb hc => by rcases hc with rfl | rfl; exact hb.1 rfl; exact hb.2 rfl)).drewN _) hlen).mono ?_
  rintro e w3 ⟨v3, rfl, hown, hkk⟩
  obtain ⟨ad1, cap1, rfl⟩ := owned_slice hown
  have hkk := hkk.of_drewN
  have hf1 : IsFeed w3 b rb k (f + 1) n a (l + 1) dat := HD2.out.kept hkk (fun _ _ => not_no _)
  obtain ⟨ring, hr1, hrs⟩ := hf1.full
  have d2 := hf1.hf.c2
  have y2 := hf1.hf.fz 2
  have y3 := obj_free hr1 (n % k)
  obtain ⟨v0, hv0⟩ : ∃ v0, w3.cell? ⟨rb, n % k, none⟩ = some v0 := by
    rw [obj_cell hr1]
    exact Option.isSome_iff_exists.1 (by simp; have := Nat.mod_lt n (show 0 < k by omega); omega)
  have HK := Lib.hid hkk
  have HO := Lib.hid hown
  have HF := Lib.hid hf1
  clear hkk hown hf1 hr1 hrs
  go_wp2
  go_ret2
  have hb := HD2.out.lt
  have := HFU.out
  exact ⟨⟨rfl, add_close HF.out (by omega) hn2 HO.out hb.1 hb.2 HQ.out hlen, ((HK2.out.trans HK.out (fun _ _ h => h) (fun _ _ h => h.elim)).setCell (p := ⟨rb, n % k, none⟩) (fun _ => .inr rfl) _).setCell (p := ⟨b, 2, none⟩) (fun _ => .inl rfl) _⟩,
    fun Q hQ g => (add_closeQ HF.out ((HRG.out Q hQ g).kept HK.out (not_no _) (fun _ _ _ => not_no _)) hQ (by omega) HO.out hb.1 hb.2 HQ.out).mono fun i _ h => h.imp_right fun h => Nat.le_trans HK2.out.size h⟩
theorem add_full (b rb k f n a l : Nat) (dat : Nat → List UInt8) (w : World) (h : IsFeed w b rb k f n a l dat) (hfull : n = f + k) (hl : l + 1 ≤ n) (hn2 : n + 1 < 4294967295) (B : Nat → Prop) (hB : ∀ i, B i → i ≠ b ∧ i ≠ rb) (v : Value) (bs : List UInt8) (q : Nat) (hq : bs.length = q) (hv : Rd w B 1 v q (bts bs)) (hv2 : ∃ ad cap, v = .slice ad q cap) (hlen : q ≤ 65535) :
    Calls Try.prog 16 #[.pointer (some ⟨b, 0, none⟩), v] w (AddPost b rb k (f + 1) n a (l + 1) (upd dat n bs) w) := (add_fullQ b rb k f n a l dat w h hfull hl hn2 B hB v bs q hq hv hv2 hlen).mono fun _ _ h => h.1
set_option maxHeartbeats 400000 in
theorem add_long (b rb k f n a l : Nat) (dat : Nat → List UInt8) (w : World) (h : IsFeed w b rb k f n a l dat) (ad : Option Addr) (q cap : Nat) (hlen : 65535 < q) (hq : q ≤ maxLen) :
    Calls Try.prog 16 #[.pointer (some ⟨b, 0, none⟩), .slice ad q cap] w fun e w' => e = .returned (.tuple #[.int .u32 0, .int .i64 5]) ∧ w = w' := by
  have c2 := h.hf.c2
  have fn : 0 < n := by have := h.fn; have := h.f1; omega
  have hq1 : decide ((65535 : Int) < (q : Int)) = true := by simp; omega
  unfold maxLen at hq
  clear h
  go_enter Try.func16, Try.ntmps16
  go_wp2_with (go_at_call 28; refine (zero_no b n _ c2 (by omega)).mono ?_; rintro e w' ⟨rfl, rfl⟩)
  go_ret2
  exact ⟨rfl, rfl⟩
set_option maxHeartbeats 400000 in
theorem add_none (p v : Value) (w : World) (hz : Calls Try.prog 28 #[p] w fun e w' => e = .returned (.bool true) ∧ w = w') :
    Calls Try.prog 16 #[p, v] w fun e w' => e = .returned (.tuple #[.int .u32 0, .int .i64 1]) ∧ w = w' := by
  have HZ := Lib.hid hz
  clear hz
  go_enter Try.func16, Try.ntmps16
  go_wp2_with (go_at_call 28; refine HZ.out.mono ?_; rintro e w' ⟨rfl, rfl⟩)
  go_ret2
  exact ⟨rfl, rfl⟩

/-- Range: the first number and the last, or 0 and the last. -/
def rangeFirst (f n : Nat) : Nat := if f = n then 0 else f
set_option maxHeartbeats 400000 in
theorem range_any (b rb k f n a l : Nat) (dat : Nat → List UInt8) (w : World) (h : IsFeed w b rb k f n a l dat) :
    Calls Try.prog 27 #[.pointer (some ⟨b, 0, none⟩)] w fun e w' => e = .returned (.tuple #[.int .u32 (rangeFirst f n : Nat), .int .u32 ((n : Int) - 1)]) ∧ ∃ q, w' = w.drewN q := by
  have c1 := h.hf.c1
  have c2 := h.hf.c2
  have fn : 0 < n := by have := h.fn; have := h.f1; omega
  have n1 : (1 : Int) ≤ (n : Int) := by omega
  have n2 : (n : Int) < 4294967295 := by have := h.n2; omega
  have f1 : (1 : Int) ≤ (f : Int) := by have := h.f1; omega
  clear h
  by_cases hfn : f = n
  · have he : ((f : Int) == (n : Int)) = true := by rw [beq_iff_eq]; omega
    have hr : rangeFirst f n = 0 := by simp [rangeFirst, hfn]
    rw [hr]
    have HR := Lib.hid hfn
    clear hr hfn
    go_enter Try.func27, Try.ntmps27
    go_wp2_with (go_at_call 28; refine (zero_no b n _ c2 (by omega)).mono ?_; rintro e w' ⟨rfl, rfl⟩)
    go_quiet (fail)
    go_wp2_with fail
    go_quiet (fail)
    go_wp2_with fail
    go_ret2
    exact ⟨rfl, _, World.drewN_drewN _ _ _⟩
  · have he : ((f : Int) == (n : Int)) = false := by rw [beq_eq_false_iff_ne]; omega
    have hr : rangeFirst f n = f := by simp [rangeFirst, hfn]
    rw [hr]
    clear hr hfn
    go_enter Try.func27, Try.ntmps27
    go_wp2_with (go_at_call 28; refine (zero_no b n _ c2 (by omega)).mono ?_; rintro e w' ⟨rfl, rfl⟩)
    go_quiet (fail)
    go_wp2_with fail
    go_quiet (fail)
    go_wp2_with fail
    go_ret2
    exact ⟨rfl, _, World.drewN_drewN _ _ _⟩
theorem range_none (p : Value) (w : World) (hz : Calls Try.prog 28 #[p] w fun e w' => e = .returned (.bool true) ∧ w = w') :
    Calls Try.prog 27 #[p] w fun e w' => e = .returned (.tuple #[.int .u32 0, .int .u32 0]) ∧ w = w' := by
  have HZ := Lib.hid hz
  clear hz
  go_enter Try.func27, Try.ntmps27
  go_wp2_with (go_at_call 28; refine HZ.out.mono ?_; rintro e w' ⟨rfl, rfl⟩)
  go_ret2
  exact ⟨rfl, rfl⟩
theorem acked_any (b n a : Nat) (w : World) (c2 : w.cell? ⟨b, 2, none⟩ = some (.int .u32 (n : Int))) (c3 : w.cell? ⟨b, 3, none⟩ = some (.int .u32 (a : Int))) (hn : 0 < n) :
    Calls Try.prog 18 #[.pointer (some ⟨b, 0, none⟩)] w fun e w' => e = .returned (.int .u32 a) ∧ w = w' := by
  go_enter Try.func18, Try.ntmps18
  go_wp2_with (go_at_call 28; refine (zero_no b n _ c2 (by omega)).mono ?_; rintro e w' ⟨rfl, rfl⟩)
  go_ret
  exact ⟨rfl, rfl⟩
theorem acked_none (p : Value) (w : World) (hz : Calls Try.prog 28 #[p] w fun e w' => e = .returned (.bool true) ∧ w = w') :
    Calls Try.prog 18 #[p] w fun e w' => e = .returned (.int .u32 0) ∧ w = w' := by
  have HZ := Lib.hid hz
  clear hz
  go_enter Try.func18, Try.ntmps18
  go_wp2_with (go_at_call 28; refine HZ.out.mono ?_; rintro e w' ⟨rfl, rfl⟩)
  go_ret
  exact ⟨rfl, rfl⟩
theorem lost_any (b n l : Nat) (w : World) (c2 : w.cell? ⟨b, 2, none⟩ = some (.int .u32 (n : Int))) (c4 : w.cell? ⟨b, 4, none⟩ = some (.int .u32 (l : Int))) (hn : 0 < n) :
    Calls Try.prog 13 #[.pointer (some ⟨b, 0, none⟩)] w fun e w' => e = .returned (.int .u32 l) ∧ w = w' := by
  go_enter Try.func13, Try.ntmps13
  go_wp2_with (go_at_call 28; refine (zero_no b n _ c2 (by omega)).mono ?_; rintro e w' ⟨rfl, rfl⟩)
  go_ret
  exact ⟨rfl, rfl⟩
theorem lost_none (p : Value) (w : World) (hz : Calls Try.prog 28 #[p] w fun e w' => e = .returned (.bool true) ∧ w = w') :
    Calls Try.prog 13 #[p] w fun e w' => e = .returned (.int .u32 0) ∧ w = w' := by
  have HZ := Lib.hid hz
  clear hz
  go_enter Try.func13, Try.ntmps13
  go_wp2_with (go_at_call 28; refine HZ.out.mono ?_; rintro e w' ⟨rfl, rfl⟩)
  go_ret
  exact ⟨rfl, rfl⟩
theorem copy_none (p : Value) (w : World) (hz : Calls Try.prog 28 #[p] w fun e w' => e = .returned (.bool true) ∧ w = w') :
    Calls Try.prog 24 #[p] w fun e w' => e = .returned (.pointer none) ∧ w = w' := by
  have HZ := Lib.hid hz
  clear hz
  go_enter Try.func24, Try.ntmps24
  go_wp2_with (go_at_call 28; refine HZ.out.mono ?_; rintro e w' ⟨rfl, rfl⟩)
  go_ret
  exact ⟨rfl, rfl⟩
end Go.Proofs.Ytkdienebinnopaa
