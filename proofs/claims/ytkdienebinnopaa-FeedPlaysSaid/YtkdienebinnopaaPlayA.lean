/-
  FeedPlays: the contracts, in terms of the feed's state.
-/
import Derived.Test.YtkdienebinnopaaPlayL
import Derived.Test.YtkdienebinnopaaHoldsA
namespace Go.Proofs.Ytkdienebinnopaa
open Go.ChangeShapes Go.WideShapes Go.ChangeAt Go.RowKit Go.Zn Go.Deep

theorem FOk.f1 {w : World} {b rb : Nat} {s : FS} (h : FOk w b rb s) : 1 ≤ s.f ∧ s.f ≤ s.n ∧ s.n ≤ s.f + s.k ∧ 1 ≤ s.k ∧ s.k ≤ 1000 ∧ s.l < s.f ∧ s.a < s.f := ⟨h.1.f1, h.1.fn, h.1.nk, h.1.k1, h.1.k2, h.2.2, h.2.1⟩
/-- the reference's state and the feed's -/
def Twin (s : FS) (k last a lo : Nat) : Prop := s.k = k ∧ s.n = last + 1 ∧ s.a = a ∧ s.l = lo
def RAddF (w : World) (B : Nat → Prop) (k last a lo : Nat) (l : List (Nat × List UInt8)) (e : Ending) (w' : World) : Prop :=
  ∃ v, e = .returned (.tuple #[refV k v (last + 1) a lo, .int .u32 (last + 1 : Nat), .int .i64 0]) ∧ REv w' (fun i => B i ∨ w.heap.size ≤ i) v l ∧ Kept No w w'
theorem radd_fs {w : World} {B C : Nat → Prop} {b rb : Nat} {s : FS} {k last a lo lo' : Nat} (hf : FOk w b rb s) (ht : Twin s k last a lo) (hlast : last ≤ 1000) {kv : Value} (h : REv w B kv (s.from 0)) {dv : Value} {bs : List UInt8} {q : Nat} (hq : bs.length = q) (hd : Rd w C 1 dv q (bts bs)) (hq2 : q ≤ 65535) (hlo : (s.add bs).l = lo') :
    Calls Try.prog 19 #[refV k kv last a lo, dv] w (RAddF w B k last a lo' ((s.add bs).from 0)) := by
  obtain ⟨t1, t2, t3, t4⟩ := ht
  obtain ⟨f1, f2, f3, f4, f5, f6, f7⟩ := hf.f1
  have hl1 : s.n - 1 = last := by omega
  have hlen : (s.from 0).length = s.n - s.f := from_len s
  refine (radd_ok w B C k kv last a lo (s.from 0) h (by omega) (by omega) (by omega) (by omega) (by omega) dv bs q hq hd hq2).mono ?_
  rintro e w' ⟨v, he, hev, hk⟩
  rw [← t1, ← hl1] at hev
  rw [add_from s bs f1 f2 f3 f4] at hev
  rw [← t1, ← t4, add_lost s bs f2 f3, hlo, t1] at he
  exact ⟨v, he, hev, hk⟩
def RAckF (w : World) (B : Nat → Prop) (k last a lo an : Nat) (l : List (Nat × List UInt8)) (e : Ending) (w' : World) : Prop :=
  ∃ v, e = .returned (.tuple #[refV k v last a lo, .int .i64 (an : Nat), .int .i64 0]) ∧ REv w' (fun i => B i ∨ w.heap.size ≤ i) v l ∧ Kept No w w'
theorem rack_fs {w : World} {B : Nat → Prop} {b rb : Nat} {s : FS} {k last a lo x an a' : Nat} (hf : FOk w b rb s) (ht : Twin s k last a lo) (hlast : last ≤ 1000) {kv : Value} (h : REv w B kv (s.from 0)) (hx : x ≤ last) (han : max s.f (x + 1) - s.f = an) (ha' : max s.a x = a') :
    Calls Try.prog 20 #[refV k kv last a lo, .int .u32 x] w (RAckF w B k last a' lo an ((s.ack x).from 0)) := by
  obtain ⟨t1, t2, t3, t4⟩ := ht
  obtain ⟨f1, f2, f3, f4, f5, f6, f7⟩ := hf.f1
  have hlen : (s.from 0).length = s.n - s.f := from_len s
  refine (rack_ok w B k kv last a lo x (s.from 0) h (by omega) hx (by omega) (by omega)).mono ?_
  rintro e w' ⟨v, he, hev, hk⟩
  rw [← t3] at hev he
  rw [ack_from s x f2 f7] at hev
  rw [ack_count s x f2 f7 (by omega), han, ha'] at he
  exact ⟨v, he, hev, hk⟩
theorem rsince_fs {w : World} {B : Nat → Prop} {b rb : Nat} {s : FS} {k last a lo x : Nat} (hf : FOk w b rb s) {kv : Value} (h : REv w B kv (s.from 0)) (hx : x < 4294967296) :
    Calls Try.prog 23 #[refV k kv last a lo, .int .u32 x] w (RSincePost w B (s.from x)) := by
  obtain ⟨f1, f2, f3, f4, f5, f6, f7⟩ := hf.f1
  have hlen : (s.from 0).length = s.n - s.f := from_len s
  have := rsince_any w B k kv last a lo x (s.from 0) h (by omega) hx
  rw [since_from s x f2] at this
  exact this
theorem looks_fs {w : World} {B : Nat → Prop} {b rb : Nat} {s : FS} {k last a lo : Nat} (hf : FOk w b rb s) (ht : Twin s k last a lo) {kv : Value} (h : REv w B kv (s.from 0)) :
    Calls Try.prog 10 #[.pointer (some ⟨b, 0, none⟩), refV k kv last a lo] w fun e w' => e = .returned (.bool true) ∧ Kept No w w' := by
  obtain ⟨t1, t2, t3, t4⟩ := ht
  have := looks_ok (most := k) hf h
  rw [t2, t3, t4] at this
  exact this
/-- a box whose cells are no bytes is none of the data -/
theorem rg_box {w : World} {b rb g : Nat} {s : FS} (h : FOk w b rb s) {cs : Array Value} {t : TypeId} {fz : Nat × Nat} (hg : w.heap[g]? = some (.cells cs t fz)) (hcs : ∀ (j : Nat) (x : Int), cs[j]? ≠ some (.int .u8 x)) :
    Rg w rb s.k s.f s.n s.dat (fun i => i ≠ b ∧ i ≠ rb ∧ i ≠ g ∧ i < w.heap.size) := by
  obtain ⟨ring, h1, h3⟩ := h.1.rg
  refine ⟨ring, h1, fun m hm hn => ?_⟩
  obtain ⟨v, hv, q1, q2, q3⟩ := h3 m hm hn
  refine ⟨v, hv, q1, q2, ?_⟩
  rcases q3 with q3 | ⟨d, off, cap, hv', hc, hb, hx⟩
  · exact .inl q3
  · refine .inr ⟨d, off, cap, hv', hc, fun hp => ?_, hx⟩
    refine ⟨(hb hp).1, (hb hp).2.1, fun e => ?_, (hb hp).2.2⟩
    subst e
    obtain ⟨u, us, hu⟩ : ∃ u us, s.dat m = u :: us := by
      match hd : s.dat m, hp with
      | u :: us, _ => exact ⟨u, us, rfl⟩
      | [], hp => simp [bts] at hp
    have h0 := hx 0 (.int .u8 (u.toNat : Nat)) (by rw [hu]; rfl)
    rw [obj_cell hg] at h0
    exact hcs _ _ h0
end Go.Proofs.Ytkdienebinnopaa
namespace Go.Proofs.Ytkdienebinnopaa.feedPlays
open Go.ChangeShapes Go.WideShapes Go.ChangeAt Go.RowKit Go.Zn Go.Deep
/-- what a round finds and leaves: the feed in b, its ring in rb, the reference in the box g -/
def PlaysI (w : World) (g b rb : Nat) (s : FS) (kv : Value) (k last a lo : Nat) (wr : World) : Prop :=
  Twin s k last a lo ∧ FOk wr b rb s ∧ REv wr (fun i => i ≠ b ∧ i ≠ rb ∧ i ≠ g) kv (s.from 0) ∧ wr.heap[g]? = some (.cells #[.int .i64 (k : Nat), kv, .int .u32 (last : Nat), .int .u32 (a : Nat), .int .u32 (lo : Nat)] 31 (0, 0)) ∧
    g ≠ b ∧ g ≠ rb ∧ w.heap.size ≤ g ∧ w.heap.size ≤ b ∧ w.heap.size ≤ rb ∧ Kept No w wr
def PlaysR (w : World) (g k len : Nat) (p i : Value) (wr : World) : Prop :=
  ∃ (b rb : Nat) (s : FS) (kv : Value) (last a lo j : Nat), p = .pointer (some ⟨b, 0, none⟩) ∧ i = .int .i64 (j : Nat) ∧ j ≤ len ∧ last ≤ j ∧ PlaysI w g b rb s kv k last a lo wr
/-- nothing of it is touched -/
theorem PlaysI.no {w wr w' : World} {g b rb k last a lo : Nat} {s : FS} {kv : Value} (h : PlaysI w g b rb s kv k last a lo wr) (hk : Kept No wr w') : PlaysI w g b rb s kv k last a lo w' := by
  obtain ⟨h1, h2, h3, h4, h5, h6, h7, h8, h9, h10⟩ := h
  exact ⟨h1, h2.no hk, h3.kept hk (fun _ _ _ => not_no _), hk.obj h4 (not_no _), h5, h6, h7, h8, h9, h10.and hk⟩
/-- the reference's new state is stored into its box -/
theorem plays_store {w w5 : World} {g b rb k last a lo n0 n1 n2 n3 : Nat} {kv0 : Value} {s : FS} {kv : Value} (hf : FOk w5 b rb s) (hv : REv w5 (fun i => i ≠ b ∧ i ≠ rb ∧ i ≠ g) kv (s.from 0)) (h0 : ∃ ad n cap, kv0 = .slice ad n cap)
    (hg : w5.heap[g]? = some (.cells #[.int .i64 (n0 : Nat), kv0, .int .u32 (n1 : Nat), .int .u32 (n2 : Nat), .int .u32 (n3 : Nat)] 31 (0, 0))) (ht : Twin s k last a lo) (ng1 : g ≠ b) (ng2 : g ≠ rb) (wg : w.heap.size ≤ g) (wb : w.heap.size ≤ b) (wrb : w.heap.size ≤ rb) (hk : Kept No w w5) :
    PlaysI w g b rb s kv k last a lo (((((w5.setCell ⟨g, 0, none⟩ (.int .i64 (k : Nat))).setCell ⟨g, 1, none⟩ kv).setCell ⟨g, 2, none⟩ (.int .u32 (last : Nat))).setCell ⟨g, 3, none⟩ (.int .u32 (a : Nat))).setCell ⟨g, 4, none⟩ (.int .u32 (lo : Nat))) := by
  obtain ⟨ad, n, cap, rfl⟩ := h0
  have hkk : Kept (fun i => i = g) w5 (((((w5.setCell ⟨g, 0, none⟩ (.int .i64 (k : Nat))).setCell ⟨g, 1, none⟩ kv).setCell ⟨g, 2, none⟩ (.int .u32 (last : Nat))).setCell ⟨g, 3, none⟩ (.int .u32 (a : Nat))).setCell ⟨g, 4, none⟩ (.int .u32 (lo : Nat))) :=
    (((((Kept.refl (fun i => i = g) w5).setCell (p := ⟨g, 0, none⟩) (fun _ => rfl) _).setCell (p := ⟨g, 1, none⟩) (fun _ => rfl) _).setCell (p := ⟨g, 2, none⟩) (fun _ => rfl) _).setCell (p := ⟨g, 3, none⟩) (fun _ => rfl) _).setCell (p := ⟨g, 4, none⟩) (fun _ => rfl) _
  have hrg := rg_box hf hg (fun j x => by
    match j with
    | 0 => simp
    | 1 => simp
    | 2 => simp
    | 3 => simp
    | 4 => simp
    | j + 5 => simp)
  refine ⟨ht, ⟨hf.1.with hrg hkk (fun e => ng1 e.symm) (fun e => ng2 e.symm) (fun i _ hq e => hq.2.2.1 e), hf.2⟩, hv.kept hkk (fun i _ hq e => hq.2.2 e), ?_, ng1, ng2, wg, wb, wrb, hk.new hkk (fun i e => by omega)⟩
  exact obj_store (obj_store (obj_store (obj_store (obj_store hg 0 _) 1 _) 2 _) 3 _) 4 _
end Go.Proofs.Ytkdienebinnopaa.feedPlays
