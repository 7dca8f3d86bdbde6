/-
  FeedPlays: Add with what becomes of the data's blocks; the own bytes that are changed behind it.
-/
import Derived.Test.YtkdienebinnopaaPlayA
import Derived.Lib.ItoaWalk
import Derived.Lib.SlBytesConst
namespace Go.Proofs.Ytkdienebinnopaa
open Go.ChangeShapes Go.WideShapes Go.ChangeAt Go.RowKit Go.Zn Go.Deep

def AddsQ (b rb : Nat) (s s' : FS) (v : Value) (w : World) (e : Ending) (w' : World) : Prop :=
  e = .returned v ∧ FOk w' b rb s' ∧ Kept (Bk b rb) w w' ∧ ∀ Q : Nat → Prop, (∀ i, Q i → i ≠ b ∧ i ≠ rb) → Rg w rb s.k s.f s.n s.dat Q → Rg w' rb s'.k s'.f s'.n s'.dat (fun i => Q i ∨ w.heap.size ≤ i)
theorem add_fsQ {w : World} {b rb : Nat} {s : FS} (h : FOk w b rb s) (hn : s.n + 1 < 4294967295) {B : Nat → Prop} {v : Value} {bs : List UInt8} {q : Nat} (hq : bs.length = q) (hv : Rd w B 1 v q (bts bs)) (hlen : q ≤ 65535) (hB : ∀ i, B i → i ≠ b ∧ i ≠ rb) :
    Calls Try.prog 16 #[.pointer (some ⟨b, 0, none⟩), v] w (AddsQ b rb s (s.add bs) (.tuple #[.int .u32 s.n, .int .i64 0]) w) := by
  obtain ⟨hf, ha, hl⟩ := h
  by_cases hfull : s.n = s.f + s.k
  · refine (add_fullQ b rb s.k s.f s.n s.a s.l s.dat w hf hfull (by have := hf.fn; omega) hn B hB v bs q hq hv (rd_slice hv) hlen).mono ?_
    rintro e w' ⟨⟨he, h1, h2⟩, h3⟩
    refine ⟨he, ⟨?_, ?_, ?_⟩, h2, ?_⟩
    · simpa only [FS.add, if_pos hfull] using h1
    · simp only [FS.add, if_pos hfull]; omega
    · simp only [FS.add, if_pos hfull]; omega
    · simpa only [FS.add, if_pos hfull] using h3
  · refine (add_roomQ b rb s.k s.f s.n s.a s.l s.dat w hf (by have := hf.nk; omega) hn B v bs q hq hv (rd_slice hv) hlen).mono ?_
    rintro e w' ⟨⟨he, h1, h2⟩, h3⟩
    refine ⟨he, ⟨?_, ?_, ?_⟩, h2, ?_⟩
    · simpa only [FS.add, if_neg hfull] using h1
    · simp only [FS.add, if_neg hfull]; exact ha
    · simp only [FS.add, if_neg hfull]; exact hl
    · simpa only [FS.add, if_neg hfull] using h3
theorem add_n {w : World} {b rb : Nat} {s : FS} (h : FOk w b rb s) {M : Nat} (hn : s.n = M) (hm : M ≤ 1000) {B : Nat → Prop} {v : Value} {bs : List UInt8} {q : Nat} (hq : bs.length = q) (hv : Rd w B 1 v q (bts bs)) (hlen : q ≤ 65535) (hB : ∀ i, B i → i ≠ b ∧ i ≠ rb) :
    Calls Try.prog 16 #[.pointer (some ⟨b, 0, none⟩), v] w (AddsQ b rb s (s.add bs) (.tuple #[.int .u32 (M : Nat), .int .i64 0]) w) := by
  have := add_fsQ h (by omega) hq hv hlen hB
  rw [hn] at this
  exact this
def RAddM (w : World) (B : Nat → Prop) (k M a lo : Nat) (l : List (Nat × List UInt8)) (e : Ending) (w' : World) : Prop :=
  ∃ v, e = .returned (.tuple #[refV k v M a lo, .int .u32 (M : Nat), .int .i64 0]) ∧ REv w' (fun i => B i ∨ w.heap.size ≤ i) v l ∧ Kept No w w'
theorem radd_m {w : World} {B C : Nat → Prop} {b rb : Nat} {s : FS} {k last M a lo lo' : Nat} (hf : FOk w b rb s) (ht : Twin s k last a lo) (hlast : last ≤ 1000) (hM : last + 1 = M) {kv : Value} (h : REv w B kv (s.from 0)) {dv : Value} {bs : List UInt8} {q : Nat} (hq : bs.length = q) (hd : Rd w C 1 dv q (bts bs)) (hq2 : q ≤ 65535) (hlo : (s.add bs).l = lo') :
    Calls Try.prog 19 #[refV k kv last a lo, dv] w (RAddM w B k M a lo' ((s.add bs).from 0)) := by
  subst hM
  exact radd_fs hf ht hlast h hq hd hq2 hlo
theorem acks_rangeP {w : World} {b rb : Nat} {s : FS} (h : FOk w b rb s) {x : Nat} (hx : s.n ≤ x) (hx2 : x < 4294967296) :
    Calls Try.prog 21 #[.pointer (some ⟨b, 0, none⟩), .int .u32 x, .int .i64 0, .int .i64 3] w (AddsPost b rb s (.bool true) w) := by
  refine (acks_range h hx hx2).mono ?_
  rintro e w' ⟨he, rfl⟩
  exact ⟨he, h, Kept.refl _ _⟩
theorem rd_three {W : World} {n : Nat} {fz : Nat × Nat} (h : W.heap[n]? = some (.cells #[.int .u8 111, .int .u8 108, .int .u8 100] 5 fz)) : Rd W (fun i => i = n) 1 (.slice (some ⟨n, 0, none⟩) 3 3) 3 (bts [111, 108, 100]) :=
  ⟨rfl, by simp [maxLen], .inr ⟨n, 0, 3, rfl, Nat.le_refl _, fun _ => rfl, fun j u hj => by
    rw [Nat.zero_add, obj_cell h]
    match j, hj with
    | 0, hj => exact hj
    | 1, hj => exact hj
    | 2, hj => exact hj⟩⟩
/-- the own bytes, changed round by round -/
def OwnK (w4 : World) (base q : Nat) (ov kv : Value) (wq : World) : Prop :=
  ∃ jj : Nat, kv = .int .i64 (jj : Nat) ∧ jj ≤ q ∧ MRow wq base ov ∧ Kept (fun i => ov.ownBlock = some i) w4 wq
end Go.Proofs.Ytkdienebinnopaa
