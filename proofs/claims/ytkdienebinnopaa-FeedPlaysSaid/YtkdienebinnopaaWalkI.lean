/-
  A feed as a state; the law's small helpers: adds, acks, since, ranges.
-/
import Derived.Test.YtkdienebinnopaaWalkH
import Derived.Lib.ConvBytes
namespace Go.Proofs.Ytkdienebinnopaa
open Go.RowKit Go.Zn

structure FS where
  k : Nat
  f : Nat
  n : Nat
  a : Nat
  l : Nat
  dat : Nat → List UInt8
def FOk (w : World) (b rb : Nat) (s : FS) : Prop := IsFeed w b rb s.k s.f s.n s.a s.l s.dat ∧ s.a < s.f ∧ s.l < s.f
def FS.add (s : FS) (bs : List UInt8) : FS := { k := s.k, f := if s.n = s.f + s.k then s.f + 1 else s.f, n := s.n + 1, a := s.a, l := if s.n = s.f + s.k then s.l + 1 else s.l, dat := upd s.dat s.n bs }
def FS.ack (s : FS) (x : Nat) : FS := { k := s.k, f := max s.f (x + 1), n := s.n, a := max s.a x, l := s.l, dat := s.dat }
def FS.from (s : FS) (x : Nat) : List (Nat × List UInt8) := (List.range' (max x s.f) (s.n - max x s.f)).map fun m => (m, s.dat m)
def FS.init (k : Nat) : FS := { k := k, f := 1, n := 1, a := 0, l := 0, dat := fun _ => [] }

theorem FOk.kept {S : Nat → Prop} {w w' : World} {b rb : Nat} {s : FS} (h : FOk w b rb s) (hk : Kept S w w') (hb : ∀ i, i < w.heap.size → ¬ S i) : FOk w' b rb s := ⟨h.1.kept hk hb, h.2⟩
theorem FOk.no {w w' : World} {b rb : Nat} {s : FS} (h : FOk w b rb s) (hk : Kept No w w') : FOk w' b rb s := h.kept hk (fun _ _ => not_no _)
/-- blocks that are no part of it may turn -/
theorem FOk.far {S : Nat → Prop} {w w' : World} {b rb n0 : Nat} {s : FS} (h : FOk w b rb s) (hk : Kept S w w') (hS : ∀ i, S i → n0 ≤ i) (h0 : ∀ i, i < n0 → True) (hold : ∃ w0 : World, FOk w0 b rb s ∧ w0.heap.size = n0 ∧ Kept No w0 w) : FOk w' b rb s := by
  obtain ⟨w0, h1, h2, h3⟩ := hold
  have hk2 : Kept No w0 w' := h3.new hk (fun i e => by rw [h2]; exact hS i e)
  exact h1.no hk2
theorem FOk.lt {w : World} {b rb : Nat} {s : FS} (h : FOk w b rb s) : b < w.heap.size ∧ rb < w.heap.size := h.1.lt

def AddsPost (b rb : Nat) (s : FS) (v : Value) (w : World) (e : Ending) (w' : World) : Prop := e = .returned v ∧ FOk w' b rb s ∧ Kept (Bk b rb) w w'
theorem add_fs {w : World} {b rb : Nat} {s : FS} (h : FOk w b rb s) (hn : s.n + 1 < 4294967295) {B : Nat → Prop} {v : Value} {bs : List UInt8} {q : Nat} (hq : bs.length = q) (hv : Rd w B 1 v q (bts bs)) (hlen : q ≤ 65535) (hB : ∀ i, B i → i ≠ b ∧ i ≠ rb) :
    Calls Try.prog 16 #[.pointer (some ⟨b, 0, none⟩), v] w (AddsPost b rb (s.add bs) (.tuple #[.int .u32 s.n, .int .i64 0]) w) := by
  obtain ⟨hf, ha, hl⟩ := h
  by_cases hfull : s.n = s.f + s.k
  · refine (add_full b rb s.k s.f s.n s.a s.l s.dat w hf hfull (by have := hf.fn; omega) hn B hB v bs q hq hv (rd_slice hv) hlen).mono ?_
    rintro e w' ⟨he, h1, h2⟩
    refine ⟨he, ⟨?_, ?_, ?_⟩, h2⟩
    · simpa only [FS.add, if_pos hfull] using h1
    · simp only [FS.add, if_pos hfull]; omega
    · simp only [FS.add, if_pos hfull]; omega
  · refine (add_room b rb s.k s.f s.n s.a s.l s.dat w hf (by have := hf.nk; omega) hn B v bs q hq hv (rd_slice hv) hlen).mono ?_
    rintro e w' ⟨he, h1, h2⟩
    refine ⟨he, ⟨?_, ?_, ?_⟩, h2⟩
    · simpa only [FS.add, if_neg hfull] using h1
    · simp only [FS.add, if_neg hfull]; exact ha
    · simp only [FS.add, if_neg hfull]; exact hl
theorem ack_fs {w : World} {b rb : Nat} {s : FS} (h : FOk w b rb s) {x : Nat} (hx : x < s.n) :
    Calls Try.prog 17 #[.pointer (some ⟨b, 0, none⟩), .int .u32 x] w (AddsPost b rb (s.ack x) (.tuple #[.int .i64 (max s.f (x + 1) - s.f : Nat), .int .i64 0]) w) := by
  obtain ⟨hf, ha, hl⟩ := h
  refine (ack_ok b rb s.k s.f s.n s.a s.l x s.dat w hf hx).mono ?_
  rintro e w' ⟨he, h1, h2⟩
  exact ⟨he, ⟨h1, by simp only [FS.ack]; omega, by simp only [FS.ack]; omega⟩, h2⟩

/-- the bytes of a string, made anew -/
theorem strOf_toList (s : ByteArray) : strOf s.data.toList = s := by cases s; rfl
theorem bsize (s : ByteArray) : s.data.toList.length = s.size := rfl
theorem rd_bytesWorld (w : World) (s : ByteArray) (hs : s.size ≤ maxLen) : Rd (Lib.bytesWorld w 5 s) (fun i => i = w.heap.size) 1 (.slice (some ⟨w.heap.size, 0, none⟩) s.size (grownCap w s.size 0 5)) s.size (bts s.data.toList) := by
  refine ⟨by rw [bts_length, bsize, Nat.mul_one], hs, .inr ⟨w.heap.size, 0, _, rfl, grownCap_ge w s.size 0 5, fun _ => rfl, fun j u hj => ?_⟩⟩
  have hlt : j < s.size := by
    have := (List.getElem?_eq_some_iff.1 hj).1
    rwa [bts_length, bsize] at this
  rw [Nat.zero_add, Lib.bytesWorld_cell w 5 s j hlt]
  rw [bts_get] at hj
  have h2 : j < s.data.toList.length := hlt
  rw [List.getElem?_eq_getElem h2] at hj
  rw [List.getD_eq_getElem?_getD, List.getElem?_eq_getElem h2]
  exact hj
theorem kept_bytesWorld (w : World) (s : ByteArray) : Kept No w (Lib.bytesWorld w 5 s) := ⟨rfl, rfl, rfl, by rw [Lib.bytesWorld_size]; omega, fun k hk _ => Lib.bytesWorld_at_old w 5 s k hk⟩

set_option maxHeartbeats 800000 in
theorem adds_ok {w : World} {b rb : Nat} {s : FS} (h : FOk w b rb s) (hn : s.n + 1 < 4294967295) (str : ByteArray) (hlen : str.size ≤ 65535) (want : Int) (hw : want = (s.n : Nat)) :
    Calls Try.prog 11 #[.pointer (some ⟨b, 0, none⟩), .string str, .int .u32 want, .int .i64 0] w (AddsPost b rb (s.add str.data.toList) (.bool true) w) := by
  subst hw
  have hsb := fun w => Lib.run_convert_string_bytes (P := Try.prog) w 9 36 5 str Try.underlying9 Try.underlying36 Try.underlying5
  have hml : str.size ≤ maxLen := by unfold maxLen; omega
  have H := Lib.hid h
  have HN := Lib.hid hn
  have HM := Lib.hid hml
  clear h hn hml
  go_enter Try.func11, Try.ntmps11
  go_wp2_with fail
  have hlt := H.out.lt
  refine (add_fs (H.out.no (kept_bytesWorld w str)) HN.out (B := fun i => i = w.heap.size) (bs := str.data.toList) (bsize str) (rd_bytesWorld w str HM.out) hlen (fun i e => by omega)).mono ?_
  rintro e w' ⟨rfl, h1, h2⟩
  have H1 := Lib.hid h1
  have H2 := Lib.hid h2
  clear h1 h2 hlt
  go_wp2
  go_ret
  exact ⟨rfl, H1.out, (kept_bytesWorld w str).any.and H2.out⟩
set_option maxHeartbeats 800000 in
theorem adds_long {w : World} {b rb : Nat} {s : FS} (h : FOk w b rb s) (str : ByteArray) (hlen : 65535 < str.size) (hml : str.size ≤ maxLen) :
    Calls Try.prog 11 #[.pointer (some ⟨b, 0, none⟩), .string str, .int .u32 0, .int .i64 5] w (AddsPost b rb s (.bool true) w) := by
  have hsb := fun w => Lib.run_convert_string_bytes (P := Try.prog) w 9 36 5 str Try.underlying9 Try.underlying36 Try.underlying5
  have H := Lib.hid h
  have HM := Lib.hid hml
  clear h hml
  go_enter Try.func11, Try.ntmps11
  go_wp2_with fail
  refine (add_long b rb s.k s.f s.n s.a s.l s.dat _ (H.out.no (kept_bytesWorld w str)).1 _ _ _ hlen HM.out).mono ?_
  rintro e w' ⟨rfl, rfl⟩
  go_wp2
  go_ret
  exact ⟨rfl, H.out.no (kept_bytesWorld w str), (kept_bytesWorld w str).any⟩
theorem adds_none {w : World} {p : Value} (hz : ∀ w', Kept No w w' → Calls Try.prog 28 #[p] w' fun e w'' => e = .returned (.bool true) ∧ w' = w'') (str : ByteArray) :
    Calls Try.prog 11 #[p, .string str, .int .u32 0, .int .i64 1] w fun e w' => e = .returned (.bool true) ∧ Kept No w w' := by
  have hsb := fun w => Lib.run_convert_string_bytes (P := Try.prog) w 9 36 5 str Try.underlying9 Try.underlying36 Try.underlying5
  have HZ := Lib.hid hz
  clear hz
  go_enter Try.func11, Try.ntmps11
  go_wp2_with fail
  refine (add_none _ _ _ (HZ.out _ (kept_bytesWorld w str))).mono ?_
  rintro e w' ⟨rfl, rfl⟩
  go_wp2
  go_ret
  exact ⟨rfl, kept_bytesWorld w str⟩
theorem acks_ok {w : World} {b rb : Nat} {s : FS} (h : FOk w b rb s) {x : Nat} (hx : x < s.n) (want : Int) (hw : want = ((max s.f (x + 1) - s.f : Nat) : Int)) :
    Calls Try.prog 21 #[.pointer (some ⟨b, 0, none⟩), .int .u32 x, .int .i64 want, .int .i64 0] w (AddsPost b rb (s.ack x) (.bool true) w) := by
  subst hw
  generalize hm : max s.f (x + 1) - s.f = m
  have H := Lib.hid h
  have HX := Lib.hid hx
  have HM := Lib.hid hm
  clear h hx hm
  go_enter Try.func21, Try.ntmps21
  go_wp2_with fail
  refine (ack_fs H.out HX.out).mono ?_
  rintro e w' ⟨rfl, h1, h2⟩
  rw [HM.out]
  have H1 := Lib.hid h1
  have H2 := Lib.hid h2
  clear h1 h2
  go_wp2
  go_ret
  exact ⟨rfl, H1.out, H2.out⟩
theorem acks_range {w : World} {b rb : Nat} {s : FS} (h : FOk w b rb s) {x : Nat} (hx : s.n ≤ x) (hx2 : x < 4294967296) :
    Calls Try.prog 21 #[.pointer (some ⟨b, 0, none⟩), .int .u32 x, .int .i64 0, .int .i64 3] w fun e w' => e = .returned (.bool true) ∧ w = w' := by
  have H := Lib.hid h
  have HX := Lib.hid hx
  clear h hx
  go_enter Try.func21, Try.ntmps21
  go_wp2_with fail
  refine (ack_range b rb s.k s.f s.n s.a s.l x s.dat w H.out.1 HX.out hx2).mono ?_
  rintro e w' ⟨rfl, rfl⟩
  go_wp2
  go_ret
  exact ⟨rfl, rfl⟩
theorem acks_none {w : World} {p v : Value} (hv : ∃ x : Int, v = .int .u32 x) (hz : Calls Try.prog 28 #[p] w fun e w'' => e = .returned (.bool true) ∧ w = w'') :
    Calls Try.prog 21 #[p, v, .int .i64 0, .int .i64 1] w fun e w' => e = .returned (.bool true) ∧ w = w' := by
  obtain ⟨x, rfl⟩ := hv
  have HZ := Lib.hid hz
  clear hz
  go_enter Try.func21, Try.ntmps21
  go_wp2_with fail
  refine (ack_none _ _ _ HZ.out).mono ?_
  rintro e w' ⟨rfl, rfl⟩
  go_wp2
  go_ret
  exact ⟨rfl, rfl⟩
theorem ranges_ok {w : World} {b rb : Nat} {s : FS} (h : FOk w b rb s) (x y : Int) (hx : x = (rangeFirst s.f s.n : Nat)) (hy : y = (s.n : Int) - 1) :
    Calls Try.prog 12 #[.pointer (some ⟨b, 0, none⟩), .int .u32 x, .int .u32 y] w fun e w' => e = .returned (.bool true) ∧ ∃ q, w' = w.drewN q := by
  subst hx; subst hy
  generalize hm : rangeFirst s.f s.n = m
  generalize hm2 : (s.n : Int) - 1 = m2
  have H := Lib.hid h
  have HM := Lib.hid hm
  have HM2 := Lib.hid hm2
  clear h hm hm2
  go_enter Try.func12, Try.ntmps12
  go_wp2_with fail
  refine (range_any b rb s.k s.f s.n s.a s.l s.dat w H.out.1).mono ?_
  rintro e w' ⟨rfl, q, rfl⟩
  rw [HM.out, HM2.out]
  go_wp2
  go_ret
  exact ⟨rfl, _, rfl⟩
theorem ranges_none {w : World} {p : Value} (hz : Calls Try.prog 28 #[p] w fun e w'' => e = .returned (.bool true) ∧ w = w'') :
    Calls Try.prog 12 #[p, .int .u32 0, .int .u32 0] w fun e w' => e = .returned (.bool true) ∧ w = w' := by
  have HZ := Lib.hid hz
  clear hz
  go_enter Try.func12, Try.ntmps12
  go_wp2_with fail
  refine (range_none _ _ HZ.out).mono ?_
  rintro e w' ⟨rfl, rfl⟩
  go_wp2
  go_ret
  exact ⟨rfl, rfl⟩
theorem since_ok {w : World} {b rb : Nat} {s : FS} (h : FOk w b rb s) {x : Nat} (hx : x < 4294967296) {C : Nat → Prop} {v : Value} (hv : REv w C v (s.from x)) :
    Calls Try.prog 22 #[.pointer (some ⟨b, 0, none⟩), .int .u32 x, v, .int .i64 0] w fun e w' => e = .returned (.bool true) ∧ Kept No w w' := by
  obtain ⟨ad, cap, rfl⟩ := hv.slice
  generalize hm : (s.from x).length = m
  have hml : m ≤ 4000000000 := by
    rw [← hm]; simp only [FS.from, List.length_map, List.length_range']; have := h.1.nk; have := h.1.k2; omega
  have H := Lib.hid h
  have HV := Lib.hid hv
  have HM := Lib.hid hm
  clear h hv hm
  go_enter Try.func22, Try.ntmps22
  go_wp2_with fail
  refine (since_any b rb s.k s.f s.n s.a s.l x s.dat w H.out.1 hx).mono ?_
  rintro e w1 ⟨v1, rfl, hev, hk⟩
  obtain ⟨ad1, cap1, hv1⟩ := hev.rd.slice
  have hlen1 : ((List.range' (max x s.f) (s.n - max x s.f)).map fun m => (m, s.dat m)).length = m := HM.out
  rw [hlen1] at hv1
  subst hv1
  have HEV := Lib.hid hev
  have HK := Lib.hid hk
  have HL1 := Lib.hid hlen1
  have hvm := HV.out
  rw [HM.out] at hvm
  have HVM := Lib.hid hvm
  clear hev hk hlen1 hvm
  go_wp2_with fail
  refine (same_any _ _ C _ _ (s.from x) HEV.out.rd (HVM.out.kept HK.out (fun _ _ _ => not_no _)) (by rw [HM.out]; exact hml)).mono ?_
  rintro e w' ⟨rfl, q, rfl⟩
  go_wp2
  go_ret
  exact ⟨rfl, HK.out.drewN _⟩
end Go.Proofs.Ytkdienebinnopaa
