/-
  known: the examples of the chapter.
-/
import Derived.Test.YtkdienebinnopaaWalkJ
import Derived.Lib.SlBytesConst
namespace Go.Proofs.Ytkdienebinnopaa
open Go.RowKit Go.Zn

theorem new_fs (k : Nat) (w : World) (hk : 1 ≤ k) (hk2 : k ≤ 1000) : Calls Try.prog 8 #[.int .i64 k] w fun e w' => ∃ b rb, e = .returned (.tuple #[.pointer (some ⟨b, 0, none⟩), .int .i64 0]) ∧ FOk w' b rb (FS.init k) ∧ w.heap.size ≤ rb ∧ rb < b ∧ Kept No w w' := by
  refine (new_ok k w hk hk2).mono ?_
  rintro e w' ⟨b, rb, he, h1, h2, h3, h4⟩
  exact ⟨b, rb, he, ⟨h1, by simp [FS.init], by simp [FS.init]⟩, h2, h3, h4⟩

/-- the two events that known holds -/
structure EvB (W : World) (n : Nat) : Prop where
  b0 : W.heap[n]? = some (.cells #[.int .u8 98] 5 (1, 2))
  b1 : W.heap[n + 1]? = some (.cells #[.int .u8 99] 5 (1, 2))
  b2 : W.heap[n + 2]? = some (.cells #[.int .u32 2, .slice (some ⟨n, 0, none⟩) 1 1] 40 (0, 0))
  b3 : W.heap[n + 3]? = some (.cells #[.int .u32 3, .slice (some ⟨n + 1, 0, none⟩) 1 1] 40 (0, 0))
theorem EvB.kept {S : Nat → Prop} {W W' : World} {n : Nat} (h : EvB W n) (hk : Kept S W W') (hS : ∀ i, n ≤ i → ¬ S i) : EvB W' n :=
  ⟨hk.obj h.b0 (hS _ (by omega)), hk.obj h.b1 (hS _ (by omega)), hk.obj h.b2 (hS _ (by omega)), hk.obj h.b3 (hS _ (by omega))⟩
theorem rd_byte {W : World} {n : Nat} {x : UInt8} {fz : Nat × Nat} (h : W.heap[n]? = some (.cells #[.int .u8 x.toNat] 5 fz)) : Rd W (fun _ => True) 1 (.slice (some ⟨n, 0, none⟩) 1 1) 1 (bts [x]) :=
  ⟨rfl, by simp [maxLen], .inr ⟨n, 0, 1, rfl, Nat.le_refl _, fun _ => trivial, fun j u hj => by
    rw [Nat.zero_add, obj_cell h]
    match j, hj with
    | 0, hj => exact hj⟩⟩
theorem EvB.two {W : World} {n : Nat} (h : EvB W n) : REv (W.alloc (.cells #[.int .u32 2, .slice (some ⟨n, 0, none⟩) 1 1, .int .u32 3, .slice (some ⟨n + 1, 0, none⟩) 1 1] 40)) (fun _ => True) (.slice (some ⟨W.heap.size, 0, none⟩) 2 2) [(2, [98]), (3, [99])] := by
  have hk := (Kept.refl No W).alloc (.cells #[.int .u32 2, .slice (some ⟨n, 0, none⟩) 1 1, .int .u32 3, .slice (some ⟨n + 1, 0, none⟩) 1 1] 40)
  refine ⟨[.slice (some ⟨n, 0, none⟩) 1 1, .slice (some ⟨n + 1, 0, none⟩) 1 1], rfl, ⟨rfl, by simp [maxLen], .inr ⟨W.heap.size, 0, 2, rfl, Nat.le_refl _, fun _ => trivial, fun j u hj => ?_⟩⟩, fun i e d hi hd => ?_⟩
  · rw [Nat.zero_add, obj_cell (heap_alloc_new W _)]
    match j, hj with
    | 0, hj => exact hj
    | 1, hj => exact hj
    | 2, hj => exact hj
    | 3, hj => exact hj
  · match i, hi, hd with
    | 0, hi, hd => cases hi; cases hd; exact rd_byte (x := 98) (hk.obj h.b0 (not_no _))
    | 1, hi, hd => cases hi; cases hd; exact rd_byte (x := 99) (hk.obj h.b1 (not_no _))
theorem EvB.one {W : World} {n : Nat} (h : EvB W n) : REv (W.alloc (.cells #[.int .u32 3, .slice (some ⟨n + 1, 0, none⟩) 1 1] 40)) (fun _ => True) (.slice (some ⟨W.heap.size, 0, none⟩) 1 1) [(3, [99])] := by
  have hk := (Kept.refl No W).alloc (.cells #[.int .u32 3, .slice (some ⟨n + 1, 0, none⟩) 1 1] 40)
  refine ⟨[.slice (some ⟨n + 1, 0, none⟩) 1 1], rfl, ⟨rfl, by simp [maxLen], .inr ⟨W.heap.size, 0, 1, rfl, Nat.le_refl _, fun _ => trivial, fun j u hj => ?_⟩⟩, fun i e d hi hd => ?_⟩
  · rw [Nat.zero_add, obj_cell (heap_alloc_new W _)]
    match j, hj with
    | 0, hj => exact hj
    | 1, hj => exact hj
  · match i, hi, hd with
    | 0, hi, hd => cases hi; cases hd; exact rd_byte (x := 99) (hk.obj h.b1 (not_no _))
theorem rev_nil (W : World) : REv W (fun _ => True) (.slice none 0 0) [] := ⟨[], rfl, rd_nil _ _ _, fun i e d hi => by simp at hi⟩

def sK0 : FS := FS.init 2
def sK1 : FS := sK0.add [97]
def sK2 : FS := sK1.add [98]
def sK3 : FS := sK2.add [99]
def sK4 : FS := sK3.ack 2
def sK5 : FS := sK4.ack 1
def sK6 : FS := sK5.ack 3
/-- what known's feed is, between two calls -/
def KI (w0 : World) (b rb n : Nat) (s : FS) (W : World) : Prop := FOk W b rb s ∧ EvB W n ∧ Kept (Bk b rb) w0 W
theorem KI.step {w0 W W' : World} {b rb n : Nat} {s s' : FS} (h : KI w0 b rb n s W) (hb : b < n) (hrb : rb < n) (hf : FOk W' b rb s') (hk : Kept (Bk b rb) W W') : KI w0 b rb n s' W' :=
  ⟨hf, h.2.1.kept hk (fun i hi e => by rcases e with e | e <;> omega), h.2.2.and hk⟩
theorem KI.quiet {w0 W W' : World} {b rb n : Nat} {s : FS} (h : KI w0 b rb n s W) (hk : Kept No W W') : KI w0 b rb n s W' :=
  ⟨h.1.no hk, h.2.1.kept hk (fun _ _ => not_no _), h.2.2.and hk.any⟩
set_option maxRecDepth 100000 in
set_option maxHeartbeats 3200000 in
theorem known_ok (w : World) : Calls Try.prog 9 #[] w fun e w' => e = .returned (.bool true) ∧ Kept No w w' := by
  have kc := fun (w : World) (C : Array Value) (n c : Nat) => Lib.run_convert_bytes_const (P := Try.prog) w 36 5 C n c Try.underlying36 Try.underlying5
  have kc2 : ∀ (w : World) (X : Obj) (C : Array Value) (n c : Nat), (convert 36 36 (.slice (some ⟨w.heap.size + 1, 0, none⟩) n c)).run Try.prog ((w.alloc X).alloc (.cells C 5)) = .ok (.slice (some ⟨w.heap.size + 1, 0, none⟩) n c) ((w.alloc X).alloc (.cells C 5 (C.size, C.size + 1))) := fun w X C n c => by
    have := kc (w.alloc X) C n c
    rwa [World.size_alloc] at this
  go_enter Try.func9, Try.ntmps9
  go_wp2_with fail
  refine (new_fs 2 w (by decide) (by decide)).mono ?_
  rintro e w1 ⟨b, rb, rfl, hf1, hr1, hr2, hk1⟩
  go_wp2_with fail
  obtain ⟨w2, hw2⟩ : ∃ w2, ((((w1.alloc (.cells #[.int .u8 98] 5 (1, 2))).alloc (.cells #[.int .u8 99] 5 (1, 2))).alloc (.cells #[.int .u32 2, .slice (some ⟨w1.heap.size, 0, none⟩) 1 1] 40)).alloc
      (.cells #[.int .u32 3, .slice (some ⟨w1.heap.size + 1, 0, none⟩) 1 1] 40)) = w2 := ⟨_, rfl⟩
  have hk2 : Kept No w1 w2 := by rw [← hw2]; exact ((((Kept.refl No w1).alloc _).alloc _).alloc _).alloc _
  have hev2 : EvB w2 w1.heap.size := by
    rw [← hw2]
    exact ⟨obj_alloc (obj_alloc (obj_alloc (World.alloc_at rfl _) _) _) _, obj_alloc (obj_alloc (World.alloc_at (by simp) _) _) _, obj_alloc (World.alloc_at (by simp) _) _, World.alloc_at (by simp) _⟩
  rw [hw2]
  have hb := hf1.lt
  have HB1 := Lib.hid hb.1
  have HB2 := Lib.hid hb.2
  have HBW := Lib.hid (show w.heap.size ≤ rb from hr1)
  have HRB := Lib.hid hr2
  have HK1 := Lib.hid hk1
  have hI : KI w1 b rb w1.heap.size sK0 w2 := ⟨hf1.no hk2, hev2, hk2.any⟩
  have I0 := Lib.hid hI
  clear hw2 hk2 hev2 hb hf1 hr1 hr2 hk1 hI kc kc2
  refine (ranges_ok I0.out.1 _ _ rfl rfl).mono ?_
  rintro e w3 ⟨rfl, q3, rfl⟩
  have I1 := Lib.hid (I0.out.quiet ((Kept.refl No w2).drewN q3))
  clear I0
  go_wp2_with fail
  refine (adds_ok I1.out.1 (by decide) _ (by decide) _ rfl).mono ?_
  rintro e w4 ⟨rfl, hf4, hk4⟩
  have I2 := Lib.hid (I1.out.step HB1.out HB2.out (s' := sK1) hf4 hk4)
  clear I1 hf4 hk4
  go_wp2_with fail
  refine (adds_ok I2.out.1 (by decide) _ (by decide) _ rfl).mono ?_
  rintro e w5 ⟨rfl, hf5, hk5⟩
  have I3 := Lib.hid (I2.out.step HB1.out HB2.out (s' := sK2) hf5 hk5)
  clear I2 hf5 hk5
  go_wp2_with fail
  refine (ranges_ok I3.out.1 _ _ rfl rfl).mono ?_
  rintro e w6 ⟨rfl, q6, rfl⟩
  have I4 := Lib.hid (I3.out.quiet ((Kept.refl No w5).drewN q6))
  clear I3
  go_wp2_with fail
  refine (adds_ok I4.out.1 (by decide) _ (by decide) _ rfl).mono ?_
  rintro e w7 ⟨rfl, hf7, hk7⟩
  have I5 := Lib.hid (I4.out.step HB1.out HB2.out (s' := sK3) hf7 hk7)
  clear I4 hf7 hk7
  have c20 : w7.cell? ⟨w1.heap.size + 1 + 1, 0, none⟩ = some (.int .u32 2) := obj_cell I5.out.2.1.b2 0
  have c21 : w7.cell? ⟨w1.heap.size + 1 + 1, 1, none⟩ = some (.slice (some ⟨w1.heap.size, 0, none⟩) 1 1) := obj_cell I5.out.2.1.b2 1
  have c30 : w7.cell? ⟨w1.heap.size + 1 + 1 + 1, 0, none⟩ = some (.int .u32 3) := obj_cell I5.out.2.1.b3 0
  have c31 : w7.cell? ⟨w1.heap.size + 1 + 1 + 1, 1, none⟩ = some (.slice (some ⟨w1.heap.size + 1, 0, none⟩) 1 1) := obj_cell I5.out.2.1.b3 1
  go_wp2_with fail
  have hI5 := I5.out.quiet ((Kept.refl No w7).alloc (.cells #[.int .u32 2, .slice (some ⟨w1.heap.size, 0, none⟩) 1 1, .int .u32 3, .slice (some ⟨w1.heap.size + 1, 0, none⟩) 1 1] 40))
  refine (since_ok hI5.1 (x := 0) (by decide) (show REv _ (fun _ => True) _ (sK3.from 0) from I5.out.2.1.two)).mono ?_
  rintro e w8 ⟨rfl, hk8⟩
  have I6 := Lib.hid (hI5.quiet hk8)
  clear hI5 I5 c20 c21 c30 c31 hk8
  have e2 := I6.out.1.1.hf.c2
  have e4 := I6.out.1.1.hf.c4
  go_wp2_with fail
  refine (lost_any b 4 1 w8 e2 e4 (by decide)).mono ?_
  rintro e w9 ⟨rfl, rfl⟩
  clear e2 e4
  go_wp2_with fail
  refine (acks_range I6.out.1 (x := 4) (by decide) (by decide)).mono ?_
  rintro e w9 ⟨rfl, rfl⟩
  go_wp2_with fail
  refine (acks_ok I6.out.1 (x := 2) (by decide) _ rfl).mono ?_
  rintro e w10 ⟨rfl, hf10, hk10⟩
  have I7 := Lib.hid (I6.out.step HB1.out HB2.out (s' := sK4) hf10 hk10)
  clear I6 hf10 hk10
  go_wp2_with fail
  refine (acks_ok I7.out.1 (x := 1) (by decide) _ rfl).mono ?_
  rintro e w11 ⟨rfl, hf11, hk11⟩
  have I8 := Lib.hid (I7.out.step HB1.out HB2.out (s' := sK5) hf11 hk11)
  clear I7 hf11 hk11
  have e2 := I8.out.1.1.hf.c2
  have e3 := I8.out.1.1.hf.c3
  go_wp2_with fail
  refine (acked_any b 4 2 w11 e2 e3 (by decide)).mono ?_
  rintro e w9 ⟨rfl, rfl⟩
  clear e2 e3
  have c30 : w11.cell? ⟨w1.heap.size + 1 + 1 + 1, 0, none⟩ = some (.int .u32 3) := obj_cell I8.out.2.1.b3 0
  have c31 : w11.cell? ⟨w1.heap.size + 1 + 1 + 1, 1, none⟩ = some (.slice (some ⟨w1.heap.size + 1, 0, none⟩) 1 1) := obj_cell I8.out.2.1.b3 1
  go_wp2_with fail
  have hI8 := I8.out.quiet ((Kept.refl No w11).alloc (.cells #[.int .u32 3, .slice (some ⟨w1.heap.size + 1, 0, none⟩) 1 1] 40))
  refine (since_ok hI8.1 (x := 3) (by decide) (show REv _ (fun _ => True) _ (sK5.from 3) from I8.out.2.1.one)).mono ?_
  rintro e w12 ⟨rfl, hk12⟩
  have I9 := Lib.hid (hI8.quiet hk12)
  clear hI8 I8 c30 c31 hk12
  go_wp2_with fail
  refine (since_ok I9.out.1 (x := 4) (by decide) (show REv _ (fun _ => True) _ (sK5.from 4) from rev_nil _)).mono ?_
  rintro e w13 ⟨rfl, hk13⟩
  have I10 := Lib.hid (I9.out.quiet hk13)
  clear I9 hk13
  go_wp2_with fail
  refine (acks_ok I10.out.1 (x := 3) (by decide) _ rfl).mono ?_
  rintro e w14 ⟨rfl, hf14, hk14⟩
  have I11 := Lib.hid (I10.out.step HB1.out HB2.out (s' := sK6) hf14 hk14)
  clear I10 hf14 hk14
  go_wp2_with fail
  refine (ranges_ok I11.out.1 _ _ rfl rfl).mono ?_
  rintro e w15 ⟨rfl, q15, rfl⟩
  go_wp2_with fail
  refine (new_bad 0 _ (by omega)).mono ?_
  rintro e w16 ⟨rfl, rfl⟩
  go_wp2_with fail
  refine (new_bad 1001 _ (by omega)).mono ?_
  rintro e w17 ⟨rfl, rfl⟩
  go_wp2_with fail
  go_ret
  have h1 := HBW.out
  have h2 := HRB.out
  exact ⟨rfl, (HK1.out.new I11.out.2.2 (fun i e => by rcases e with e | e <;> omega)).drewN _⟩
end Go.Proofs.Ytkdienebinnopaa
