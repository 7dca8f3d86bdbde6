/-
  Pool: sums of bytes, numbers as bytes and back. Pool: a number as bytes; two rows of bytes joined. Pool: a pool as bytes.
-/
import Derived.Test.YtclgoilfclmibaaGreatDoorPe
import Derived.Laws.BitsAllLaws
import Derived.Test.YtclgoilfclmibaaGreatDoorTk
import Derived.Lib.AppendZerosOnto
import Derived.Test.YtclgoilfclmibaaGreatDoorEc
set_option linter.unusedVariables false
set_option linter.unusedSimpArgs false
namespace Go.Proofs.YtclgoilfclmibaaGreatDoor
open Go Go.RowKit Go.Zn
attribute [local go_sem] Oper.semAt_some

theorem u32_mod (n : Int) : IntKind.u32.wrap n = n % 4294967296 := IntKind.wrap_u32' n
theorem sumS_snoc (n : Nat) (b : List UInt8) (x : UInt8) : sumS n (b ++ [x]) = (31 * sumS n b + x.toNat) % 4294967296 := by rw [sumS_app]; rfl
def SumRel (l : List UInt8) (w : World) (nv iv : Value) (wr : World) : Prop := ∃ i : Nat, iv = .int .i64 (i : Nat) ∧ i ≤ l.length ∧ nv = .int .u32 (sumF (l.take i) : Nat) ∧ wr = w
set_option maxRecDepth 100000 in
theorem psum_any {l : List UInt8} (hl : l.length ≤ 1000000) {w : World} {B : Nat → Prop} {v : Value} (hv : Rd w B 1 v l.length (bts l)) : Calls Tryz.prog 21 #[v] w fun e w' => e = .returned (.int .u32 (sumF l : Nat)) ∧ w' = w := by
  obtain ⟨ad, cap, rfl⟩ := rd_slice hv
  obtain ⟨n, hn⟩ : ∃ n, l.length = n := ⟨_, rfl⟩
  have HN := Lib.hid hn
  have HV := Lib.hid hv
  rw [hn] at hl ⊢
  rw [hn] at HV
  clear hv hn
  go_enter Tryz.func21, Tryz.ntmps21
  go_wp2_with fail
  go_loopw [3, 8] (fun nv iv wr => SumRel l w nv iv wr) (fun _ iv _ => n - (intOf iv).toNat)
  case atStart => exact ⟨0, rfl, Nat.zero_le _, rfl, rfl⟩
  case round =>
    obtain ⟨i, rfl, hi, rfl, rfl⟩ := hrel
    rw [HN.out] at hi
    by_cases hlt : i < n
    · have hil : i < l.length := by rw [HN.out]; exact hlt
      obtain ⟨_, _, ⟨_, h0⟩ | ⟨b, off, c1, he, _, _, hc⟩⟩ := HV.out
      · omega
      have g1 : wr.cell? ⟨b, off + i, none⟩ = some (.int .u8 (l[i]).toNat) := hc i _ (by rw [bts_get, List.getElem?_eq_getElem hil]; rfl)
      cases he
      have HT := Lib.hid (show sumF (l.take (i + 1)) = (31 * sumF (l.take i) + (l[i]).toNat) % 4294967296 by rw [List.take_add_one, List.getElem?_eq_getElem hil]; exact sumS_snoc _ _ _)
      have hx := (l[i]).toNat_lt
      obtain ⟨x, hxx⟩ : ∃ x, (l[i]).toNat = x := ⟨_, rfl⟩
      have hs := sumF_lt (l.take i)
      obtain ⟨s, hss⟩ : ∃ s, sumF (l.take i) = s := ⟨_, rfl⟩
      rw [hxx] at g1 HT hx
      rw [hss] at HT hs ⊢
      have d1 : decide (i < n) = true := decide_eq_true hlt
      have hi0 : (0 : Int) ≤ (i : Int) := by omega
      have hin : (i : Int) < (n : Int) := by omega
      have q4 : IntKind.i64.wrap ((i : Int) + 1) = (i : Int) + 1 := IntWalk.i64_in _ (by omega)
      have q5 : (x : Int) % 4294967296 = (x : Int) := by omega
      have HI := Lib.hid hlt
      clear hlt hc hxx hss hil hs
      go_wp2_with fail
      have hI := HI.out
      refine ⟨⟨i + 1, by go_num, by rw [HN.out]; omega, ?_, rfl⟩, by simp [intOf]; omega⟩
      rw [HT.out]
      congr 1
      try simp only [u32_mod]
      omega
    · have d1 : decide (i < n) = false := decide_eq_false hlt
      have HR := Lib.hid (show l.take i = l from List.take_of_length_le (by rw [HN.out]; omega))
      clear hlt
      go_wp2_with fail
      go_ret
      exact ⟨by rw [HR.out]; rfl, rfl⟩
theorem or_low {n x : Nat} (hx : x < 256) : (n * 256) ||| x = n * 256 + x := nat_join 8 _ _ (by omega) (by omega)
theorem getF_snoc (b : List UInt8) (x : UInt8) : getF (b ++ [x]) = getF b * 256 + x.toNat := by unfold getF; rw [List.foldl_append]; rfl
theorem getF_lt : ∀ (b : List UInt8) (k : Nat), b.length ≤ k → getF b < 256 ^ k := by
  intro b k h
  have : ∀ (b : List UInt8) (a m : Nat), a < m → b.foldl (fun n x => n * 256 + x.toNat) a < m * 256 ^ b.length := by
    intro b
    induction b with
    | nil => intro a m h; simpa using h
    | cons x b ih =>
      intro a m h
      have hx := x.toNat_lt
      have := ih (a * 256 + x.toNat) (m * 256) (by omega)
      rw [List.length_cons, Nat.pow_succ, Nat.mul_comm (256 ^ b.length) 256, ← Nat.mul_assoc]
      exact this
  have h1 := this b 0 1 (by decide)
  rw [Nat.one_mul] at h1
  exact Nat.lt_of_lt_of_le h1 (Nat.pow_le_pow_right (by decide) h)
def GetRel (l : List UInt8) (w : World) (nv iv : Value) (wr : World) : Prop := ∃ i : Nat, iv = .int .i64 (i : Nat) ∧ i ≤ l.length ∧ nv = .int .u32 (getF (l.take i) : Nat) ∧ wr = w
set_option maxRecDepth 100000 in
theorem get_any {l : List UInt8} (hl : l.length ≤ 4) {w : World} {B : Nat → Prop} {v : Value} (hv : Rd w B 1 v l.length (bts l)) : Calls Tryz.prog 41 #[v] w fun e w' => e = .returned (.int .u32 (getF l : Nat)) ∧ w' = w := by
  obtain ⟨ad, cap, rfl⟩ := rd_slice hv
  obtain ⟨n, hn⟩ : ∃ n, l.length = n := ⟨_, rfl⟩
  have HN := Lib.hid hn
  have HV := Lib.hid hv
  rw [hn] at hl ⊢
  rw [hn] at HV
  clear hv hn
  go_enter Tryz.func41, Tryz.ntmps41
  go_wp2_with fail
  go_loopw [3, 8] (fun nv iv wr => GetRel l w nv iv wr) (fun _ iv _ => n - (intOf iv).toNat)
  case atStart => exact ⟨0, rfl, Nat.zero_le _, rfl, rfl⟩
  case round =>
    obtain ⟨i, rfl, hi, rfl, rfl⟩ := hrel
    rw [HN.out] at hi
    by_cases hlt : i < n
    · have hil : i < l.length := by rw [HN.out]; exact hlt
      obtain ⟨_, _, ⟨_, h0⟩ | ⟨b, off, c1, he, _, _, hc⟩⟩ := HV.out
      · omega
      have g1 : wr.cell? ⟨b, off + i, none⟩ = some (.int .u8 (l[i]).toNat) := hc i _ (by rw [bts_get, List.getElem?_eq_getElem hil]; rfl)
      cases he
      have HT := Lib.hid (show getF (l.take (i + 1)) = getF (l.take i) * 256 + (l[i]).toNat by rw [List.take_add_one, List.getElem?_eq_getElem hil]; exact getF_snoc _ _)
      have hx := (l[i]).toNat_lt
      obtain ⟨x, hxx⟩ : ∃ x, (l[i]).toNat = x := ⟨_, rfl⟩
      have hs := getF_lt (l.take i) 3 (by rw [List.length_take]; omega)
      obtain ⟨s, hss⟩ : ∃ s, getF (l.take i) = s := ⟨_, rfl⟩
      rw [hxx] at g1 HT hx
      rw [hss] at HT hs ⊢
      have d1 : decide (i < n) = true := decide_eq_true hlt
      have hi0 : (0 : Int) ≤ (i : Int) := by omega
      have hin : (i : Int) < (n : Int) := by omega
      have q4 : IntKind.i64.wrap ((i : Int) + 1) = (i : Int) + 1 := IntWalk.i64_in _ (by omega)
      have HO := Lib.hid (show bits .or .u32 ((s : Int) * 256) (x : Int) = ((s * 256 + x : Nat) : Int) by
        rw [show ((s : Int) * 256) = ((s * 256 : Nat) : Int) by omega, u32_or_nat _ _ (by omega) (by omega), or_low hx])
      have HI := Lib.hid hlt
      have HS := Lib.hid hs
      clear hlt hc hxx hss hil hs
      go_wp2_with fail
      have hI := HI.out
      refine ⟨⟨i + 1, by go_num, by rw [HN.out]; omega, ?_, rfl⟩, by simp [intOf]; omega⟩
      rw [HT.out]
      congr 1
      have hs3 := HS.out
      rw [show (s : Int) * 256 % 4294967296 = (s : Int) * 256 by omega]
      exact HO.out
    · have d1 : decide (i < n) = false := decide_eq_false hlt
      have HR := Lib.hid (show l.take i = l from List.take_of_length_le (by rw [HN.out]; omega))
      clear hlt
      go_wp2_with fail
      go_ret
      exact ⟨by rw [HR.out]; rfl, rfl⟩
end Go.Proofs.YtclgoilfclmibaaGreatDoor
namespace Go.Proofs.YtclgoilfclmibaaGreatDoor
open Go Go.RowKit Go.Zn
attribute [local go_sem] Oper.semAt_some

def put2C (n : Nat) : Nat → Array Value
  | 0 => #[.int .u8 0, .int .u8 0]
  | 1 => #[.int .u8 0, .int .u8 ((n : Int) % 256)]
  | _ => #[.int .u8 ((n : Int) / 256 % 256), .int .u8 ((n : Int) % 256)]
structure Put2Rel (n : Nat) (w : World) (iv : Value) (wr : World) : Prop where
  out : ∃ i : Nat, iv = .int .i64 (i : Nat) ∧ i ≤ 2 ∧ wr.heap[w.heap.size]? = some (.cells (put2C n i) 5 (0, 0)) ∧ Kept No w wr
set_option maxRecDepth 100000 in
set_option maxHeartbeats 1600000 in
theorem put2_any {n : Nat} (hn : n < 4294967296) (w : World) : Calls Tryz.prog 33 #[.int .u32 (n : Nat), .int .i64 2] w fun e w' => (∃ v, e = .returned v ∧ BRow w' w.heap.size v (be2 n)) ∧ Kept No w w' := by
  have hmk : ∀ w, (Instr.makeSlice 51 (.int .i64 2) (.int .i64 2)).run Tryz.prog w = .ok (.slice (some ⟨w.heap.size, 0, none⟩) 2 2) (w.alloc (.cells (madeCells #[.int .u8 0] 2) 5)) := run_make_row' (P := Tryz.prog) 51 5 (.int .u8 0) 1 Tryz.underlying51 (by kernel_rfl) rfl .i64 .i64 2 (by omega) (by omega)
  have HN := Lib.hid hn
  clear hn
  go_enter Tryz.func33, Tryz.ntmps33
  go_wp2_with fail
  go_loopw [11] (fun iv wr => Put2Rel n w iv wr) (fun iv _ => 2 - (intOf iv).toNat)
  case atStart => exact ⟨⟨0, rfl, by decide, (heap_alloc_new w _).trans (congrArg (fun c => some (Obj.cells c 5 (0, 0))) (show madeCells #[.int .u8 0] 2 = put2C n 0 from Array.toList_inj.1 (by rw [toList_madeCells_one]; rfl))), (Kept.refl No w).alloc _⟩⟩
  case round =>
    obtain ⟨i, rfl, hi, hg, hk⟩ := hrel.out
    have HK := Lib.hid hk
    have hsz := hk.size
    obtain rfl | rfl | rfl : i = 0 ∨ i = 1 ∨ i = 2 := by omega
    · have hg : wr.heap[w.heap.size]? = some (.cells #[.int .u8 0, .int .u8 0] 5 (0, 0)) := hg
      have g0 := obj_cell hg 1
      have f0 : wr.frozen? ⟨w.heap.size, 1, none⟩ = false := obj_free hg 1
      have HG := Lib.hid (obj_store hg 1 (.int .u8 ((n : Int) % 256)))
      have HKS := Lib.hid hk
      clear hg hk
      go_wp2_with fail
      exact ⟨⟨1, rfl, by decide, HG.out, HKS.out.put (Nat.le_refl _) _⟩, by simp [intOf]⟩
    · have hg : wr.heap[w.heap.size]? = some (.cells #[.int .u8 0, .int .u8 ((n : Int) % 256)] 5 (0, 0)) := hg
      have g0 := obj_cell hg 0
      have f0 : wr.frozen? ⟨w.heap.size, 0, none⟩ = false := obj_free hg 0
      have HG := Lib.hid (obj_store hg 0 (.int .u8 ((n : Int) / 256 % 256)))
      have HKS := Lib.hid hk
      clear hg hk
      go_wp2_with fail
      exact ⟨⟨2, rfl, by decide, HG.out, HKS.out.put (Nat.le_refl _) _⟩, by simp [intOf]⟩
    · have HG := Lib.hid (show wr.heap[w.heap.size]? = some (.cells #[.int .u8 ((n : Int) / 256 % 256), .int .u8 ((n : Int) % 256)] 5 (0, 0)) from hg)
      clear hg hk
      go_wp2_with fail
      go_ret
      refine ⟨⟨_, rfl, rfl, .inr ⟨w.heap.size, 2, _, rfl, Nat.le_refl _, HG.out, Nat.le_refl _, by simp [maxLen], rfl, ?_⟩⟩, HK.out⟩
      simp [bts, be2, bt_nat]
def put4C (n : Nat) : Nat → Array Value
  | 0 => #[.int .u8 0, .int .u8 0, .int .u8 0, .int .u8 0]
  | 1 => #[.int .u8 0, .int .u8 0, .int .u8 0, .int .u8 ((n : Int) % 256)]
  | 2 => #[.int .u8 0, .int .u8 0, .int .u8 ((n : Int) / 256 % 256), .int .u8 ((n : Int) % 256)]
  | 3 => #[.int .u8 0, .int .u8 ((n : Int) / 65536 % 256), .int .u8 ((n : Int) / 256 % 256), .int .u8 ((n : Int) % 256)]
  | _ => #[.int .u8 ((n : Int) / 16777216 % 256), .int .u8 ((n : Int) / 65536 % 256), .int .u8 ((n : Int) / 256 % 256), .int .u8 ((n : Int) % 256)]
structure Put4Rel (n : Nat) (w : World) (iv : Value) (wr : World) : Prop where
  out : ∃ i : Nat, iv = .int .i64 (i : Nat) ∧ i ≤ 4 ∧ wr.heap[w.heap.size]? = some (.cells (put4C n i) 5 (0, 0)) ∧ Kept No w wr
set_option maxRecDepth 100000 in
set_option maxHeartbeats 1600000 in
theorem put4_any {n : Nat} (hn : n < 4294967296) (w : World) : Calls Tryz.prog 33 #[.int .u32 (n : Nat), .int .i64 4] w fun e w' => (∃ v, e = .returned v ∧ BRow w' w.heap.size v (be4 n)) ∧ Kept No w w' := by
  have hmk : ∀ w, (Instr.makeSlice 51 (.int .i64 4) (.int .i64 4)).run Tryz.prog w = .ok (.slice (some ⟨w.heap.size, 0, none⟩) 4 4) (w.alloc (.cells (madeCells #[.int .u8 0] 4) 5)) := run_make_row' (P := Tryz.prog) 51 5 (.int .u8 0) 1 Tryz.underlying51 (by kernel_rfl) rfl .i64 .i64 4 (by omega) (by omega)
  have HN := Lib.hid hn
  clear hn
  go_enter Tryz.func33, Tryz.ntmps33
  go_wp2_with fail
  go_loopw [11] (fun iv wr => Put4Rel n w iv wr) (fun iv _ => 4 - (intOf iv).toNat)
  case atStart => exact ⟨⟨0, rfl, by decide, (heap_alloc_new w _).trans (congrArg (fun c => some (Obj.cells c 5 (0, 0))) (show madeCells #[.int .u8 0] 4 = put4C n 0 from Array.toList_inj.1 (by rw [toList_madeCells_one]; rfl))), (Kept.refl No w).alloc _⟩⟩
  case round =>
    obtain ⟨i, rfl, hi, hg, hk⟩ := hrel.out
    have HK := Lib.hid hk
    have hsz := hk.size
    obtain rfl | rfl | rfl | rfl | rfl : i = 0 ∨ i = 1 ∨ i = 2 ∨ i = 3 ∨ i = 4 := by omega
    · have hg : wr.heap[w.heap.size]? = some (.cells #[.int .u8 0, .int .u8 0, .int .u8 0, .int .u8 0] 5 (0, 0)) := hg
      have g0 := obj_cell hg 3
      have f0 : wr.frozen? ⟨w.heap.size, 3, none⟩ = false := obj_free hg 3
      have HG := Lib.hid (obj_store hg 3 (.int .u8 ((n : Int) % 256)))
      have HKS := Lib.hid hk
      clear hg hk
      go_wp2_with fail
      exact ⟨⟨1, rfl, by decide, HG.out, HKS.out.put (Nat.le_refl _) _⟩, by simp [intOf]⟩
    · have hg : wr.heap[w.heap.size]? = some (.cells #[.int .u8 0, .int .u8 0, .int .u8 0, .int .u8 ((n : Int) % 256)] 5 (0, 0)) := hg
      have g0 := obj_cell hg 2
      have f0 : wr.frozen? ⟨w.heap.size, 2, none⟩ = false := obj_free hg 2
      have HG := Lib.hid (obj_store hg 2 (.int .u8 ((n : Int) / 256 % 256)))
      have HKS := Lib.hid hk
      clear hg hk
      go_wp2_with fail
      exact ⟨⟨2, rfl, by decide, HG.out, HKS.out.put (Nat.le_refl _) _⟩, by simp [intOf]⟩
    · have hg : wr.heap[w.heap.size]? = some (.cells #[.int .u8 0, .int .u8 0, .int .u8 ((n : Int) / 256 % 256), .int .u8 ((n : Int) % 256)] 5 (0, 0)) := hg
      have g0 := obj_cell hg 1
      have f0 : wr.frozen? ⟨w.heap.size, 1, none⟩ = false := obj_free hg 1
      have HG := Lib.hid (obj_store hg 1 (.int .u8 ((n : Int) / 65536 % 256)))
      have HKS := Lib.hid hk
      clear hg hk
      go_wp2_with fail
      exact ⟨⟨3, rfl, by decide, HG.out, HKS.out.put (Nat.le_refl _) _⟩, by simp [intOf]⟩
    · have hg : wr.heap[w.heap.size]? = some (.cells #[.int .u8 0, .int .u8 ((n : Int) / 65536 % 256), .int .u8 ((n : Int) / 256 % 256), .int .u8 ((n : Int) % 256)] 5 (0, 0)) := hg
      have g0 := obj_cell hg 0
      have f0 : wr.frozen? ⟨w.heap.size, 0, none⟩ = false := obj_free hg 0
      have HG := Lib.hid (obj_store hg 0 (.int .u8 ((n : Int) / 16777216 % 256)))
      have HKS := Lib.hid hk
      clear hg hk
      go_wp2_with fail
      exact ⟨⟨4, rfl, by decide, HG.out, HKS.out.put (Nat.le_refl _) _⟩, by simp [intOf]⟩
    · have HG := Lib.hid (show wr.heap[w.heap.size]? = some (.cells #[.int .u8 ((n : Int) / 16777216 % 256), .int .u8 ((n : Int) / 65536 % 256), .int .u8 ((n : Int) / 256 % 256), .int .u8 ((n : Int) % 256)] 5 (0, 0)) from hg)
      clear hg hk
      go_wp2_with fail
      go_ret
      refine ⟨⟨_, rfl, rfl, .inr ⟨w.heap.size, 4, _, rfl, Nat.le_refl _, HG.out, Nat.le_refl _, by simp [maxLen], rfl, ?_⟩⟩, HK.out⟩
      simp [bts, be4, bt_nat]
set_option maxRecDepth 100000 in
set_option maxHeartbeats 1600000 in
theorem grow_any {n : Nat} (h0 : 0 < n) (hn : n ≤ 1000000) (w : World) : Calls Tryz.prog 61 #[.slice none 0 0, .int .i64 (n : Nat)] w fun e w' => (∃ v, e = .returned v ∧ BRow w' w.heap.size v []) ∧ Kept No w w' := by
  have hold : (Builtin.firstCells 1 0 (.slice none 0 0)).run Tryz.prog w.drew = .ok #[] w.drew := run_firstCells_none w.drew 1 0 0 0
  obtain ⟨i, hi, hz, hs1, hb1⟩ := ei8.hi
  have hrz : ∀ ty, (Builtin.append_ #[51, 3] ty #[.slice none 0 0, .int .i64 (n : Nat)]).run Tryz.prog w = .ok (.slice (some ⟨w.heap.size, 0, none⟩) n (grownCap w n 0 5)) (w.drew.alloc (.cells (Builtin.zeroCells #[.int .u8 0] n ++ Builtin.zeroCells #[.int .u8 0] (grownCap w n 0 5 - n)) 5)) := fun ty => by
    have h := Lib.run_append_grow_zeros w 51 3 ty 5 i (.int .u8 0) .i64 .i64 Tryz.underlying51 Tryz.underlying3 hi hz none 0 0 [] (by rw [hs1]; exact hold) n h0 (by omega) (by omega) (by omega) (by rw [hb1]; omega) (by rw [Nat.zero_add]; exact growslice_fits h0 (by rw [hb1]; omega))
    rw [Nat.zero_add, Array.empty_append] at h
    exact h
  have hG := grownCap_ge w n 0 5
  have hL := grownCap_le_maxLen w n 0 5 (by unfold maxLen; omega)
  obtain ⟨G, hGe⟩ : ∃ G, grownCap w n 0 5 = G := ⟨_, rfl⟩
  rw [hGe] at hrz hG hL
  have hL2 : G ≤ 9223372036854775807 := by unfold maxLen at hL; omega
  have hsz : (Builtin.zeroCells #[.int .u8 0] n ++ Builtin.zeroCells #[.int .u8 0] (G - n)).size = G * 1 := by
    simp [Builtin.zeroCells]
    omega
  have HZ := Lib.hid hsz
  have HL := Lib.hid hL
  have q0 : IntKind.i64.wrap (n : Int) = (n : Int) := IntWalk.i64_in _ (by omega)
  have hn0 : (0 : Int) < (n : Int) := by omega
  have hn1 : ¬ ((n : Int) < 0) := by omega
  clear hold hGe hsz hL
  go_enter Tryz.func61, Tryz.ntmps61
  go_wp2_with (at_builtin; refine Lib.wpList_append_run _ rfl _ _ _ _ rfl _ _ rfl rfl _ _ (hrz _) ?_)
  go_ret
  exact ⟨⟨_, rfl, rfl, .inr ⟨w.heap.size, G, _, rfl, Nat.le_refl _, heap_alloc_new w.drew _, Nat.zero_le _, HL.out, HZ.out, by simp [bts]⟩⟩, (Kept.refl No w).drew.alloc _⟩

/-- two slices in a row -/
def CcRel (v1 v2 : Value) (m : Nat) (n : Nat) (w : World) (nv iv : Value) (wr : World) : Prop := ∃ i s : Nat, iv = .int .i64 (i : Nat) ∧ i ≤ 2 ∧ nv = .int .i64 (s : Nat) ∧ s = (if i = 0 then 0 else if i = 1 then m else m + n) ∧ w = wr
structure Cc2Rel (a b : List UInt8) (w : World) (ov iv : Value) (wr : World) : Prop where
  out : ∃ i : Nat, iv = .int .i64 (i : Nat) ∧ i ≤ 2 ∧ BRow wr w.heap.size ov (if i = 0 then [] else if i = 1 then a else a ++ b) ∧ Kept No w wr
set_option maxRecDepth 100000 in
set_option maxHeartbeats 1600000 in
theorem concat_any {a b : List UInt8} (h0 : 0 < b.length) (hl : a.length + b.length ≤ 1000000) {w : World} {B : Nat → Prop} {v1 v2 : Value} {g : Nat} (h1 : Rd w B 1 v1 a.length (bts a)) (h2 : Rd w B 1 v2 b.length (bts b)) (hg : w.heap[g]? = some (.cells #[v1, v2] 51 (0, 0))) :
    Calls Tryz.prog 35 #[.slice (some ⟨g, 0, none⟩) 2 2] w fun e w' => (∃ v, e = .returned v ∧ BRow w' w.heap.size v (a ++ b)) ∧ Kept No w w' := by
  obtain ⟨ad1, cap1, rfl⟩ := rd_slice h1
  obtain ⟨ad2, cap2, rfl⟩ := rd_slice h2
  obtain ⟨m, hm⟩ : ∃ m, a.length = m := ⟨_, rfl⟩
  obtain ⟨n, hn⟩ : ∃ n, b.length = n := ⟨_, rfl⟩
  have HM := Lib.hid hm
  have HN := Lib.hid hn
  rw [hm] at h1 hg hl
  rw [hn] at h2 hg hl h0
  have H1 := Lib.hid h1
  have H2 := Lib.hid h2
  have HG := Lib.hid hg
  have HL := Lib.hid hl
  have g0 : w.cell? ⟨g, 0, none⟩ = some (.slice ad1 m cap1) := obj_cell hg 0
  have g1 : w.cell? ⟨g, 1, none⟩ = some (.slice ad2 n cap2) := obj_cell hg 1
  have HGr := Lib.hid (fun w' => grow_any (n := m + n) (by omega) hl w')
  clear h1 h2 hg hm hn h0 hl
  go_enter Tryz.func35, Tryz.ntmps35
  go_wp2_with fail
  go_loopw [3, 11] (fun nv iv wr => CcRel (.slice ad1 m cap1) (.slice ad2 n cap2) m n w nv iv wr) (fun _ iv _ => 2 - (intOf iv).toNat)
  case atStart => exact ⟨0, 0, rfl, by decide, rfl, rfl, rfl⟩
  case round =>
    obtain ⟨i, s, rfl, hi, rfl, hs, rfl⟩ := hrel
    have hl := HL.out
    obtain rfl | rfl | rfl : i = 0 ∨ i = 1 ∨ i = 2 := by omega
    · replace hs : s = 0 := hs
      subst hs
      have q0 : IntKind.i64.wrap (m : Int) = (m : Int) := IntWalk.i64_in _ (by omega)
      have q1 : ¬ ((m : Int) < 0) := by omega
      clear hl
      go_wp2_with fail
      exact ⟨⟨1, m, rfl, by decide, rfl, rfl, rfl⟩, by simp [intOf]⟩
    · replace hs : s = m := hs
      subst hs
      have q0 : IntKind.i64.wrap ((s : Int) + (n : Int)) = (s : Int) + (n : Int) := IntWalk.i64_in _ (by omega)
      have q1 : ¬ ((s : Int) + (n : Int) < 0) := by omega
      clear hl
      go_wp2_with fail
      exact ⟨⟨2, s + n, rfl, by decide, by rw [Int.natCast_add], rfl, rfl⟩, by simp [intOf]⟩
    · replace hs : s = m + n := hs
      subst hs
      clear hl
      go_wp2_with fail
      refine (HGr.out _).mono ?_
      rintro e w1 ⟨⟨v, rfl, hb⟩, hk⟩
      have HB := Lib.hid hb
      have HK := Lib.hid hk
      have HSZ := Lib.hid hk.size
      clear g0 g1
      obtain ⟨ad, cap, rfl⟩ := owned_slice hb
      clear hb hk
      go_wp2_with fail
      go_loopw [6, 27] (fun ov iv W => Cc2Rel a b w ov iv W) (fun _ iv _ => 2 - (intOf iv).toNat)
      case atStart => exact ⟨⟨0, rfl, by decide, HB.out, HK.out⟩⟩
      case round =>
        obtain ⟨i, rfl, hi, hb, hk⟩ := hrel.out
        obtain ⟨ado, cpo, rfl⟩ := owned_slice hb
        have g0 : wr.cell? ⟨g, 0, none⟩ = some (.slice ad1 m cap1) := obj_cell (hk.obj HG.out (not_no _)) 0
        have g1 : wr.cell? ⟨g, 1, none⟩ = some (.slice ad2 n cap2) := obj_cell (hk.obj HG.out (not_no _)) 1
        have HK := Lib.hid hk
        obtain rfl | rfl | rfl : i = 0 ∨ i = 1 ∨ i = 2 := by omega
        · have HB := Lib.hid (show wr.ownsRow w.heap.size 5 1 (.slice ado 0 cpo) 0 (bts []) from hb)
          have HR := Lib.hid (H1.out.kept hk fun _ _ _ => not_no _)
          have HB0 := Lib.hid (show (0 + m) * 1 ≤ 140737488355328 by have := HL.out; omega)
          have HSZ2 := Lib.hid hk.size
          clear hb hk
          go_wp2_with (at_builtin; refine wpList_append_rd rfl rfl rfl rfl ei8 HB.out HR.out (bts_one _) HB0.out HSZ2.out ?_; intro v2 w2 hown hg _)
          refine ⟨⟨⟨1, rfl, by decide, ?_, HK.out.grown hg fun k e h => absurd (HB.out.lt k e).1 (by omega)⟩⟩, by simp [intOf]⟩
          rw [Nat.zero_add] at hown
          show w2.ownsRow _ _ _ _ a.length _
          rw [HM.out]
          exact hown
        · have HB := Lib.hid (show wr.ownsRow w.heap.size 5 1 (.slice ado m cpo) m (bts a) from by rw [← HM.out]; exact hb)
          have hl1 : (if 1 = 0 then ([] : List UInt8) else if 1 = 1 then a else a ++ b).length = m := HM.out
          have HR := Lib.hid (H2.out.kept hk fun _ _ _ => not_no _)
          have HB0 := Lib.hid (show (m + n) * 1 ≤ 140737488355328 by have := HL.out; omega)
          have HSZ2 := Lib.hid hk.size
          rw [hl1]
          clear hb hk hl1
          go_wp2_with (at_builtin; refine wpList_append_rd rfl rfl rfl rfl ei8 HB.out HR.out (bts_one _) HB0.out HSZ2.out ?_; intro v2 w2 hown hg _)
          refine ⟨⟨⟨2, rfl, by decide, ?_, HK.out.grown hg fun k e h => absurd (HB.out.lt k e).1 (by omega)⟩⟩, by simp [intOf]⟩
          show w2.ownsRow _ _ _ _ (a ++ b).length (bts (a ++ b))
          rw [List.length_append, HM.out, HN.out, bts_app]
          exact hown
        · have HB := Lib.hid hb
          clear hb hk
          go_wp2_with fail
          go_ret
          exact ⟨⟨_, rfl, HB.out⟩, HK.out⟩
end Go.Proofs.YtclgoilfclmibaaGreatDoor
namespace Go.Proofs.YtclgoilfclmibaaGreatDoor
open Go Go.RowKit Go.Zn
attribute [local go_sem] Oper.semAt_some

theorem cenc_len {c : Crd} (hc : cvalid c = true) : (cenc c).length ≤ 1000 := by
  have h := cvalid_in hc
  have h1 := h.name
  have h2 := (allE_out h.effs).1
  have h3 := h.many
  have h5 := tB_len (l := c.trgs) fun x hx => h.trgs x hx
  unfold cenc
  simp only [List.length_append, List.length_cons, eenc_len, cB1, cB2, List.length_nil]
  omega
theorem cencs_len : ∀ {l : List Crd}, (∀ c ∈ l, cvalid c = true) → (l.flatMap cenc).length ≤ 1000 * l.length
  | [], _ => by simp
  | c :: l, h => by
    have h1 := cenc_len (h c (by simp))
    have h2 := cencs_len (l := l) fun x hx => h x (List.mem_cons_of_mem _ hx)
    rw [List.flatMap_cons, List.length_append, List.length_cons]
    omega
def PeRel (l : List Crd) (w : World) (ov iv : Value) (wr : World) : Prop := ∃ i : Nat, iv = .int .i64 (i : Nat) ∧ i ≤ l.length ∧ BRow wr w.heap.size ov (be2 l.length ++ (l.take i).flatMap cenc) ∧ Kept No w wr
set_option maxRecDepth 100000 in
set_option maxHeartbeats 4000000 in
theorem pencode_any {w : World} {B : Nat → Prop} {p : Value} {l : List Crd} (h : PoolAt w B p l) (hv : wrongF l = 0) : Calls Tryz.prog 15 #[p] w (BytesPost (penc l) w) := by
  obtain ⟨h400, hval, _⟩ := wrong_out hv
  obtain ⟨g, m, v, rfl, h⟩ := h
  obtain ⟨ad, cap, rfl⟩ := h.cards.slice
  have HZ := Lib.hid (zero_no h)
  have c0 : w.cell? ⟨g, 0, none⟩ = some (.slice ad l.length cap) := obj_cell h.obj 0
  have HP := Lib.hid h
  have HVAL := Lib.hid hval
  obtain ⟨n, hn⟩ : ∃ n, l.length = n := ⟨_, rfl⟩
  have HN := Lib.hid hn
  have HB0 := Lib.hid (show (body l).length ≤ 500000 by
    have := cencs_len hval
    unfold body
    rw [List.length_append, be2_len]; omega)
  have HPUT := Lib.hid (put2_any (n := n) (by omega) w)
  rw [hn] at c0 h400 HP
  have HL := Lib.hid h400
  have q0 : (n : Int) % 4294967296 = (n : Int) := by omega
  clear h hn hval hv h400
  go_enter Tryz.func15, Tryz.ntmps15
  go_wp2_with fail
  refine HZ.out.mono ?_
  rintro e w' ⟨rfl, rfl⟩
  go_wp2_with fail
  refine HPUT.out.mono ?_
  rintro e w1 ⟨⟨v, rfl, hb⟩, hk⟩
  have c1 : w1.cell? ⟨g, 0, none⟩ = some (.slice ad n cap) := obj_cell (hk.obj HP.out.obj (not_no _)) 0
  have HB := Lib.hid hb
  have HK1 := Lib.hid hk
  obtain ⟨adb, capb, rfl⟩ := owned_slice hb
  clear hb hk c0 q0
  go_wp2_with fail
  go_loopw [4, 23] (fun ov iv wr => PeRel l w ov iv wr) (fun _ iv _ => n - (intOf iv).toNat)
  case atStart =>
    refine ⟨0, rfl, Nat.zero_le _, ?_, HK1.out⟩
    rw [HN.out, List.take_zero, List.flatMap_nil, List.append_nil]
    exact HB.out
  case round =>
    obtain ⟨i, rfl, hi, ho, hk⟩ := hrel
    rw [HN.out] at hi
    obtain ⟨ado, cpo, rfl⟩ := owned_slice ho
    have HK := Lib.hid hk
    by_cases hlt : i < n
    · have hil : i < l.length := by rw [HN.out]; exact hlt
      obtain ⟨c, hc⟩ : ∃ c, l[i]? = some c := ⟨_, List.getElem?_eq_getElem hil⟩
      obtain ⟨b, off, cap1, ev, tv, hs, hcap, hrg, hca⟩ := (HP.out.no hk).cards.at hc
      obtain ⟨ade, cape, rfl⟩ := rd_slice hca.effs
      obtain ⟨adt, capt, rfl⟩ := hca.trgs.slice
      rw [HN.out] at hs
      cases hs
      have hcv := HVAL.out c (List.mem_of_getElem? hc)
      have HRG := Lib.hid (show wr.rangeAt b (off + i * 14) [.string (strOf c.name), .int .i64 c.kind, .int .i64 c.o0, .int .i64 c.o1, .int .i64 c.o2, .int .i64 c.o3, .int .i64 c.any, .int .i64 c.makes, .int .i64 c.power, .int .i64 c.tough, .int .i64 c.keys, .slice ade c.effs.length cape, .slice adt c.trgs.length capt, .int .i64 c.rarity] from hrg)
      have HOB := Lib.hid (show (wr.alloc (.cells #[.string (strOf c.name), .int .i64 c.kind, .int .i64 c.o0, .int .i64 c.o1, .int .i64 c.o2, .int .i64 c.o3, .int .i64 c.any, .int .i64 c.makes, .int .i64 c.power, .int .i64 c.tough, .int .i64 c.keys, .slice ade c.effs.length cape, .slice adt c.trgs.length capt, .int .i64 c.rarity] 46)).heap[wr.heap.size]? = some (.cells #[.string (strOf c.name), .int .i64 c.kind, .int .i64 c.o0, .int .i64 c.o1, .int .i64 c.o2, .int .i64 c.o3, .int .i64 c.any, .int .i64 c.makes, .int .i64 c.power, .int .i64 c.tough, .int .i64 c.keys, .slice ade c.effs.length cape, .slice adt c.trgs.length capt, .int .i64 c.rarity] 46 (0, 0)) from heap_alloc_new wr _)
      have HCE := Lib.hid (cencode_any (sm_of_valid hcv) hcv (hca.no ((Kept.refl No wr).alloc (.cells #[.string (strOf c.name), .int .i64 c.kind, .int .i64 c.o0, .int .i64 c.o1, .int .i64 c.o2, .int .i64 c.o3, .int .i64 c.any, .int .i64 c.makes, .int .i64 c.power, .int .i64 c.tough, .int .i64 c.keys, .slice ade c.effs.length cape, .slice adt c.trgs.length capt, .int .i64 c.rarity] 46))))
      have hcl := cenc_len hcv
      have htl := cencs_len (l := l.take i) (fun x hx => HVAL.out x (List.mem_of_mem_take hx))
      rw [List.length_take] at htl
      have HTK := Lib.hid (show (l.take (i + 1)).flatMap cenc = (l.take i).flatMap cenc ++ cenc c by rw [List.take_add_one, hc]; simp)
      obtain ⟨bs, hbs⟩ : ∃ bs, be2 l.length ++ (l.take i).flatMap cenc = bs := ⟨_, rfl⟩
      have hbl : bs.length ≤ 2 + 1000 * n := by
        rw [← hbs, List.length_append, be2_len]; omega
      rw [hbs] at ho ⊢
      obtain ⟨mb, hmb⟩ : ∃ mb, bs.length = mb := ⟨_, rfl⟩
      obtain ⟨mc, hmc⟩ : ∃ mc, (cenc c).length = mc := ⟨_, rfl⟩
      have HMC := Lib.hid hmc
      have HMB := Lib.hid hmb
      have HBS := Lib.hid hbs
      have ho2 : wr.ownsRow w.heap.size 5 1 (.slice ado bs.length cpo) bs.length (bts bs) := ho
      rw [hmb] at ho2 hbl ⊢
      rw [hmc] at hcl
      have HO := Lib.hid ho2
      have HLE := Lib.hid (show (mb + mc) * 1 ≤ 140737488355328 by have := HL.out; omega)
      have d1 : decide (i < n) = true := decide_eq_true hlt
      have hi0 : (0 : Int) ≤ (i : Int) := by omega
      have hin : (i : Int) < (n : Int) := by omega
      have q4 : IntKind.i64.wrap ((i : Int) + 1) = (i : Int) + 1 := IntWalk.i64_in _ (by have := HL.out; omega)
      have HI := Lib.hid hlt
      clear ho ho2 hk hlt hil hc hrg hca htl hcap hcv hcl hbs hmb hmc hbl
      go_wp2_with (first | (with_reducible refine wpList_load_mid rfl 46 _ rfl b (off + i * 14) rfl [.string (strOf c.name), .int .i64 c.kind, .int .i64 c.o0, .int .i64 c.o1, .int .i64 c.o2, .int .i64 c.o3, .int .i64 c.any, .int .i64 c.makes, .int .i64 c.power, .int .i64 c.tough, .int .i64 c.keys, .slice ade c.effs.length cape, .slice adt c.trgs.length capt, .int .i64 c.rarity] _ HRG.out Tryz.underlying46 rfl (by kernel_rfl) ?_) | (with_reducible refine wpList_load_row rfl 46 _ rfl wr.heap.size rfl 46 _ (0, 0) _ HOB.out Tryz.underlying46 rfl (by kernel_rfl) ?_))
      refine HCE.out.mono ?_
      rintro e w2 ⟨vc, rfl, hc2, hk2⟩
      obtain ⟨adc, cpc, rfl⟩ := owned_slice hc2
      have hc3 : w2.ownsRow (wr.alloc (.cells #[.string (strOf c.name), .int .i64 c.kind, .int .i64 c.o0, .int .i64 c.o1, .int .i64 c.o2, .int .i64 c.o3, .int .i64 c.any, .int .i64 c.makes, .int .i64 c.power, .int .i64 c.tough, .int .i64 c.keys, .slice ade c.effs.length cape, .slice adt c.trgs.length capt, .int .i64 c.rarity] 46)).heap.size 5 1 (.slice adc (cenc c).length cpc) (cenc c).length (bts (cenc c)) := hc2
      rw [HMC.out] at hc3 ⊢
      have HC2 := Lib.hid (rd_owned hc3)
      have HK2 := Lib.hid ((HK.out.alloc _).and hk2)
      have HO2 := Lib.hid (owned_kept HO.out (((Kept.refl No wr).alloc _).and hk2) fun _ _ _ => not_no _)
      have HSZ := Lib.hid (HK2.out.size)
      clear hk2 hc2 hc3
      go_wp2_with (at_builtin; refine wpList_append_rd rfl rfl rfl rfl ei8 HO2.out HC2.out (bts_one _) HLE.out HSZ.out ?_; intro v5 w5 hown5 hg5 _)
      have hI := HI.out
      refine ⟨⟨i + 1, by go_num, by rw [HN.out]; omega, ?_, ?_⟩, by simp [intOf]; omega⟩
      · rw [HTK.out, ← List.append_assoc, HBS.out]
        show w5.ownsRow _ _ _ _ (bs ++ cenc c).length (bts (bs ++ cenc c))
        rw [List.length_append, HMB.out, HMC.out, bts_app]
        exact hown5
      · exact HK2.out.grown hg5 (fun k e h => absurd (HO2.out.lt k e).1 (by omega))
    · have d1 : decide (i < n) = false := decide_eq_false hlt
      have hR : be2 l.length ++ (l.take i).flatMap cenc = body l := by rw [List.take_of_length_le (by rw [HN.out]; omega)]; rfl
      rw [hR] at ho ⊢
      have HO := Lib.hid ho
      have HS := Lib.hid (psum_any (by have := HB0.out; omega) (rd_owned ho))
      have HPT := Lib.hid (fun w' => put4_any (sumF_lt (body l)) w')
      obtain ⟨mb, hmb⟩ : ∃ mb, (body l).length = mb := ⟨_, rfl⟩
      have HMB := Lib.hid hmb
      obtain ⟨s, hs⟩ : ∃ s, sumF (body l) = s := ⟨_, rfl⟩
      have HSS := Lib.hid hs
      rw [hmb] at HS ⊢
      rw [hs] at HS HPT
      clear hlt hk ho hmb hs hR
      go_wp2_with fail
      refine HS.out.mono ?_
      rintro e w2 ⟨rfl, rfl⟩
      go_wp2_with fail
      refine (HPT.out _).mono ?_
      rintro e w3 ⟨⟨v4, rfl, hb4⟩, hk4⟩
      obtain ⟨ad4, cap4, rfl⟩ := owned_slice hb4
      have HB4 := Lib.hid hb4
      have HK4 := Lib.hid hk4
      clear hb4 hk4
      go_wp2_with fail
      have hsz3 : w.heap.size ≤ w3.heap.size := by have := HK.out.size; have := HK4.out.size; omega
      have HK3 := Lib.hid ((HK.out.and HK4.out).alloc (.cells #[Value.slice ado mb cpo, Value.slice ad4 (be4 s).length cap4] 51))
      have hbody : Rd (w3.alloc (.cells #[Value.slice ado mb cpo, Value.slice ad4 (be4 s).length cap4] 51)) (fun _ => True) 1 (.slice ado mb cpo) (body l).length (bts (body l)) := by
        have := ((rd_owned HO.out).kept HK4.out (fun _ _ _ => not_no _)).alloc (.cells #[Value.slice ado mb cpo, Value.slice ad4 (be4 s).length cap4] 51)
        rw [HMB.out] at this ⊢
        exact this.mono fun _ _ _ => trivial
      have htail := ((rd_owned HB4.out).alloc (.cells #[Value.slice ado mb cpo, Value.slice ad4 (be4 s).length cap4] 51)).mono (C := fun _ => True) fun _ _ _ => trivial
      refine (concat_any (by rw [be4_len]; decide) (by have := HB0.out; rw [be4_len]; omega) hbody htail (heap_alloc_new w3 _)).mono ?_
      rintro e w5 ⟨⟨v5, rfl, hb5⟩, hk5⟩
      have HB5 := Lib.hid hb5
      have HK5 := Lib.hid hk5
      have HS3 := Lib.hid hsz3
      obtain ⟨ad5, cap5, rfl⟩ := owned_slice hb5
      clear hb5 hk5 hbody htail hsz3
      go_wp2_with fail
      go_ret2
      refine ⟨_, rfl, ?_, HK3.out.and HK5.out⟩
      have hp : penc l = body l ++ be4 s := by unfold penc; rw [HSS.out]
      rw [hp]
      have hb := HB5.out
      unfold BRow at hb
      rw [List.length_append] at hb
      show w5.ownsRow _ _ _ (.slice ad5 ((body l).length + (be4 s).length) cap5) (body l ++ be4 s).length _
      rw [List.length_append]
      exact owned_mono hb (by have := HS3.out; simp; omega)
end Go.Proofs.YtclgoilfclmibaaGreatDoor
