/-
  Pool: a number as bytes; two rows of bytes joined.
-/
import Derived.Test.YtclgoilfclmibaaDoorQa
import Derived.Test.YtclgoilfclmibaaDoorTk
import Derived.Lib.AppendZerosOnto
set_option linter.unusedVariables false
set_option linter.unusedSimpArgs false
namespace Go.Proofs.YtclgoilfclmibaaDoor
open Go Go.RowKit Go.Zn
attribute [local go_sem] Oper.semAt_some

def put2C (n : Nat) : Nat → Array Value
  | 0 => #[.int .u8 0, .int .u8 0]
  | 1 => #[.int .u8 0, .int .u8 ((n : Int) % 256)]
  | _ => #[.int .u8 ((n : Int) / 256 % 256), .int .u8 ((n : Int) % 256)]
structure Put2Rel (n : Nat) (w : World) (iv : Value) (wr : World) : Prop where
  out : ∃ i : Nat, iv = .int .i64 (i : Nat) ∧ i ≤ 2 ∧ wr.heap[w.heap.size]? = some (.cells (put2C n i) 5 (0, 0)) ∧ Kept No w wr
set_option maxRecDepth 100000 in
set_option maxHeartbeats 1600000 in
theorem put2_any {n : Nat} (hn : n < 4294967296) (w : World) : Calls Tryd.prog 31 #[.int .u32 (n : Nat), .int .i64 2] w fun e w' => (∃ v, e = .returned v ∧ BRow w' w.heap.size v (be2 n)) ∧ Kept No w w' := by
  have hmk : ∀ w, (Instr.makeSlice 24 (.int .i64 2) (.int .i64 2)).run Tryd.prog w = .ok (.slice (some ⟨w.heap.size, 0, none⟩) 2 2) (w.alloc (.cells (madeCells #[.int .u8 0] 2) 5)) := run_make_row' (P := Tryd.prog) 24 5 (.int .u8 0) 1 Tryd.underlying24 (by kernel_rfl) rfl .i64 .i64 2 (by omega) (by omega)
  have HN := Lib.hid hn
  clear hn
  go_enter Tryd.func31, Tryd.ntmps31
  go_wp2_with fail
  go_loopw [11] (fun iv wr => Put2Rel n w iv wr) (fun iv _ => 2 - (intOf iv).toNat)
  case atStart => exact ⟨⟨0, rfl, by decide, (heap_alloc_new w _).trans (congrArg (fun c => some (Obj.cells c 5 (0, 0))) (show madeCells #[.int .u8 0] 2 = put2C n 0 from Array.toList_inj.1 (by rw [toList_madeCells_one]; rfl))), (Kept.refl No w).alloc _⟩⟩
  case round =>
    obtain ⟨i, rfl, hi, hg, hk⟩ := hrel.out
    have HK := Lib.hid hk
    have hsz := hk.size
    obtain rfl | rfl | rfl : i = 0 ∨ i = 1 ∨ i = 2 := by omega
    · have hg : wr.heap[w.heap.size]? = some (.cells #[.int .u8 0, .int .u8 0] 5 (0, 0)) := hg
      have g0 := obj_cell hg 1
      have f0 : wr.frozen? ⟨w.heap.size, 1, none⟩ = false := obj_free hg 1
      have HG := Lib.hid (obj_store hg 1 (.int .u8 ((n : Int) % 256)))
      have HKS := Lib.hid hk
      clear hg hk
      go_wp2_with fail
      exact ⟨⟨1, rfl, by decide, HG.out, HKS.out.put (Nat.le_refl _) _⟩, by simp [intOf]⟩
    · have hg : wr.heap[w.heap.size]? = some (.cells #[.int .u8 0, .int .u8 ((n : Int) % 256)] 5 (0, 0)) := hg
      have g0 := obj_cell hg 0
      have f0 : wr.frozen? ⟨w.heap.size, 0, none⟩ = false := obj_free hg 0
      have HG := Lib.hid (obj_store hg 0 (.int .u8 ((n : Int) / 256 % 256)))
      have HKS := Lib.hid hk
      clear hg hk
      go_wp2_with fail
      exact ⟨⟨2, rfl, by decide, HG.out, HKS.out.put (Nat.le_refl _) _⟩, by simp [intOf]⟩
    · have HG := Lib.hid (show wr.heap[w.heap.size]? = some (.cells #[.int .u8 ((n : Int) / 256 % 256), .int .u8 ((n : Int) % 256)] 5 (0, 0)) from hg)
      clear hg hk
      go_wp2_with fail
      go_ret
      refine ⟨⟨_, rfl, rfl, .inr ⟨w.heap.size, 2, _, rfl, Nat.le_refl _, HG.out, Nat.le_refl _, by simp [maxLen], rfl, ?_⟩⟩, HK.out⟩
      simp [bts, be2, bt_nat]
def put4C (n : Nat) : Nat → Array Value
  | 0 => #[.int .u8 0, .int .u8 0, .int .u8 0, .int .u8 0]
  | 1 => #[.int .u8 0, .int .u8 0, .int .u8 0, .int .u8 ((n : Int) % 256)]
  | 2 => #[.int .u8 0, .int .u8 0, .int .u8 ((n : Int) / 256 % 256), .int .u8 ((n : Int) % 256)]
  | 3 => #[.int .u8 0, .int .u8 ((n : Int) / 65536 % 256), .int .u8 ((n : Int) / 256 % 256), .int .u8 ((n : Int) % 256)]
  | _ => #[.int .u8 ((n : Int) / 16777216 % 256), .int .u8 ((n : Int) / 65536 % 256), .int .u8 ((n : Int) / 256 % 256), .int .u8 ((n : Int) % 256)]
structure Put4Rel (n : Nat) (w : World) (iv : Value) (wr : World) : Prop where
  out : ∃ i : Nat, iv = .int .i64 (i : Nat) ∧ i ≤ 4 ∧ wr.heap[w.heap.size]? = some (.cells (put4C n i) 5 (0, 0)) ∧ Kept No w wr
set_option maxRecDepth 100000 in
set_option maxHeartbeats 1600000 in
theorem put4_any {n : Nat} (hn : n < 4294967296) (w : World) : Calls Tryd.prog 31 #[.int .u32 (n : Nat), .int .i64 4] w fun e w' => (∃ v, e = .returned v ∧ BRow w' w.heap.size v (be4 n)) ∧ Kept No w w' := by
  have hmk : ∀ w, (Instr.makeSlice 24 (.int .i64 4) (.int .i64 4)).run Tryd.prog w = .ok (.slice (some ⟨w.heap.size, 0, none⟩) 4 4) (w.alloc (.cells (madeCells #[.int .u8 0] 4) 5)) := run_make_row' (P := Tryd.prog) 24 5 (.int .u8 0) 1 Tryd.underlying24 (by kernel_rfl) rfl .i64 .i64 4 (by omega) (by omega)
  have HN := Lib.hid hn
  clear hn
  go_enter Tryd.func31, Tryd.ntmps31
  go_wp2_with fail
  go_loopw [11] (fun iv wr => Put4Rel n w iv wr) (fun iv _ => 4 - (intOf iv).toNat)
  case atStart => exact ⟨⟨0, rfl, by decide, (heap_alloc_new w _).trans (congrArg (fun c => some (Obj.cells c 5 (0, 0))) (show madeCells #[.int .u8 0] 4 = put4C n 0 from Array.toList_inj.1 (by rw [toList_madeCells_one]; rfl))), (Kept.refl No w).alloc _⟩⟩
  case round =>
    obtain ⟨i, rfl, hi, hg, hk⟩ := hrel.out
    have HK := Lib.hid hk
    have hsz := hk.size
    obtain rfl | rfl | rfl | rfl | rfl : i = 0 ∨ i = 1 ∨ i = 2 ∨ i = 3 ∨ i = 4 := by omega
    · have hg : wr.heap[w.heap.size]? = some (.cells #[.int .u8 0, .int .u8 0, .int .u8 0, .int .u8 0] 5 (0, 0)) := hg
      have g0 := obj_cell hg 3
      have f0 : wr.frozen? ⟨w.heap.size, 3, none⟩ = false := obj_free hg 3
      have HG := Lib.hid (obj_store hg 3 (.int .u8 ((n : Int) % 256)))
      have HKS := Lib.hid hk
      clear hg hk
      go_wp2_with fail
      exact ⟨⟨1, rfl, by decide, HG.out, HKS.out.put (Nat.le_refl _) _⟩, by simp [intOf]⟩
    · have hg : wr.heap[w.heap.size]? = some (.cells #[.int .u8 0, .int .u8 0, .int .u8 0, .int .u8 ((n : Int) % 256)] 5 (0, 0)) := hg
      have g0 := obj_cell hg 2
      have f0 : wr.frozen? ⟨w.heap.size, 2, none⟩ = false := obj_free hg 2
      have HG := Lib.hid (obj_store hg 2 (.int .u8 ((n : Int) / 256 % 256)))
      have HKS := Lib.hid hk
      clear hg hk
      go_wp2_with fail
      exact ⟨⟨2, rfl, by decide, HG.out, HKS.out.put (Nat.le_refl _) _⟩, by simp [intOf]⟩
    · have hg : wr.heap[w.heap.size]? = some (.cells #[.int .u8 0, .int .u8 0, .int .u8 ((n : Int) / 256 % 256), .int .u8 ((n : Int) % 256)] 5 (0, 0)) := hg
      have g0 := obj_cell hg 1
      have f0 : wr.frozen? ⟨w.heap.size, 1, none⟩ = false := obj_free hg 1
      have HG := Lib.hid (obj_store hg 1 (.int .u8 ((n : Int) / 65536 % 256)))
      have HKS := Lib.hid hk
      clear hg hk
      go_wp2_with fail
      exact ⟨⟨3, rfl, by decide, HG.out, HKS.out.put (Nat.le_refl _) _⟩, by simp [intOf]⟩
    · have hg : wr.heap[w.heap.size]? = some (.cells #[.int .u8 0, .int .u8 ((n : Int) / 65536 % 256), .int .u8 ((n : Int) / 256 % 256), .int .u8 ((n : Int) % 256)] 5 (0, 0)) := hg
      have g0 := obj_cell hg 0
      have f0 : wr.frozen? ⟨w.heap.size, 0, none⟩ = false := obj_free hg 0
      have HG := Lib.hid (obj_store hg 0 (.int .u8 ((n : Int) / 16777216 % 256)))
      have HKS := Lib.hid hk
      clear hg hk
      go_wp2_with fail
      exact ⟨⟨4, rfl, by decide, HG.out, HKS.out.put (Nat.le_refl _) _⟩, by simp [intOf]⟩
    · have HG := Lib.hid (show wr.heap[w.heap.size]? = some (.cells #[.int .u8 ((n : Int) / 16777216 % 256), .int .u8 ((n : Int) / 65536 % 256), .int .u8 ((n : Int) / 256 % 256), .int .u8 ((n : Int) % 256)] 5 (0, 0)) from hg)
      clear hg hk
      go_wp2_with fail
      go_ret
      refine ⟨⟨_, rfl, rfl, .inr ⟨w.heap.size, 4, _, rfl, Nat.le_refl _, HG.out, Nat.le_refl _, by simp [maxLen], rfl, ?_⟩⟩, HK.out⟩
      simp [bts, be4, bt_nat]
set_option maxRecDepth 100000 in
set_option maxHeartbeats 1600000 in
theorem grow_any {n : Nat} (h0 : 0 < n) (hn : n ≤ 1000000) (w : World) : Calls Tryd.prog 52 #[.slice none 0 0, .int .i64 (n : Nat)] w fun e w' => (∃ v, e = .returned v ∧ BRow w' w.heap.size v []) ∧ Kept No w w' := by
  have hold : (Builtin.firstCells 1 0 (.slice none 0 0)).run Tryd.prog w.drew = .ok #[] w.drew := run_firstCells_none w.drew 1 0 0 0
  obtain ⟨i, hi, hz, hs1, hb1⟩ := ei8.hi
  have hrz : ∀ ty, (Builtin.append_ #[24, 3] ty #[.slice none 0 0, .int .i64 (n : Nat)]).run Tryd.prog w = .ok (.slice (some ⟨w.heap.size, 0, none⟩) n (grownCap w n 0 5)) (w.drew.alloc (.cells (Builtin.zeroCells #[.int .u8 0] n ++ Builtin.zeroCells #[.int .u8 0] (grownCap w n 0 5 - n)) 5)) := fun ty => by
    have h := Lib.run_append_grow_zeros w 24 3 ty 5 i (.int .u8 0) .i64 .i64 Tryd.underlying24 Tryd.underlying3 hi hz none 0 0 [] (by rw [hs1]; exact hold) n h0 (by omega) (by omega) (by omega) (by rw [hb1]; omega) (by rw [Nat.zero_add]; exact growslice_fits h0 (by rw [hb1]; omega))
    rw [Nat.zero_add, Array.empty_append] at h
    exact h
  have hG := grownCap_ge w n 0 5
  have hL := grownCap_le_maxLen w n 0 5 (by unfold maxLen; omega)
  obtain ⟨G, hGe⟩ : ∃ G, grownCap w n 0 5 = G := ⟨_, rfl⟩
  rw [hGe] at hrz hG hL
  have hL2 : G ≤ 9223372036854775807 := by unfold maxLen at hL; omega
  have hsz : (Builtin.zeroCells #[.int .u8 0] n ++ Builtin.zeroCells #[.int .u8 0] (G - n)).size = G * 1 := by
    simp [Builtin.zeroCells]
    omega
  have HZ := Lib.hid hsz
  have HL := Lib.hid hL
  have q0 : IntKind.i64.wrap (n : Int) = (n : Int) := IntWalk.i64_in _ (by omega)
  have hn0 : (0 : Int) < (n : Int) := by omega
  have hn1 : ¬ ((n : Int) < 0) := by omega
  clear hold hGe hsz hL
  go_enter Tryd.func52, Tryd.ntmps52
  go_wp2_with (at_builtin; refine Lib.wpList_append_run _ rfl _ _ _ _ rfl _ _ rfl rfl _ _ (hrz _) ?_)
  go_ret
  exact ⟨⟨_, rfl, rfl, .inr ⟨w.heap.size, G, _, rfl, Nat.le_refl _, heap_alloc_new w.drew _, Nat.zero_le _, HL.out, HZ.out, by simp [bts]⟩⟩, (Kept.refl No w).drew.alloc _⟩

/-- two slices in a row -/
def CcRel (v1 v2 : Value) (m : Nat) (n : Nat) (w : World) (nv iv : Value) (wr : World) : Prop := ∃ i s : Nat, iv = .int .i64 (i : Nat) ∧ i ≤ 2 ∧ nv = .int .i64 (s : Nat) ∧ s = (if i = 0 then 0 else if i = 1 then m else m + n) ∧ w = wr
structure Cc2Rel (a b : List UInt8) (w : World) (ov iv : Value) (wr : World) : Prop where
  out : ∃ i : Nat, iv = .int .i64 (i : Nat) ∧ i ≤ 2 ∧ BRow wr w.heap.size ov (if i = 0 then [] else if i = 1 then a else a ++ b) ∧ Kept No w wr
set_option maxRecDepth 100000 in
set_option maxHeartbeats 1600000 in
theorem concat_any {a b : List UInt8} (h0 : 0 < b.length) (hl : a.length + b.length ≤ 1000000) {w : World} {B : Nat → Prop} {v1 v2 : Value} {g : Nat} (h1 : Rd w B 1 v1 a.length (bts a)) (h2 : Rd w B 1 v2 b.length (bts b)) (hg : w.heap[g]? = some (.cells #[v1, v2] 24 (0, 0))) :
    Calls Tryd.prog 33 #[.slice (some ⟨g, 0, none⟩) 2 2] w fun e w' => (∃ v, e = .returned v ∧ BRow w' w.heap.size v (a ++ b)) ∧ Kept No w w' := by
  obtain ⟨ad1, cap1, rfl⟩ := rd_slice h1
  obtain ⟨ad2, cap2, rfl⟩ := rd_slice h2
  obtain ⟨m, hm⟩ : ∃ m, a.length = m := ⟨_, rfl⟩
  obtain ⟨n, hn⟩ : ∃ n, b.length = n := ⟨_, rfl⟩
  have HM := Lib.hid hm
  have HN := Lib.hid hn
  rw [hm] at h1 hg hl
  rw [hn] at h2 hg hl h0
  have H1 := Lib.hid h1
  have H2 := Lib.hid h2
  have HG := Lib.hid hg
  have HL := Lib.hid hl
  have g0 : w.cell? ⟨g, 0, none⟩ = some (.slice ad1 m cap1) := obj_cell hg 0
  have g1 : w.cell? ⟨g, 1, none⟩ = some (.slice ad2 n cap2) := obj_cell hg 1
  have HGr := Lib.hid (fun w' => grow_any (n := m + n) (by omega) hl w')
  clear h1 h2 hg hm hn h0 hl
  go_enter Tryd.func33, Tryd.ntmps33
  go_wp2_with fail
  go_loopw [3, 11] (fun nv iv wr => CcRel (.slice ad1 m cap1) (.slice ad2 n cap2) m n w nv iv wr) (fun _ iv _ => 2 - (intOf iv).toNat)
  case atStart => exact ⟨0, 0, rfl, by decide, rfl, rfl, rfl⟩
  case round =>
    obtain ⟨i, s, rfl, hi, rfl, hs, rfl⟩ := hrel
    have hl := HL.out
    obtain rfl | rfl | rfl : i = 0 ∨ i = 1 ∨ i = 2 := by omega
    · replace hs : s = 0 := hs
      subst hs
      have q0 : IntKind.i64.wrap (m : Int) = (m : Int) := IntWalk.i64_in _ (by omega)
      have q1 : ¬ ((m : Int) < 0) := by omega
      clear hl
      go_wp2_with fail
      exact ⟨⟨1, m, rfl, by decide, rfl, rfl, rfl⟩, by simp [intOf]⟩
    · replace hs : s = m := hs
      subst hs
      have q0 : IntKind.i64.wrap ((s : Int) + (n : Int)) = (s : Int) + (n : Int) := IntWalk.i64_in _ (by omega)
      have q1 : ¬ ((s : Int) + (n : Int) < 0) := by omega
      clear hl
      go_wp2_with fail
      exact ⟨⟨2, s + n, rfl, by decide, by rw [Int.natCast_add], rfl, rfl⟩, by simp [intOf]⟩
    · replace hs : s = m + n := hs
      subst hs
      clear hl
      go_wp2_with fail
      refine (HGr.out _).mono ?_
      rintro e w1 ⟨⟨v, rfl, hb⟩, hk⟩
      have HB := Lib.hid hb
      have HK := Lib.hid hk
      have HSZ := Lib.hid hk.size
      clear g0 g1
      obtain ⟨ad, cap, rfl⟩ := owned_slice hb
      clear hb hk
      go_wp2_with fail
      go_loopw [6, 27] (fun ov iv W => Cc2Rel a b w ov iv W) (fun _ iv _ => 2 - (intOf iv).toNat)
      case atStart => exact ⟨⟨0, rfl, by decide, HB.out, HK.out⟩⟩
      case round =>
        obtain ⟨i, rfl, hi, hb, hk⟩ := hrel.out
        obtain ⟨ado, cpo, rfl⟩ := owned_slice hb
        have g0 : wr.cell? ⟨g, 0, none⟩ = some (.slice ad1 m cap1) := obj_cell (hk.obj HG.out (not_no _)) 0
        have g1 : wr.cell? ⟨g, 1, none⟩ = some (.slice ad2 n cap2) := obj_cell (hk.obj HG.out (not_no _)) 1
        have HK := Lib.hid hk
        obtain rfl | rfl | rfl : i = 0 ∨ i = 1 ∨ i = 2 := by omega
        · have HB := Lib.hid (show wr.ownsRow w.heap.size 5 1 (.slice ado 0 cpo) 0 (bts []) from hb)
          have HR := Lib.hid (H1.out.kept hk fun _ _ _ => not_no _)
          have HB0 := Lib.hid (show (0 + m) * 1 ≤ 140737488355328 by have := HL.out; omega)
          have HSZ2 := Lib.hid hk.size
          clear hb hk
          go_wp2_with (at_builtin; refine wpList_append_rd rfl rfl rfl rfl ei8 HB.out HR.out (bts_one _) HB0.out HSZ2.out ?_; intro v2 w2 hown hg _)
          refine ⟨⟨⟨1, rfl, by decide, ?_, HK.out.grown hg fun k e h => absurd (HB.out.lt k e).1 (by omega)⟩⟩, by simp [intOf]⟩
          rw [Nat.zero_add] at hown
          show w2.ownsRow _ _ _ _ a.length _
          rw [HM.out]
          exact hown
        · have HB := Lib.hid (show wr.ownsRow w.heap.size 5 1 (.slice ado m cpo) m (bts a) from by rw [← HM.out]; exact hb)
          have hl1 : (if 1 = 0 then ([] : List UInt8) else if 1 = 1 then a else a ++ b).length = m := HM.out
          have HR := Lib.hid (H2.out.kept hk fun _ _ _ => not_no _)
          have HB0 := Lib.hid (show (m + n) * 1 ≤ 140737488355328 by have := HL.out; omega)
          have HSZ2 := Lib.hid hk.size
          rw [hl1]
          clear hb hk hl1
          go_wp2_with (at_builtin; refine wpList_append_rd rfl rfl rfl rfl ei8 HB.out HR.out (bts_one _) HB0.out HSZ2.out ?_; intro v2 w2 hown hg _)
          refine ⟨⟨⟨2, rfl, by decide, ?_, HK.out.grown hg fun k e h => absurd (HB.out.lt k e).1 (by omega)⟩⟩, by simp [intOf]⟩
          show w2.ownsRow _ _ _ _ (a ++ b).length (bts (a ++ b))
          rw [List.length_append, HM.out, HN.out, bts_app]
          exact hown
        · have HB := Lib.hid hb
          clear hb hk
          go_wp2_with fail
          go_ret
          exact ⟨⟨_, rfl, HB.out⟩, HK.out⟩
end Go.Proofs.YtclgoilfclmibaaDoor
