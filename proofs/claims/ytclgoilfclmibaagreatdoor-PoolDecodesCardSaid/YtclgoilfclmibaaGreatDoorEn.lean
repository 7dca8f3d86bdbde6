/-
  Pool: effects as bytes.
-/
import Derived.Test.YtclgoilfclmibaaGreatDoorCq
import Derived.Lib.AppendStr
set_option linter.unusedVariables false
set_option linter.unusedSimpArgs false
namespace Go.Proofs.YtclgoilfclmibaaGreatDoor
open Go.RowKit Go.Zn
attribute [local go_sem] Oper.semAt_some

theorem ei8 : SliceOf Tryz.prog 51 5 1 1 (.int .u8 0) := ⟨Tryz.underlying51, info_parts (by kernel_rfl), rfl, by decide, by decide⟩
/-- bytes in a row of the call's own -/
abbrev BRow (w : World) (base : Nat) (v : Value) (l : List UInt8) : Prop := w.ownsRow base 5 1 v l.length (bts l)
theorem bts_app (a b : List UInt8) : bts (a ++ b) = bts a ++ bts b := by simp [bts]
theorem rd_b1 (w : World) {y : Int} {b : UInt8} (h : y = (b.toNat : Int)) {k : Nat} (hk : k = w.heap.size) : Rd (w.alloc (.cells #[.int .u8 y] 5)) (fun i => i = k) 1 (.slice (some ⟨k, 0, none⟩) 1 1) 1 (bts [b]) := by
  subst h hk
  exact ⟨rfl, by simp [maxLen], .inr ⟨_, 0, 1, rfl, Nat.le_refl _, fun _ => rfl, fun j u hj => by
    rw [Nat.zero_add, obj_cell (heap_alloc_new w _)]
    match j, hj with
    | 0, hj => exact hj⟩⟩
theorem rd_b5 (w : World) {y0 y1 y2 y3 y4 : Int} {b0 b1 b2 b3 b4 : UInt8} (h0 : y0 = (b0.toNat : Int)) (h1 : y1 = (b1.toNat : Int)) (h2 : y2 = (b2.toNat : Int)) (h3 : y3 = (b3.toNat : Int)) (h4 : y4 = (b4.toNat : Int)) {k : Nat} (hk : k = w.heap.size) : Rd (w.alloc (.cells #[.int .u8 y0, .int .u8 y1, .int .u8 y2, .int .u8 y3, .int .u8 y4] 5)) (fun i => i = k) 1 (.slice (some ⟨k, 0, none⟩) 5 5) 5 (bts [b0, b1, b2, b3, b4]) := by
  subst h0 h1 h2 h3 h4 hk
  exact ⟨rfl, by simp [maxLen], .inr ⟨_, 0, 5, rfl, Nat.le_refl _, fun _ => rfl, fun j u hj => by
    rw [Nat.zero_add, obj_cell (heap_alloc_new w _)]
    match j, hj with
    | 0, hj => exact hj
    | 1, hj => exact hj
    | 2, hj => exact hj
    | 3, hj => exact hj
    | 4, hj => exact hj⟩⟩
theorem own_b1 (w : World) {y : Int} {b : UInt8} (h : y = (b.toNat : Int)) {base : Nat} (hb : base ≤ w.heap.size) : BRow (w.alloc (.cells #[.int .u8 y] 5)) base (.slice (some ⟨w.heap.size, 0, none⟩) 1 1) [b] := by
  subst h
  exact ⟨rfl, .inr ⟨w.heap.size, 1, _, rfl, hb, heap_alloc_new w _, Nat.le_refl _, by simp [maxLen], rfl, rfl⟩⟩
theorem own_b3 (w : World) {x y z : Int} {b0 b1 b2 : UInt8} (h0 : x = (b0.toNat : Int)) (h1 : y = (b1.toNat : Int)) (h2 : z = (b2.toNat : Int)) {base : Nat} (hb : base ≤ w.heap.size) : BRow (w.alloc (.cells #[.int .u8 x, .int .u8 y, .int .u8 z] 5)) base (.slice (some ⟨w.heap.size, 0, none⟩) 3 3) [b0, b1, b2] := by
  subst h0 h1 h2
  exact ⟨rfl, .inr ⟨w.heap.size, 3, _, rfl, hb, heap_alloc_new w _, Nat.le_refl _, by simp [maxLen], rfl, rfl⟩⟩
def BytesPost (b : List UInt8) (w : World) (e : Ending) (w' : World) : Prop := ∃ v, e = .returned (.tuple #[v, .int .i64 0]) ∧ BRow w' w.heap.size v b ∧ Kept No w w'
def EnRel (l : List Eff) (w : World) (ov iv : Value) (wr : World) : Prop := ∃ i : Nat, iv = .int .i64 (i : Nat) ∧ i ≤ l.length ∧ BRow wr w.heap.size ov (bt (l.length : Nat) :: (l.take i).flatMap eB) ∧ Kept No w wr
theorem en_up {l : List Eff} {i : Nat} {e : Eff} (he : l[i]? = some e) (n : Nat) : bts (bt (n : Nat) :: (l.take (i + 1)).flatMap eB) = bts (bt (n : Nat) :: (l.take i).flatMap eB) ++ bts [bt e.code, bt e.target, bt e.n, bt e.m, bt e.col] := by
  rw [← bts_app, List.take_add_one, he]
  simp [eB]
set_option maxRecDepth 100000 in
set_option maxHeartbeats 1600000 in
theorem eencode_any {l : List Eff} (hl : allE l = true) {w : World} {B : Nat → Prop} {v : Value} (hv : EffsAt w B v l) : Calls Tryz.prog 60 #[v] w (BytesPost (eenc l) w) := by
  have h4 := (allE_out hl).1
  have HA := Lib.hid (allE_any (by omega) hv)
  rw [hl] at HA
  obtain ⟨ad, cap, rfl⟩ := rd_slice hv
  obtain ⟨n, hn⟩ : ∃ n, l.length = n := ⟨_, rfl⟩
  have HN := Lib.hid hn
  have HV := Lib.hid hv
  rw [hn] at HA HV h4 ⊢
  clear hv hn hl
  go_enter Tryz.func60, Tryz.ntmps60
  go_wp2_with fail
  refine HA.out.mono ?_
  rintro x w1 ⟨rfl, hk⟩
  have HK1 := Lib.hid hk
  clear hk
  go_wp2_with fail
  go_loopw [4, 16] (fun ov iv wr => EnRel l w ov iv wr) (fun _ iv _ => n - (intOf iv).toNat)
  case atStart =>
    refine ⟨0, rfl, Nat.zero_le _, ?_, HK1.out.alloc _⟩
    rw [HN.out]
    exact own_b1 w1 (bt_in (by omega) (by omega)).symm HK1.out.size
  case round =>
    obtain ⟨i, rfl, hi, hb, hk⟩ := hrel
    rw [HN.out] at hi hb
    obtain ⟨ado, cpo, rfl⟩ := owned_slice hb
    have HB := Lib.hid hb
    have HK := Lib.hid hk
    by_cases hlt : i < n
    · have hil : i < l.length := by rw [HN.out]; exact hlt
      obtain ⟨e, he⟩ : ∃ e, l[i]? = some e := ⟨_, List.getElem?_eq_getElem hil⟩
      obtain ⟨b, off, c1, hs, g0, g1, g2, g3, g4⟩ := (HV.out.no hk).at he
      have HU := Lib.hid (en_up he n)
      rw [HN.out] at hs
      cases hs
      have hlen : (bt (n : Nat) :: (l.take i).flatMap eB).length = 1 + 5 * i := by
        rw [List.length_cons, flat5, List.length_take]; omega
      obtain ⟨m, hm⟩ : ∃ m, (bt (n : Nat) :: (l.take i).flatMap eB).length = m := ⟨_, rfl⟩
      obtain ⟨xs, hxs⟩ : ∃ xs, bts (bt (n : Nat) :: (l.take i).flatMap eB) = xs := ⟨_, rfl⟩
      rw [hm] at hlen
      have HB := Lib.hid (show wr.ownsRow w.heap.size 5 1 (.slice ado (bt (n : Nat) :: (l.take i).flatMap eB).length cpo) (bt (n : Nat) :: (l.take i).flatMap eB).length (bts (bt (n : Nat) :: (l.take i).flatMap eB)) from hb)
      rw [hm, hxs] at HB
      rw [hm]
      rw [hxs] at HU
      have HM := Lib.hid hm
      have HSZ := Lib.hid (show w.heap.size ≤ wr.heap.size from hk.size)
      have HB0 := Lib.hid (show (m + 5) * 1 ≤ 140737488355328 by omega)
      have d1 : decide (i < n) = true := decide_eq_true hlt
      have hi0 : (0 : Int) ≤ (i : Int) := by omega
      have hin : (i : Int) < (n : Int) := by omega
      have q4 : IntKind.i64.wrap ((i : Int) + 1) = (i : Int) + 1 := IntWalk.i64_in _ (by omega)
      have HI := Lib.hid hlt
      clear hk hlt hil he hb hm hxs hlen h4
      go_wp2_with (at_builtin; refine wpList_append_rd rfl rfl rfl rfl ei8 (owned_kept HB.out (((Kept.refl No wr).alloc _).alloc _) fun _ _ _ => not_no _) (rd_b5 _ (bt_nat _).symm (bt_nat _).symm (bt_nat _).symm (bt_nat _).symm (bt_nat _).symm (k := wr.heap.size + 1) (by simp)) (bts_one _) HB0.out (by have := HSZ.out; simp; omega) ?_; intro v2 w2 hown hg _)
      have hI := HI.out
      refine ⟨⟨i + 1, by go_num, by rw [HN.out]; omega, ?_, ?_⟩, by simp [intOf]; omega⟩
      · rw [HN.out]
        have hl5 : (bt (n : Nat) :: (l.take (i + 1)).flatMap eB).length = m + 5 := by
          have := congrArg List.length HU.out
          simp only [bts_length, List.length_append] at this
          rw [this]
          have h2 := HM.out
          have h3 : xs.length = m := by have := HB.out.1; omega
          rw [h3]; rfl
        show w2.ownsRow _ _ _ _ _ _
        rw [hl5, HU.out]
        exact hown
      · exact ((HK.out.alloc _).alloc _).grown hg (fun k e h => absurd (HB.out.lt k e).1 (by omega))
    · have d1 : decide (i < n) = false := decide_eq_false hlt
      have hin : i = n := by omega
      have HR := Lib.hid (show bt (n : Nat) :: (l.take i).flatMap eB = eenc l by rw [hin, ← HN.out, List.take_length]; rfl)
      clear hlt hk hin hb
      go_wp2_with fail
      go_ret2
      exact ⟨_, rfl, HR.out ▸ HB.out, HK.out⟩
end Go.Proofs.YtclgoilfclmibaaGreatDoor
