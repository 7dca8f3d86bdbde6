/-
  Pool: the document's bytes of a pool.
-/
import Derived.Test.YtclgoilfclmibaaDoorQc
import Derived.Deep.RegionLaw
import Derived.Deep.RegionHeld
import Derived.OrdersHeld
set_option linter.unusedVariables false
set_option linter.unusedSimpArgs false
namespace Go.Proofs.YtclgoilfclmibaaDoor
open Go Go.RowKit Go.Zn
attribute [local go_sem] Oper.semAt_some

def RowPost (b : List UInt8) (w : World) (e : Ending) (w' : World) : Prop := ∃ v, e = .returned v ∧ BRow w' w.heap.size v b ∧ Kept No w w'
/-- an effect's cells -/
structure E5 (W : World) (b o : Nat) (e : Eff) : Prop where
  c0 : W.cell? ⟨b, o, none⟩ = some (.int .i64 e.code)
  c1 : W.cell? ⟨b, o + 1, none⟩ = some (.int .i64 e.target)
  c2 : W.cell? ⟨b, o + 2, none⟩ = some (.int .i64 e.n)
  c3 : W.cell? ⟨b, o + 3, none⟩ = some (.int .i64 e.m)
  c4 : W.cell? ⟨b, o + 4, none⟩ = some (.int .i64 e.col)
theorem E5.kept {S : Nat → Prop} {w w' : World} {b o : Nat} {e : Eff} (h : E5 w b o e) (hk : Kept S w w') (hb : ¬ S b) : E5 w' b o e := ⟨hk.cell h.c0 hb, hk.cell h.c1 hb, hk.cell h.c2 hb, hk.cell h.c3 hb, hk.cell h.c4 hb⟩
set_option maxRecDepth 100000 in
set_option maxHeartbeats 1600000 in
theorem reE_any {l : List Eff} (h4 : l.length ≤ 4) {w : World} {B : Nat → Prop} {v : Value} (hv : EffsAt w B v l) : Calls Tryd.prog 39 #[v] w (RowPost (eenc l) w) := by
  obtain ⟨ad, cap, rfl⟩ := rd_slice hv
  obtain ⟨n, hn⟩ : ∃ n, l.length = n := ⟨_, rfl⟩
  have HN := Lib.hid hn
  have HV := Lib.hid hv
  rw [hn] at HV h4 ⊢
  clear hv hn
  go_enter Tryd.func39, Tryd.ntmps39
  go_wp2_with fail
  go_loopw [3, 4] (fun ov iv wr => EnRel l w ov iv wr) (fun _ iv _ => n - (intOf iv).toNat)
  case atStart =>
    refine ⟨0, rfl, Nat.zero_le _, ?_, (Kept.refl No w).alloc _⟩
    rw [HN.out]
    exact own_b1 w (by first | exact (bt_in (by omega) (by omega)).symm | exact (bt_nat _).symm) (Nat.le_refl _)
  case round =>
    obtain ⟨i, rfl, hi, hb, hk⟩ := hrel
    rw [HN.out] at hi hb
    obtain ⟨ado, cpo, rfl⟩ := owned_slice hb
    have HB := Lib.hid hb
    have HK := Lib.hid hk
    by_cases hlt : i < n
    · have hil : i < l.length := by rw [HN.out]; exact hlt
      obtain ⟨e, he⟩ : ∃ e, l[i]? = some e := ⟨_, List.getElem?_eq_getElem hil⟩
      obtain ⟨b, off, c1, hs, k0, k1, k2, k3, k4⟩ := HV.out.at he
      have hbw := World.block_lt_of_cell? w _ k0
      have HE := Lib.hid ((⟨k0, k1, k2, k3, k4⟩ : E5 w b (off + i * 5) e).kept hk (not_no _))
      have HBW := Lib.hid (show ∀ k, Value.ownBlock (.slice ado (bt (n : Nat) :: (l.take i).flatMap eB).length cpo) = some k → b ≠ k from fun k h e => by have := (hb.lt k h).1; have h2 : b < w.heap.size := hbw; omega) 
      have HU := Lib.hid (en_up he n)
      rw [HN.out] at hs
      cases hs
      have hlen : (bt (n : Nat) :: (l.take i).flatMap eB).length = 1 + 5 * i := by
        rw [List.length_cons, flat5, List.length_take]; omega
      obtain ⟨m, hm⟩ : ∃ m, (bt (n : Nat) :: (l.take i).flatMap eB).length = m := ⟨_, rfl⟩
      obtain ⟨xs, hxs⟩ : ∃ xs, bts (bt (n : Nat) :: (l.take i).flatMap eB) = xs := ⟨_, rfl⟩
      rw [hm] at hlen
      have HB := Lib.hid (show wr.ownsRow w.heap.size 5 1 (.slice ado (bt (n : Nat) :: (l.take i).flatMap eB).length cpo) (bt (n : Nat) :: (l.take i).flatMap eB).length (bts (bt (n : Nat) :: (l.take i).flatMap eB)) from hb)
      rw [hm, hxs] at HB
      rw [hm]
      rw [hxs] at HU
      have HM := Lib.hid hm
      have HSZ := Lib.hid (show w.heap.size ≤ wr.heap.size from hk.size)
      have HB0 := Lib.hid (show (m + 5) * 1 ≤ 140737488355328 by omega)
      have d1 : decide (i < n) = true := decide_eq_true hlt
      have hi0 : (0 : Int) ≤ (i : Int) := by omega
      have hin : (i : Int) < (n : Int) := by omega
      have q4 : IntKind.i64.wrap ((i : Int) + 1) = (i : Int) + 1 := IntWalk.i64_in _ (by omega)
      have HI := Lib.hid hlt
      rw [hm] at HBW
      clear hk hlt hil he hb hm hxs hlen h4 k0 k1 k2 k3 k4 hbw
      go_wp2_with fail
      refine wp_region_held_drew (S := (fun W' => E5 W' b (off + i * 5) e)) (by kernel_rfl) (HE.out.kept (Kept.refl No wr).drew (not_no _)) (fun hHeld => ?_)
      refine wpAnyH_take (i := 0) (v := .slice ado m cpo) rfl (by kernel_rfl) (by kernel_rfl) (by kernel_rfl) (fun _ _ _ h => h) (Or.inl ⟨by rfl, ?_⟩) (by assumption) ?_
      · intro W2 hSw; obtain ⟨k0, k1, k2, k3, k4⟩ := hSw; go_simp
      simp only [Act.put, List.getElem_toArray, List.getElem_cons_zero, List.getElem_cons_succ, List.setIfInBounds_toArray, List.set_cons_zero, List.set_cons_succ]
      refine wpAnyH_take (i := 1) (v := .slice (some ⟨b, off, none⟩) n cap) rfl (by kernel_rfl) (by kernel_rfl) (by kernel_rfl) (fun _ _ _ h => h) (Or.inl ⟨by rfl, ?_⟩) (by assumption) ?_
      · intro W2 hSw; obtain ⟨k0, k1, k2, k3, k4⟩ := hSw; go_simp
      simp only [Act.put, List.getElem_toArray, List.getElem_cons_zero, List.getElem_cons_succ, List.setIfInBounds_toArray, List.set_cons_zero, List.set_cons_succ]
      refine wpAnyH_take (i := 2) (v := .int .i64 (i : Nat)) rfl (by kernel_rfl) (by kernel_rfl) (by kernel_rfl) (fun _ _ _ h => h) (Or.inl ⟨by rfl, ?_⟩) (by assumption) ?_
      · intro W2 hSw; obtain ⟨k0, k1, k2, k3, k4⟩ := hSw; go_simp
      simp only [Act.put, List.getElem_toArray, List.getElem_cons_zero, List.getElem_cons_succ, List.setIfInBounds_toArray, List.set_cons_zero, List.set_cons_succ]
      refine wpAnyH_take (i := 3) (v := .pointer (some ⟨b, off + i * 5, none⟩)) rfl (by kernel_rfl) (by kernel_rfl) (by kernel_rfl) (fun _ _ _ h => h) (Or.inl ⟨by rfl, ?_⟩) (by assumption) ?_
      · intro W2 hSw; obtain ⟨k0, k1, k2, k3, k4⟩ := hSw; go_simp
      simp only [Act.put, List.getElem_toArray, List.getElem_cons_zero, List.getElem_cons_succ, List.setIfInBounds_toArray, List.set_cons_zero, List.set_cons_succ]
      refine wpAnyH_take (i := 4) (v := .pointer (some ⟨b, off + i * 5, none⟩)) rfl (by kernel_rfl) (by kernel_rfl) (by kernel_rfl) (fun _ _ _ h => h) (Or.inl ⟨by rfl, ?_⟩) (by assumption) ?_
      · intro W2 hSw; obtain ⟨k0, k1, k2, k3, k4⟩ := hSw; go_simp
      simp only [Act.put, List.getElem_toArray, List.getElem_cons_zero, List.getElem_cons_succ, List.setIfInBounds_toArray, List.set_cons_zero, List.set_cons_succ]
      refine wpAnyH_take (i := 5) (v := .int .i64 e.code) rfl (by kernel_rfl) (by kernel_rfl) (by kernel_rfl) (fun _ _ _ h => h) (Or.inl ⟨by rfl, ?_⟩) (by assumption) ?_
      · intro W2 hSw; obtain ⟨k0, k1, k2, k3, k4⟩ := hSw; go_simp
      simp only [Act.put, List.getElem_toArray, List.getElem_cons_zero, List.getElem_cons_succ, List.setIfInBounds_toArray, List.set_cons_zero, List.set_cons_succ]
      refine wpAnyH_take (i := 6) (v := .int .u8 (e.code % 256)) rfl (by kernel_rfl) (by kernel_rfl) (by kernel_rfl) (fun _ _ _ h => h) (Or.inl ⟨by rfl, ?_⟩) (by assumption) ?_
      · intro W2 hSw; obtain ⟨k0, k1, k2, k3, k4⟩ := hSw; (go_simp <;> exact IntKind.wrap_u8' _)
      simp only [Act.put, List.getElem_toArray, List.getElem_cons_zero, List.getElem_cons_succ, List.setIfInBounds_toArray, List.set_cons_zero, List.set_cons_succ]
      refine wpAnyH_take (i := 7) (v := .slice (some ⟨b, off, none⟩) n cap) rfl (by kernel_rfl) (by kernel_rfl) (by kernel_rfl) (fun _ _ _ h => h) (Or.inl ⟨by rfl, ?_⟩) (by assumption) ?_
      · intro W2 hSw; obtain ⟨k0, k1, k2, k3, k4⟩ := hSw; go_simp
      simp only [Act.put, List.getElem_toArray, List.getElem_cons_zero, List.getElem_cons_succ, List.setIfInBounds_toArray, List.set_cons_zero, List.set_cons_succ]
      refine wpAnyH_take (i := 8) (v := .int .i64 (i : Nat)) rfl (by kernel_rfl) (by kernel_rfl) (by kernel_rfl) (fun _ _ _ h => h) (Or.inl ⟨by rfl, ?_⟩) (by assumption) ?_
      · intro W2 hSw; obtain ⟨k0, k1, k2, k3, k4⟩ := hSw; go_simp
      simp only [Act.put, List.getElem_toArray, List.getElem_cons_zero, List.getElem_cons_succ, List.setIfInBounds_toArray, List.set_cons_zero, List.set_cons_succ]
      refine wpAnyH_take (i := 9) (v := .pointer (some ⟨b, off + i * 5, none⟩)) rfl (by kernel_rfl) (by kernel_rfl) (by kernel_rfl) (fun _ _ _ h => h) (Or.inl ⟨by rfl, ?_⟩) (by assumption) ?_
      · intro W2 hSw; obtain ⟨k0, k1, k2, k3, k4⟩ := hSw; go_simp
      simp only [Act.put, List.getElem_toArray, List.getElem_cons_zero, List.getElem_cons_succ, List.setIfInBounds_toArray, List.set_cons_zero, List.set_cons_succ]
      refine wpAnyH_take (i := 10) (v := .pointer (some ⟨b, off + i * 5 + 1, none⟩)) rfl (by kernel_rfl) (by kernel_rfl) (by kernel_rfl) (fun _ _ _ h => h) (Or.inl ⟨by rfl, ?_⟩) (by assumption) ?_
      · intro W2 hSw; obtain ⟨k0, k1, k2, k3, k4⟩ := hSw; go_simp
      simp only [Act.put, List.getElem_toArray, List.getElem_cons_zero, List.getElem_cons_succ, List.setIfInBounds_toArray, List.set_cons_zero, List.set_cons_succ]
      refine wpAnyH_take (i := 11) (v := .int .i64 e.target) rfl (by kernel_rfl) (by kernel_rfl) (by kernel_rfl) (fun _ _ _ h => h) (Or.inl ⟨by rfl, ?_⟩) (by assumption) ?_
      · intro W2 hSw; obtain ⟨k0, k1, k2, k3, k4⟩ := hSw; go_simp
      simp only [Act.put, List.getElem_toArray, List.getElem_cons_zero, List.getElem_cons_succ, List.setIfInBounds_toArray, List.set_cons_zero, List.set_cons_succ]
      refine wpAnyH_take (i := 12) (v := .int .u8 (e.target % 256)) rfl (by kernel_rfl) (by kernel_rfl) (by kernel_rfl) (fun _ _ _ h => h) (Or.inl ⟨by rfl, ?_⟩) (by assumption) ?_
      · intro W2 hSw; obtain ⟨k0, k1, k2, k3, k4⟩ := hSw; (go_simp <;> exact IntKind.wrap_u8' _)
      simp only [Act.put, List.getElem_toArray, List.getElem_cons_zero, List.getElem_cons_succ, List.setIfInBounds_toArray, List.set_cons_zero, List.set_cons_succ]
      refine wpAnyH_take (i := 13) (v := .slice (some ⟨b, off, none⟩) n cap) rfl (by kernel_rfl) (by kernel_rfl) (by kernel_rfl) (fun _ _ _ h => h) (Or.inl ⟨by rfl, ?_⟩) (by assumption) ?_
      · intro W2 hSw; obtain ⟨k0, k1, k2, k3, k4⟩ := hSw; go_simp
      simp only [Act.put, List.getElem_toArray, List.getElem_cons_zero, List.getElem_cons_succ, List.setIfInBounds_toArray, List.set_cons_zero, List.set_cons_succ]
      refine wpAnyH_take (i := 14) (v := .int .i64 (i : Nat)) rfl (by kernel_rfl) (by kernel_rfl) (by kernel_rfl) (fun _ _ _ h => h) (Or.inl ⟨by rfl, ?_⟩) (by assumption) ?_
      · intro W2 hSw; obtain ⟨k0, k1, k2, k3, k4⟩ := hSw; go_simp
      simp only [Act.put, List.getElem_toArray, List.getElem_cons_zero, List.getElem_cons_succ, List.setIfInBounds_toArray, List.set_cons_zero, List.set_cons_succ]
      refine wpAnyH_take (i := 15) (v := .pointer (some ⟨b, off + i * 5, none⟩)) rfl (by kernel_rfl) (by kernel_rfl) (by kernel_rfl) (fun _ _ _ h => h) (Or.inl ⟨by rfl, ?_⟩) (by assumption) ?_
      · intro W2 hSw; obtain ⟨k0, k1, k2, k3, k4⟩ := hSw; go_simp
      simp only [Act.put, List.getElem_toArray, List.getElem_cons_zero, List.getElem_cons_succ, List.setIfInBounds_toArray, List.set_cons_zero, List.set_cons_succ]
      refine wpAnyH_take (i := 16) (v := .pointer (some ⟨b, off + i * 5 + 2, none⟩)) rfl (by kernel_rfl) (by kernel_rfl) (by kernel_rfl) (fun _ _ _ h => h) (Or.inl ⟨by rfl, ?_⟩) (by assumption) ?_
      · intro W2 hSw; obtain ⟨k0, k1, k2, k3, k4⟩ := hSw; go_simp
      simp only [Act.put, List.getElem_toArray, List.getElem_cons_zero, List.getElem_cons_succ, List.setIfInBounds_toArray, List.set_cons_zero, List.set_cons_succ]
      refine wpAnyH_take (i := 17) (v := .int .i64 e.n) rfl (by kernel_rfl) (by kernel_rfl) (by kernel_rfl) (fun _ _ _ h => h) (Or.inl ⟨by rfl, ?_⟩) (by assumption) ?_
      · intro W2 hSw; obtain ⟨k0, k1, k2, k3, k4⟩ := hSw; go_simp
      simp only [Act.put, List.getElem_toArray, List.getElem_cons_zero, List.getElem_cons_succ, List.setIfInBounds_toArray, List.set_cons_zero, List.set_cons_succ]
      refine wpAnyH_take (i := 18) (v := .int .u8 (e.n % 256)) rfl (by kernel_rfl) (by kernel_rfl) (by kernel_rfl) (fun _ _ _ h => h) (Or.inl ⟨by rfl, ?_⟩) (by assumption) ?_
      · intro W2 hSw; obtain ⟨k0, k1, k2, k3, k4⟩ := hSw; (go_simp <;> exact IntKind.wrap_u8' _)
      simp only [Act.put, List.getElem_toArray, List.getElem_cons_zero, List.getElem_cons_succ, List.setIfInBounds_toArray, List.set_cons_zero, List.set_cons_succ]
      refine wpAnyH_take (i := 19) (v := .slice (some ⟨b, off, none⟩) n cap) rfl (by kernel_rfl) (by kernel_rfl) (by kernel_rfl) (fun _ _ _ h => h) (Or.inl ⟨by rfl, ?_⟩) (by assumption) ?_
      · intro W2 hSw; obtain ⟨k0, k1, k2, k3, k4⟩ := hSw; go_simp
      simp only [Act.put, List.getElem_toArray, List.getElem_cons_zero, List.getElem_cons_succ, List.setIfInBounds_toArray, List.set_cons_zero, List.set_cons_succ]
      refine wpAnyH_take (i := 20) (v := .int .i64 (i : Nat)) rfl (by kernel_rfl) (by kernel_rfl) (by kernel_rfl) (fun _ _ _ h => h) (Or.inl ⟨by rfl, ?_⟩) (by assumption) ?_
      · intro W2 hSw; obtain ⟨k0, k1, k2, k3, k4⟩ := hSw; go_simp
      simp only [Act.put, List.getElem_toArray, List.getElem_cons_zero, List.getElem_cons_succ, List.setIfInBounds_toArray, List.set_cons_zero, List.set_cons_succ]
      refine wpAnyH_take (i := 21) (v := .pointer (some ⟨b, off + i * 5, none⟩)) rfl (by kernel_rfl) (by kernel_rfl) (by kernel_rfl) (fun _ _ _ h => h) (Or.inl ⟨by rfl, ?_⟩) (by assumption) ?_
      · intro W2 hSw; obtain ⟨k0, k1, k2, k3, k4⟩ := hSw; go_simp
      simp only [Act.put, List.getElem_toArray, List.getElem_cons_zero, List.getElem_cons_succ, List.setIfInBounds_toArray, List.set_cons_zero, List.set_cons_succ]
      refine wpAnyH_take (i := 22) (v := .pointer (some ⟨b, off + i * 5 + 3, none⟩)) rfl (by kernel_rfl) (by kernel_rfl) (by kernel_rfl) (fun _ _ _ h => h) (Or.inl ⟨by rfl, ?_⟩) (by assumption) ?_
      · intro W2 hSw; obtain ⟨k0, k1, k2, k3, k4⟩ := hSw; go_simp
      simp only [Act.put, List.getElem_toArray, List.getElem_cons_zero, List.getElem_cons_succ, List.setIfInBounds_toArray, List.set_cons_zero, List.set_cons_succ]
      refine wpAnyH_take (i := 23) (v := .int .i64 e.m) rfl (by kernel_rfl) (by kernel_rfl) (by kernel_rfl) (fun _ _ _ h => h) (Or.inl ⟨by rfl, ?_⟩) (by assumption) ?_
      · intro W2 hSw; obtain ⟨k0, k1, k2, k3, k4⟩ := hSw; go_simp
      simp only [Act.put, List.getElem_toArray, List.getElem_cons_zero, List.getElem_cons_succ, List.setIfInBounds_toArray, List.set_cons_zero, List.set_cons_succ]
      refine wpAnyH_take (i := 24) (v := .int .u8 (e.m % 256)) rfl (by kernel_rfl) (by kernel_rfl) (by kernel_rfl) (fun _ _ _ h => h) (Or.inl ⟨by rfl, ?_⟩) (by assumption) ?_
      · intro W2 hSw; obtain ⟨k0, k1, k2, k3, k4⟩ := hSw; (go_simp <;> exact IntKind.wrap_u8' _)
      simp only [Act.put, List.getElem_toArray, List.getElem_cons_zero, List.getElem_cons_succ, List.setIfInBounds_toArray, List.set_cons_zero, List.set_cons_succ]
      refine wpAnyH_take (i := 25) (v := .slice (some ⟨b, off, none⟩) n cap) rfl (by kernel_rfl) (by kernel_rfl) (by kernel_rfl) (fun _ _ _ h => h) (Or.inl ⟨by rfl, ?_⟩) (by assumption) ?_
      · intro W2 hSw; obtain ⟨k0, k1, k2, k3, k4⟩ := hSw; go_simp
      simp only [Act.put, List.getElem_toArray, List.getElem_cons_zero, List.getElem_cons_succ, List.setIfInBounds_toArray, List.set_cons_zero, List.set_cons_succ]
      refine wpAnyH_take (i := 26) (v := .int .i64 (i : Nat)) rfl (by kernel_rfl) (by kernel_rfl) (by kernel_rfl) (fun _ _ _ h => h) (Or.inl ⟨by rfl, ?_⟩) (by assumption) ?_
      · intro W2 hSw; obtain ⟨k0, k1, k2, k3, k4⟩ := hSw; go_simp
      simp only [Act.put, List.getElem_toArray, List.getElem_cons_zero, List.getElem_cons_succ, List.setIfInBounds_toArray, List.set_cons_zero, List.set_cons_succ]
      refine wpAnyH_take (i := 27) (v := .pointer (some ⟨b, off + i * 5, none⟩)) rfl (by kernel_rfl) (by kernel_rfl) (by kernel_rfl) (fun _ _ _ h => h) (Or.inl ⟨by rfl, ?_⟩) (by assumption) ?_
      · intro W2 hSw; obtain ⟨k0, k1, k2, k3, k4⟩ := hSw; go_simp
      simp only [Act.put, List.getElem_toArray, List.getElem_cons_zero, List.getElem_cons_succ, List.setIfInBounds_toArray, List.set_cons_zero, List.set_cons_succ]
      refine wpAnyH_take (i := 28) (v := .pointer (some ⟨b, off + i * 5 + 4, none⟩)) rfl (by kernel_rfl) (by kernel_rfl) (by kernel_rfl) (fun _ _ _ h => h) (Or.inl ⟨by rfl, ?_⟩) (by assumption) ?_
      · intro W2 hSw; obtain ⟨k0, k1, k2, k3, k4⟩ := hSw; go_simp
      simp only [Act.put, List.getElem_toArray, List.getElem_cons_zero, List.getElem_cons_succ, List.setIfInBounds_toArray, List.set_cons_zero, List.set_cons_succ]
      refine wpAnyH_take (i := 29) (v := .int .i64 e.col) rfl (by kernel_rfl) (by kernel_rfl) (by kernel_rfl) (fun _ _ _ h => h) (Or.inl ⟨by rfl, ?_⟩) (by assumption) ?_
      · intro W2 hSw; obtain ⟨k0, k1, k2, k3, k4⟩ := hSw; go_simp
      simp only [Act.put, List.getElem_toArray, List.getElem_cons_zero, List.getElem_cons_succ, List.setIfInBounds_toArray, List.set_cons_zero, List.set_cons_succ]
      refine wpAnyH_take (i := 30) (v := .int .u8 (e.col % 256)) rfl (by kernel_rfl) (by kernel_rfl) (by kernel_rfl) (fun _ _ _ h => h) (Or.inl ⟨by rfl, ?_⟩) (by assumption) ?_
      · intro W2 hSw; obtain ⟨k0, k1, k2, k3, k4⟩ := hSw; (go_simp <;> exact IntKind.wrap_u8' _)
      simp only [Act.put, List.getElem_toArray, List.getElem_cons_zero, List.getElem_cons_succ, List.setIfInBounds_toArray, List.set_cons_zero, List.set_cons_succ]
      refine wpAnyH_ready (rs := [31]) (by kernel_rfl) (by simp) ?_
      refine AllReadyH.cons rfl (fun K hK => ?_) AllReadyH.nil
      go_simp
      refine hK.out _ _ (HE.out.kept ((Kept.refl No wr).drew.alloc _) (not_no _)) (fun _ => ?_)
      clear hK K
      try simp only [Act.put, List.getElem_toArray, List.getElem_cons_zero, List.getElem_cons_succ, List.setIfInBounds_toArray, List.set_cons_zero, List.set_cons_succ]
      refine wpAnyH_ready (rs := [32]) (by kernel_rfl) (by simp) ?_
      refine AllReadyH.cons rfl (fun K hK => ?_) AllReadyH.nil
      refine step_append_rdo (xv := .slice (some ⟨wr.heap.size, 0, none⟩) 5 5) rfl rfl rfl rfl ei8 (owned_kept (S := No) HB.out ((Kept.refl No wr).drew.alloc _) fun _ _ _ => not_no _) (rd_b5 _ (bt_nat _).symm (bt_nat _).symm (bt_nat _).symm (bt_nat _).symm (bt_nat _).symm (k := wr.heap.size) rfl) (bts_one _) HB0.out (by have := HSZ.out; simp; omega) ?_
      intro v2 w2 hown hg _
      have HE2 := Lib.hid (HE.out.kept (((Kept.refl (fun k => Value.ownBlock (.slice ado m cpo) = some k) wr).drew.alloc _).grown hg fun k e _ => e) (fun h => HBW.out _ h rfl))
      refine hK.out _ _ HE2.out (fun _ => ?_)
      clear hK K
      try simp only [Act.put, List.getElem_toArray, List.getElem_cons_zero, List.getElem_cons_succ, List.setIfInBounds_toArray, List.set_cons_zero, List.set_cons_succ]
      refine wpAnyH_ready (rs := [33]) (by kernel_rfl) (by simp) ?_
      refine AllReadyH.cons rfl (fun K hK => ?_) AllReadyH.nil
      go_simp
      refine hK.out _ _ HE2.out (fun _ => ?_)
      clear hK K
      try simp only [Act.put, List.getElem_toArray, List.getElem_cons_zero, List.getElem_cons_succ, List.setIfInBounds_toArray, List.set_cons_zero, List.set_cons_succ]
      refine wpAnyH_done (by kernel_rfl) ?_ _
      go_wp2_with fail
      have hI := HI.out
      refine ⟨⟨i + 1, by go_num, by rw [HN.out]; omega, ?_, ?_⟩, by simp [intOf]; omega⟩
      · rw [HN.out]
        have hl5 : (bt (n : Nat) :: (l.take (i + 1)).flatMap eB).length = m + 5 := by
          have := congrArg List.length HU.out
          simp only [bts_length, List.length_append] at this
          rw [this]
          have h2 := HM.out
          have h3 : xs.length = m := by have := HB.out.1; omega
          rw [h3]; rfl
        show w2.ownsRow _ _ _ _ _ _
        rw [hl5, HU.out]
        exact hown
      · exact (HK.out.drew.alloc _).grown hg (fun k e h => absurd (HB.out.lt k e).1 (by omega))
    · have d1 : decide (i < n) = false := decide_eq_false hlt
      have hin : i = n := by omega
      have HR := Lib.hid (show bt (n : Nat) :: (l.take i).flatMap eB = eenc l by rw [hin, ← HN.out, List.take_length]; rfl)
      clear hlt hk hin hb
      go_wp2_with fail
      go_ret
      exact ⟨_, rfl, HR.out ▸ HB.out, HK.out⟩
end Go.Proofs.YtclgoilfclmibaaDoor
