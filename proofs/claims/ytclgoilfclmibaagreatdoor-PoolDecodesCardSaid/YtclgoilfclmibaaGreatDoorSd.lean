/-
  Pool: the document's bytes of a pool. Pool: the document's sums of bytes and words of four bytes. Pool: the document's bytes of a card. Pool: the document's bytes of a pool.
-/
import Derived.Test.YtclgoilfclmibaaGreatDoorQc
import Derived.Deep.RegionLaw
import Derived.Deep.RegionHeld
import Derived.OrdersHeld
set_option linter.unusedVariables false
set_option linter.unusedSimpArgs false
namespace Go.Proofs.YtclgoilfclmibaaGreatDoor
open Go Go.RowKit Go.Zn
attribute [local go_sem] Oper.semAt_some

def RowPost (b : List UInt8) (w : World) (e : Ending) (w' : World) : Prop := ∃ v, e = .returned v ∧ BRow w' w.heap.size v b ∧ Kept No w w'
/-- an effect's cells -/
structure E5 (W : World) (b o : Nat) (e : Eff) : Prop where
  c0 : W.cell? ⟨b, o, none⟩ = some (.int .i64 e.code)
  c1 : W.cell? ⟨b, o + 1, none⟩ = some (.int .i64 e.target)
  c2 : W.cell? ⟨b, o + 2, none⟩ = some (.int .i64 e.n)
  c3 : W.cell? ⟨b, o + 3, none⟩ = some (.int .i64 e.m)
  c4 : W.cell? ⟨b, o + 4, none⟩ = some (.int .i64 e.col)
theorem E5.kept {S : Nat → Prop} {w w' : World} {b o : Nat} {e : Eff} (h : E5 w b o e) (hk : Kept S w w') (hb : ¬ S b) : E5 w' b o e := ⟨hk.cell h.c0 hb, hk.cell h.c1 hb, hk.cell h.c2 hb, hk.cell h.c3 hb, hk.cell h.c4 hb⟩
set_option maxRecDepth 100000 in
set_option maxHeartbeats 1600000 in
theorem reE_any {l : List Eff} (h4 : l.length ≤ 4) {w : World} {B : Nat → Prop} {v : Value} (hv : EffsAt w B v l) : Calls Tryz.prog 62 #[v] w (RowPost (eenc l) w) := by
  obtain ⟨ad, cap, rfl⟩ := rd_slice hv
  obtain ⟨n, hn⟩ : ∃ n, l.length = n := ⟨_, rfl⟩
  have HN := Lib.hid hn
  have HV := Lib.hid hv
  rw [hn] at HV h4 ⊢
  clear hv hn
  go_enter Tryz.func62, Tryz.ntmps62
  go_wp2_with fail
  go_loopw [3, 4] (fun ov iv wr => EnRel l w ov iv wr) (fun _ iv _ => n - (intOf iv).toNat)
  case atStart =>
    refine ⟨0, rfl, Nat.zero_le _, ?_, (Kept.refl No w).alloc _⟩
    rw [HN.out]
    exact own_b1 w (by first | exact (bt_in (by omega) (by omega)).symm | exact (bt_nat _).symm) (Nat.le_refl _)
  case round =>
    obtain ⟨i, rfl, hi, hb, hk⟩ := hrel
    rw [HN.out] at hi hb
    obtain ⟨ado, cpo, rfl⟩ := owned_slice hb
    have HB := Lib.hid hb
    have HK := Lib.hid hk
    by_cases hlt : i < n
    · have hil : i < l.length := by rw [HN.out]; exact hlt
      obtain ⟨e, he⟩ : ∃ e, l[i]? = some e := ⟨_, List.getElem?_eq_getElem hil⟩
      obtain ⟨b, off, c1, hs, k0, k1, k2, k3, k4⟩ := HV.out.at he
      have hbw := World.block_lt_of_cell? w _ k0
      have HE := Lib.hid ((⟨k0, k1, k2, k3, k4⟩ : E5 w b (off + i * 5) e).kept hk (not_no _))
      have HBW := Lib.hid (show ∀ k, Value.ownBlock (.slice ado (bt (n : Nat) :: (l.take i).flatMap eB).length cpo) = some k → b ≠ k from fun k h e => by have := (hb.lt k h).1; have h2 : b < w.heap.size := hbw; omega) 
      have HU := Lib.hid (en_up he n)
      rw [HN.out] at hs
      cases hs
      have hlen : (bt (n : Nat) :: (l.take i).flatMap eB).length = 1 + 5 * i := by
        rw [List.length_cons, flat5, List.length_take]; omega
      obtain ⟨m, hm⟩ : ∃ m, (bt (n : Nat) :: (l.take i).flatMap eB).length = m := ⟨_, rfl⟩
      obtain ⟨xs, hxs⟩ : ∃ xs, bts (bt (n : Nat) :: (l.take i).flatMap eB) = xs := ⟨_, rfl⟩
      rw [hm] at hlen
      have HB := Lib.hid (show wr.ownsRow w.heap.size 5 1 (.slice ado (bt (n : Nat) :: (l.take i).flatMap eB).length cpo) (bt (n : Nat) :: (l.take i).flatMap eB).length (bts (bt (n : Nat) :: (l.take i).flatMap eB)) from hb)
      rw [hm, hxs] at HB
      rw [hm]
      rw [hxs] at HU
      have HM := Lib.hid hm
      have HSZ := Lib.hid (show w.heap.size ≤ wr.heap.size from hk.size)
      have HB0 := Lib.hid (show (m + 5) * 1 ≤ 140737488355328 by omega)
      have d1 : decide (i < n) = true := decide_eq_true hlt
      have hi0 : (0 : Int) ≤ (i : Int) := by omega
      have hin : (i : Int) < (n : Int) := by omega
      have q4 : IntKind.i64.wrap ((i : Int) + 1) = (i : Int) + 1 := IntWalk.i64_in _ (by omega)
      have HI := Lib.hid hlt
      rw [hm] at HBW
      clear hk hlt hil he hb hm hxs hlen h4 k0 k1 k2 k3 k4 hbw
      go_wp2_with fail
      refine wp_region_held_drew (S := (fun W' => E5 W' b (off + i * 5) e)) (by kernel_rfl) (HE.out.kept (Kept.refl No wr).drew (not_no _)) (fun hHeld => ?_)
      refine wpAnyH_take (i := 0) (v := .slice ado m cpo) rfl (by kernel_rfl) (by kernel_rfl) (by kernel_rfl) (fun _ _ _ h => h) (Or.inl ⟨by rfl, ?_⟩) (by assumption) ?_
      · intro W2 hSw; obtain ⟨k0, k1, k2, k3, k4⟩ := hSw; go_simp
      simp only [Act.put, List.getElem_toArray, List.getElem_cons_zero, List.getElem_cons_succ, List.setIfInBounds_toArray, List.set_cons_zero, List.set_cons_succ]
      refine wpAnyH_take (i := 1) (v := .slice (some ⟨b, off, none⟩) n cap) rfl (by kernel_rfl) (by kernel_rfl) (by kernel_rfl) (fun _ _ _ h => h) (Or.inl ⟨by rfl, ?_⟩) (by assumption) ?_
      · intro W2 hSw; obtain ⟨k0, k1, k2, k3, k4⟩ := hSw; go_simp
      simp only [Act.put, List.getElem_toArray, List.getElem_cons_zero, List.getElem_cons_succ, List.setIfInBounds_toArray, List.set_cons_zero, List.set_cons_succ]
      refine wpAnyH_take (i := 2) (v := .int .i64 (i : Nat)) rfl (by kernel_rfl) (by kernel_rfl) (by kernel_rfl) (fun _ _ _ h => h) (Or.inl ⟨by rfl, ?_⟩) (by assumption) ?_
      · intro W2 hSw; obtain ⟨k0, k1, k2, k3, k4⟩ := hSw; go_simp
      simp only [Act.put, List.getElem_toArray, List.getElem_cons_zero, List.getElem_cons_succ, List.setIfInBounds_toArray, List.set_cons_zero, List.set_cons_succ]
      refine wpAnyH_take (i := 3) (v := .pointer (some ⟨b, off + i * 5, none⟩)) rfl (by kernel_rfl) (by kernel_rfl) (by kernel_rfl) (fun _ _ _ h => h) (Or.inl ⟨by rfl, ?_⟩) (by assumption) ?_
      · intro W2 hSw; obtain ⟨k0, k1, k2, k3, k4⟩ := hSw; go_simp
      simp only [Act.put, List.getElem_toArray, List.getElem_cons_zero, List.getElem_cons_succ, List.setIfInBounds_toArray, List.set_cons_zero, List.set_cons_succ]
      refine wpAnyH_take (i := 4) (v := .pointer (some ⟨b, off + i * 5, none⟩)) rfl (by kernel_rfl) (by kernel_rfl) (by kernel_rfl) (fun _ _ _ h => h) (Or.inl ⟨by rfl, ?_⟩) (by assumption) ?_
      · intro W2 hSw; obtain ⟨k0, k1, k2, k3, k4⟩ := hSw; go_simp
      simp only [Act.put, List.getElem_toArray, List.getElem_cons_zero, List.getElem_cons_succ, List.setIfInBounds_toArray, List.set_cons_zero, List.set_cons_succ]
      refine wpAnyH_take (i := 5) (v := .int .i64 e.code) rfl (by kernel_rfl) (by kernel_rfl) (by kernel_rfl) (fun _ _ _ h => h) (Or.inl ⟨by rfl, ?_⟩) (by assumption) ?_
      · intro W2 hSw; obtain ⟨k0, k1, k2, k3, k4⟩ := hSw; go_simp
      simp only [Act.put, List.getElem_toArray, List.getElem_cons_zero, List.getElem_cons_succ, List.setIfInBounds_toArray, List.set_cons_zero, List.set_cons_succ]
      refine wpAnyH_take (i := 6) (v := .int .u8 (e.code % 256)) rfl (by kernel_rfl) (by kernel_rfl) (by kernel_rfl) (fun _ _ _ h => h) (Or.inl ⟨by rfl, ?_⟩) (by assumption) ?_
      · intro W2 hSw; obtain ⟨k0, k1, k2, k3, k4⟩ := hSw; (go_simp <;> exact IntKind.wrap_u8' _)
      simp only [Act.put, List.getElem_toArray, List.getElem_cons_zero, List.getElem_cons_succ, List.setIfInBounds_toArray, List.set_cons_zero, List.set_cons_succ]
      refine wpAnyH_take (i := 7) (v := .slice (some ⟨b, off, none⟩) n cap) rfl (by kernel_rfl) (by kernel_rfl) (by kernel_rfl) (fun _ _ _ h => h) (Or.inl ⟨by rfl, ?_⟩) (by assumption) ?_
      · intro W2 hSw; obtain ⟨k0, k1, k2, k3, k4⟩ := hSw; go_simp
      simp only [Act.put, List.getElem_toArray, List.getElem_cons_zero, List.getElem_cons_succ, List.setIfInBounds_toArray, List.set_cons_zero, List.set_cons_succ]
      refine wpAnyH_take (i := 8) (v := .int .i64 (i : Nat)) rfl (by kernel_rfl) (by kernel_rfl) (by kernel_rfl) (fun _ _ _ h => h) (Or.inl ⟨by rfl, ?_⟩) (by assumption) ?_
      · intro W2 hSw; obtain ⟨k0, k1, k2, k3, k4⟩ := hSw; go_simp
      simp only [Act.put, List.getElem_toArray, List.getElem_cons_zero, List.getElem_cons_succ, List.setIfInBounds_toArray, List.set_cons_zero, List.set_cons_succ]
      refine wpAnyH_take (i := 9) (v := .pointer (some ⟨b, off + i * 5, none⟩)) rfl (by kernel_rfl) (by kernel_rfl) (by kernel_rfl) (fun _ _ _ h => h) (Or.inl ⟨by rfl, ?_⟩) (by assumption) ?_
      · intro W2 hSw; obtain ⟨k0, k1, k2, k3, k4⟩ := hSw; go_simp
      simp only [Act.put, List.getElem_toArray, List.getElem_cons_zero, List.getElem_cons_succ, List.setIfInBounds_toArray, List.set_cons_zero, List.set_cons_succ]
      refine wpAnyH_take (i := 10) (v := .pointer (some ⟨b, off + i * 5 + 1, none⟩)) rfl (by kernel_rfl) (by kernel_rfl) (by kernel_rfl) (fun _ _ _ h => h) (Or.inl ⟨by rfl, ?_⟩) (by assumption) ?_
      · intro W2 hSw; obtain ⟨k0, k1, k2, k3, k4⟩ := hSw; go_simp
      simp only [Act.put, List.getElem_toArray, List.getElem_cons_zero, List.getElem_cons_succ, List.setIfInBounds_toArray, List.set_cons_zero, List.set_cons_succ]
      refine wpAnyH_take (i := 11) (v := .int .i64 e.target) rfl (by kernel_rfl) (by kernel_rfl) (by kernel_rfl) (fun _ _ _ h => h) (Or.inl ⟨by rfl, ?_⟩) (by assumption) ?_
      · intro W2 hSw; obtain ⟨k0, k1, k2, k3, k4⟩ := hSw; go_simp
      simp only [Act.put, List.getElem_toArray, List.getElem_cons_zero, List.getElem_cons_succ, List.setIfInBounds_toArray, List.set_cons_zero, List.set_cons_succ]
      refine wpAnyH_take (i := 12) (v := .int .u8 (e.target % 256)) rfl (by kernel_rfl) (by kernel_rfl) (by kernel_rfl) (fun _ _ _ h => h) (Or.inl ⟨by rfl, ?_⟩) (by assumption) ?_
      · intro W2 hSw; obtain ⟨k0, k1, k2, k3, k4⟩ := hSw; (go_simp <;> exact IntKind.wrap_u8' _)
      simp only [Act.put, List.getElem_toArray, List.getElem_cons_zero, List.getElem_cons_succ, List.setIfInBounds_toArray, List.set_cons_zero, List.set_cons_succ]
      refine wpAnyH_take (i := 13) (v := .slice (some ⟨b, off, none⟩) n cap) rfl (by kernel_rfl) (by kernel_rfl) (by kernel_rfl) (fun _ _ _ h => h) (Or.inl ⟨by rfl, ?_⟩) (by assumption) ?_
      · intro W2 hSw; obtain ⟨k0, k1, k2, k3, k4⟩ := hSw; go_simp
      simp only [Act.put, List.getElem_toArray, List.getElem_cons_zero, List.getElem_cons_succ, List.setIfInBounds_toArray, List.set_cons_zero, List.set_cons_succ]
      refine wpAnyH_take (i := 14) (v := .int .i64 (i : Nat)) rfl (by kernel_rfl) (by kernel_rfl) (by kernel_rfl) (fun _ _ _ h => h) (Or.inl ⟨by rfl, ?_⟩) (by assumption) ?_
      · intro W2 hSw; obtain ⟨k0, k1, k2, k3, k4⟩ := hSw; go_simp
      simp only [Act.put, List.getElem_toArray, List.getElem_cons_zero, List.getElem_cons_succ, List.setIfInBounds_toArray, List.set_cons_zero, List.set_cons_succ]
      refine wpAnyH_take (i := 15) (v := .pointer (some ⟨b, off + i * 5, none⟩)) rfl (by kernel_rfl) (by kernel_rfl) (by kernel_rfl) (fun _ _ _ h => h) (Or.inl ⟨by rfl, ?_⟩) (by assumption) ?_
      · intro W2 hSw; obtain ⟨k0, k1, k2, k3, k4⟩ := hSw; go_simp
      simp only [Act.put, List.getElem_toArray, List.getElem_cons_zero, List.getElem_cons_succ, List.setIfInBounds_toArray, List.set_cons_zero, List.set_cons_succ]
      refine wpAnyH_take (i := 16) (v := .pointer (some ⟨b, off + i * 5 + 2, none⟩)) rfl (by kernel_rfl) (by kernel_rfl) (by kernel_rfl) (fun _ _ _ h => h) (Or.inl ⟨by rfl, ?_⟩) (by assumption) ?_
      · intro W2 hSw; obtain ⟨k0, k1, k2, k3, k4⟩ := hSw; go_simp
      simp only [Act.put, List.getElem_toArray, List.getElem_cons_zero, List.getElem_cons_succ, List.setIfInBounds_toArray, List.set_cons_zero, List.set_cons_succ]
      refine wpAnyH_take (i := 17) (v := .int .i64 e.n) rfl (by kernel_rfl) (by kernel_rfl) (by kernel_rfl) (fun _ _ _ h => h) (Or.inl ⟨by rfl, ?_⟩) (by assumption) ?_
      · intro W2 hSw; obtain ⟨k0, k1, k2, k3, k4⟩ := hSw; go_simp
      simp only [Act.put, List.getElem_toArray, List.getElem_cons_zero, List.getElem_cons_succ, List.setIfInBounds_toArray, List.set_cons_zero, List.set_cons_succ]
      refine wpAnyH_take (i := 18) (v := .int .u8 (e.n % 256)) rfl (by kernel_rfl) (by kernel_rfl) (by kernel_rfl) (fun _ _ _ h => h) (Or.inl ⟨by rfl, ?_⟩) (by assumption) ?_
      · intro W2 hSw; obtain ⟨k0, k1, k2, k3, k4⟩ := hSw; (go_simp <;> exact IntKind.wrap_u8' _)
      simp only [Act.put, List.getElem_toArray, List.getElem_cons_zero, List.getElem_cons_succ, List.setIfInBounds_toArray, List.set_cons_zero, List.set_cons_succ]
      refine wpAnyH_take (i := 19) (v := .slice (some ⟨b, off, none⟩) n cap) rfl (by kernel_rfl) (by kernel_rfl) (by kernel_rfl) (fun _ _ _ h => h) (Or.inl ⟨by rfl, ?_⟩) (by assumption) ?_
      · intro W2 hSw; obtain ⟨k0, k1, k2, k3, k4⟩ := hSw; go_simp
      simp only [Act.put, List.getElem_toArray, List.getElem_cons_zero, List.getElem_cons_succ, List.setIfInBounds_toArray, List.set_cons_zero, List.set_cons_succ]
      refine wpAnyH_take (i := 20) (v := .int .i64 (i : Nat)) rfl (by kernel_rfl) (by kernel_rfl) (by kernel_rfl) (fun _ _ _ h => h) (Or.inl ⟨by rfl, ?_⟩) (by assumption) ?_
      · intro W2 hSw; obtain ⟨k0, k1, k2, k3, k4⟩ := hSw; go_simp
      simp only [Act.put, List.getElem_toArray, List.getElem_cons_zero, List.getElem_cons_succ, List.setIfInBounds_toArray, List.set_cons_zero, List.set_cons_succ]
      refine wpAnyH_take (i := 21) (v := .pointer (some ⟨b, off + i * 5, none⟩)) rfl (by kernel_rfl) (by kernel_rfl) (by kernel_rfl) (fun _ _ _ h => h) (Or.inl ⟨by rfl, ?_⟩) (by assumption) ?_
      · intro W2 hSw; obtain ⟨k0, k1, k2, k3, k4⟩ := hSw; go_simp
      simp only [Act.put, List.getElem_toArray, List.getElem_cons_zero, List.getElem_cons_succ, List.setIfInBounds_toArray, List.set_cons_zero, List.set_cons_succ]
      refine wpAnyH_take (i := 22) (v := .pointer (some ⟨b, off + i * 5 + 3, none⟩)) rfl (by kernel_rfl) (by kernel_rfl) (by kernel_rfl) (fun _ _ _ h => h) (Or.inl ⟨by rfl, ?_⟩) (by assumption) ?_
      · intro W2 hSw; obtain ⟨k0, k1, k2, k3, k4⟩ := hSw; go_simp
      simp only [Act.put, List.getElem_toArray, List.getElem_cons_zero, List.getElem_cons_succ, List.setIfInBounds_toArray, List.set_cons_zero, List.set_cons_succ]
      refine wpAnyH_take (i := 23) (v := .int .i64 e.m) rfl (by kernel_rfl) (by kernel_rfl) (by kernel_rfl) (fun _ _ _ h => h) (Or.inl ⟨by rfl, ?_⟩) (by assumption) ?_
      · intro W2 hSw; obtain ⟨k0, k1, k2, k3, k4⟩ := hSw; go_simp
      simp only [Act.put, List.getElem_toArray, List.getElem_cons_zero, List.getElem_cons_succ, List.setIfInBounds_toArray, List.set_cons_zero, List.set_cons_succ]
      refine wpAnyH_take (i := 24) (v := .int .u8 (e.m % 256)) rfl (by kernel_rfl) (by kernel_rfl) (by kernel_rfl) (fun _ _ _ h => h) (Or.inl ⟨by rfl, ?_⟩) (by assumption) ?_
      · intro W2 hSw; obtain ⟨k0, k1, k2, k3, k4⟩ := hSw; (go_simp <;> exact IntKind.wrap_u8' _)
      simp only [Act.put, List.getElem_toArray, List.getElem_cons_zero, List.getElem_cons_succ, List.setIfInBounds_toArray, List.set_cons_zero, List.set_cons_succ]
      refine wpAnyH_take (i := 25) (v := .slice (some ⟨b, off, none⟩) n cap) rfl (by kernel_rfl) (by kernel_rfl) (by kernel_rfl) (fun _ _ _ h => h) (Or.inl ⟨by rfl, ?_⟩) (by assumption) ?_
      · intro W2 hSw; obtain ⟨k0, k1, k2, k3, k4⟩ := hSw; go_simp
      simp only [Act.put, List.getElem_toArray, List.getElem_cons_zero, List.getElem_cons_succ, List.setIfInBounds_toArray, List.set_cons_zero, List.set_cons_succ]
      refine wpAnyH_take (i := 26) (v := .int .i64 (i : Nat)) rfl (by kernel_rfl) (by kernel_rfl) (by kernel_rfl) (fun _ _ _ h => h) (Or.inl ⟨by rfl, ?_⟩) (by assumption) ?_
      · intro W2 hSw; obtain ⟨k0, k1, k2, k3, k4⟩ := hSw; go_simp
      simp only [Act.put, List.getElem_toArray, List.getElem_cons_zero, List.getElem_cons_succ, List.setIfInBounds_toArray, List.set_cons_zero, List.set_cons_succ]
      refine wpAnyH_take (i := 27) (v := .pointer (some ⟨b, off + i * 5, none⟩)) rfl (by kernel_rfl) (by kernel_rfl) (by kernel_rfl) (fun _ _ _ h => h) (Or.inl ⟨by rfl, ?_⟩) (by assumption) ?_
      · intro W2 hSw; obtain ⟨k0, k1, k2, k3, k4⟩ := hSw; go_simp
      simp only [Act.put, List.getElem_toArray, List.getElem_cons_zero, List.getElem_cons_succ, List.setIfInBounds_toArray, List.set_cons_zero, List.set_cons_succ]
      refine wpAnyH_take (i := 28) (v := .pointer (some ⟨b, off + i * 5 + 4, none⟩)) rfl (by kernel_rfl) (by kernel_rfl) (by kernel_rfl) (fun _ _ _ h => h) (Or.inl ⟨by rfl, ?_⟩) (by assumption) ?_
      · intro W2 hSw; obtain ⟨k0, k1, k2, k3, k4⟩ := hSw; go_simp
      simp only [Act.put, List.getElem_toArray, List.getElem_cons_zero, List.getElem_cons_succ, List.setIfInBounds_toArray, List.set_cons_zero, List.set_cons_succ]
      refine wpAnyH_take (i := 29) (v := .int .i64 e.col) rfl (by kernel_rfl) (by kernel_rfl) (by kernel_rfl) (fun _ _ _ h => h) (Or.inl ⟨by rfl, ?_⟩) (by assumption) ?_
      · intro W2 hSw; obtain ⟨k0, k1, k2, k3, k4⟩ := hSw; go_simp
      simp only [Act.put, List.getElem_toArray, List.getElem_cons_zero, List.getElem_cons_succ, List.setIfInBounds_toArray, List.set_cons_zero, List.set_cons_succ]
      refine wpAnyH_take (i := 30) (v := .int .u8 (e.col % 256)) rfl (by kernel_rfl) (by kernel_rfl) (by kernel_rfl) (fun _ _ _ h => h) (Or.inl ⟨by rfl, ?_⟩) (by assumption) ?_
      · intro W2 hSw; obtain ⟨k0, k1, k2, k3, k4⟩ := hSw; (go_simp <;> exact IntKind.wrap_u8' _)
      simp only [Act.put, List.getElem_toArray, List.getElem_cons_zero, List.getElem_cons_succ, List.setIfInBounds_toArray, List.set_cons_zero, List.set_cons_succ]
      refine wpAnyH_ready (rs := [31]) (by kernel_rfl) (by simp) ?_
      refine AllReadyH.cons rfl (fun K hK => ?_) AllReadyH.nil
      go_simp
      refine hK.out _ _ (HE.out.kept ((Kept.refl No wr).drew.alloc _) (not_no _)) (fun _ => ?_)
      clear hK K
      try simp only [Act.put, List.getElem_toArray, List.getElem_cons_zero, List.getElem_cons_succ, List.setIfInBounds_toArray, List.set_cons_zero, List.set_cons_succ]
      refine wpAnyH_ready (rs := [32]) (by kernel_rfl) (by simp) ?_
      refine AllReadyH.cons rfl (fun K hK => ?_) AllReadyH.nil
      refine step_append_rdo (xv := .slice (some ⟨wr.heap.size, 0, none⟩) 5 5) rfl rfl rfl rfl ei8 (owned_kept (S := No) HB.out ((Kept.refl No wr).drew.alloc _) fun _ _ _ => not_no _) (rd_b5 _ (bt_nat _).symm (bt_nat _).symm (bt_nat _).symm (bt_nat _).symm (bt_nat _).symm (k := wr.heap.size) rfl) (bts_one _) HB0.out (by have := HSZ.out; simp; omega) ?_
      intro v2 w2 hown hg _
      have HE2 := Lib.hid (HE.out.kept (((Kept.refl (fun k => Value.ownBlock (.slice ado m cpo) = some k) wr).drew.alloc _).grown hg fun k e _ => e) (fun h => HBW.out _ h rfl))
      refine hK.out _ _ HE2.out (fun _ => ?_)
      clear hK K
      try simp only [Act.put, List.getElem_toArray, List.getElem_cons_zero, List.getElem_cons_succ, List.setIfInBounds_toArray, List.set_cons_zero, List.set_cons_succ]
      refine wpAnyH_ready (rs := [33]) (by kernel_rfl) (by simp) ?_
      refine AllReadyH.cons rfl (fun K hK => ?_) AllReadyH.nil
      go_simp
      refine hK.out _ _ HE2.out (fun _ => ?_)
      clear hK K
      try simp only [Act.put, List.getElem_toArray, List.getElem_cons_zero, List.getElem_cons_succ, List.setIfInBounds_toArray, List.set_cons_zero, List.set_cons_succ]
      refine wpAnyH_done (by kernel_rfl) ?_ _
      go_wp2_with fail
      have hI := HI.out
      refine ⟨⟨i + 1, by go_num, by rw [HN.out]; omega, ?_, ?_⟩, by simp [intOf]; omega⟩
      · rw [HN.out]
        have hl5 : (bt (n : Nat) :: (l.take (i + 1)).flatMap eB).length = m + 5 := by
          have := congrArg List.length HU.out
          simp only [bts_length, List.length_append] at this
          rw [this]
          have h2 := HM.out
          have h3 : xs.length = m := by have := HB.out.1; omega
          rw [h3]; rfl
        show w2.ownsRow _ _ _ _ _ _
        rw [hl5, HU.out]
        exact hown
      · exact (HK.out.drew.alloc _).grown hg (fun k e h => absurd (HB.out.lt k e).1 (by omega))
    · have d1 : decide (i < n) = false := decide_eq_false hlt
      have hin : i = n := by omega
      have HR := Lib.hid (show bt (n : Nat) :: (l.take i).flatMap eB = eenc l by rw [hin, ← HN.out, List.take_length]; rfl)
      clear hlt hk hin hb
      go_wp2_with fail
      go_ret
      exact ⟨_, rfl, HR.out ▸ HB.out, HK.out⟩
end Go.Proofs.YtclgoilfclmibaaGreatDoor
namespace Go.Proofs.YtclgoilfclmibaaGreatDoor
open Go Go.RowKit Go.Zn
attribute [local go_sem] Oper.semAt_some

def RSumRel (l : List UInt8) (w : World) (nv iv : Value) (wr : World) : Prop := ∃ i : Nat, iv = .int .i64 (i : Nat) ∧ i ≤ l.length ∧ nv = .int .u64 (sumF (l.take i) : Nat) ∧ wr = w
set_option maxRecDepth 100000 in
theorem rsum_any {l : List UInt8} (hl : l.length ≤ 1000000) {w : World} {B : Nat → Prop} {v : Value} (hv : Rd w B 1 v l.length (bts l)) : Calls Tryz.prog 20 #[v] w fun e w' => e = .returned (.int .u32 (sumF l : Nat)) ∧ w' = w := by
  obtain ⟨ad, cap, rfl⟩ := rd_slice hv
  obtain ⟨n, hn⟩ : ∃ n, l.length = n := ⟨_, rfl⟩
  have HN := Lib.hid hn
  have HV := Lib.hid hv
  rw [hn] at hl ⊢
  rw [hn] at HV
  clear hv hn
  go_enter Tryz.func20, Tryz.ntmps20
  go_wp2_with fail
  go_loopw [3, 4] (fun nv iv wr => RSumRel l w nv iv wr) (fun _ iv _ => n - (intOf iv).toNat)
  case atStart => exact ⟨0, rfl, Nat.zero_le _, rfl, rfl⟩
  case round =>
    obtain ⟨i, rfl, hi, rfl, rfl⟩ := hrel
    rw [HN.out] at hi
    by_cases hlt : i < n
    · have hil : i < l.length := by rw [HN.out]; exact hlt
      obtain ⟨_, _, ⟨_, h0⟩ | ⟨b, off, c1, he, _, _, hc⟩⟩ := HV.out
      · omega
      have g1 : wr.cell? ⟨b, off + i, none⟩ = some (.int .u8 (l[i]).toNat) := hc i _ (by rw [bts_get, List.getElem?_eq_getElem hil]; rfl)
      cases he
      have HT := Lib.hid (show sumF (l.take (i + 1)) = (31 * sumF (l.take i) + (l[i]).toNat) % 4294967296 by rw [List.take_add_one, List.getElem?_eq_getElem hil]; exact sumS_snoc _ _ _)
      have hx := (l[i]).toNat_lt
      obtain ⟨x, hxx⟩ : ∃ x, (l[i]).toNat = x := ⟨_, rfl⟩
      have hs := sumF_lt (l.take i)
      obtain ⟨s, hss⟩ : ∃ s, sumF (l.take i) = s := ⟨_, rfl⟩
      rw [hxx] at g1 HT hx
      rw [hss] at HT hs ⊢
      have d1 : decide (i < n) = true := decide_eq_true hlt
      have hi0 : (0 : Int) ≤ (i : Int) := by omega
      have hin : (i : Int) < (n : Int) := by omega
      have q4 : IntKind.i64.wrap ((i : Int) + 1) = (i : Int) + 1 := IntWalk.i64_in _ (by omega)
      have q5 : IntKind.u64.wrap (x : Int) = (x : Int) := by exact IntWalk.u64_in _ (by omega)
      have q6 : IntKind.u64.wrap (31 * (s : Int)) = 31 * (s : Int) := by exact IntWalk.u64_in _ (by omega)
      have q7 : IntKind.u64.wrap (31 * (s : Int) + (x : Int)) = 31 * (s : Int) + (x : Int) := by exact IntWalk.u64_in _ (by omega)
      have HI := Lib.hid hlt
      clear hlt hc hxx hss hil hs
      go_wp2_with fail
      have hI := HI.out
      refine ⟨⟨i + 1, by go_num, by rw [HN.out]; omega, ?_, rfl⟩, by simp [intOf]; omega⟩
      rw [HT.out]
      congr 1
    · have d1 : decide (i < n) = false := decide_eq_false hlt
      have HR := Lib.hid (show l.take i = l from List.take_of_length_le (by rw [HN.out]; omega))
      have hsl := sumF_lt (l.take i)
      obtain ⟨s, hss⟩ : ∃ s, sumF (l.take i) = s := ⟨_, rfl⟩
      have HS := Lib.hid hss
      rw [hss] at hsl ⊢
      have q5 : IntKind.u32.wrap (s : Int) = (s : Int) := by rw [u32_mod]; omega
      clear hlt hss hsl
      go_wp2_with fail
      go_ret
      exact ⟨by rw [← HS.out, HR.out]; rfl, rfl⟩
theorem own_b4 (w : World) {x y z u : Int} {b0 b1 b2 b3 : UInt8} (h0 : x = (b0.toNat : Int)) (h1 : y = (b1.toNat : Int)) (h2 : z = (b2.toNat : Int)) (h3 : u = (b3.toNat : Int)) {base : Nat} (hb : base ≤ w.heap.size) : BRow (w.alloc (.cells #[.int .u8 x, .int .u8 y, .int .u8 z, .int .u8 u] 5)) base (.slice (some ⟨w.heap.size, 0, none⟩) 4 4) [b0, b1, b2, b3] := by
  subst h0 h1 h2 h3
  exact ⟨rfl, .inr ⟨w.heap.size, 4, _, rfl, hb, heap_alloc_new w _, Nat.le_refl _, by simp [maxLen], rfl, rfl⟩⟩
theorem own_b2 (w : World) {x y : Int} {b0 b1 : UInt8} (h0 : x = (b0.toNat : Int)) (h1 : y = (b1.toNat : Int)) {base : Nat} (hb : base ≤ w.heap.size) : BRow (w.alloc (.cells #[.int .u8 x, .int .u8 y] 5)) base (.slice (some ⟨w.heap.size, 0, none⟩) 2 2) [b0, b1] := by
  subst h0 h1
  exact ⟨rfl, .inr ⟨w.heap.size, 2, _, rfl, hb, heap_alloc_new w _, Nat.le_refl _, by simp [maxLen], rfl, rfl⟩⟩
set_option maxRecDepth 100000 in
theorem rword_any {n : Nat} (hn : n < 4294967296) (w : World) : Calls Tryz.prog 37 #[.int .u32 (n : Nat)] w (RowPost (be4 n) w) := by
  have HN := Lib.hid hn
  clear hn
  go_enter Tryz.func37, Tryz.ntmps37
  go_wp2_with fail
  go_ret
  have h := HN.out
  refine ⟨_, rfl, own_b4 w ?_ ?_ ?_ ?_ (Nat.le_refl _), (Kept.refl No w).alloc _⟩
  all_goals
    rw [bt_nat] <;> omega
end Go.Proofs.YtclgoilfclmibaaGreatDoor
namespace Go.Proofs.YtclgoilfclmibaaGreatDoor
open Go Go.RowKit Go.Zn
attribute [local go_sem] Oper.semAt_some

theorem str_idx {l : List UInt8} {i : Nat} {b : UInt8} (h : l[i]? = some b) (w : World) : (Instr.index 9 (.string (strOf l)) (.int .i64 (i : Nat))).run Tryz.prog w = .ok (.int .u8 b.toNat) w := by
  obtain ⟨hi, he⟩ := List.getElem?_eq_some_iff.1 h
  have hs := strOf_size l
  rw [run_index_string w 9 _ _ _ Tryz.underlying9, dif_pos ⟨by omega, by omega⟩]
  have e : (strOf l)[((i : Nat) : Int).toNat]'(by omega) = b := by
    show (strOf l).data[((i : Nat) : Int).toNat]'_ = b
    simp only [strOf, Int.toNat_natCast, List.getElem_toArray]
    exact he
  rw [e]
theorem rd_b9 (w : World) {y0 y1 y2 y3 y4 y5 y6 y7 y8 : Int} {b0 b1 b2 b3 b4 b5 b6 b7 b8 : UInt8} (h0 : y0 = (b0.toNat : Int)) (h1 : y1 = (b1.toNat : Int)) (h2 : y2 = (b2.toNat : Int)) (h3 : y3 = (b3.toNat : Int)) (h4 : y4 = (b4.toNat : Int)) (h5 : y5 = (b5.toNat : Int)) (h6 : y6 = (b6.toNat : Int)) (h7 : y7 = (b7.toNat : Int)) (h8 : y8 = (b8.toNat : Int)) {k : Nat} (hk : k = w.heap.size) : Rd (w.alloc (.cells #[.int .u8 y0, .int .u8 y1, .int .u8 y2, .int .u8 y3, .int .u8 y4, .int .u8 y5, .int .u8 y6, .int .u8 y7, .int .u8 y8] 5)) (fun i => i = k) 1 (.slice (some ⟨k, 0, none⟩) 9 9) 9 (bts [b0, b1, b2, b3, b4, b5, b6, b7, b8]) := by
  subst h0 h1 h2 h3 h4 h5 h6 h7 h8 hk
  exact ⟨rfl, by simp [maxLen], .inr ⟨_, 0, 9, rfl, Nat.le_refl _, fun _ => rfl, fun j u hj => by
    rw [Nat.zero_add, obj_cell (heap_alloc_new w _)]
    match j, hj with
    | 0, hj => exact hj
    | 1, hj => exact hj
    | 2, hj => exact hj
    | 3, hj => exact hj
    | 4, hj => exact hj
    | 5, hj => exact hj
    | 6, hj => exact hj
    | 7, hj => exact hj
    | 8, hj => exact hj⟩⟩
def RcN (c : Crd) (w : World) (ev tv : Value) (ov iv : Value) (wr : World) : Prop := ∃ k : Nat, iv = .int .i64 (k : Nat) ∧ k ≤ c.name.length ∧ EcS c w ev tv (cB1 c ++ c.name.take k) ov wr
set_option maxRecDepth 100000 in
set_option maxHeartbeats 8000000 in
theorem rcencode_any {c : Crd} (hc : cvalid c = true) {w : World} {B : Nat → Prop} {ev tv : Value} (h : CrdAt w B c ev tv) : Calls Tryz.prog 36 #[crdV c ev tv] w (RowPost (cenc c) w) := by
  have h := h.mono (C := fun b => b < w.heap.size) fun b hb _ => hb
  have hin := cvalid_in hc
  obtain ⟨adt, capt, rfl⟩ := h.trgs.slice
  obtain ⟨ade, cape, rfl⟩ := rd_slice h.effs
  have HE := Lib.hid (fun w' (hk : Kept No w w') => reE_any (allE_out hin.effs).1 (h.effs.no hk))
  have HTE := Lib.hid (fun (t : Trg) (ht : t ∈ c.trgs) v W (hv : EffsAt W (fun b => b < w.heap.size) v t.effs) => reE_any (allE_out (hin.trgs t ht).2.2).1 hv)
  have HTR := Lib.hid (fun w' (hk : Kept No w w') => h.trgs.no hk)
  have hsz := strOf_size c.name
  have HNL := Lib.hid (show c.name.length ≤ 32 from hin.name.2)
  have HML := Lib.hid hin.many
  have HCI := Lib.hid hin
  have HEF := Lib.hid (allE_out hin.effs).1
  have HO0 := Lib.hid (show CObj (w.alloc (.cells #[.string (strOf c.name), .int .i64 c.kind, .int .i64 c.o0, .int .i64 c.o1, .int .i64 c.o2, .int .i64 c.o3, .int .i64 c.any, .int .i64 c.makes, .int .i64 c.power, .int .i64 c.tough, .int .i64 c.keys, .slice ade c.effs.length cape, .slice adt c.trgs.length capt, .int .i64 c.rarity] 46)) w.heap.size c (.slice ade c.effs.length cape) (.slice adt c.trgs.length capt) from heap_alloc_new w _)
  have HK0 := Lib.hid ((Kept.refl No w).alloc (.cells #[.string (strOf c.name), .int .i64 c.kind, .int .i64 c.o0, .int .i64 c.o1, .int .i64 c.o2, .int .i64 c.o3, .int .i64 c.any, .int .i64 c.makes, .int .i64 c.power, .int .i64 c.tough, .int .i64 c.keys, .slice ade c.effs.length cape, .slice adt c.trgs.length capt, .int .i64 c.rarity] 46))
  have HST := Lib.hid (fun y : Int => fun (hy : y = ((bt (c.name.length : Nat)).toNat : Int)) => (⟨own_b3 (w.alloc (.cells #[.string (strOf c.name), .int .i64 c.kind, .int .i64 c.o0, .int .i64 c.o1, .int .i64 c.o2, .int .i64 c.o3, .int .i64 c.any, .int .i64 c.makes, .int .i64 c.power, .int .i64 c.tough, .int .i64 c.keys, .slice ade c.effs.length cape, .slice adt c.trgs.length capt, .int .i64 c.rarity] 46)) (bt_nat _).symm (bt_nat _).symm hy (by simp), HO0.out.no ((Kept.refl No _).alloc _), HK0.out.alloc _⟩ : EcS c w (.slice ade c.effs.length cape) (.slice adt c.trgs.length capt) (cB1 c) (.slice (some ⟨(w.alloc (.cells #[.string (strOf c.name), .int .i64 c.kind, .int .i64 c.o0, .int .i64 c.o1, .int .i64 c.o2, .int .i64 c.o3, .int .i64 c.any, .int .i64 c.makes, .int .i64 c.power, .int .i64 c.tough, .int .i64 c.keys, .slice ade c.effs.length cape, .slice adt c.trgs.length capt, .int .i64 c.rarity] 46)).heap.size, 0, none⟩) 3 3) ((w.alloc (.cells #[.string (strOf c.name), .int .i64 c.kind, .int .i64 c.o0, .int .i64 c.o1, .int .i64 c.o2, .int .i64 c.o3, .int .i64 c.any, .int .i64 c.makes, .int .i64 c.power, .int .i64 c.tough, .int .i64 c.keys, .slice ade c.effs.length cape, .slice adt c.trgs.length capt, .int .i64 c.rarity] 46)).alloc (.cells #[.int .u8 (c.kind % 256), .int .u8 (c.rarity % 256), .int .u8 y] 5))))
  obtain ⟨nn, hnn⟩ : ∃ nn, c.name.length = nn := ⟨_, rfl⟩
  have HNN := Lib.hid hnn
  rw [hnn] at hsz
  obtain ⟨m0, m1, m2, m3, m4, m5, m6, m7, m8, m9, m10, m11, m12, m13⟩ := HO0.out.cells
  clear h hin hc m2 m3 m4 m5 m6 m7 m8 m9 m10 hnn
  go_enter Tryz.func36, Tryz.ntmps36
  go_wp2_with fail
  clear m0 m1 m11 m12 m13
  go_loopw [3, 4] (fun ov iv wr => RcN c w (.slice ade c.effs.length cape) (.slice adt c.trgs.length capt) ov iv wr) (fun _ iv _ => nn - (intOf iv).toNat)
  case atStart =>
    refine ⟨0, rfl, Nat.zero_le _, ?_⟩
    rw [List.take_zero, List.append_nil]
    have h := HST.out _ (bt_nat _).symm
    rw [HNN.out] at h
    simp only [World.size_alloc] at h
    exact h
  case round =>
    clear HO0 HK0
    obtain ⟨k, rfl, hk, hs⟩ := hrel
    rw [HNN.out] at hk
    have HS := Lib.hid hs
    have HSZ := Lib.hid (show w.heap.size + 1 ≤ wr.heap.size from obj_lt hs.obj)
    obtain ⟨m0, m1, m2, m3, m4, m5, m6, m7, m8, m9, m10, m11, m12, m13⟩ := hs.obj.cells
    have hz : w.heap.size < wr.heap.size := by have := HSZ.out; omega
    by_cases hlt : k < nn
    · have hil : k < c.name.length := by rw [HNN.out]; exact hlt
      obtain ⟨b, hb⟩ : ∃ b, c.name[k]? = some b := ⟨_, List.getElem?_eq_getElem hil⟩
      have HIX := Lib.hid (str_idx hb)
      have hix := HIX.out
      have HLN := Lib.hid (show ((cB1 c ++ c.name.take k).length + 1) * 1 ≤ 140737488355328 by
        rw [List.length_append, List.length_take, show (cB1 c).length = 3 from rfl]; have := HNL.out; omega)
      have HUP := Lib.hid (show cB1 c ++ c.name.take (k + 1) = cB1 c ++ c.name.take k ++ [b] by rw [List.take_add_one, hb, List.append_assoc]; rfl)
      have d1 : decide (k < nn) = true := decide_eq_true hlt
      have hi0 : (0 : Int) ≤ (k : Int) := by omega
      have hin : (k : Int) < (nn : Int) := by omega
      have q4 : IntKind.i64.wrap ((k : Int) + 1) = (k : Int) + 1 := IntWalk.i64_in _ (by have := HNL.out; rw [HNN.out] at this; omega)
      have HI := Lib.hid hlt
      clear hs hlt hil hb m1 m2 m3 m4 m5 m6 m7 m8 m9 m10 m11 m12 m13
      go_wp2_with (at_builtin; refine wpList_append_rd rfl rfl rfl rfl ei8 (owned_kept HS.out.row ((Kept.refl No wr).alloc _) fun _ _ _ => not_no _) (rd_b1 wr (b := b) rfl rfl) (bts_one _) HLN.out (by have := HSZ.out; simp; omega) ?_; intro v2 w2 hown hg _)
      have hI := HI.out
      exact ⟨⟨k + 1, by go_num, by rw [HNN.out]; omega, by rw [HUP.out]; exact EcS.app (news := [b]) HS.out ((Kept.refl No wr).alloc _) rfl rfl hown hg⟩, by simp [intOf]; omega⟩
    · have d1 : decide (k < nn) = false := decide_eq_false hlt
      have HS := Lib.hid (show EcS c w (.slice ade c.effs.length cape) (.slice adt c.trgs.length capt) (cB1 c ++ c.name) u3 wr by
        have e : c.name.take k = c.name := List.take_of_length_le (by rw [HNN.out]; omega)
        rw [e] at hs; exact hs)
      have HLN := Lib.hid (show ((cB1 c ++ c.name).length + 9) * 1 ≤ 140737488355328 by
        rw [List.length_append, show (cB1 c).length = 3 from rfl]; have := HNL.out; omega)
      clear hs hlt m11 m12 m13
      go_wp2_with (at_builtin; refine wpList_append_rd rfl rfl rfl rfl ei8 (owned_kept HS.out.row ((Kept.refl No wr).alloc _) fun _ _ _ => not_no _) (rd_b9 wr (bt_nat _).symm (bt_nat _).symm (bt_nat _).symm (bt_nat _).symm (bt_nat _).symm (bt_nat _).symm (bt_nat _).symm (bt_nat _).symm (bt_nat _).symm rfl) (bts_one _) HLN.out (by have := HSZ.out; simp; omega) ?_; intro v2 w2 hown hg _; have HS2 := Lib.hid (EcS.app (news := cB2 c) HS.out ((Kept.refl No wr).alloc _) rfl rfl hown hg); obtain ⟨m0, m1, m2, m3, m4, m5, m6, m7, m8, m9, m10, m11, m12, m13⟩ := HS2.out.obj.cells; have hz2 : w.heap.size < w2.heap.size := obj_lt HS2.out.obj; clear hown hg)
      clear m0 m1 m2 m3 m4 m5 m6 m7 m8 m9 m10 m11 m12 m13
      refine (HE.out _ HS2.out.kept).mono ?_
      rintro x w3 ⟨lv, rfl, hlv, hk3⟩
      have HS3 := Lib.hid (HS2.out.no hk3)
      have HLV := Lib.hid hlv
      obtain ⟨m0, m1, m2, m3, m4, m5, m6, m7, m8, m9, m10, m11, m12, m13⟩ := HS3.out.obj.cells
      have HSZ3 := Lib.hid (show w.heap.size + 1 ≤ w3.heap.size from obj_lt HS3.out.obj)
      have hz3 : w.heap.size < w3.heap.size := by have := HSZ3.out; omega
      have HL1 := Lib.hid (show ((cB1 c ++ c.name ++ cB2 c).length + (eenc c.effs).length) * 1 ≤ 140737488355328 ∧ ((cB1 c ++ c.name ++ cB2 c ++ eenc c.effs).length + 1) * 1 ≤ 140737488355328 by
        have h1 := HNL.out
        have h2 := HEF.out
        have h3 : (eenc c.effs).length = 1 + 5 * c.effs.length := by rw [eenc_len]
        simp only [List.length_append, show (cB1 c).length = 3 from rfl, show (cB2 c).length = 9 from rfl, h3]
        omega)
      clear hk3 hlv HLN HS HS2 hz m0 m1 m2 m3 m4 m5 m6 m7 m8 m9 m10 m11 m13 hz2
      go_wp2_with (at_builtin; first | (refine wpList_append_rd (xv := lv) rfl rfl rfl rfl ei8 HS3.out.row (rd_owned HLV.out) (bts_one _) HL1.out.1 (by have := HSZ3.out; omega) ?_; intro v5 w5 hown hg _; have HS5 := Lib.hid (EcS.app (news := eenc c.effs) HS3.out (Kept.refl No w3) rfl rfl hown hg); have n12 : w5.cell? ⟨w.heap.size, 12, none⟩ = some (.slice adt c.trgs.length capt) := obj_cell HS5.out.obj 12; have hz5 : w.heap.size < w5.heap.size := obj_lt HS5.out.obj; clear hown hg) | (refine wpList_append_rd (v := v5) rfl rfl rfl rfl ei8 (owned_kept HS5.out.row ((Kept.refl No w5).alloc _) fun _ _ _ => not_no _) (rd_b1 w5 (b := bt (c.trgs.length : Nat)) (bt_nat _).symm rfl) (bts_one _) HL1.out.2 (by have := obj_lt HS5.out.obj; simp; omega) ?_; intro v6 w6 hown hg _; have HS6 := Lib.hid (EcS.app (news := [bt (c.trgs.length : Nat)]) HS5.out ((Kept.refl No w5).alloc _) rfl rfl hown hg); clear hown hg))
      obtain ⟨n, hn⟩ : ∃ n, c.trgs.length = n := ⟨_, rfl⟩
      have HN := Lib.hid hn
      have hn2 : n ≤ 2 := by rw [← hn]; exact HML.out
      have HC := Lib.hid (show EcS c w (.slice ade c.effs.length cape) (.slice adt c.trgs.length capt) (cB1 c ++ c.name ++ cB2 c ++ eenc c.effs ++ bt (c.trgs.length : Nat) :: (c.trgs.take 0).flatMap tB) v6 w6 by
        have e : cB1 c ++ c.name ++ cB2 c ++ eenc c.effs ++ bt (c.trgs.length : Nat) :: (c.trgs.take 0).flatMap tB = cB1 c ++ c.name ++ cB2 c ++ eenc c.effs ++ [bt (c.trgs.length : Nat)] := by simp
        rw [e]; exact HS6.out)
      clear hn HS3 HLV HSZ3 HL1 hz3 HE HS5 HS6 n12 hz5 m12
      go_loopw [3, 5] (fun ov iv wr => EcT c w (.slice ade c.effs.length cape) (.slice adt c.trgs.length capt) ov iv wr) (fun _ iv _ => n - (intOf iv).toNat)
      case atStart => exact ⟨0, rfl, Nat.zero_le _, HC.out⟩
      case round =>
        clear HC
        obtain ⟨i, rfl, hi, hs⟩ := hrel
        rw [HN.out] at hi
        have HS := Lib.hid hs
        have m12 := obj_cell hs.obj 12
        simp only [crdCs, List.getElem?_toArray, List.getElem?_cons_succ, List.getElem?_cons_zero] at m12
        rw [HN.out] at m12
        have hz : w.heap.size < wr.heap.size := obj_lt hs.obj
        by_cases hlt : i < n
        · have hil : i < c.trgs.length := by rw [HN.out]; exact hlt
          obtain ⟨t, ht⟩ : ∃ t, c.trgs[i]? = some t := ⟨_, List.getElem?_eq_getElem hil⟩
          obtain ⟨b, off, c1, ev, hsl, hcap, g0, g1, hE⟩ := (HTR.out _ hs.kept).at ht
          obtain ⟨ade2, cape2, rfl⟩ := rd_slice hE
          have HUP := Lib.hid (ec_up ht)
          have HLN := Lib.hid (ec_bound HCI.out i t (List.mem_of_getElem? ht))
          rw [HN.out] at hsl
          cases hsl
          have HSZ := Lib.hid (show w.heap.size + 1 ≤ wr.heap.size from obj_lt hs.obj)
          have d1 : decide (i < n) = true := decide_eq_true hlt
          have hi0 : (0 : Int) ≤ (i : Int) := by omega
          have hin : (i : Int) < (n : Int) := by omega
          have q4 : IntKind.i64.wrap ((i : Int) + 1) = (i : Int) + 1 := IntWalk.i64_in _ (by omega)
          have HI := Lib.hid hlt
          have HCE := Lib.hid (fun W (hk : Kept No w W) => (HTR.out _ hk).at ht)
          have HTT := Lib.hid (fun v W => HTE.out t (List.mem_of_getElem? ht) v W)
          obtain ⟨PB, hPB⟩ : ∃ PB, cB1 c ++ c.name ++ cB2 c ++ eenc c.effs ++ bt (c.trgs.length : Nat) :: (c.trgs.take i).flatMap tB = PB := ⟨_, rfl⟩
          rw [hPB] at HS HUP HLN
          clear hs hlt hil ht hE hcap hPB
          go_wp2_with (at_builtin; refine wpList_append_rd rfl rfl rfl rfl ei8 (owned_kept HS.out.row ((Kept.refl No wr).alloc _) fun _ _ _ => not_no _) (rd_b1 wr (b := bt t.when) (bt_nat _).symm rfl) (bts_one _) (by have := HLN.out; omega) (by have := HSZ.out; simp; omega) ?_; intro v5 w5 hown hg _; have HS5 := Lib.hid (EcS.app (news := [bt t.when]) HS.out ((Kept.refl No wr).alloc _) rfl rfl hown hg); have n12 := obj_cell HS5.out.obj 12; simp only [crdCs, List.getElem?_toArray, List.getElem?_cons_succ, List.getElem?_cons_zero] at n12; rw [HN.out] at n12; have hz5 : w.heap.size < w5.heap.size := obj_lt HS5.out.obj; obtain ⟨b2, off2, c2, ev2, hsl2, _, y0, y1, hE2⟩ := HCE.out _ HS5.out.kept; rw [HN.out] at hsl2; cases hsl2; obtain ⟨ade3, cape3, rfl⟩ := rd_slice hE2; have HE2 := Lib.hid hE2; clear hown hg hE2 y0)
          refine (HTT.out _ _ HE2.out).mono ?_
          rintro x w7 ⟨lv2, rfl, hlv2, hk7⟩
          have HLV2 := Lib.hid hlv2
          have HS7 := Lib.hid (HS5.out.no hk7)
          clear hlv2 hk7
          go_wp2_with (at_builtin; refine wpList_append_rd (xv := lv2) rfl rfl rfl rfl ei8 HS7.out.row (rd_owned HLV2.out) (bts_one _) (by rw [List.length_append]; have := HLN.out; simp; omega) (by have := obj_lt HS7.out.obj; omega) ?_; intro v8 w8 hown hg _; have HS8 := Lib.hid (EcS.app (news := eenc t.effs) HS7.out (Kept.refl No w7) rfl rfl hown hg); clear hown hg)
          have hI := HI.out
          exact ⟨⟨i + 1, by go_num, by rw [HN.out]; omega, by rw [HUP.out]; exact HS8.out⟩, by simp [intOf]; omega⟩
        · have d1 : decide (i < n) = false := decide_eq_false hlt
          have hin : i = n := by omega
          have HR := Lib.hid (show cB1 c ++ c.name ++ cB2 c ++ eenc c.effs ++ bt (c.trgs.length : Nat) :: (c.trgs.take i).flatMap tB = cenc c by rw [hin, ← HN.out, List.take_length]; rfl)
          clear hlt hs hin
          go_wp2_with fail
          go_ret
          exact ⟨_, rfl, owned_mono (HR.out ▸ HS.out.row) (by omega), HS.out.kept⟩
end Go.Proofs.YtclgoilfclmibaaGreatDoor
namespace Go.Proofs.YtclgoilfclmibaaGreatDoor
open Go Go.RowKit Go.Zn
attribute [local go_sem] Oper.semAt_some

set_option maxRecDepth 100000 in
set_option maxHeartbeats 4000000 in
theorem rencode_any {w : World} {B : Nat → Prop} {vl : Value} {l : List Crd} (hl : CrdsAt w B vl l) (h400 : l.length ≤ 900) (hval : ∀ c ∈ l, cvalid c = true) : Calls Tryz.prog 16 #[vl] w (RowPost (penc l) w) := by
  obtain ⟨ad, cap, rfl⟩ := hl.slice
  have HP := Lib.hid hl
  have HVAL := Lib.hid hval
  obtain ⟨n, hn⟩ : ∃ n, l.length = n := ⟨_, rfl⟩
  have HN := Lib.hid hn
  have HB0 := Lib.hid (show (body l).length ≤ 1000000 by
    have := cencs_len hval
    unfold body
    rw [List.length_append, be2_len]; omega)
  rw [hn] at h400 HP ⊢
  have HL := Lib.hid h400
  clear hn hval hl
  go_enter Tryz.func16, Tryz.ntmps16
  go_wp2_with fail
  go_loopw [3, 4] (fun ov iv wr => PeRel l w ov iv wr) (fun _ iv _ => n - (intOf iv).toNat)
  case atStart =>
    refine ⟨0, rfl, Nat.zero_le _, ?_, (Kept.refl No w).alloc _⟩
    rw [HN.out, List.take_zero, List.flatMap_nil, List.append_nil]
    refine own_b2 w ?_ ?_ (Nat.le_refl _)
    all_goals
      rw [bt_nat] <;> omega
  case round =>
    obtain ⟨i, rfl, hi, ho, hk⟩ := hrel
    rw [HN.out] at hi
    obtain ⟨ado, cpo, rfl⟩ := owned_slice ho
    have HK := Lib.hid hk
    by_cases hlt : i < n
    · have hil : i < l.length := by rw [HN.out]; exact hlt
      obtain ⟨c, hc⟩ : ∃ c, l[i]? = some c := ⟨_, List.getElem?_eq_getElem hil⟩
      obtain ⟨b, off, cap1, ev, tv, hs, hcap, hrg, hca⟩ := (HP.out.no hk).at hc
      obtain ⟨ade, cape, rfl⟩ := rd_slice hca.effs
      obtain ⟨adt, capt, rfl⟩ := hca.trgs.slice
      rw [HN.out] at hs
      cases hs
      have hcv := HVAL.out c (List.mem_of_getElem? hc)
      have HRG := Lib.hid (show wr.rangeAt b (off + i * 14) [.string (strOf c.name), .int .i64 c.kind, .int .i64 c.o0, .int .i64 c.o1, .int .i64 c.o2, .int .i64 c.o3, .int .i64 c.any, .int .i64 c.makes, .int .i64 c.power, .int .i64 c.tough, .int .i64 c.keys, .slice ade c.effs.length cape, .slice adt c.trgs.length capt, .int .i64 c.rarity] from hrg)
      have HCE := Lib.hid (rcencode_any hcv hca)
      have hcl := cenc_len hcv
      have htl := cencs_len (l := l.take i) (fun x hx => HVAL.out x (List.mem_of_mem_take hx))
      rw [List.length_take] at htl
      have HTK := Lib.hid (show (l.take (i + 1)).flatMap cenc = (l.take i).flatMap cenc ++ cenc c by rw [List.take_add_one, hc]; simp)
      obtain ⟨bs, hbs⟩ : ∃ bs, be2 l.length ++ (l.take i).flatMap cenc = bs := ⟨_, rfl⟩
      have hbl : bs.length ≤ 2 + 1000 * n := by
        rw [← hbs, List.length_append, be2_len]; omega
      rw [hbs] at ho ⊢
      obtain ⟨mb, hmb⟩ : ∃ mb, bs.length = mb := ⟨_, rfl⟩
      obtain ⟨mc, hmc⟩ : ∃ mc, (cenc c).length = mc := ⟨_, rfl⟩
      have HMC := Lib.hid hmc
      have HMB := Lib.hid hmb
      have HBS := Lib.hid hbs
      have ho2 : wr.ownsRow w.heap.size 5 1 (.slice ado bs.length cpo) bs.length (bts bs) := ho
      rw [hmb] at ho2 hbl ⊢
      rw [hmc] at hcl
      have HO := Lib.hid ho2
      have HLE := Lib.hid (show (mb + mc) * 1 ≤ 140737488355328 by have := HL.out; omega)
      have d1 : decide (i < n) = true := decide_eq_true hlt
      have hi0 : (0 : Int) ≤ (i : Int) := by omega
      have hin : (i : Int) < (n : Int) := by omega
      have q4 : IntKind.i64.wrap ((i : Int) + 1) = (i : Int) + 1 := IntWalk.i64_in _ (by have := HL.out; omega)
      have HI := Lib.hid hlt
      clear ho ho2 hk hlt hil hc hrg hca htl hcap hcv hcl hbs hmb hmc hbl
      go_wp2_with (with_reducible refine wpList_load_mid rfl 46 _ rfl b (off + i * 14) rfl [.string (strOf c.name), .int .i64 c.kind, .int .i64 c.o0, .int .i64 c.o1, .int .i64 c.o2, .int .i64 c.o3, .int .i64 c.any, .int .i64 c.makes, .int .i64 c.power, .int .i64 c.tough, .int .i64 c.keys, .slice ade c.effs.length cape, .slice adt c.trgs.length capt, .int .i64 c.rarity] _ HRG.out Tryz.underlying46 rfl (by kernel_rfl) ?_)
      refine HCE.out.mono ?_
      rintro e w2 ⟨vc, rfl, hc2, hk2⟩
      obtain ⟨adc, cpc, rfl⟩ := owned_slice hc2
      have hc3 : w2.ownsRow wr.heap.size 5 1 (.slice adc (cenc c).length cpc) (cenc c).length (bts (cenc c)) := hc2
      rw [HMC.out] at hc3 ⊢
      have HC2 := Lib.hid (rd_owned hc3)
      have HK2 := Lib.hid (HK.out.and hk2)
      have HO2 := Lib.hid (owned_kept HO.out hk2 fun _ _ _ => not_no _)
      have HSZ := Lib.hid (HK2.out.size)
      clear hk2 hc2 hc3
      go_wp2_with (at_builtin; refine wpList_append_rd rfl rfl rfl rfl ei8 HO2.out HC2.out (bts_one _) HLE.out HSZ.out ?_; intro v5 w5 hown5 hg5 _)
      have hI := HI.out
      refine ⟨⟨i + 1, by go_num, by rw [HN.out]; omega, ?_, ?_⟩, by simp [intOf]; omega⟩
      · rw [HTK.out, ← List.append_assoc, HBS.out]
        show w5.ownsRow _ _ _ _ (bs ++ cenc c).length (bts (bs ++ cenc c))
        rw [List.length_append, HMB.out, HMC.out, bts_app]
        exact hown5
      · exact HK2.out.grown hg5 (fun k e h => absurd (HO2.out.lt k e).1 (by omega))
    · have d1 : decide (i < n) = false := decide_eq_false hlt
      have hR : be2 l.length ++ (l.take i).flatMap cenc = body l := by rw [List.take_of_length_le (by rw [HN.out]; omega)]; rfl
      rw [hR] at ho ⊢
      have HO := Lib.hid (show wr.ownsRow w.heap.size 5 1 (.slice ado (body l).length cpo) (body l).length (bts (body l)) from ho)
      have HS := Lib.hid (rsum_any (by have := HB0.out; omega) (rd_owned ho))
      have HPT := Lib.hid (fun w' => rword_any (sumF_lt (body l)) w')
      obtain ⟨mb, hmb⟩ : ∃ mb, (body l).length = mb := ⟨_, rfl⟩
      have HMB := Lib.hid hmb
      obtain ⟨s, hs⟩ : ∃ s, sumF (body l) = s := ⟨_, rfl⟩
      have HSS := Lib.hid hs
      rw [hmb] at HS HO ⊢
      rw [hs] at HS HPT
      clear hlt hk ho hmb hs hR
      go_wp2_with fail
      refine HS.out.mono ?_
      rintro e w2 ⟨rfl, rfl⟩
      go_wp2_with fail
      refine (HPT.out _).mono ?_
      rintro e w3 ⟨v4, rfl, hb4, hk4⟩
      have HB4 := Lib.hid (rd_owned hb4)
      have HK4 := Lib.hid hk4
      have HO4 := Lib.hid (owned_kept HO.out hk4 fun _ _ _ => not_no _)
      rw [be4_len] at HB4
      have HSZ := Lib.hid (HK.out.and hk4).size
      clear hb4 hk4
      go_wp2_with (at_builtin; refine wpList_append_rd (xv := v4) rfl rfl rfl rfl ei8 HO4.out HB4.out (bts_one _) (by have := HB0.out; rw [HMB.out] at this; omega) HSZ.out ?_; intro v5 w5 hown5 hg5 _)
      go_ret
      refine ⟨_, rfl, ?_, (HK.out.and HK4.out).grown hg5 (fun k e h => absurd (HO4.out.lt k e).1 (by omega))⟩
      have hp : penc l = body l ++ be4 s := by unfold penc; rw [HSS.out]
      rw [hp]
      show w5.ownsRow _ _ _ _ (body l ++ be4 s).length _
      rw [List.length_append, HMB.out, be4_len, bts_app]
      exact hown5
end Go.Proofs.YtclgoilfclmibaaGreatDoor
