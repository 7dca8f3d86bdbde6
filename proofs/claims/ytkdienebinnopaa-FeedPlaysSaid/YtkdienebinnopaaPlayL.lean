/-
  Plain laws: what the reference keeps is what the feed keeps.
-/
import Derived.Test.YtkdienebinnopaaCopyA
import Derived.Test.YtkdienebinnopaaWalkJ
import Derived.Test.YtkdienebinnopaaActs
namespace Go.Proofs.Ytkdienebinnopaa
open Go.RowKit Go.Zn

theorem fromN_map (x y c : Nat) (dat : Nat → List UInt8) : fromN y ((List.range' x c).map fun m => (m, dat m)) = (List.range' (max x y) (x + c - max x y)).map fun m => (m, dat m) := by
  induction c generalizing x with
  | zero =>
    have : x + 0 - max x y = 0 := by omega
    rw [this]
    simp [fromN]
  | succ c ih =>
    rw [List.range'_succ, List.map_cons]
    by_cases h : y ≤ x
    · have e1 : max x y = x := by omega
      have e2 : x + (c + 1) - x = c + 1 := by omega
      have e3 : max (x + 1) y = x + 1 := by omega
      have e4 : x + 1 + c - (x + 1) = c := by omega
      have ih1 := ih (x + 1)
      rw [e3, e4] at ih1
      rw [e1, e2, List.range'_succ, List.map_cons, ← ih1]
      simp [fromN, h]
    · have e1 : max x y = max (x + 1) y := by omega
      have e2 : x + (c + 1) - max (x + 1) y = x + 1 + c - max (x + 1) y := by omega
      rw [e1, e2, ← ih (x + 1)]
      simp [fromN, h]
theorem since_from (s : FS) (x : Nat) (h : s.f ≤ s.n) : fromN x (s.from 0) = s.from x := by
  unfold FS.from
  rw [fromN_map]
  have e1 : max (max 0 s.f) x = max x s.f := by omega
  have e2 : max 0 s.f + (s.n - max 0 s.f) - max x s.f = s.n - max x s.f := by omega
  rw [e1, e2]
theorem ack_from (s : FS) (x : Nat) (h : s.f ≤ s.n) (ha : s.a < s.f) : fromN (max s.a x + 1) (s.from 0) = (s.ack x).from 0 := by
  rw [since_from s _ h]
  have e1 : max (max s.a x + 1) s.f = max 0 (max s.f (x + 1)) := by omega
  simp only [FS.from, FS.ack, e1]
theorem ack_count (s : FS) (x : Nat) (h : s.f ≤ s.n) (ha : s.a < s.f) (hx : x < s.n) : (s.from 0).length - (fromN (max s.a x + 1) (s.from 0)).length = max s.f (x + 1) - s.f := by
  rw [ack_from s x h ha]
  simp only [FS.from, FS.ack, List.length_map, List.length_range']
  omega
theorem add_lost (s : FS) (bs : List UInt8) (h : s.f ≤ s.n) (h2 : s.n ≤ s.f + s.k) : addLost s.k s.l (s.from 0) = (s.add bs).l := by
  have e1 : (s.from 0).length = s.n - s.f := by simp [FS.from]
  simp only [addLost, FS.add, e1]
  by_cases e : s.n = s.f + s.k
  · rw [if_pos (by omega), if_pos e]
  · rw [if_neg (by omega), if_neg e]
theorem map_upd (x c n : Nat) (dat : Nat → List UInt8) (bs : List UInt8) (h : x + c ≤ n) : ((List.range' x c).map fun m => (m, upd dat n bs m)) = (List.range' x c).map fun m => (m, dat m) := by
  apply List.map_congr_left
  intro m hm
  have := (List.mem_range'_1.1 hm).2
  have e : ¬ m = n := by omega
  simp [upd, e]
theorem add_from (s : FS) (bs : List UInt8) (h1 : 1 ≤ s.f) (h : s.f ≤ s.n) (h2 : s.n ≤ s.f + s.k) (hk : 1 ≤ s.k) : addEvs s.k (s.n - 1) (s.from 0) bs = (s.add bs).from 0 := by
  have e1 : (s.from 0).length = s.n - s.f := by simp [FS.from]
  have e2 : s.n - 1 + 1 = s.n := by omega
  have e3 : s.from 0 ++ [(s.n, bs)] = (List.range' s.f (s.n - s.f + 1)).map fun m => (m, upd s.dat s.n bs m) := by
    rw [List.range'_1_concat, List.map_append, map_upd _ _ _ _ _ (by omega)]
    simp only [FS.from, Nat.zero_max, List.map_cons, List.map_nil]
    congr 2
    have : s.f + (s.n - s.f) = s.n := by omega
    rw [this]
    simp [upd]
  simp only [addEvs, e1, e2]
  by_cases e : s.n = s.f + s.k
  · rw [if_pos (by omega), e3, List.range'_succ, List.map_cons, List.tail_cons]
    simp only [FS.from, FS.add, if_pos e, Nat.zero_max]
    have : s.n + 1 - (s.f + 1) = s.n - s.f := by omega
    rw [this]
  · rw [if_neg (by omega), e3]
    simp only [FS.from, FS.add, if_neg e, Nat.zero_max]
    have : s.n + 1 - s.f = s.n - s.f + 1 := by omega
    rw [this]
end Go.Proofs.Ytkdienebinnopaa
