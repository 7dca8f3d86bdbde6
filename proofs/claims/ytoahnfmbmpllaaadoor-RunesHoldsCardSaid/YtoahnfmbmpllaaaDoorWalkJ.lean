/-
  Runes: rows of runes; the document's widths.
-/
import Derived.Test.YtoahnfmbmpllaaaDoorWalkI
import Derived.Laws.IdiomStrings
import Derived.Laws.Cover4
import Derived.ProofKit
set_option linter.unusedVariables false
set_option linter.unusedSimpArgs false
namespace Go.Proofs.YtoahnfmbmpllaaaDoor
open Go.RowKit Go.Zn
attribute [local go_sem] Oper.semAt_some

def i32s (L : List Nat) : List Value := L.map fun (c : Nat) => Value.int .i32 (c : Nat)
theorem i32s_len (L : List Nat) : (i32s L).length = L.length := by simp [i32s]
theorem i32s_get (L : List Nat) (j : Nat) : (i32s L)[j]? = (L[j]?).map fun (c : Nat) => Value.int .i32 (c : Nat) := by simp [i32s]
theorem i32s_one (L : List Nat) : ∀ u ∈ i32s L, u.oneCell' = true := by
  intro u hu
  simp only [i32s, List.mem_map] at hu
  obtain ⟨c, _, rfl⟩ := hu
  rfl
theorem i32s_app (L M : List Nat) : i32s (L ++ M) = i32s L ++ i32s M := by simp [i32s]
theorem runesFrom_eq (s : ByteArray) : ∀ (bound i : Nat) (acc : Array Value), s.size ≤ i + bound → Conv.runesFrom s bound i acc = acc ++ (i32s (rns (s.data.toList.drop i))).toArray
  | 0, i, acc, h => by
    rw [rns_end s (by omega)]
    simp [Conv.runesFrom, i32s]
  | bound + 1, i, acc, h => by
    unfold Conv.runesFrom
    by_cases hp : i < s.size
    · have := Lib.width_pos s i
      rw [if_pos hp]
      show Conv.runesFrom s bound (i + (Utf8.decode s i).2) (acc.push (.int .i32 (Int.ofNat (Utf8.decode s i).1))) = _
      rw [runesFrom_eq s bound _ _ (by omega), rns_at s hp]
      apply Array.ext'
      simp [i32s]
    · rw [if_neg hp, rns_end s hp]
      simp [i32s]
theorem runes_row (l : List UInt8) (hl : l.length ≤ 1000000) (w : World) : ∃ (cap : Nat) (w' : World), (convert 9 25 (.string (strOf l))).run Tryd.prog w = .ok (.slice (some ⟨w.heap.size, 0, none⟩) (rns l).length cap) w' ∧
    w'.ownsRow w.heap.size 21 1 (.slice (some ⟨w.heap.size, 0, none⟩) (rns l).length cap) (rns l).length (i32s (rns l)) ∧ Kept No w w' := by
  have hr := rns_len l
  have e : Conv.runesFrom (strOf l) (strOf l).size 0 #[] = (i32s (rns l)).toArray := by
    rw [runesFrom_eq (strOf l) _ 0 #[] (by omega), strOf_list]
    simp
  have hsz : (Conv.runesFrom (strOf l) (strOf l).size 0 #[]).size = (rns l).length := by rw [e]; simp [i32s]
  have h := run_runes_of_string (P := Tryd.prog) w 9 25 21 (strOf l) Tryd.underlying9 Tryd.underlying25 Tryd.underlying21 (by rw [hsz]; omega)
  rw [hsz, e] at h
  have hge := grownCap_ge w (rns l).length 0 21
  have hle := grownCap_le_maxLen w (rns l).length 0 21 (by unfold maxLen; omega)
  refine ⟨_, _, h, ?_, (Kept.refl No w).drew.alloc _⟩
  refine ⟨by rw [i32s_len]; omega, .inr ⟨w.heap.size, _, _, rfl, Nat.le_refl _, World.alloc_at rfl _, hge, hle, ?_, ?_⟩⟩
  · simp [i32s]; omega
  · simp [i32s]
theorem rd_take {w : World} {B : Nat → Prop} {b off n cap : Nat} {L : List Nat} (h : Rd w B 1 (.slice (some ⟨b, off, none⟩) n cap) n (i32s L)) {m : Nat} (hm : m ≤ n) : Rd w B 1 (.slice (some ⟨b, off, none⟩) m cap) m (i32s (L.take m)) := by
  obtain ⟨h1, h2, h3⟩ := h
  rw [i32s_len] at h1
  refine ⟨by rw [i32s_len, List.length_take]; omega, by omega, ?_⟩
  rcases h3 with ⟨h3, h4⟩ | ⟨b2, off2, cap2, hv, hc, hB, hx⟩
  · obtain rfl : m = 0 := by omega
    rcases h3 with h3 | ⟨a, h3⟩
    · injection h3 with h3; cases h3
    · injection h3 with e1 e2 e3
      exact .inl ⟨.inr ⟨_, by rw [e3]⟩, rfl⟩
  · injection hv with e1 e2 e3
    injection e1 with e1
    injection e1 with e4 e5
    subst e4 e5 e3
    refine .inr ⟨b, off, cap, rfl, by omega, fun hp => hB ?_, fun j u hj => hx j u ?_⟩
    · rw [i32s_len, List.length_take] at hp
      rw [i32s_len]
      omega
    · rw [i32s_get, List.getElem?_take] at hj
      rw [i32s_get]
      by_cases hjm : j < m
      · rw [if_pos hjm] at hj; exact hj
      · rw [if_neg hjm] at hj; cases hj
/-- the cells of a row of runes -/
theorem rune_cells {w : World} {B : Nat → Prop} {v : Value} {n : Nat} {L : List Nat} (h : Rd w B 1 v n (i32s L)) (h0 : L ≠ []) : ∃ q off cap, v = .slice (some ⟨q, off, none⟩) n cap ∧ ∀ j x, L[j]? = some x → w.cell? ⟨q, off + j, none⟩ = some (.int .i32 (x : Nat)) := by
  obtain ⟨h1, hm, h3⟩ := h
  rw [i32s_len] at h1
  rcases h3 with ⟨_, hn⟩ | ⟨q, off, cap, hv, hc, hb, hx⟩
  · exact (h0 (List.eq_nil_of_length_eq_zero (by omega))).elim
  · exact ⟨q, off, cap, hv, fun j x hj => hx j _ (by rw [i32s_get, hj]; rfl)⟩
theorem rwidth1_any {c : Nat} (hc : c ≤ 1114111) (w : World) : Calls Tryd.prog 17 #[.int .i32 (c : Nat)] w fun e w' => e = .returned (.int .i64 (colR c : Nat)) ∧ w' = w := by
  by_cases h0 : c < 32
  · have HR := Lib.hid (show colR c = 0 from by unfold colR; rw [if_pos (by omega)])
    have t0 : decide (c < 32) = true := decide_eq_true (by omega)
    have u0 : decide ((c : Int) < 32) = true := decide_eq_true (by omega)
    have t1 : decide (127 ≤ c) = false := decide_eq_false (by omega)
    have u1 : decide ((127 : Int) ≤ (c : Int)) = false := decide_eq_false (by omega)
    have t2 : decide (c ≤ 159) = true := decide_eq_true (by omega)
    have u2 : decide ((c : Int) ≤ 159) = true := decide_eq_true (by omega)
    have t3 : decide (4352 ≤ c) = false := decide_eq_false (by omega)
    have u3 : decide ((4352 : Int) ≤ (c : Int)) = false := decide_eq_false (by omega)
    have t4 : decide (c ≤ 4447) = true := decide_eq_true (by omega)
    have u4 : decide ((c : Int) ≤ 4447) = true := decide_eq_true (by omega)
    have t5 : decide (11904 ≤ c) = false := decide_eq_false (by omega)
    have u5 : decide ((11904 : Int) ≤ (c : Int)) = false := decide_eq_false (by omega)
    have t6 : decide (c ≤ 42191) = true := decide_eq_true (by omega)
    have u6 : decide ((c : Int) ≤ 42191) = true := decide_eq_true (by omega)
    have t7 : decide (44032 ≤ c) = false := decide_eq_false (by omega)
    have u7 : decide ((44032 : Int) ≤ (c : Int)) = false := decide_eq_false (by omega)
    have t8 : decide (c ≤ 55203) = true := decide_eq_true (by omega)
    have u8 : decide ((c : Int) ≤ 55203) = true := decide_eq_true (by omega)
    have t9 : decide (65280 ≤ c) = false := decide_eq_false (by omega)
    have u9 : decide ((65280 : Int) ≤ (c : Int)) = false := decide_eq_false (by omega)
    have t10 : decide (c ≤ 65376) = true := decide_eq_true (by omega)
    have u10 : decide ((c : Int) ≤ 65376) = true := decide_eq_true (by omega)
    clear hc h0
    go_enter Tryd.func17, Tryd.ntmps17
    go_wp2_with fail
    go_ret
    exact ⟨by rw [HR.out]; rfl, rfl⟩
  by_cases h1 : c < 127
  · have HR := Lib.hid (show colR c = 1 from by
      have : inL c wideL = false := by
        simp [inL, wideL]
        omega
      unfold colR
      rw [if_neg (by omega), this]
      rfl)
    have t0 : decide (c < 32) = false := decide_eq_false (by omega)
    have u0 : decide ((c : Int) < 32) = false := decide_eq_false (by omega)
    have t1 : decide (127 ≤ c) = false := decide_eq_false (by omega)
    have u1 : decide ((127 : Int) ≤ (c : Int)) = false := decide_eq_false (by omega)
    have t2 : decide (c ≤ 159) = true := decide_eq_true (by omega)
    have u2 : decide ((c : Int) ≤ 159) = true := decide_eq_true (by omega)
    have t3 : decide (4352 ≤ c) = false := decide_eq_false (by omega)
    have u3 : decide ((4352 : Int) ≤ (c : Int)) = false := decide_eq_false (by omega)
    have t4 : decide (c ≤ 4447) = true := decide_eq_true (by omega)
    have u4 : decide ((c : Int) ≤ 4447) = true := decide_eq_true (by omega)
    have t5 : decide (11904 ≤ c) = false := decide_eq_false (by omega)
    have u5 : decide ((11904 : Int) ≤ (c : Int)) = false := decide_eq_false (by omega)
    have t6 : decide (c ≤ 42191) = true := decide_eq_true (by omega)
    have u6 : decide ((c : Int) ≤ 42191) = true := decide_eq_true (by omega)
    have t7 : decide (44032 ≤ c) = false := decide_eq_false (by omega)
    have u7 : decide ((44032 : Int) ≤ (c : Int)) = false := decide_eq_false (by omega)
    have t8 : decide (c ≤ 55203) = true := decide_eq_true (by omega)
    have u8 : decide ((c : Int) ≤ 55203) = true := decide_eq_true (by omega)
    have t9 : decide (65280 ≤ c) = false := decide_eq_false (by omega)
    have u9 : decide ((65280 : Int) ≤ (c : Int)) = false := decide_eq_false (by omega)
    have t10 : decide (c ≤ 65376) = true := decide_eq_true (by omega)
    have u10 : decide ((c : Int) ≤ 65376) = true := decide_eq_true (by omega)
    clear hc h0 h1
    go_enter Tryd.func17, Tryd.ntmps17
    go_wp2_with fail
    go_ret
    exact ⟨by rw [HR.out]; rfl, rfl⟩
  by_cases h2 : c < 160
  · have HR := Lib.hid (show colR c = 0 from by unfold colR; rw [if_pos (by omega)])
    have t0 : decide (c < 32) = false := decide_eq_false (by omega)
    have u0 : decide ((c : Int) < 32) = false := decide_eq_false (by omega)
    have t1 : decide (127 ≤ c) = true := decide_eq_true (by omega)
    have u1 : decide ((127 : Int) ≤ (c : Int)) = true := decide_eq_true (by omega)
    have t2 : decide (c ≤ 159) = true := decide_eq_true (by omega)
    have u2 : decide ((c : Int) ≤ 159) = true := decide_eq_true (by omega)
    have t3 : decide (4352 ≤ c) = false := decide_eq_false (by omega)
    have u3 : decide ((4352 : Int) ≤ (c : Int)) = false := decide_eq_false (by omega)
    have t4 : decide (c ≤ 4447) = true := decide_eq_true (by omega)
    have u4 : decide ((c : Int) ≤ 4447) = true := decide_eq_true (by omega)
    have t5 : decide (11904 ≤ c) = false := decide_eq_false (by omega)
    have u5 : decide ((11904 : Int) ≤ (c : Int)) = false := decide_eq_false (by omega)
    have t6 : decide (c ≤ 42191) = true := decide_eq_true (by omega)
    have u6 : decide ((c : Int) ≤ 42191) = true := decide_eq_true (by omega)
    have t7 : decide (44032 ≤ c) = false := decide_eq_false (by omega)
    have u7 : decide ((44032 : Int) ≤ (c : Int)) = false := decide_eq_false (by omega)
    have t8 : decide (c ≤ 55203) = true := decide_eq_true (by omega)
    have u8 : decide ((c : Int) ≤ 55203) = true := decide_eq_true (by omega)
    have t9 : decide (65280 ≤ c) = false := decide_eq_false (by omega)
    have u9 : decide ((65280 : Int) ≤ (c : Int)) = false := decide_eq_false (by omega)
    have t10 : decide (c ≤ 65376) = true := decide_eq_true (by omega)
    have u10 : decide ((c : Int) ≤ 65376) = true := decide_eq_true (by omega)
    clear hc h0 h1 h2
    go_enter Tryd.func17, Tryd.ntmps17
    go_wp2_with fail
    go_ret
    exact ⟨by rw [HR.out]; rfl, rfl⟩
  by_cases h3 : c < 4352
  · have HR := Lib.hid (show colR c = 1 from by
      have : inL c wideL = false := by
        simp [inL, wideL]
        omega
      unfold colR
      rw [if_neg (by omega), this]
      rfl)
    have t0 : decide (c < 32) = false := decide_eq_false (by omega)
    have u0 : decide ((c : Int) < 32) = false := decide_eq_false (by omega)
    have t1 : decide (127 ≤ c) = true := decide_eq_true (by omega)
    have u1 : decide ((127 : Int) ≤ (c : Int)) = true := decide_eq_true (by omega)
    have t2 : decide (c ≤ 159) = false := decide_eq_false (by omega)
    have u2 : decide ((c : Int) ≤ 159) = false := decide_eq_false (by omega)
    have t3 : decide (4352 ≤ c) = false := decide_eq_false (by omega)
    have u3 : decide ((4352 : Int) ≤ (c : Int)) = false := decide_eq_false (by omega)
    have t4 : decide (c ≤ 4447) = true := decide_eq_true (by omega)
    have u4 : decide ((c : Int) ≤ 4447) = true := decide_eq_true (by omega)
    have t5 : decide (11904 ≤ c) = false := decide_eq_false (by omega)
    have u5 : decide ((11904 : Int) ≤ (c : Int)) = false := decide_eq_false (by omega)
    have t6 : decide (c ≤ 42191) = true := decide_eq_true (by omega)
    have u6 : decide ((c : Int) ≤ 42191) = true := decide_eq_true (by omega)
    have t7 : decide (44032 ≤ c) = false := decide_eq_false (by omega)
    have u7 : decide ((44032 : Int) ≤ (c : Int)) = false := decide_eq_false (by omega)
    have t8 : decide (c ≤ 55203) = true := decide_eq_true (by omega)
    have u8 : decide ((c : Int) ≤ 55203) = true := decide_eq_true (by omega)
    have t9 : decide (65280 ≤ c) = false := decide_eq_false (by omega)
    have u9 : decide ((65280 : Int) ≤ (c : Int)) = false := decide_eq_false (by omega)
    have t10 : decide (c ≤ 65376) = true := decide_eq_true (by omega)
    have u10 : decide ((c : Int) ≤ 65376) = true := decide_eq_true (by omega)
    clear hc h0 h1 h2 h3
    go_enter Tryd.func17, Tryd.ntmps17
    go_wp2_with fail
    go_ret
    exact ⟨by rw [HR.out]; rfl, rfl⟩
  by_cases h4 : c < 4448
  · have HR := Lib.hid (show colR c = 2 from by
      have : inL c wideL = true := by
        simp [inL, wideL]
        omega
      unfold colR
      rw [if_neg (by omega), if_pos this])
    have t0 : decide (c < 32) = false := decide_eq_false (by omega)
    have u0 : decide ((c : Int) < 32) = false := decide_eq_false (by omega)
    have t1 : decide (127 ≤ c) = true := decide_eq_true (by omega)
    have u1 : decide ((127 : Int) ≤ (c : Int)) = true := decide_eq_true (by omega)
    have t2 : decide (c ≤ 159) = false := decide_eq_false (by omega)
    have u2 : decide ((c : Int) ≤ 159) = false := decide_eq_false (by omega)
    have t3 : decide (4352 ≤ c) = true := decide_eq_true (by omega)
    have u3 : decide ((4352 : Int) ≤ (c : Int)) = true := decide_eq_true (by omega)
    have t4 : decide (c ≤ 4447) = true := decide_eq_true (by omega)
    have u4 : decide ((c : Int) ≤ 4447) = true := decide_eq_true (by omega)
    have t5 : decide (11904 ≤ c) = false := decide_eq_false (by omega)
    have u5 : decide ((11904 : Int) ≤ (c : Int)) = false := decide_eq_false (by omega)
    have t6 : decide (c ≤ 42191) = true := decide_eq_true (by omega)
    have u6 : decide ((c : Int) ≤ 42191) = true := decide_eq_true (by omega)
    have t7 : decide (44032 ≤ c) = false := decide_eq_false (by omega)
    have u7 : decide ((44032 : Int) ≤ (c : Int)) = false := decide_eq_false (by omega)
    have t8 : decide (c ≤ 55203) = true := decide_eq_true (by omega)
    have u8 : decide ((c : Int) ≤ 55203) = true := decide_eq_true (by omega)
    have t9 : decide (65280 ≤ c) = false := decide_eq_false (by omega)
    have u9 : decide ((65280 : Int) ≤ (c : Int)) = false := decide_eq_false (by omega)
    have t10 : decide (c ≤ 65376) = true := decide_eq_true (by omega)
    have u10 : decide ((c : Int) ≤ 65376) = true := decide_eq_true (by omega)
    clear hc h0 h1 h2 h3 h4
    go_enter Tryd.func17, Tryd.ntmps17
    go_wp2_with fail
    go_ret
    exact ⟨by rw [HR.out]; rfl, rfl⟩
  by_cases h5 : c < 11904
  · have HR := Lib.hid (show colR c = 1 from by
      have : inL c wideL = false := by
        simp [inL, wideL]
        omega
      unfold colR
      rw [if_neg (by omega), this]
      rfl)
    have t0 : decide (c < 32) = false := decide_eq_false (by omega)
    have u0 : decide ((c : Int) < 32) = false := decide_eq_false (by omega)
    have t1 : decide (127 ≤ c) = true := decide_eq_true (by omega)
    have u1 : decide ((127 : Int) ≤ (c : Int)) = true := decide_eq_true (by omega)
    have t2 : decide (c ≤ 159) = false := decide_eq_false (by omega)
    have u2 : decide ((c : Int) ≤ 159) = false := decide_eq_false (by omega)
    have t3 : decide (4352 ≤ c) = true := decide_eq_true (by omega)
    have u3 : decide ((4352 : Int) ≤ (c : Int)) = true := decide_eq_true (by omega)
    have t4 : decide (c ≤ 4447) = false := decide_eq_false (by omega)
    have u4 : decide ((c : Int) ≤ 4447) = false := decide_eq_false (by omega)
    have t5 : decide (11904 ≤ c) = false := decide_eq_false (by omega)
    have u5 : decide ((11904 : Int) ≤ (c : Int)) = false := decide_eq_false (by omega)
    have t6 : decide (c ≤ 42191) = true := decide_eq_true (by omega)
    have u6 : decide ((c : Int) ≤ 42191) = true := decide_eq_true (by omega)
    have t7 : decide (44032 ≤ c) = false := decide_eq_false (by omega)
    have u7 : decide ((44032 : Int) ≤ (c : Int)) = false := decide_eq_false (by omega)
    have t8 : decide (c ≤ 55203) = true := decide_eq_true (by omega)
    have u8 : decide ((c : Int) ≤ 55203) = true := decide_eq_true (by omega)
    have t9 : decide (65280 ≤ c) = false := decide_eq_false (by omega)
    have u9 : decide ((65280 : Int) ≤ (c : Int)) = false := decide_eq_false (by omega)
    have t10 : decide (c ≤ 65376) = true := decide_eq_true (by omega)
    have u10 : decide ((c : Int) ≤ 65376) = true := decide_eq_true (by omega)
    clear hc h0 h1 h2 h3 h4 h5
    go_enter Tryd.func17, Tryd.ntmps17
    go_wp2_with fail
    go_ret
    exact ⟨by rw [HR.out]; rfl, rfl⟩
  by_cases h6 : c < 42192
  · have HR := Lib.hid (show colR c = 2 from by
      have : inL c wideL = true := by
        simp [inL, wideL]
        omega
      unfold colR
      rw [if_neg (by omega), if_pos this])
    have t0 : decide (c < 32) = false := decide_eq_false (by omega)
    have u0 : decide ((c : Int) < 32) = false := decide_eq_false (by omega)
    have t1 : decide (127 ≤ c) = true := decide_eq_true (by omega)
    have u1 : decide ((127 : Int) ≤ (c : Int)) = true := decide_eq_true (by omega)
    have t2 : decide (c ≤ 159) = false := decide_eq_false (by omega)
    have u2 : decide ((c : Int) ≤ 159) = false := decide_eq_false (by omega)
    have t3 : decide (4352 ≤ c) = true := decide_eq_true (by omega)
    have u3 : decide ((4352 : Int) ≤ (c : Int)) = true := decide_eq_true (by omega)
    have t4 : decide (c ≤ 4447) = false := decide_eq_false (by omega)
    have u4 : decide ((c : Int) ≤ 4447) = false := decide_eq_false (by omega)
    have t5 : decide (11904 ≤ c) = true := decide_eq_true (by omega)
    have u5 : decide ((11904 : Int) ≤ (c : Int)) = true := decide_eq_true (by omega)
    have t6 : decide (c ≤ 42191) = true := decide_eq_true (by omega)
    have u6 : decide ((c : Int) ≤ 42191) = true := decide_eq_true (by omega)
    have t7 : decide (44032 ≤ c) = false := decide_eq_false (by omega)
    have u7 : decide ((44032 : Int) ≤ (c : Int)) = false := decide_eq_false (by omega)
    have t8 : decide (c ≤ 55203) = true := decide_eq_true (by omega)
    have u8 : decide ((c : Int) ≤ 55203) = true := decide_eq_true (by omega)
    have t9 : decide (65280 ≤ c) = false := decide_eq_false (by omega)
    have u9 : decide ((65280 : Int) ≤ (c : Int)) = false := decide_eq_false (by omega)
    have t10 : decide (c ≤ 65376) = true := decide_eq_true (by omega)
    have u10 : decide ((c : Int) ≤ 65376) = true := decide_eq_true (by omega)
    clear hc h0 h1 h2 h3 h4 h5 h6
    go_enter Tryd.func17, Tryd.ntmps17
    go_wp2_with fail
    go_ret
    exact ⟨by rw [HR.out]; rfl, rfl⟩
  by_cases h7 : c < 44032
  · have HR := Lib.hid (show colR c = 1 from by
      have : inL c wideL = false := by
        simp [inL, wideL]
        omega
      unfold colR
      rw [if_neg (by omega), this]
      rfl)
    have t0 : decide (c < 32) = false := decide_eq_false (by omega)
    have u0 : decide ((c : Int) < 32) = false := decide_eq_false (by omega)
    have t1 : decide (127 ≤ c) = true := decide_eq_true (by omega)
    have u1 : decide ((127 : Int) ≤ (c : Int)) = true := decide_eq_true (by omega)
    have t2 : decide (c ≤ 159) = false := decide_eq_false (by omega)
    have u2 : decide ((c : Int) ≤ 159) = false := decide_eq_false (by omega)
    have t3 : decide (4352 ≤ c) = true := decide_eq_true (by omega)
    have u3 : decide ((4352 : Int) ≤ (c : Int)) = true := decide_eq_true (by omega)
    have t4 : decide (c ≤ 4447) = false := decide_eq_false (by omega)
    have u4 : decide ((c : Int) ≤ 4447) = false := decide_eq_false (by omega)
    have t5 : decide (11904 ≤ c) = true := decide_eq_true (by omega)
    have u5 : decide ((11904 : Int) ≤ (c : Int)) = true := decide_eq_true (by omega)
    have t6 : decide (c ≤ 42191) = false := decide_eq_false (by omega)
    have u6 : decide ((c : Int) ≤ 42191) = false := decide_eq_false (by omega)
    have t7 : decide (44032 ≤ c) = false := decide_eq_false (by omega)
    have u7 : decide ((44032 : Int) ≤ (c : Int)) = false := decide_eq_false (by omega)
    have t8 : decide (c ≤ 55203) = true := decide_eq_true (by omega)
    have u8 : decide ((c : Int) ≤ 55203) = true := decide_eq_true (by omega)
    have t9 : decide (65280 ≤ c) = false := decide_eq_false (by omega)
    have u9 : decide ((65280 : Int) ≤ (c : Int)) = false := decide_eq_false (by omega)
    have t10 : decide (c ≤ 65376) = true := decide_eq_true (by omega)
    have u10 : decide ((c : Int) ≤ 65376) = true := decide_eq_true (by omega)
    clear hc h0 h1 h2 h3 h4 h5 h6 h7
    go_enter Tryd.func17, Tryd.ntmps17
    go_wp2_with fail
    go_ret
    exact ⟨by rw [HR.out]; rfl, rfl⟩
  by_cases h8 : c < 55204
  · have HR := Lib.hid (show colR c = 2 from by
      have : inL c wideL = true := by
        simp [inL, wideL]
        omega
      unfold colR
      rw [if_neg (by omega), if_pos this])
    have t0 : decide (c < 32) = false := decide_eq_false (by omega)
    have u0 : decide ((c : Int) < 32) = false := decide_eq_false (by omega)
    have t1 : decide (127 ≤ c) = true := decide_eq_true (by omega)
    have u1 : decide ((127 : Int) ≤ (c : Int)) = true := decide_eq_true (by omega)
    have t2 : decide (c ≤ 159) = false := decide_eq_false (by omega)
    have u2 : decide ((c : Int) ≤ 159) = false := decide_eq_false (by omega)
    have t3 : decide (4352 ≤ c) = true := decide_eq_true (by omega)
    have u3 : decide ((4352 : Int) ≤ (c : Int)) = true := decide_eq_true (by omega)
    have t4 : decide (c ≤ 4447) = false := decide_eq_false (by omega)
    have u4 : decide ((c : Int) ≤ 4447) = false := decide_eq_false (by omega)
    have t5 : decide (11904 ≤ c) = true := decide_eq_true (by omega)
    have u5 : decide ((11904 : Int) ≤ (c : Int)) = true := decide_eq_true (by omega)
    have t6 : decide (c ≤ 42191) = false := decide_eq_false (by omega)
    have u6 : decide ((c : Int) ≤ 42191) = false := decide_eq_false (by omega)
    have t7 : decide (44032 ≤ c) = true := decide_eq_true (by omega)
    have u7 : decide ((44032 : Int) ≤ (c : Int)) = true := decide_eq_true (by omega)
    have t8 : decide (c ≤ 55203) = true := decide_eq_true (by omega)
    have u8 : decide ((c : Int) ≤ 55203) = true := decide_eq_true (by omega)
    have t9 : decide (65280 ≤ c) = false := decide_eq_false (by omega)
    have u9 : decide ((65280 : Int) ≤ (c : Int)) = false := decide_eq_false (by omega)
    have t10 : decide (c ≤ 65376) = true := decide_eq_true (by omega)
    have u10 : decide ((c : Int) ≤ 65376) = true := decide_eq_true (by omega)
    clear hc h0 h1 h2 h3 h4 h5 h6 h7 h8
    go_enter Tryd.func17, Tryd.ntmps17
    go_wp2_with fail
    go_ret
    exact ⟨by rw [HR.out]; rfl, rfl⟩
  by_cases h9 : c < 65280
  · have HR := Lib.hid (show colR c = 1 from by
      have : inL c wideL = false := by
        simp [inL, wideL]
        omega
      unfold colR
      rw [if_neg (by omega), this]
      rfl)
    have t0 : decide (c < 32) = false := decide_eq_false (by omega)
    have u0 : decide ((c : Int) < 32) = false := decide_eq_false (by omega)
    have t1 : decide (127 ≤ c) = true := decide_eq_true (by omega)
    have u1 : decide ((127 : Int) ≤ (c : Int)) = true := decide_eq_true (by omega)
    have t2 : decide (c ≤ 159) = false := decide_eq_false (by omega)
    have u2 : decide ((c : Int) ≤ 159) = false := decide_eq_false (by omega)
    have t3 : decide (4352 ≤ c) = true := decide_eq_true (by omega)
    have u3 : decide ((4352 : Int) ≤ (c : Int)) = true := decide_eq_true (by omega)
    have t4 : decide (c ≤ 4447) = false := decide_eq_false (by omega)
    have u4 : decide ((c : Int) ≤ 4447) = false := decide_eq_false (by omega)
    have t5 : decide (11904 ≤ c) = true := decide_eq_true (by omega)
    have u5 : decide ((11904 : Int) ≤ (c : Int)) = true := decide_eq_true (by omega)
    have t6 : decide (c ≤ 42191) = false := decide_eq_false (by omega)
    have u6 : decide ((c : Int) ≤ 42191) = false := decide_eq_false (by omega)
    have t7 : decide (44032 ≤ c) = true := decide_eq_true (by omega)
    have u7 : decide ((44032 : Int) ≤ (c : Int)) = true := decide_eq_true (by omega)
    have t8 : decide (c ≤ 55203) = false := decide_eq_false (by omega)
    have u8 : decide ((c : Int) ≤ 55203) = false := decide_eq_false (by omega)
    have t9 : decide (65280 ≤ c) = false := decide_eq_false (by omega)
    have u9 : decide ((65280 : Int) ≤ (c : Int)) = false := decide_eq_false (by omega)
    have t10 : decide (c ≤ 65376) = true := decide_eq_true (by omega)
    have u10 : decide ((c : Int) ≤ 65376) = true := decide_eq_true (by omega)
    clear hc h0 h1 h2 h3 h4 h5 h6 h7 h8 h9
    go_enter Tryd.func17, Tryd.ntmps17
    go_wp2_with fail
    go_ret
    exact ⟨by rw [HR.out]; rfl, rfl⟩
  by_cases h10 : c < 65377
  · have HR := Lib.hid (show colR c = 2 from by
      have : inL c wideL = true := by
        simp [inL, wideL]
        omega
      unfold colR
      rw [if_neg (by omega), if_pos this])
    have t0 : decide (c < 32) = false := decide_eq_false (by omega)
    have u0 : decide ((c : Int) < 32) = false := decide_eq_false (by omega)
    have t1 : decide (127 ≤ c) = true := decide_eq_true (by omega)
    have u1 : decide ((127 : Int) ≤ (c : Int)) = true := decide_eq_true (by omega)
    have t2 : decide (c ≤ 159) = false := decide_eq_false (by omega)
    have u2 : decide ((c : Int) ≤ 159) = false := decide_eq_false (by omega)
    have t3 : decide (4352 ≤ c) = true := decide_eq_true (by omega)
    have u3 : decide ((4352 : Int) ≤ (c : Int)) = true := decide_eq_true (by omega)
    have t4 : decide (c ≤ 4447) = false := decide_eq_false (by omega)
    have u4 : decide ((c : Int) ≤ 4447) = false := decide_eq_false (by omega)
    have t5 : decide (11904 ≤ c) = true := decide_eq_true (by omega)
    have u5 : decide ((11904 : Int) ≤ (c : Int)) = true := decide_eq_true (by omega)
    have t6 : decide (c ≤ 42191) = false := decide_eq_false (by omega)
    have u6 : decide ((c : Int) ≤ 42191) = false := decide_eq_false (by omega)
    have t7 : decide (44032 ≤ c) = true := decide_eq_true (by omega)
    have u7 : decide ((44032 : Int) ≤ (c : Int)) = true := decide_eq_true (by omega)
    have t8 : decide (c ≤ 55203) = false := decide_eq_false (by omega)
    have u8 : decide ((c : Int) ≤ 55203) = false := decide_eq_false (by omega)
    have t9 : decide (65280 ≤ c) = true := decide_eq_true (by omega)
    have u9 : decide ((65280 : Int) ≤ (c : Int)) = true := decide_eq_true (by omega)
    have t10 : decide (c ≤ 65376) = true := decide_eq_true (by omega)
    have u10 : decide ((c : Int) ≤ 65376) = true := decide_eq_true (by omega)
    clear hc h0 h1 h2 h3 h4 h5 h6 h7 h8 h9 h10
    go_enter Tryd.func17, Tryd.ntmps17
    go_wp2_with fail
    go_ret
    exact ⟨by rw [HR.out]; rfl, rfl⟩
  have HR := Lib.hid (show colR c = 1 from by
    have : inL c wideL = false := by
      simp [inL, wideL]
      omega
    unfold colR
    rw [if_neg (by omega), this]
    rfl)
  have t0 : decide (c < 32) = false := decide_eq_false (by omega)
  have u0 : decide ((c : Int) < 32) = false := decide_eq_false (by omega)
  have t1 : decide (127 ≤ c) = true := decide_eq_true (by omega)
  have u1 : decide ((127 : Int) ≤ (c : Int)) = true := decide_eq_true (by omega)
  have t2 : decide (c ≤ 159) = false := decide_eq_false (by omega)
  have u2 : decide ((c : Int) ≤ 159) = false := decide_eq_false (by omega)
  have t3 : decide (4352 ≤ c) = true := decide_eq_true (by omega)
  have u3 : decide ((4352 : Int) ≤ (c : Int)) = true := decide_eq_true (by omega)
  have t4 : decide (c ≤ 4447) = false := decide_eq_false (by omega)
  have u4 : decide ((c : Int) ≤ 4447) = false := decide_eq_false (by omega)
  have t5 : decide (11904 ≤ c) = true := decide_eq_true (by omega)
  have u5 : decide ((11904 : Int) ≤ (c : Int)) = true := decide_eq_true (by omega)
  have t6 : decide (c ≤ 42191) = false := decide_eq_false (by omega)
  have u6 : decide ((c : Int) ≤ 42191) = false := decide_eq_false (by omega)
  have t7 : decide (44032 ≤ c) = true := decide_eq_true (by omega)
  have u7 : decide ((44032 : Int) ≤ (c : Int)) = true := decide_eq_true (by omega)
  have t8 : decide (c ≤ 55203) = false := decide_eq_false (by omega)
  have u8 : decide ((c : Int) ≤ 55203) = false := decide_eq_false (by omega)
  have t9 : decide (65280 ≤ c) = true := decide_eq_true (by omega)
  have u9 : decide ((65280 : Int) ≤ (c : Int)) = true := decide_eq_true (by omega)
  have t10 : decide (c ≤ 65376) = false := decide_eq_false (by omega)
  have u10 : decide ((c : Int) ≤ 65376) = false := decide_eq_false (by omega)
  clear hc h0 h1 h2 h3 h4 h5 h6 h7 h8 h9 h10
  go_enter Tryd.func17, Tryd.ntmps17
  go_wp2_with fail
  go_ret
  exact ⟨by rw [HR.out]; rfl, rfl⟩
def RwRel (L : List Nat) (w0 : World) (nv iv : Value) (wr : World) : Prop := ∃ i : Nat, nv = .int .i64 (colsL (L.take i) : Nat) ∧ iv = .int .i64 (i : Nat) ∧ i ≤ L.length ∧ wr = w0
theorem rwidth_any {L : List Nat} (hL : L.length ≤ 100000) (hs : ∀ c ∈ L, c ≤ 1114111) {w : World} {B : Nat → Prop} {v : Value} {n : Nat} (hr : Rd w B 1 v n (i32s L)) : Calls Tryd.prog 7 #[v] w fun e w' => e = .returned (.int .i64 (colsL L : Nat)) ∧ w' = w := by
  have hn : L.length = n := by have := hr.1; rw [i32s_len] at this; omega
  have HC := Lib.hid (fun (c : Nat) (h : c ≤ 1114111) w => rwidth1_any h w)
  have HN := Lib.hid hn
  by_cases h0 : L = []
  · subst h0
    obtain ⟨ad, cap, rfl⟩ := rd_slice hr
    obtain rfl : n = 0 := hn.symm
    clear hr hL hs hn
    go_enter Tryd.func7, Tryd.ntmps7
    go_wp2_with fail
    go_loopw [3, 4] (fun nv iv wr => RwRel [] w nv iv wr) (fun _ iv _ => 0)
    case atStart => exact ⟨0, rfl, rfl, Nat.le_refl _, rfl⟩
    case round =>
      obtain ⟨i, rfl, rfl, hi, rfl⟩ := hrel
      obtain rfl : i = 0 := by simpa using hi
      go_wp2_with fail
      go_ret
      exact ⟨rfl, rfl⟩
  obtain ⟨q, off, cap, rfl, hcell⟩ := rune_cells hr h0
  have HCE := Lib.hid hcell
  have HS := Lib.hid hs
  rw [hn] at hL
  clear hr hs hn hcell h0
  go_enter Tryd.func7, Tryd.ntmps7
  go_wp2_with fail
  go_loopw [3, 4] (fun nv iv wr => RwRel L w nv iv wr) (fun _ iv _ => n - (intOf iv).toNat)
  case atStart => exact ⟨0, rfl, rfl, Nat.zero_le _, rfl⟩
  case round =>
    obtain ⟨i, rfl, rfl, hi, rfl⟩ := hrel
    rw [HN.out] at hi
    by_cases hlt : i < n
    · obtain ⟨c, hc⟩ : ∃ c, L[i]? = some c := ⟨_, List.getElem?_eq_getElem (by rw [HN.out]; exact hlt)⟩
      have c9 := HCE.out i c hc
      have d1 : decide (i < n) = true := decide_eq_true hlt
      have d1' : decide ((i : Int) < (n : Int)) = true := decide_eq_true (by omega)
      have q4 : IntKind.i64.wrap ((i : Int) + 1) = (i : Int) + 1 := IntWalk.i64_in _ (by omega)
      have hi0 : (0 : Int) ≤ (i : Int) := by omega
      have hin : (i : Int) < (n : Int) := by omega
      have HT := Lib.hid (show colsL (L.take i) + colR c = colsL (L.take (i + 1)) by rw [List.take_add_one, hc, colsL_app]; rfl)
      have hsm : colsL (L.take i) ≤ 200000 := by have := colsL_le (L.take i); have := List.length_take_le i L; omega
      have hcl := colR_le c
      have HCC := Lib.hid (HC.out c (HS.out c (List.mem_of_getElem? hc)) wr)
      obtain ⟨s, hss⟩ : ∃ s, colsL (L.take i) = s := ⟨_, rfl⟩
      obtain ⟨m, hm⟩ : ∃ m, colR c = m := ⟨_, rfl⟩
      rw [hss] at HT hsm ⊢
      rw [hm] at HT HCC hcl
      have q5 : IntKind.i64.wrap ((s : Int) + (m : Int)) = (s : Int) + (m : Int) := IntWalk.i64_in _ (by omega)
      have HR := Lib.hid (show RwRel L wr (.int .i64 ((s : Int) + (m : Int))) (.int .i64 ((i : Int) + 1)) wr from ⟨i + 1, by rw [← HT.out]; go_num, by go_num, by rw [HN.out]; omega, rfl⟩)
      have HI := Lib.hid hlt
      clear hc hlt hi hss hm HCE HS HN HC HT
      go_wp2_with fail
      refine HCC.out.mono ?_
      rintro e w1 ⟨rfl, hk⟩
      have hk := hk.symm
      subst hk
      go_wp2_with fail
      have hI := HI.out
      exact ⟨HR.out, by simp [intOf]; omega⟩
    · have d1 : decide (i < n) = false := decide_eq_false hlt
      have d1' : decide ((i : Int) < (n : Int)) = false := decide_eq_false (by omega)
      have HR := Lib.hid (show colsL (L.take i) = colsL L by rw [List.take_of_length_le (by rw [HN.out]; omega)])
      clear hlt hi
      go_wp2_with fail
      go_ret
      exact ⟨by rw [← HR.out]; rfl, rfl⟩
end Go.Proofs.YtoahnfmbmpllaaaDoor
