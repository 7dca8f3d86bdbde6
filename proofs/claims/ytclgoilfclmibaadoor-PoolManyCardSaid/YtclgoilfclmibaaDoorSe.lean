/-
  Pool: the cards of the greatest pool.
-/
import Derived.Test.YtclgoilfclmibaaDoorSd
import Derived.Test.YtclgoilfclmibaaDoorRc
set_option linter.unusedVariables false
set_option linter.unusedSimpArgs false
namespace Go.Proofs.YtclgoilfclmibaaDoor
open Go Go.RowKit Go.Zn
attribute [local go_sem] Oper.semAt_some

def nameM (i : Nat) : List UInt8 := [bt (97 + (i : Int) / 26), bt (97 + (i : Int) % 26)]
def cardM (r : Int) (i : Nat) : Crd := ⟨nameM i, 1, 0, 0, 0, 0, 0, (i : Int) % 4, 0, 0, 0, [], [], r⟩
def manyM (r : Int) (n : Nat) : List Crd := (List.range n).map (cardM r)
theorem many_len (r : Int) (n : Nat) : (manyM r n).length = n := by simp [manyM]
theorem many_mem {r : Int} {n : Nat} {c : Crd} (h : c ∈ manyM r n) : ∃ i, i < n ∧ c = cardM r i := by
  obtain ⟨i, hi, rfl⟩ := List.mem_map.1 h
  exact ⟨i, List.mem_range.1 hi, rfl⟩
theorem named_two : ∀ a, a < 16 → ∀ b, b < 26 → namedB [UInt8.ofNat (97 + a), UInt8.ofNat (97 + b)] = true := by decide +kernel
theorem bt_small {n : Nat} (h : n < 256) : bt (n : Nat) = UInt8.ofNat n := by
  unfold bt
  congr 1
  omega
theorem name_M (i : Nat) : nameM i = [bt ((97 + i / 26 : Nat) : Int), bt ((97 + i % 26 : Nat) : Int)] := by
  unfold nameM
  congr 2
theorem cardM_valid {r : Int} (h1 : 1 ≤ r) (h4 : r ≤ 4) {i : Nat} (hi : i < 403) : cvalid (cardM r i) = true := by
  have hn : namedB (nameM i) = true := by
    rw [name_M, bt_small (by omega), bt_small (by omega)]
    exact named_two (i / 26) (by omega) (i % 26) (by omega)
  have hm : inB ((i : Int) % 4) 0 3 = true := by
    unfold inB
    rw [decide_eq_true (by omega), decide_eq_true (by omega)]
    rfl
  have hr : inB r 1 4 = true := by
    unfold inB
    rw [decide_eq_true h1, decide_eq_true h4]
    rfl
  unfold cvalid
  simp only [cardM, hn, hr, hm]
  rfl
theorem nameM_inj {i j : Nat} (hi : i < 403) (hj : j < 403) (h : nameM i = nameM j) : i = j := by
  rw [name_M, name_M] at h
  injection h with h1 h2
  injection h2 with h2
  have e1 := congrArg UInt8.toNat h1
  have e2 := congrArg UInt8.toNat h2
  rw [btN, btN] at e1 e2
  omega
theorem many_nodup (r : Int) {n : Nat} (hn : n ≤ 403) : (names (manyM r n)).Nodup := by
  unfold names manyM List.Nodup
  rw [List.map_map, List.pairwise_map]
  refine List.Pairwise.imp_of_mem ?_ (List.pairwise_lt_range (n := n))
  intro a b ha hb hlt h
  have := nameM_inj (by have := List.mem_range.1 ha; omega) (by have := List.mem_range.1 hb; omega) h
  omega
theorem many_valid {r : Int} (h1 : 1 ≤ r) (h4 : r ≤ 4) {n : Nat} (hn : n ≤ 403) : ∀ c ∈ manyM r n, cvalid c = true := fun c hc => by
  obtain ⟨i, hi, rfl⟩ := many_mem hc
  exact cardM_valid h1 h4 (by omega)
theorem many_wrong {r : Int} (h1 : 1 ≤ r) (h4 : r ≤ 4) {n : Nat} (hn : n ≤ 400) : wrongF (manyM r n) = 0 := wrong_0 (by rw [many_len]; omega) (many_valid h1 h4 (by omega)) (many_nodup r (by omega))
theorem many_long (r : Int) {n : Nat} (hn : 400 < n) : wrongF (manyM r n) = 5 := wrong_5 (by rw [many_len]; exact hn)
theorem many_sm {r : Int} (h1 : 1 ≤ r) (h4 : r ≤ 4) {n : Nat} (hn : n ≤ 403) : ∀ c ∈ manyM r n, Sm c := fun c hc => sm_of_valid (many_valid h1 h4 hn c hc)
theorem many_sel {r : Int} {n : Nat} : (selF (manyM r n) 0 r).length = n := by
  rw [sel_count]
  have h : ∀ c ∈ manyM r n, fitsF 0 r c = true := fun c hc => by
    obtain ⟨i, _, rfl⟩ := many_mem hc
    unfold fitsF cardM
    simp
  rw [List.countP_eq_length.2 h, many_len]
theorem many_none {r : Int} (h1 : 1 ≤ r) (h4 : r ≤ 4) {n : Nat} : (selF (manyM r n) 0 (5 - r)).length = 0 := by
  rw [sel_count, List.countP_eq_zero]
  intro c hc
  obtain ⟨i, _, rfl⟩ := many_mem hc
  unfold fitsF cardM
  have e1 : (5 - r == 0) = false := by simp; omega
  have e2 : (r == 5 - r) = false := by simp; omega
  simp [e1, e2]
theorem many_enc {l : List Crd} (h : 400 < l.length) (h2 : l.length < 65536) : pdecF (penc l) = (6, []) := by
  have hb := body_len l
  have hp := penc_len l
  have e1 : (penc l).take ((penc l).length - 4) = body l := by
    rw [hp, Nat.add_sub_cancel]; unfold penc; rw [List.take_left]
  have e2 : (penc l).drop ((penc l).length - 4) = be4 (sumF (body l)) := by
    rw [hp, Nat.add_sub_cancel]; unfold penc; rw [List.drop_left]
  have e3 : (body l).take 2 = be2 l.length := by unfold body; rw [List.take_left' (be2_len _)]
  refine pdec_6 (by omega) ?_ ?_
  · rw [e1, e2, get_be4 (sumF_lt _)]
  · rw [e1, e3, get_be2 h2]; exact h
theorem many_snoc (r : Int) (n : Nat) : manyM r (n + 1) = manyM r n ++ [cardM r n] := by simp [manyM, List.range_succ]
/-- the cells of cards that hold no effects and no triggers -/
def bareCs (l : List Crd) : List Value := l.flatMap fun c => crdCs c (.slice none 0 0) (.slice none 0 0)
theorem bare_at (W : World) : ∀ {l : List Crd}, (∀ c ∈ l, c.effs = [] ∧ c.trgs = []) → CrdsC W (fun _ => True) l (bareCs l)
  | [], _ => rfl
  | c :: l, h => ⟨.slice none 0 0, .slice none 0 0, bareCs l, by unfold bareCs; rw [List.flatMap_cons], crd_nil W (h c (by simp)).1 (h c (by simp)).2, bare_at W fun x hx => h x (List.mem_cons_of_mem _ hx)⟩
theorem bare_one (l : List Crd) : ∀ u ∈ bareCs l, u.oneCell' = true := by
  intro u hu
  obtain ⟨c, _, hc⟩ := List.mem_flatMap.1 hu
  exact crd_one c rfl rfl u hc
theorem many_bare (r : Int) (n : Nat) : ∀ c ∈ manyM r n, c.effs = [] ∧ c.trgs = [] := fun c hc => by
  obtain ⟨i, _, rfl⟩ := many_mem hc
  exact ⟨rfl, rfl⟩
def ManyS (r : Int) (w : World) (n : Nat) (v : Value) (W : World) : Prop := W.ownsRow w.heap.size 35 14 v n (bareCs (manyM r n)) ∧ Kept No w W
theorem ManyS.at {r : Int} {w W : World} {n : Nat} {v : Value} (h : ManyS r w n v W) : CrdsAt W (fun _ => True) v (manyM r n) := by
  refine ⟨_, ?_, bare_at W (many_bare r n)⟩
  rw [many_len]
  exact (rd_owned h.1).mono fun _ _ _ => trivial
theorem rd_b2 (w : World) {y0 y1 : Int} {b0 b1 : UInt8} (h0 : y0 = (b0.toNat : Int)) (h1 : y1 = (b1.toNat : Int)) {k : Nat} (hk : k = w.heap.size) : Rd (w.alloc (.cells #[.int .u8 y0, .int .u8 y1] 5)) (fun i => i = k) 1 (.slice (some ⟨k, 0, none⟩) 2 2) 2 (bts [b0, b1]) := by
  subst h0 h1 hk
  exact ⟨rfl, by simp [maxLen], .inr ⟨_, 0, 2, rfl, Nat.le_refl _, fun _ => rfl, fun j u hj => by
    rw [Nat.zero_add, obj_cell (heap_alloc_new w _)]
    match j, hj with
    | 0, hj => exact hj
    | 1, hj => exact hj⟩⟩
end Go.Proofs.YtclgoilfclmibaaDoor
