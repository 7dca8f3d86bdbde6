/-
  IdentFills: the walk.
-/
import Derived.Test.YtkdienebinnopaaDoorWalkI
namespace Go.Proofs.YtkdienebinnopaaDoor
open Go.RowKit Go.Zn Go.Shelf
attribute [local go_sem] Oper.semAt_some

theorem Ids.off {S : Nat → Prop} {w w' : World} {b tb most : Nat} {t : Nat → Bool} (h : Ids w b tb most t) (hk : Kept S w w') (hb : ¬ S b) (ht : ¬ S tb) : Ids w' b tb most t := by
  obtain ⟨h1, h2, h3, ⟨c, h4, h5⟩, ⟨cs, h6, h7⟩, h8⟩ := h
  exact ⟨h1, h2, h3, ⟨c, h4, hk.obj h5 hb⟩, ⟨cs, hk.obj h6 ht, h7⟩, h8⟩
theorem St.off {w0 w w' : World} {b tb most mb : Nat} {t : Nat → Bool} (h : St w0 b tb most t w) (hk : Kept (fun i => i = mb) w w') (hb : b ≠ mb) (ht : tb ≠ mb) (hm : w0.heap.size ≤ mb) : St w0 b tb most t w' :=
  ⟨h.ids.off hk hb ht, h.kept.new hk (fun i e => by cases e; exact hm), h.new⟩
theorem cnt_full {t : Nat → Bool} : ∀ {n : Nat}, (∀ k, 1 ≤ k → k ≤ n → t k = true) → cnt t n = n
  | 0, _ => rfl
  | n + 1, h => by
    show cnt t n + (t (n + 1)).toNat = n + 1
    rw [cnt_full (fun k h1 h2 => h k h1 (by omega)), h (n + 1) (by omega) (Nat.le_refl _)]
    rfl
theorem cnt_put_off (t : Nat → Bool) (i : Nat) : ∀ n, i ≤ n → 1 ≤ i → t i = true → cnt (put t i false) n + 1 = cnt t n
  | 0, h, h1, _ => by omega
  | n + 1, h, h1, ht => by
    show cnt (put t i false) n + (put t i false (n + 1)).toNat + 1 = cnt t n + (t (n + 1)).toNat
    by_cases e : i = n + 1
    · have e2 : cnt (put t i false) n = cnt t n := by
        have hgen : ∀ m, m < i → cnt (put t i false) m = cnt t m := by
          intro m
          induction m with
          | zero => intro _; rfl
          | succ m ih =>
            intro hm
            show cnt (put t i false) m + (put t i false (m + 1)).toNat = cnt t m + (t (m + 1)).toNat
            rw [ih (by omega)]
            have : put t i false (m + 1) = t (m + 1) := by unfold put; rw [if_neg (by omega)]
            rw [this]
        exact hgen n (by omega)
      have e3 : put t i false (n + 1) = false := by unfold put; rw [if_pos e.symm]
      rw [e2, e3, ← e, ht]; rfl
    · have := cnt_put_off t i n (by omega) h1 ht
      have e3 : put t i false (n + 1) = t (n + 1) := by unfold put; rw [if_neg (by omega)]
      rw [e3]; omega
/-- a list of ints that came in -/
def Arg (w : World) (v : Value) (L : Nat) (zs : List Int) : Prop :=
  zs.length = L ∧ (∀ z ∈ zs, Wf z) ∧ ((L = 0 ∧ ∃ ad cap, v = .slice ad 0 cap) ∨ ∃ b off cap, v = .slice (some ⟨b, off, none⟩) L cap ∧ ∀ j, j < L → w.cell? ⟨b, off + j, none⟩ = some (.int .i64 (zs.getD j 0)))
theorem Arg.slice {w : World} {v : Value} {L : Nat} {zs : List Int} (h : Arg w v L zs) : ∃ ad cap, v = .slice ad L cap := by
  obtain ⟨_, _, ⟨rfl, ad, cap, rfl⟩ | ⟨b, off, cap, rfl, _⟩⟩ := h
  · exact ⟨_, _, rfl⟩
  · exact ⟨_, _, rfl⟩
theorem Arg.kept {w w' : World} {v : Value} {L : Nat} {zs : List Int} (h : Arg w v L zs) (hk : Kept No w w') : Arg w' v L zs := by
  obtain ⟨h1, h2, h3 | ⟨b, off, cap, rfl, h4⟩⟩ := h
  · exact ⟨h1, h2, .inl h3⟩
  · exact ⟨h1, h2, .inr ⟨b, off, cap, rfl, fun j hj => hk.cell (h4 j hj) (not_no _)⟩⟩
theorem Arg.wf {w : World} {v : Value} {L : Nat} {zs : List Int} (h : Arg w v L zs) {j : Nat} (hj : j < L) : Wf (zs.getD j 0) := by
  have hl : j < zs.length := by rw [h.1]; exact hj
  rw [List.getD_eq_getElem?_getD, List.getElem?_eq_getElem hl]
  exact h.2.1 _ (List.getElem_mem hl)

def tkn (j : Nat) : Nat → Bool := fun m => decide (1 ≤ m) && decide (m < j)
theorem tkn_one : tkn 1 = fun _ => false := by
  funext m
  unfold tkn
  by_cases h : 1 ≤ m
  · have : ¬ m < 1 := by omega
    simp [this]
  · simp [h]
theorem tkn_put (j : Nat) (h : 1 ≤ j) : put (tkn j) j true = tkn (j + 1) := by
  funext m
  unfold put tkn
  by_cases e : m = j
  · subst e; simp [h]
  · rw [if_neg e]
    have : (m < j) ↔ (m < j + 1) := by omega
    rw [decide_eq_decide.2 this]
theorem tkn_least (j n : Nat) (h : 1 ≤ j) (h2 : j ≤ n) : LeastFree (tkn j) n j := ⟨h, h2, by simp [tkn], fun k h1 hk => by simp [tkn]; omega⟩
theorem tkn_all (n : Nat) : AllTaken (tkn (n + 1)) n := fun k h1 hk => by simp [tkn]; omega
def frd (n : Nat) (s : Int → Bool) : Nat → Bool := fun m => decide (1 ≤ m) && decide (m ≤ n) && !s m
theorem frd_start (n : Nat) : tkn (n + 1) = frd n (fun _ => false) := by
  funext m
  unfold tkn frd
  have e : decide (m < n + 1) = decide (m ≤ n) := decide_eq_decide.2 (by omega)
  rw [e]
  simp
theorem frd_put (n : Nat) (s : Int → Bool) (i : Nat) (h1 : 1 ≤ i) (h2 : i ≤ n) : put (frd n s) i false = frd n (mput s i true) := by
  funext m
  unfold put frd mput
  by_cases e : m = i
  · subst e; simp
  · have : ¬ ((m : Int) = (i : Int)) := by omega
    rw [if_neg e, if_neg this]
def rtd (n : Nat) (s : Int → Bool) (j : Nat) : Nat → Bool := fun m => decide (1 ≤ m) && decide (m ≤ n) && (decide (m < j) || !s m)
theorem rtd_start (n : Nat) (s : Int → Bool) : frd n s = rtd n s 1 := by
  funext m
  unfold frd rtd
  by_cases h : 1 ≤ m
  · have : ¬ m < 1 := by omega
    simp [this]
  · simp [h]
theorem rtd_put (n : Nat) (s : Int → Bool) (j : Nat) (h1 : 1 ≤ j) (h2 : j ≤ n) : put (rtd n s j) j true = rtd n s (j + 1) := by
  funext m
  unfold put rtd
  by_cases e : m = j
  · subst e; simp [h1, h2]
  · rw [if_neg e]
    have : (m < j) ↔ (m < j + 1) := by omega
    rw [decide_eq_decide.2 this]
theorem rtd_skip (n : Nat) (s : Int → Bool) (j : Nat) (hs : s j = false) : rtd n s j = rtd n s (j + 1) := by
  funext m
  unfold rtd
  by_cases e : m = j
  · subst e; simp [hs]
  · have : (m < j) ↔ (m < j + 1) := by omega
    rw [decide_eq_decide.2 this]
theorem rtd_least (n : Nat) (s : Int → Bool) (j : Nat) (h1 : 1 ≤ j) (h2 : j ≤ n) (hs : s j = true) : LeastFree (rtd n s j) n j :=
  ⟨h1, h2, by simp [rtd, hs], fun k hk1 hk2 => by simp [rtd, hk2]; omega⟩
theorem rtd_all (n : Nat) (s : Int → Bool) : AllTaken (rtd n s (n + 1)) n := fun k h1 hk => by
  have : k < n + 1 := by omega
  simp [rtd, this]; omega

structure FRel (w : World) (b tb mb n L : Nat) (D : DataW Unit) (s : Int → Bool) (sz : Nat) (wr : World) : Prop where
  st : St w b tb n (frd n s) wr
  bm : BM wr mb L D
  says : Says D s
  counts : Counts D s sz
  only : ∀ x, s x = true → 1 ≤ x ∧ x ≤ n
  sum : cnt (frd n s) n + sz = n
theorem FRel.free {w : World} {b tb mb n L : Nat} {D : DataW Unit} {s : Int → Bool} {sz : Nat} {wr : World} (h : FRel w b tb mb n L D s sz wr) (x : Int) :
    freeC (frd n s) n x = if 1 ≤ x ∧ x ≤ n then (if s x then 9 else 0) else 2 := by
  unfold freeC
  by_cases hr : 1 ≤ x ∧ x ≤ n
  · rw [if_pos hr, if_pos hr]
    have e : ((x.toNat : Nat) : Int) = x := by omega
    have : frd n s x.toNat = !s x := by
      unfold frd
      rw [e]
      have h1 : 1 ≤ x.toNat := by omega
      have h2 : x.toNat ≤ n := by omega
      simp [h1, h2]
    rw [this]
    cases s x <;> rfl
  · rw [if_neg hr, if_neg hr]
theorem FRel.same {w : World} {b tb mb n L : Nat} {D : DataW Unit} {s : Int → Bool} {sz : Nat} {wr w1 : World} (h : FRel w b tb mb n L D s sz wr) (hne : tb ≠ mb) (x : Int) (hc : freeC (frd n s) n x ≠ 0)
    (hs : St w b tb n (freeT (frd n s) n x) w1) (hk : Kept (Bk tb) wr w1) : FRel w b tb mb n (L + 1) D s sz w1 := by
  unfold freeT at hs
  rw [if_neg hc] at hs
  exact ⟨hs, (bm_kept h.bm hk (fun e => hne e.symm)).mono (Nat.le_succ _), h.says, h.counts, h.only, h.sum⟩
theorem FRel.step {w : World} {b tb mb n L : Nat} {D : DataW Unit} {s : Int → Bool} {sz : Nat} {wr w1 w2 : World} (h : FRel w b tb mb n L D s sz wr) (hm : b ≠ mb ∧ tb ≠ mb ∧ w.heap.size ≤ mb) (x : Int) (h1 : 1 ≤ x) (h2 : x ≤ n) (hsx : s x = false)
    (hs : St w b tb n (freeT (frd n s) n x) w1) (hb : BM w2 mb (L + 1) (D.put (.int .i64 x) (.lit (.bool true)))) (hk2 : Kept (fun i => i = mb) w1 w2) :
    FRel w b tb mb n (L + 1) (D.put (.int .i64 x) (.lit (.bool true))) (mput s x true) (sz + 1) w2 := by
  have hc : freeC (frd n s) n x = 0 := by rw [h.free, if_pos ⟨h1, h2⟩, hsx]; rfl
  obtain ⟨i, rfl⟩ := Int.eq_ofNat_of_zero_le (show 0 ≤ x by omega)
  have e : freeT (frd n s) n i = frd n (mput s i true) := by
    unfold freeT
    rw [if_pos hc, show ((i : Nat) : Int).toNat = i by omega]
    exact frd_put n s i (by omega) (by omega)
  rw [e] at hs
  refine ⟨hs.off hk2 hm.1 hm.2.1 hm.2.2, hb, h.says.put _ _, h.counts.put h.says.1 _ hsx, fun y hy => ?_, ?_⟩
  · unfold mput at hy
    by_cases ey : y = i
    · omega
    · rw [if_neg ey] at hy; exact h.only y hy
  · rw [← frd_put n s i (by omega) (by omega)]
    have := cnt_put_off (frd n s) i n (by omega) (by omega) (by unfold frd; simp [hsx]; omega)
    have := h.sum
    omega
/-- the element that the round reads -/
theorem Arg.at {w wr : World} {v : Value} {L : Nat} {zs : List Int} (h : Arg w v L zs) (hk : Kept No w wr) {j : Nat} (hj : j < L) :
    ∃ b off cap x, v = .slice (some ⟨b, off, none⟩) L cap ∧ wr.cell? ⟨b, off + j, none⟩ = some (.int .i64 x) ∧ Wf x := by
  have hw := h.wf hj
  obtain ⟨_, _, ⟨h0, _⟩ | ⟨b, off, cap, hv, hc⟩⟩ := h
  · omega
  · exact ⟨b, off, cap, _, hv, hk.cell (hc j hj) (not_no _), hw⟩
end Go.Proofs.YtkdienebinnopaaDoor
