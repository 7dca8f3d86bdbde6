/-
  IdentIterates: the iterator's contract, with the order; plain laws.
-/
import Derived.Test.YtkdienebinnopaaDoorWalkO
import Derived.RangeFuncWrites
namespace Go.Proofs.YtkdienebinnopaaDoor
open Go.RowKit Go.Zn Go.Shelf
attribute [local go_sem] Oper.semAt_some

def InOrder {n : Nat} (pre : List (Pl n)) : Prop := ∃ m, pre.map Subtype.val = List.range m
theorem InOrder.len {n : Nat} {pre : List (Pl n)} (h : InOrder pre) : pre.map Subtype.val = List.range pre.length := by
  obtain ⟨m, hm⟩ := h
  have e := congrArg List.length hm
  simp at e
  rw [e]; exact hm
theorem InOrder.snoc {n : Nat} {pre : List (Pl n)} (h : InOrder pre) {y : Pl n} (hy : y.1 = pre.length) : InOrder (pre ++ [y]) := ⟨pre.length + 1, by rw [List.range_succ, List.map_append, h.len, ← hy]; rfl⟩
theorem InOrder.last {n : Nat} {pre : List (Pl n)} {y : Pl n} (h : InOrder (pre ++ [y])) : y.1 = pre.length := by
  have e := h.len
  rw [List.map_append, List.length_append] at e
  have e2 := congrArg (fun l : List Nat => l[pre.length]?) e
  simpa using e2
theorem inOrder_nil {n : Nat} : InOrder ([] : List (Pl n)) := ⟨0, rfl⟩
theorem idl_lt (t : Nat → Bool) : ∀ n, ∀ a ∈ idl t n, a ≤ n
  | 0, a, h => by cases h
  | n + 1, a, h => by
    rcases List.mem_append.1 h with h | h
    · have := idl_lt t n a h; omega
    · cases ht : t (n + 1)
      · rw [ht] at h; cases h
      · rw [ht] at h; simp at h; omega
theorem idl_rising (t : Nat → Bool) : ∀ n, (idl t n).Pairwise (· < ·)
  | 0 => List.Pairwise.nil
  | n + 1 => by
    show (idl t n ++ (if t (n + 1) then [n + 1] else [])).Pairwise (· < ·)
    refine List.pairwise_append.2 ⟨idl_rising t n, ?_, fun a ha b hb => ?_⟩
    · cases t (n + 1)
      · exact List.Pairwise.nil
      · exact List.pairwise_singleton _ _
    · have := idl_lt t n a ha
      cases ht : t (n + 1)
      · rw [ht] at hb; cases hb
      · rw [ht] at hb; simp at hb; omega
theorem idl_inj (t : Nat → Bool) (n : Nat) {i j : Nat} (hi : i < (idl t n).length) (hj : j < (idl t n).length) (h : (idl t n).getD i 0 = (idl t n).getD j 0) : i = j := by
  rw [List.getD_eq_getElem?_getD, List.getD_eq_getElem?_getD, List.getElem?_eq_getElem hi, List.getElem?_eq_getElem hj] at h
  simp at h
  have hp := List.pairwise_iff_getElem.1 (idl_rising t n)
  rcases Nat.lt_trichotomy i j with h1 | h1 | h1
  · have := hp i j hi hj h1; omega
  · exact h1
  · have := hp j i hj hi h1; omega
set_option maxRecDepth 100000 in
set_option maxHeartbeats 1600000 in
theorem values1_on (S : Nat → Prop) (n bx : Nat) (v : Value) (l : List Nat) (lp : Nat) (nd : Nat) (hnd : 1 ≤ nd) (hn : n ≤ 5000) (hl : l.length = n) (hbx : ¬ S bx)
    (J Jx : List (Pl n) → World → Prop) (hJd : ∀ pre W q, J pre W → J pre (World.drewN W q))
    (hY : ∀ pre (y : Pl n) W, J pre W → pre.length < n → YieldAt Fence.wide (nd - 1) Tryd.prog lp #[.int .i64 (l.getD y.1 0 : Nat)] W fun e W' =>
      (e = .returned (.bool true) ∧ J (pre ++ [y]) W' ∧ Kept S W W') ∨ (e = .returned (.bool false) ∧ Jx (pre ++ [y]) W'))
    (W : World) (c1 : W.cell? ⟨bx, 0, none⟩ = some v) (hr : Rd W (fun i => ¬ S i) 1 v n (ints l)) (h0 : J [] W) :
    CallsIn Fence.wide nd Tryd.prog 37 #[.func (.yield lp) #[] #[], .pointer (some ⟨bx, 0, none⟩)] W fun e W' => (∃ v, e = .returned v) ∧
      ((∃ ys : List (Pl n), ys.map Subtype.val = List.range n ∧ J ys W') ∨ (∃ pre : List (Pl n), InOrder pre ∧ Jx pre W')) := by
  obtain ⟨ad, cap, rfl⟩ := rd_slice hr
  have HR := Lib.hid hr
  have HY := Lib.hid hY
  have HJ := Lib.hid hJd
  have H0 := Lib.hid h0
  have HLL := Lib.hid hl
  clear hr hY hJd h0 hl
  refine callsIn_of_wp Tryd.func37 rfl trivial ?_ rfl
  simp only [Tryd.ntmps37, List.size_toArray, List.length_cons, List.length_nil, Nat.reduceAdd, Nat.reduceSub, Array.replicate_succ, Array.replicate_zero, List.push_toArray, List.append_toArray, List.nil_append, List.cons_append]
  gi_wp2
  gi_loopw [4, 7] (fun _ i wr => ∃ (m : Nat) (pre : List (Pl n)), i = .int .i64 (m : Nat) ∧ m ≤ n ∧ pre.map Subtype.val = List.range m ∧ J pre wr ∧ Kept S W wr) (fun _ i _ => n - (RowKit.intOf i).toNat)
  case atStart => exact ⟨0, [], rfl, Nat.zero_le _, by simp, H0.out, Kept.refl _ _⟩
  case round =>
    obtain ⟨m, pre, rfl, hm, hpre, hj, hB⟩ := hrel
    have hlen : pre.length = m := by have := congrArg List.length hpre; simpa using this
    have HP := Lib.hid hpre
    have HL := Lib.hid hlen
    have Hj := Lib.hid hj
    have HB := Lib.hid hB
    clear hpre hlen hj hB c1
    by_cases hlt : m < n
    · have hd : decide (m < n) = true := by simp; exact hlt
      have hml : m < l.length := by rw [HLL.out]; exact hlt
      have hrk := HR.out.kept HB.out (fun i _ h => h)
      obtain ⟨_, _, ⟨_, hz⟩ | ⟨b, off, c2, hv, _, _, hc⟩⟩ := hrk
      · omega
      have g1 := hc m _ (ints_get l m hml)
      cases hv
      have hgd : l.getD m 0 = l[m] := by rw [List.getD_eq_getElem?_getD, List.getElem?_eq_getElem hml]; rfl
      obtain ⟨yv, hyv⟩ : ∃ yv : Int, ((l[m] : Nat) : Int) = yv := ⟨_, rfl⟩
      rw [hyv] at g1
      have HYV := Lib.hid (show ((l.getD m 0 : Nat) : Int) = yv by rw [hgd]; exact hyv)
      have HLT := Lib.hid hlt
      have hm0 : (0 : Int) ≤ (m : Int) := by omega
      have hm1 : (m : Int) < (n : Int) := by omega
      clear hc hlt hgd hyv hml hm
      obtain ⟨fn, tmps, assign, body, hy, hRR⟩ := HY.out pre ⟨m, HLT.out⟩ wr Hj.out (by rw [HL.out]; exact HLT.out)
      dsimp only at hy
      rw [HYV.out] at hy
      gi_wp2
      refine hRR.mono ?_
      rintro e W' (⟨rfl, hJ', hk'⟩ | ⟨rfl, hF⟩)
      · have HJ' := Lib.hid hJ'
        have HK' := Lib.hid hk'
        clear hJ' hk' hy hRR hd g1
        gi_wp2
        have h2 := HLT.out
        exact ⟨⟨m + 1, pre ++ [⟨m, h2⟩], by go_num, by omega, by rw [List.range_succ, List.map_append, HP.out]; rfl, HJ'.out, HB.out.and HK'.out⟩, by simp [RowKit.intOf]; omega⟩
      · have HX := Lib.hid hF
        clear hy hRR hd g1 hF
        gi_wp2
        refine bodyPost_ret (results_none rfl _ _ _) rfl ?_
        exact ⟨⟨_, rfl⟩, .inr ⟨_, ⟨m + 1, by rw [List.range_succ, List.map_append, HP.out]; rfl⟩, HX.out⟩⟩
    · have hmn : m = n := by omega
      have hd : decide (m < n) = false := by simp; omega
      have HMN := Lib.hid hmn
      clear hlt hmn hm
      gi_wp2
      go_end0
      exact ⟨⟨_, rfl⟩, .inl ⟨pre, HP.out.trans (congrArg List.range HMN.out), Hj.out⟩⟩
theorem values_order (S : Nat → Prop) (n bx : Nat) (v : Value) (l : List Nat) (nd : Nat) (hnd : 1 ≤ nd) (hn : n ≤ 5000) (hl : l.length = n) (hbx : ¬ S bx) (w : World) (hS : ∀ i, w.heap.size ≤ i → S i)
    (c1 : w.cell? ⟨bx, 0, none⟩ = some v) (hr : Rd w (fun i => ¬ S i) 1 v n (ints l)) :
    SeqStopsK Fence.wide nd Tryd.prog 37 #[.pointer (some ⟨bx, 0, none⟩)] (fun y : Pl n => #[.int .i64 (l.getD y.1 0 : Nat)]) (Kept S)
      (fun ys => ys.map Subtype.val = List.range n) InOrder n w := by
  intro lp J Jx W hW hJ hJx hY hj0
  have hk0 : Kept No w W := Kept.of_below hW
  exact values1_on S n bx v l lp nd hnd hn hl hbx J Jx (fun pre W q h => hJ pre W (W.drewN q) none h ⟨rfl, rfl, rfl, Nat.le_refl _, fun _ _ _ => rfl⟩ (fun r e => by cases e)) hY W (hk0.cell c1 (not_no _)) (hr.kept hk0 (fun _ _ _ => not_no _)) hj0
end Go.Proofs.YtkdienebinnopaaDoor
