/-
  Bracket, the document's model: order.
-/
import Derived.Test.YtphlpclhmodekaaDoorWalkQ
import Derived.Deep.RegionHeld3
import Derived.Deep.AppendLies
set_option linter.unusedVariables false
set_option linter.unusedSimpArgs false
namespace Go.Proofs.YtphlpclhmodekaaDoor
open Go.RowKit Go.Zn
attribute [local go_sem] Oper.semAt_some

theorem step_append_rdo {P : Program} {ops : Array Oper} {o : Oper} {a : Act} {w : World} {K : Act → World → Prop} {Q : Exit → Act → World → Prop} {E : Prop} (hgd : o.guard = none) {s x : Operand} {t : TypeId}
    (ho : o.op = .call { callee := .builtin .append, args := #[s, x], argTypes := #[t, t] }) {v xv : Value} (hs : a.eval s = v) (hx : a.eval x = xv)
    {e size bytes : Nat} {z : Value} (ei : SliceOf P t e size bytes z) {base n m : Nat} {xs news : List Value} {B : Nat → Prop}
    (hown : w.ownsRow base e size v n xs) (hsrc : Rd w B size xv m news) (h1 : ∀ u ∈ news, u.oneCell' = true) (hbytes : (n + m) * bytes ≤ 140737488355328) (hbase : base ≤ w.heap.size)
    (h : ∀ v' w', w'.ownsRow base e size v' (n + m) (xs ++ news) → w.grownBy w' v.ownBlock → (v' = .slice none 0 0 ↔ v = .slice none 0 0 ∧ m = 0) → K (a.put o.dst v') w') :
    if Region.wanted o (yielded ops a.tmps) = true then Oper.wp P o a w K Q else E := by
  have hw : Region.wanted o (yielded ops a.tmps) = true := by simp [Region.wanted, hgd]
  rw [if_pos hw]
  obtain ⟨i, hi, hz0, hz1, hz2⟩ := ei.hi
  have hml : n + m ≤ maxLen := small_maxLen ei.hb hbytes
  obtain ⟨hl, hm, hv⟩ := hsrc
  unfold Oper.wp
  rcases hv with ⟨hv, hm0⟩ | ⟨b, off, cap, hv, hc, hb, hcell⟩
  · subst hm0
    have hnews : news = [] := List.eq_nil_of_length_eq_zero (by rw [hl]; simp)
    subst hnews
    rcases hv with hv | ⟨a0, hv⟩
    · have hrun := run_append_owned_none (P := P) (w := w) base t o.type e i size ei.ht hi v n xs hown
      simp [execOp, ho, resolve, invoke, builtin, hs, hx, hv, hrun, Result.andThen, Oper.upon]
      exact h v w (by simpa using hown) (World.grownBy.refl w _) (by simp)
    · obtain ⟨v', w', hr, h2, h3, h4⟩ := run_append_own (P := P) w base t o.type e i z size bytes ei.ht hi hz0 hz1 hz2 ei.hz ei.hs v n xs hown a0 0 0 [] hl (fun j u hj => by simp at hj) h1 hml hbytes hbase
      simp [execOp, ho, resolve, invoke, builtin, hs, hx, hv, hr, Result.andThen, Oper.upon]
      exact h v' w' h2 h3 h4
  · obtain ⟨v', w', hr, h2, h3, h4⟩ := run_append_own (P := P) w base t o.type e i z size bytes ei.ht hi hz0 hz1 hz2 ei.hz ei.hs v n xs hown ⟨b, off, none⟩ m cap news hl (fun j u hj => by rw [Addr.add_lit]; exact hcell j u hj) h1 hml hbytes hbase
    simp [execOp, ho, resolve, invoke, builtin, hs, hx, hv, hr, Result.andThen, Oper.upon]
    exact h v' w' h2 h3 h4

/-- the first n numbers of the order -/
def preL (k n : Nat) : List Nat := (List.range n).map (seedK k)
theorem preL_len (k n : Nat) : (preL k n).length = n := by simp [preL]
theorem preL_get {k n i : Nat} (h : i < n) : (preL k n)[i]? = some (seedK k i) := by simp [preL, h]
theorem preL_two (j i : Nat) : preL (j + 1) (2 * (i + 1)) = preL (j + 1) (2 * i) ++ [seedK j i, 2 ^ (j + 1) - 1 - seedK j i] := by
  unfold preL
  rw [show 2 * (i + 1) = 2 * i + 1 + 1 by omega, List.range_succ, List.range_succ]
  simp only [List.map_append, List.map_cons, List.map_nil, List.append_assoc, seed_even, seed_odd]
  rfl
theorem list_cells2 {l : List Nat} {n : Nat} {w0 w : World} {v : Value} (hl : l.length = n) (h : Rd w (fun i => w0.heap.size ≤ i) 1 v n (ints l)) (h0 : 1 ≤ n) : ∃ q off cap, v = .slice (some ⟨q, off, none⟩) n cap ∧ ∀ j x, l[j]? = some x → w.cell? ⟨q, off + j, none⟩ = some (.int .i64 (x : Nat)) := by
  subst hl
  exact list_cells h (fun e => by rw [e] at h0; simp at h0)
def ORel1 (k : Nat) (w0 : World) (v : Value) (wr : World) : Prop :=
  ∃ j : Nat, j ≤ k ∧ Rd wr (fun i => w0.heap.size ≤ i) 1 v (2 ^ j) (ints (preL j (2 ^ j))) ∧ Kept No w0 wr
def ORel2 (j n : Nat) (w1 : World) (v i : Value) (wr : World) : Prop :=
  ∃ c : Nat, i = .int .i64 (c : Nat) ∧ c ≤ n ∧ wr.ownsRow w1.heap.size 3 1 v (2 * c) (ints (preL (j + 1) (2 * c))) ∧ Kept No w1 wr
set_option maxRecDepth 100000 in
theorem order_any {k : Nat} (hk6 : k ≤ 6) (w : World) : Calls Tryd.prog 53 #[.int .i64 ((2 ^ k : Nat) : Int)] w (ListPost (preL k (2 ^ k)) w) := by
  obtain ⟨S, hS⟩ : ∃ S, 2 ^ k = S := ⟨_, rfl⟩
  rw [hS]
  have hS64 : S ≤ 64 := by rw [← hS]; exact pow_le' hk6
  have HSK := Lib.hid hS
  have HK6 := Lib.hid hk6
  clear hS hk6
  go_enter Tryd.func53, Tryd.ntmps53
  go_wp2_with fail
  go_loopw [3] (fun v wr => ORel1 k w v wr) (fun v _ => 64 - (match v with | .slice _ n _ => n | _ => 0))
  case atStart => exact ⟨0, Nat.zero_le _, (rd_new1 w (.int .i64 0) 3).mono (fun b _ e => by rw [e]; exact Nat.le_refl _), (Kept.refl No w).alloc _⟩
  case round =>
    obtain ⟨wo, hwo⟩ : ∃ x, x = wr := ⟨_, rfl⟩
    subst hwo
    obtain ⟨j, hjk, hrd, hk⟩ := hrel
    have hj6 : j ≤ 6 := by have := HK6.out; omega
    have hn64 := pow_le' hj6
    obtain ⟨n, hn⟩ : ∃ n, 2 ^ j = n := ⟨_, rfl⟩
    have hnp := Nat.one_le_two_pow (n := j)
    rw [hn] at hrd hn64 hnp
    have HN := Lib.hid hn
    obtain ⟨q, off, cap, hv, hcell⟩ := list_cells2 (preL_len j n) hrd hnp
    subst hv
    have HRD := Lib.hid hrd
    have HK := Lib.hid hk
    have HCELL := Lib.hid (show ∀ i, i < n → wo.cell? ⟨q, off + i, none⟩ = some (.int .i64 (seedK j i : Nat)) from fun i hi => hcell i _ (preL_get hi))
    clear hrd hk hcell hn
    by_cases hlt : n < S
    · have d1 : decide (n < S) = true := decide_eq_true hlt
      have hjk2 : j < k := by
        refine Nat.lt_of_le_of_ne hjk fun e => ?_
        have := HSK.out
        rw [← e, HN.out] at this
        omega
      have HLT := Lib.hid (And.intro hlt hjk2)
      have hn32 : n ≤ 32 := by
        have := pow_le' (show j + 1 ≤ 6 by have := HK6.out; omega)
        have e : 2 ^ (j + 1) = 2 * 2 ^ j := by omega
        rw [HN.out] at e
        omega
      clear hlt hjk2 hjk hj6 hn64
      go_wp2_with fail
      go_loopw [4, 5] (fun nv iv wz => ORel2 j n wo nv iv wz) (fun _ iv _ => n - (intOf iv).toNat)
      case atStart => exact ⟨0, rfl, Nat.zero_le _, World.ownsRow_nil _ _ _ _, Kept.refl _ _⟩
      case round =>
        obtain ⟨c, rfl, hc, hown, hk⟩ := hrel
        obtain ⟨ad2, cap2, rfl⟩ := owned_slice hown
        have HW := Lib.hid hown
        have HK2 := Lib.hid hk
        clear hown
        by_cases hcn : c < n
        · have d2 : decide (c < n) = true := decide_eq_true hcn
          have cx := hk.cell (HCELL.out c hcn) (not_no _)
          have hxl : seedK j c < n := by have := seedK_lt j c; rw [HN.out] at this; exact this
          obtain ⟨x, hx⟩ : ∃ x, seedK j c = x := ⟨_, rfl⟩
          rw [hx] at cx hxl
          have HX := Lib.hid hx
          have HCN := Lib.hid hcn
          have q1 : IntKind.i64.wrap (2 * (n : Int)) = 2 * (n : Int) := IntWalk.i64_in _ (by omega)
          have q2 : IntKind.i64.wrap (2 * (n : Int) - 1) = 2 * (n : Int) - 1 := IntWalk.i64_in _ (by omega)
          have q3 : IntKind.i64.wrap (2 * (n : Int) - 1 - x) = 2 * (n : Int) - 1 - x := IntWalk.i64_in _ (by omega)
          have q4 : IntKind.i64.wrap ((c : Int) + 1) = (c : Int) + 1 := IntWalk.i64_in _ (by omega)
          have HO1 := Lib.hid ((show wr.drew.ownsRow wo.heap.size 3 1 (.slice ad2 (2 * c) cap2) (2 * c) (ints (preL (j + 1) (2 * c))) from HW.out).alloc (.cells #[.int .i64 (x : Nat), .int .i64 (2 * (n : Int) - 1 - x)] 3))
          have HS1 := Lib.hid (show wo.heap.size ≤ (wr.drew.alloc (.cells #[.int .i64 (x : Nat), .int .i64 (2 * (n : Int) - 1 - x)] 3)).heap.size by have := HK2.out.size; simp; omega)
          have HB1 := Lib.hid (show (2 * c + 2) * 8 ≤ 140737488355328 by omega)
          have hc0 : (0 : Int) ≤ (c : Int) := by omega
          have hcN : (c : Int) < (n : Int) := by omega
          have hcN' : (c : Int) ≤ (n : Int) := by omega
          have HXL0 := Lib.hid hxl
          clear hk hx hcn hc
          go_wp2_with fail
          have cxa := ((Kept.refl No wr).drew.alloc (.cells #[.int .i64 (x : Nat), .int .i64 (2 * (n : Int) - 1 - x)] 3)).cell cx (not_no _)
          go_region_held3 (fun w' => w'.cell? ⟨q, off + c, none⟩ = some (.int .i64 (x : Nat))) (first | go_keep | exact cx | exact cxa)
            (first | (refine step_append_rdo (v := .slice ad2 (2 * c) cap2) (xv := .slice (some ⟨wr.heap.size, 0, none⟩) 2 2) rfl rfl rfl rfl ei28 HO1.out (rd_two wr.drew (.int .i64 (x : Nat)) (.int .i64 (2 * (n : Int) - 1 - x)) 3) (by intro u hu; simp at hu; rcases hu with rfl | rfl <;> rfl) HB1.out HS1.out ?_; intro v2 w2 hown2 hg2 _; obtain ⟨ad3, cap3, rfl⟩ := owned_slice hown2; have HO2 := Lib.hid hown2; have HK3 := Lib.hid (show Kept No wo w2 from (HK2.out.drew.alloc _).grown hg2 (fun k e hlt => by have := (HO1.out.lt k e).1; omega)); have cx := HK3.out.cell (HCELL.out c HCN.out) (not_no _); rw [HX.out] at cx; clear hown2 hg2))
          have hxl := HXL0.out
          have HE := Lib.hid (show ints (preL (j + 1) (2 * (c + 1))) = ints (preL (j + 1) (2 * c)) ++ [.int .i64 (x : Nat), .int .i64 (2 * (n : Int) - 1 - x)] by
            have e : 2 ^ (j + 1) = 2 * 2 ^ j := by omega
            rw [HN.out] at e
            rw [preL_two, HX.out, e]
            simp only [ints, List.map_append, List.map_cons, List.map_nil]
            rw [show ((2 * n - 1 - x : Nat) : Int) = 2 * (n : Int) - 1 - x by omega])
          go_wp2_with fail
          have hcn := HCN.out
          exact ⟨⟨c + 1, by go_num, by omega, by rw [HE.out]; exact HO2.out, HK3.out⟩, by simp [intOf]; omega⟩
        · have d2 : decide (c < n) = false := decide_eq_false hcn
          have hcn2 : c = n := by omega
          have HCN := Lib.hid hcn2
          clear hk hcn hc hcn2
          go_wp2_with fail
          refine ⟨⟨j + 1, HLT.out.2, ?_, HK.out.and HK2.out⟩, ?_⟩
          · have e : 2 ^ (j + 1) = 2 * 2 ^ j := by omega
            rw [HN.out] at e
            have ho := rd_owned HW.out
            rw [HCN.out] at ho
            rw [HCN.out, e]
            exact ho.mono (fun b _ h => Nat.le_trans HK.out.size h)
          · have := HLT.out.1
            have e := HCN.out
            show 64 - 2 * c < 64 - n
            omega
    · have d1 : decide (n < S) = false := decide_eq_false hlt
      have hjk2 : j = k := by
        by_cases e : j = k
        · exact e
        · have h1 := pow_le' (show j + 1 ≤ k by omega)
          have e2 : 2 ^ (j + 1) = 2 * 2 ^ j := by omega
          rw [HSK.out, e2, HN.out] at h1
          omega
      have HJK := Lib.hid hjk2
      clear hlt hjk2 hjk hj6 hn64
      go_wp2_with fail
      go_ret
      have hnS : n = S := by rw [← HN.out, HJK.out, HSK.out]
      refine ⟨_, rfl, ?_, HK.out⟩
      rw [preL_len, ← hnS, ← HJK.out]
      exact HRD.out
end Go.Proofs.YtphlpclhmodekaaDoor
