/-
  Pool: slices.Chunk of bytes, in fives.
-/
import Derived.Test.YtclgoilfclmibaaGreatDoorNm
import Derived.Test.YtclgoilfclmibaaGreatDoorLibR
import Derived.RangeFuncNested
import Derived.RangeFuncBound
import Derived.RangeFuncCalls
import Derived.RangeFuncLeaves
import Derived.RangeFuncBox
import Derived.Shelf.Abstract
import Derived.Shelf.RegionOpen
import Derived.OwnWalkIn
import Derived.TacticsInMore
import Derived.LoopNIn
set_option linter.unusedVariables false
set_option linter.unusedSimpArgs false
namespace Go.Proofs.YtclgoilfclmibaaGreatDoor
open Go.RowKit Go.Zn Go.Shelf
attribute [local go_sem] Oper.semAt_some

theorem chunk_any (ad : Option Addr) (m cap : Nat) (w : World) : Calls Tryz.prog 95 #[.slice ad m cap, .int .i64 5] w fun e w' => e = .returned (.func (.func 101) #[] #[.pointer (some ⟨w.heap.size, 0, none⟩), .pointer (some ⟨w.heap.size + 1, 0, none⟩)]) ∧
      w' = (w.alloc (.cells #[.slice ad m cap] 51)).alloc (.cells #[.int .i64 5] 3) := by
  go_enter Tryz.func95, Tryz.ntmps95
  go_wp2_with fail
  go_ret
  exact ⟨rfl, rfl⟩
/-- the places of the pieces -/
abbrev Pc (k : Nat) := { j : Nat // j < k }
def Sx (e0 n0 : Nat) : Nat → Prop := fun i => i = e0 ∨ n0 ≤ i
theorem not_sx {e0 n0 i : Nat} (h : i < n0) (h2 : i ≠ e0) : ¬ Sx e0 n0 i := fun e => by rcases e with e | e <;> omega
set_option maxRecDepth 100000 in
set_option maxHeartbeats 1600000 in
theorem chunk1_in (S : Nat → Prop) (k bs bn b off cap : Nat) (ad : Option Addr) (lp : Nat) (nd : Nat) (hnd : 1 ≤ nd) (hk : k ≤ 4) (hcap : 5 * k ≤ cap) (had : 0 < k → ad = some ⟨b, off, none⟩) (hbs : ¬ S bs) (hbn : ¬ S bn)
    (J Jx : List (Pc k) → World → Prop) (hJd : ∀ pre W q, J pre W → J pre (World.drewN W q))
    (hY : ∀ pre (y : Pc k) W, J pre W → pre.length < k → YieldAt Fence.wide (nd - 1) Tryz.prog lp #[.slice (some ⟨b, off + 5 * y.1, none⟩) 5 5] W fun e W' =>
      (e = .returned (.bool true) ∧ J (pre ++ [y]) W' ∧ Kept S W W') ∨ (e = .returned (.bool false) ∧ Jx (pre ++ [y]) W'))
    (W : World) (c1 : W.cell? ⟨bs, 0, none⟩ = some (.slice ad (5 * k) cap)) (c2 : W.cell? ⟨bn, 0, none⟩ = some (.int .i64 5)) (h0 : J [] W) :
    CallsIn Fence.wide nd Tryz.prog 101 #[.func (.yield lp) #[] #[], .pointer (some ⟨bs, 0, none⟩), .pointer (some ⟨bn, 0, none⟩)] W fun e W' => (∃ v, e = .returned v) ∧
      ((∃ ys : List (Pc k), ys.map Subtype.val = List.range k ∧ J ys W') ∨ (∃ pre : List (Pc k), True ∧ Jx pre W')) := by
  have HY := Lib.hid hY
  have HJ := Lib.hid hJd
  have H0 := Lib.hid h0
  have HC1 := Lib.hid c1
  have HC2 := Lib.hid c2
  have HAD := Lib.hid had
  have HNB := Lib.hid (And.intro hbs hbn)
  obtain ⟨m, hm⟩ : ∃ m, 5 * k = m := ⟨_, rfl⟩
  rw [hm] at c1 hcap HC1
  have HM := Lib.hid hm
  have hm20 : m ≤ 20 := by omega
  clear hY hJd h0 had hm hbs hbn
  refine callsIn_of_wp Tryz.func101 rfl trivial ?_ rfl
  simp only [Tryz.ntmps101, List.size_toArray, List.length_cons, List.length_nil, Nat.reduceAdd, Nat.reduceSub, Array.replicate_succ, Array.replicate_zero, List.push_toArray, List.append_toArray, List.nil_append, List.cons_append]
  gi_wp2
  gi_loopw [4] (fun i wr => ∃ (j : Nat) (pre : List (Pc k)), i = .int .i64 (5 * j : Nat) ∧ j ≤ k ∧ pre.map Subtype.val = List.range j ∧ J pre wr ∧ Kept S W wr) (fun i _ => m - (RowKit.intOf i).toNat)
  case atStart => exact ⟨0, [], rfl, Nat.zero_le _, by simp, H0.out, Kept.refl _ _⟩
  case round =>
    obtain ⟨j, pre, rfl, hj, hpre, hJ, hB⟩ := hrel
    have hlen : pre.length = j := by have := congrArg List.length hpre; simpa using this
    have g1 : wr.cell? ⟨bs, 0, none⟩ = some (.slice ad m cap) := hB.cell HC1.out HNB.out.1
    have g2 : wr.cell? ⟨bn, 0, none⟩ = some (.int .i64 5) := hB.cell HC2.out HNB.out.2
    have HP := Lib.hid hpre
    have HL := Lib.hid hlen
    have Hj := Lib.hid hJ
    have HB := Lib.hid hB
    clear hpre hlen hJ hB c1 c2
    obtain ⟨q, hq⟩ : ∃ q, 5 * j = q := ⟨_, rfl⟩
    have HQ := Lib.hid hq
    have HM2 := HM.out
    rw [hq]
    by_cases hlt : j < k
    · have hqm : q + 5 ≤ m := by omega
      obtain rfl := HAD.out (by omega)
      have d1 : decide (q < m) = true := decide_eq_true (by omega)
      have hq0 : (0 : Int) ≤ (q : Int) := by omega
      have hq1 : (q : Int) < (m : Int) := by omega
      have hq2 : (q : Int) ≤ (m : Int) := by omega
      have hq5 : (q : Int) + 5 ≤ (cap : Int) := by omega
      have hcq : ¬ cap = q := by omega
      have hmin : min (5 : Int) ((m - q : Nat) : Int) = 5 := by omega
      have q4 : IntKind.i64.wrap ((q : Int) + 5) = (q : Int) + 5 := IntWalk.i64_in _ (by omega)
      have HLT := Lib.hid hlt
      clear hlt hm20 HM2 hq hqm
      gi_wp2
      gi_region
      obtain ⟨fn, tmps, assign, body, hy, hRR⟩ := HY.out pre ⟨j, HLT.out⟩ wr.drew (HJ.out pre wr 1 Hj.out) (by rw [HL.out]; exact HLT.out)
      dsimp only at hy
      rw [HQ.out] at hy
      gi_wp2
      refine hRR.mono ?_
      rintro e W' (⟨rfl, hJ', hk'⟩ | ⟨rfl, hF⟩)
      · have HJ' := Lib.hid hJ'
        have HB' := Lib.hid ((HB.out.drew).and hk')
        have g2' : W'.cell? ⟨bn, 0, none⟩ = some (.int .i64 5) := HB'.out.cell HC2.out HNB.out.2
        clear hJ' hk' hy hRR d1 g1 g2
        gi_wp2
        have h2 := HLT.out
        have h3 := HQ.out
        refine ⟨⟨j + 1, pre ++ [⟨j, h2⟩], ?_, by omega, by rw [List.range_succ, List.map_append, HP.out]; rfl, HJ'.out, HB'.out⟩, by simp [RowKit.intOf]; omega⟩
        rw [← h3]
        go_num
      · have HX := Lib.hid hF
        clear hy hRR d1 g1 g2 hF
        gi_wp2
        refine bodyPost_ret (results_none rfl _ _ _) rfl ?_
        exact ⟨⟨_, rfl⟩, .inr ⟨_, trivial, HX.out⟩⟩
    · have hmn : j = k := by omega
      have d1 : decide (q < m) = false := decide_eq_false (by omega)
      have HMN := Lib.hid hmn
      clear hlt hmn hq HM2 hj hm20
      gi_wp2
      go_end0
      exact ⟨⟨_, rfl⟩, .inl ⟨pre, HP.out.trans (congrArg List.range HMN.out), Hj.out⟩⟩
theorem chunk_stops (S : Nat → Prop) (k bs bn b off cap : Nat) (ad : Option Addr) (nd : Nat) (hnd : 1 ≤ nd) (hk : k ≤ 4) (hcap : 5 * k ≤ cap) (had : 0 < k → ad = some ⟨b, off, none⟩) (hbs : ¬ S bs) (hbn : ¬ S bn) (w : World)
    (c1 : w.cell? ⟨bs, 0, none⟩ = some (.slice ad (5 * k) cap)) (c2 : w.cell? ⟨bn, 0, none⟩ = some (.int .i64 5)) :
    SeqStopsK Fence.wide nd Tryz.prog 101 #[.pointer (some ⟨bs, 0, none⟩), .pointer (some ⟨bn, 0, none⟩)] (fun y : Pc k => #[.slice (some ⟨b, off + 5 * y.1, none⟩) 5 5]) (Kept S)
      (fun ys => ys.map Subtype.val = List.range k) (fun _ => True) k w := by
  intro lp J Jx W hW hJ hJx hY hj0
  have hk0 : Kept No w W := Kept.of_below hW
  exact chunk1_in S k bs bn b off cap ad lp nd hnd hk hcap had hbs hbn J Jx (fun pre W q h => hJ pre W (W.drewN q) none h ⟨rfl, rfl, rfl, Nat.le_refl _, fun _ _ _ => rfl⟩ (fun r e => by cases e)) hY W (hk0.cell c1 (not_no _)) (hk0.cell c2 (not_no _)) hj0
end Go.Proofs.YtclgoilfclmibaaGreatDoor
