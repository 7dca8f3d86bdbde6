/-
  The iterator over the events that are kept, and Since.
-/
import Derived.Test.YtkdienebinnopaaWalkC
import Derived.RangeFuncNested
import Derived.RangeFuncBound
import Derived.RangeFuncCalls
import Derived.RangeFuncLeaves
import Derived.RangeFuncBox
import Derived.Shelf.Abstract
import Derived.Shelf.RegionOpen
import Derived.OwnWalkIn
import Derived.TacticsInMore
import Derived.LoopNIn
import Derived.LoopIn
import Derived.Lib.MinMax
namespace Go.Proofs.Ytkdienebinnopaa
open Go.RowKit Go.Zn Go.Shelf
attribute [local go_sem] Oper.semAt_some

theorem kept_in (F : Fence) (n : Nat) (h29 : F.fn 29) (hro : F.round = none) (p v : Value) (ad : Option Addr) (x : Nat) (hp : p = .pointer ad) (hv : v = .int .u32 x) (w : World) :
    CallsIn F n Try.prog 29 #[p, v] w fun e w' => e = .returned (.func (.func 34) #[] #[.pointer (some ⟨w.heap.size + 1, 0, none⟩), .pointer (some ⟨w.heap.size, 0, none⟩)]) ∧
      w' = (w.alloc (.cells #[p] 22)).alloc (.cells #[v] 29) := by
  subst hp; subst hv
  refine callsIn_of_wp Try.func29 rfl h29 ?_ hro
  simp only [Try.ntmps29, List.size_toArray, List.length_cons, List.length_nil, Nat.reduceAdd, Nat.reduceSub, Array.replicate_succ, Array.replicate_zero, List.push_toArray, List.append_toArray, List.nil_append, List.cons_append]
  gi_wp2
  go_ret
  exact ⟨rfl, rfl⟩

/-- The ring's value at an event's number. -/
def ringAt (ring : Array Value) (k m : Nat) : Value := ring.getD (m % k) undef
/-- The iterator's numbers. -/
abbrev Num (s n : Nat) := { m : Nat // s ≤ m ∧ m < n }

/-- what a round may touch: the variable e0, and new blocks -/
def Sx (e0 n0 : Nat) : Nat → Prop := fun i => i = e0 ∨ n0 ≤ i
theorem not_sx {e0 n0 i : Nat} (h : i < n0) (h2 : i ≠ e0) : ¬ Sx e0 n0 i := fun e => by rcases e with e | e <;> omega
set_option maxRecDepth 100000 in
set_option maxHeartbeats 800000 in
theorem kept1_in (e0 n0 b rb k f n a l x : Nat) (ring : Array Value) (lp Bn Bf : Nat) (nd : Nat) (hnd : 1 ≤ nd)
    (hb : b < n0) (hrb : rb < n0) (hbe : b ≠ e0) (hrbe : rb ≠ e0) (hk : 1 ≤ k) (hk2 : k ≤ 1000) (hn : n < 4294967295) (hfn : f ≤ n) (hx : x < 4294967296)
    (J Jx : List (Num (max x f) n) → World → Prop) (hJd : ∀ pre W q, J pre W → J pre (World.drewN W q))
    (hY : ∀ pre (y : Num (max x f) n) W, J pre W → pre.length < n - max x f → YieldAt Fence.wide (nd - 1) Try.prog lp #[.int .u32 (y.1 : Nat), ringAt ring k y.1] W fun e W' =>
      (e = .returned (.bool true) ∧ J (pre ++ [y]) W' ∧ Kept (Sx e0 n0) W W') ∨ (e = .returned (.bool false) ∧ Jx (pre ++ [y]) W'))
    (W : World) (hBf : Bf < n0) (hBfe : Bf ≠ e0) (c1 : W.cell? ⟨Bn, 0, none⟩ = some (.int .u32 (x : Nat))) (c2 : W.cell? ⟨Bf, 0, none⟩ = some (.pointer (some ⟨b, 0, none⟩))) (hf : HasFeed W b rb k f n a l) (hr : W.heap[rb]? = some (.cells ring 36 (0, 0))) (hrs : k ≤ ring.size) (h0 : J [] W) :
    CallsIn Fence.wide nd Try.prog 34 #[.func (.yield lp) #[] #[], .pointer (some ⟨Bn, 0, none⟩), .pointer (some ⟨Bf, 0, none⟩)] W fun e W' => (∃ v, e = .returned v) ∧
      ((∃ ys : List (Num (max x f) n), ys.map Subtype.val = List.range' (max x f) (n - max x f) ∧ J ys W') ∨ (∃ pre : List (Num (max x f) n), True ∧ Jx pre W')) := by
  have d1 := hf.c1
  refine callsIn_of_wp Try.func34 rfl trivial ?_ rfl
  simp only [Try.ntmps34, List.size_toArray, List.length_cons, List.length_nil, Nat.reduceAdd, Nat.reduceSub, Array.replicate_succ, Array.replicate_zero, List.push_toArray, List.append_toArray, List.nil_append, List.cons_append]
  gi_wp2
  gi_region
  all_goals gi_wp2
  have hM : (max (x : Int) (f : Int)) = ((max x f : Nat) : Int) := by omega
  rw [hM]
  gi_loopw [4] (fun i wr => ∃ (m : Nat) (pre : List (Num (max x f) n)), i = .int .u32 (m : Nat) ∧ max x f ≤ m ∧ m ≤ max n (max x f) ∧ pre.map Subtype.val = List.range' (max x f) (m - max x f) ∧ J pre wr ∧ Kept (Sx e0 n0) W wr) (fun i _ => n - (intOf i).toNat)
  case atStart => exact ⟨max x f, [], rfl, Nat.le_refl _, by omega, by simp, hJd [] W 1 h0, (Kept.refl _ _).drew⟩
  case round =>
    obtain ⟨m, pre, rfl, hm1, hm2, hpre, hj, hB⟩ := hrel
    have g2 : wr.cell? ⟨Bf, 0, none⟩ = some (.pointer (some ⟨b, 0, none⟩)) := hB.cell c2 (not_sx hBf hBfe)
    have hf' : HasFeed wr b rb k f n a l := hf.keep hB (not_sx hb hbe)
    have hr' : wr.heap[rb]? = some (.cells ring 36 (0, 0)) := hB.obj hr (not_sx hrb hrbe)
    have g3 := hf'.c2
    have hlen : pre.length = m - max x f := by have := congrArg List.length hpre; simpa using this
    have hm3 : (m : Int) < 4294967296 := by omega
    have HP := Lib.hid hpre
    have HL := Lib.hid hlen
    have HF := Lib.hid hf'
    have HR := Lib.hid hr'
    have HS := Lib.hid hrs
    have HY := Lib.hid hY
    have HJ := Lib.hid hJd
    have Hj := Lib.hid hj
    have HB := Lib.hid hB
    have HM1 := Lib.hid hm1
    have HM2 := Lib.hid hm2
    clear hpre hlen hf' hr' hrs hY hJd hj hB c1 c2 hf hr d1 hM h0 hm1 hm2
    by_cases hlt : m < n
    · have hd : decide (m < n) = true := by simp; exact hlt
      have hm4 : (m : Int) < 4294967295 := by omega
      have HLT := Lib.hid hlt
      clear hlt
      have hc : wr.cell? ⟨rb, m % k, none⟩ = some (ringAt ring k m) := by
        rw [obj_cell HR.out]
        have h1 : m % k < ring.size := by have := HS.out; have := Nat.mod_lt m hk; omega
        simp [ringAt, Array.getD, h1]
      gi_wp2_with (refine ⟨trivial, ?_⟩; gi_at_call 32; refine (callsIn_wide.2 (at_any b rb k f n a l m _ HF.out (by omega) hk2 (by omega))).mono ?_; rintro e w' ⟨rfl, q, rfl⟩)
      obtain ⟨fn, tmps, assign, body, hy, hR⟩ := HY.out pre ⟨m, HM1.out, HLT.out⟩ (wr.drewN q) (HJ.out _ _ q Hj.out) (by have := HL.out; have := HLT.out; have := HM1.out; omega)
      dsimp only at hy
      gi_wp2
      rw [hy]
      gi_wp2
      refine hR.mono ?_
      rintro e W' (⟨rfl, hJ', hk'⟩ | ⟨rfl, hF⟩)
      · have HJ' := Lib.hid hJ'
        have HK' := Lib.hid hk'
        clear hJ' hk' hy hR hc hd g2 g3
        gi_wp2
        have h1 := HM1.out
        have h2 := HLT.out
        have h3 : m + 1 - max x f = (m - max x f) + 1 := by omega
        have h4 : max x f + (m - max x f) = m := by omega
        exact ⟨⟨m + 1, pre ++ [⟨m, h1, h2⟩], by go_num, by omega, by omega, by rw [h3, List.range'_concat, List.map_append, HP.out]; simp [h4], HJ'.out, HB.out.and HK'.out.of_drewN⟩, by simp [intOf]; omega⟩
      · have HX := Lib.hid hF
        clear hy hR hc hd g2 g3 hF
        gi_wp2
        refine bodyPost_ret (results_none rfl _ _ _) rfl ?_
        exact ⟨⟨_, rfl⟩, .inr ⟨_, trivial, HX.out⟩⟩
    · have hd : decide (m < n) = false := by simp; omega
      have HLT := Lib.hid hlt
      clear hlt
      gi_wp2
      go_end0
      have h1 := HM1.out
      have h2 := HM2.out
      have h3 := HLT.out
      have h4 : n - max x f = m - max x f := by omega
      exact ⟨⟨_, rfl⟩, .inl ⟨pre, by rw [h4]; exact HP.out, Hj.out⟩⟩
/-- The iterator's contract, in the law's own words. -/
theorem kept1_stops (e0 n0 b rb k f n a l x : Nat) (ring : Array Value) (Bn Bf : Nat) (nd : Nat) (hnd : 1 ≤ nd)
    (hb : b < n0) (hrb : rb < n0) (hbe : b ≠ e0) (hrbe : rb ≠ e0) (hk : 1 ≤ k) (hk2 : k ≤ 1000) (hn : n < 4294967295) (hfn : f ≤ n) (hx : x < 4294967296)
    (w : World) (hn0 : n0 = w.heap.size) (hBf : Bf < n0) (hBfe : Bf ≠ e0) (c1 : w.cell? ⟨Bn, 0, none⟩ = some (.int .u32 (x : Nat))) (c2 : w.cell? ⟨Bf, 0, none⟩ = some (.pointer (some ⟨b, 0, none⟩))) (hf : HasFeed w b rb k f n a l) (hr : w.heap[rb]? = some (.cells ring 36 (0, 0))) (hrs : k ≤ ring.size) :
    SeqStopsK Fence.wide nd Try.prog 34 #[.pointer (some ⟨Bn, 0, none⟩), .pointer (some ⟨Bf, 0, none⟩)] (fun y : Num (max x f) n => #[.int .u32 (y.1 : Nat), ringAt ring k y.1]) (Kept (Sx e0 n0))
      (fun ys => ys.map Subtype.val = List.range' (max x f) (n - max x f)) (fun _ => True) (n - max x f) w := by
  intro lp J Jx W hW hJ hJx hY hj0
  have hk0 : Kept No w W := Kept.of_below hW
  subst hn0
  exact kept1_in e0 w.heap.size b rb k f n a l x ring lp Bn Bf nd hnd hb hrb hbe hrbe hk hk2 hn hfn hx J Jx (fun pre W q h => hJ pre W (W.drewN q) none h ⟨rfl, rfl, rfl, Nat.le_refl _, fun _ _ _ => rfl⟩ (fun r e => by cases e)) hY W hBf hBfe (hk0.cell c1 (not_no _)) (hk0.cell c2 (not_no _)) (hf.keep hk0 (not_no _)) (hk0.obj hr (not_no _)) hrs hj0
end Go.Proofs.Ytkdienebinnopaa
