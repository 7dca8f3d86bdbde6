/-
  Regions that draw their order, inside a round of a range over a function: by the wide fence outside of any round. And an append whose source is whatever reads, inside a fence.
-/
import Derived.Test.YtclgoilfclmibaaGreatDoorLib
import Derived.RangeFuncNested
import Derived.RangeFuncCalls
import Derived.Shelf.RegionOpen
import Derived.OwnWalkIn
import Derived.TacticsInMore
set_option linter.unusedVariables false
set_option linter.unusedSimpArgs false
namespace Go.Zn
open Go Go.RowKit

theorem uponIn_round {n l : Nat} {P : Program} {o : Oper} {a : Act} {K : Act → World → Prop} {Q : Exit → Act → World → Prop} {r : Result Next} (h : o.uponIn Fence.wide n P a K Q r) : o.uponIn (Fence.wide.inRound l) n P a K Q r := by
  cases r with
  | ok x w' => cases x <;> exact h
  | halt x w' => cases x <;> exact h
theorem wpOpIn_round {n l : Nat} {P : Program} {ops : Array Oper} {Q : Exit → Act → World → Prop} (hnd : ∀ (i : Nat) (o : Oper) c, ops[i]? = some o → o.op ≠ .defer c) {i : Nat} {K : Act → World → Prop} {a : Act} {w : World}
    (h : wpOpIn Fence.wide n P ops Q i K a w) : wpOpIn (Fence.wide.inRound l) n P ops Q i K a w := by
  unfold wpOpIn at *
  cases ho : ops[i]? with
  | none => rw [ho] at h; exact h
  | some o =>
    rw [ho] at h
    simp only at h ⊢
    split
    · rename_i hw
      rw [if_pos hw] at h
      refine ⟨fun _ _ => trivial, ?_⟩
      have h2 := h.2
      rw [Oper.semAt_eq _ _ _ (fun c => hnd i o c ho)] at h2 ⊢
      exact uponIn_round h2
    · rename_i hw
      rw [if_neg hw] at h
      exact ⟨fun _ _ => trivial, h.2⟩
theorem wpAnyIn_round {n l : Nat} {P : Program} {md : Region.Mode} {ops : Array Oper} {Q : Exit → Act → World → Prop} (hnd : ∀ (i : Nat) (o : Oper) c, ops[i]? = some o → o.op ≠ .defer c) :
    ∀ (fuel : Nat) (listed : Array Bool) (a : Act) (w : World), wpAnyIn Fence.wide n P md ops Q fuel listed a w → wpAnyIn (Fence.wide.inRound l) n P md ops Q fuel listed a w
  | 0, _, _, _, h => h
  | fuel + 1, listed, a, w, h => ⟨h.1, fun i hi => wpOpIn_round hnd (wpOpIn_mono (fun a w hk => wpAnyIn_round hnd fuel _ a w hk) (h.2 i hi))⟩
/-- does an operation defer? -/
def defers : Op → Bool
  | .defer _ => true
  | _ => false
theorem no_defer {ops : Array Oper} (h : ops.toList.all (fun o => !defers o.op) = true) : ∀ (i : Nat) (o : Oper) c, ops[i]? = some o → o.op ≠ .defer c := by
  intro i o c hi he
  have h1 := List.all_eq_true.1 h o (by rw [← Array.getElem?_toList] at hi; exact List.mem_of_getElem? hi)
  rw [he] at h1
  cases h1
theorem wpIn_region_round {n l id : Nat} {P : Program} {ops : Array Oper} {Q : Exit → Act → World → Prop} {a : Act} {w : World} (hm : P.follows .mixedOrders = true) (hnd : ops.toList.all (fun o => !defers o.op) = true)
    (h : wpAnyIn Fence.wide n P .any ops Q ops.size (Array.replicate ops.size false) a w.drew) : (Code.region id ops true).wpIn (Fence.wide.inRound l) n P Q a w :=
  wpIn_region_any hm (wpAnyIn_round (no_defer hnd) _ _ _ _ h)

/-- an append inside a region that draws, as one step -/
theorem step_append_rd {F : Fence} {nd : Nat} {P : Program} {ops : Array Oper} {o : Oper} {a : Act} {w : World} {K : Act → World → Prop} {Q : Exit → Act → World → Prop} {E : Prop} (hgd : o.guard = none) {s x : Operand} {t : TypeId}
    (ho : o.op = .call { callee := .builtin .append, args := #[s, x], argTypes := #[t, t] }) {v xv : Value} (hs : a.eval s = v) (hx : a.eval x = xv)
    {e size bytes : Nat} {z : Value} (ei : SliceOf P t e size bytes z) {base n m : Nat} {xs news : List Value} {B : Nat → Prop}
    (hown : w.ownsRow base e size v n xs) (hsrc : Rd w B size xv m news) (h1 : ∀ u ∈ news, u.oneCell' = true) (hbytes : (n + m) * bytes ≤ 140737488355328) (hbase : base ≤ w.heap.size)
    (h : ∀ v' w', w'.ownsRow base e size v' (n + m) (xs ++ news) → w.grownBy w' v.ownBlock → (v' = .slice none 0 0 ↔ v = .slice none 0 0 ∧ m = 0) → K (a.put o.dst v') w') :
    if Region.wanted o (yielded ops a.tmps) = true then Oper.wpIn F nd P o a w K Q else E := by
  have hw : Region.wanted o (yielded ops a.tmps) = true := by simp [Region.wanted, hgd]
  rw [if_pos hw]
  have hp : ∀ c, o.op ≠ .defer c := fun c e => by rw [ho] at e; cases e
  refine ⟨(by simp [Oper.about, ho, resolve, Target.leads, Sem.run_pure]), ?_⟩
  rw [Oper.semAt_plain F _ _ hp]
  obtain ⟨i, hi, hz0, hz1, hz2⟩ := ei.hi
  have hml : n + m ≤ maxLen := small_maxLen ei.hb hbytes
  obtain ⟨hl, hm, hv⟩ := hsrc
  rcases hv with ⟨hv, hm0⟩ | ⟨b, off, cap, hv, hc, hb, hcell⟩
  · subst hm0
    have hnews : news = [] := List.eq_nil_of_length_eq_zero (by rw [hl]; simp)
    subst hnews
    rcases hv with hv | ⟨a0, hv⟩
    · have hrun := run_append_owned_none (P := P) (w := w) base t o.type e i size ei.ht hi v n xs hown
      simp [execOp, ho, resolve, invoke, builtin, hs, hx, hv, hrun, Result.andThen, Oper.uponIn]
      exact h v w (by simpa using hown) (World.grownBy.refl w _) (by simp)
    · obtain ⟨v', w', hr, h2, h3, h4⟩ := run_append_own (P := P) w base t o.type e i z size bytes ei.ht hi hz0 hz1 hz2 ei.hz ei.hs v n xs hown a0 0 0 [] hl (fun j u hj => by simp at hj) h1 hml hbytes hbase
      simp [execOp, ho, resolve, invoke, builtin, hs, hx, hv, hr, Result.andThen, Oper.uponIn]
      exact h v' w' h2 h3 h4
  · obtain ⟨v', w', hr, h2, h3, h4⟩ := run_append_own (P := P) w base t o.type e i z size bytes ei.ht hi hz0 hz1 hz2 ei.hz ei.hs v n xs hown ⟨b, off, none⟩ m cap news hl (fun j u hj => by rw [Addr.add_lit]; exact hcell j u hj) h1 hml hbytes hbase
    simp [execOp, ho, resolve, invoke, builtin, hs, hx, hv, hr, Result.andThen, Oper.uponIn]
    exact h v' w' h2 h3 h4
/-- the same outside of a fence -/
theorem step_append_rdo {P : Program} {ops : Array Oper} {o : Oper} {a : Act} {w : World} {K : Act → World → Prop} {Q : Exit → Act → World → Prop} {E : Prop} (hgd : o.guard = none) {s x : Operand} {t : TypeId}
    (ho : o.op = .call { callee := .builtin .append, args := #[s, x], argTypes := #[t, t] }) {v xv : Value} (hs : a.eval s = v) (hx : a.eval x = xv)
    {e size bytes : Nat} {z : Value} (ei : SliceOf P t e size bytes z) {base n m : Nat} {xs news : List Value} {B : Nat → Prop}
    (hown : w.ownsRow base e size v n xs) (hsrc : Rd w B size xv m news) (h1 : ∀ u ∈ news, u.oneCell' = true) (hbytes : (n + m) * bytes ≤ 140737488355328) (hbase : base ≤ w.heap.size)
    (h : ∀ v' w', w'.ownsRow base e size v' (n + m) (xs ++ news) → w.grownBy w' v.ownBlock → (v' = .slice none 0 0 ↔ v = .slice none 0 0 ∧ m = 0) → K (a.put o.dst v') w') :
    if Region.wanted o (yielded ops a.tmps) = true then Oper.wp P o a w K Q else E := by
  have hw : Region.wanted o (yielded ops a.tmps) = true := by simp [Region.wanted, hgd]
  rw [if_pos hw]
  obtain ⟨i, hi, hz0, hz1, hz2⟩ := ei.hi
  have hml : n + m ≤ maxLen := small_maxLen ei.hb hbytes
  obtain ⟨hl, hm, hv⟩ := hsrc
  unfold Oper.wp
  rcases hv with ⟨hv, hm0⟩ | ⟨b, off, cap, hv, hc, hb, hcell⟩
  · subst hm0
    have hnews : news = [] := List.eq_nil_of_length_eq_zero (by rw [hl]; simp)
    subst hnews
    rcases hv with hv | ⟨a0, hv⟩
    · have hrun := run_append_owned_none (P := P) (w := w) base t o.type e i size ei.ht hi v n xs hown
      simp [execOp, ho, resolve, invoke, builtin, hs, hx, hv, hrun, Result.andThen, Oper.upon]
      exact h v w (by simpa using hown) (World.grownBy.refl w _) (by simp)
    · obtain ⟨v', w', hr, h2, h3, h4⟩ := run_append_own (P := P) w base t o.type e i z size bytes ei.ht hi hz0 hz1 hz2 ei.hz ei.hs v n xs hown a0 0 0 [] hl (fun j u hj => by simp at hj) h1 hml hbytes hbase
      simp [execOp, ho, resolve, invoke, builtin, hs, hx, hv, hr, Result.andThen, Oper.upon]
      exact h v' w' h2 h3 h4
  · obtain ⟨v', w', hr, h2, h3, h4⟩ := run_append_own (P := P) w base t o.type e i z size bytes ei.ht hi hz0 hz1 hz2 ei.hz ei.hs v n xs hown ⟨b, off, none⟩ m cap news hl (fun j u hj => by rw [Addr.add_lit]; exact hcell j u hj) h1 hml hbytes hbase
    simp [execOp, ho, resolve, invoke, builtin, hs, hx, hv, hr, Result.andThen, Oper.upon]
    exact h v' w' h2 h3 h4
end Go.Zn
