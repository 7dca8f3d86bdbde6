/-
  Pool: effects out of bytes.
-/
import Derived.Test.YtclgoilfclmibaaGreatDoorCk
import Derived.Test.YtclgoilfclmibaaGreatDoorLibS
import Derived.RangeFuncWrites
set_option linter.unusedVariables false
set_option linter.unusedSimpArgs false
namespace Go.Proofs.YtclgoilfclmibaaGreatDoor
open Go.RowKit Go.Zn Go.Shelf
attribute [local go_sem] Oper.semAt_some

def effAt (r : List UInt8) (j : Nat) : Eff := ⟨(r.getD (5 * j) 0).toNat, (r.getD (5 * j + 1) 0).toNat, (r.getD (5 * j + 2) 0).toNat, (r.getD (5 * j + 3) 0).toNat, (r.getD (5 * j + 4) 0).toNat⟩
theorem effsOf_at : ∀ (k : Nat) (r : List UInt8), 5 * k ≤ r.length → effsOf (r.take (5 * k)) = (List.range k).map (effAt r)
  | 0, r, _ => rfl
  | k + 1, r, h => by
    match r, h with
    | a0 :: a1 :: a2 :: a3 :: a4 :: t, h =>
      have ih := effsOf_at k t (by simp at h; omega)
      rw [show 5 * (k + 1) = 5 * k + 1 + 1 + 1 + 1 + 1 by omega, List.take_succ_cons, List.take_succ_cons, List.take_succ_cons, List.take_succ_cons, List.take_succ_cons]
      show (⟨a0.toNat, a1.toNat, a2.toNat, a3.toNat, a4.toNat⟩ : Eff) :: effsOf (t.take (5 * k)) = _
      rw [ih, List.range_succ_eq_map, List.map_cons, List.map_map]
      refine congrArg (List.cons _) ?_
      apply List.map_congr_left
      intro j _
      have e : ∀ i, (a0 :: a1 :: a2 :: a3 :: a4 :: t).getD (5 * (j + 1) + i) 0 = t.getD (5 * j + i) 0 := fun i => by
        rw [show 5 * (j + 1) + i = 5 * j + i + 1 + 1 + 1 + 1 + 1 by omega]
        simp only [List.getD_cons_succ]
      have e0 := e 0
      simp only [Nat.add_zero] at e0
      show effAt t j = effAt _ (j + 1)
      unfold effAt
      rw [e0, e 1, e 2, e 3, e 4]
def EDecPost (q : Option (List Eff × Nat)) (w : World) (e : Ending) (w' : World) : Prop := match q with
  | some (l, k) => ∃ v, e = .returned (.tuple #[v, .int .i64 (k : Nat), .int .i64 0]) ∧ OwnE w' w.heap.size v l ∧ Kept No w w'
  | none => ∃ er, e = .returned (.tuple #[.slice none 0 0, .int .i64 0, .int .i64 er]) ∧ er ≠ 0 ∧ Kept No w w'
theorem slice_lh {b off m cap : Nat} (hm : m ≤ cap) {k : Nat} (hk : 1 + 5 * k ≤ m) : ∃ ad' cap', (∀ W, (Instr.sliceAt 51 (.slice (some ⟨b, off, none⟩) m cap) (some (.int .i64 1)) (some (.int .i64 (1 + 5 * (k : Int)))) none).run Tryz.prog W = .ok (.slice ad' (5 * k) cap') W) ∧ 5 * k ≤ cap' ∧ (0 < k → ad' = some ⟨b, off + 1, none⟩) := by
  have hsz : ∀ W, (sizeOf (Tryz.prog.elem 51)).run Tryz.prog W = .ok 1 W := fun W => by kernel_rfl
  have hel : Tryz.prog.underlying 51 = some (.slice (Tryz.prog.elem 51)) := by kernel_rfl
  refine ⟨if cap = 1 then some ⟨b, off, none⟩ else some ⟨b, off + 1, none⟩, cap - 1, fun W => ?_, by omega, fun h0 => by rw [if_neg (by omega)]⟩
  rw [run_sliceAt_slice W _ _ _ _ _ hel, run_slice_lh W _ _ _ _ hel .i64 .i64 _ _ (by omega) (by omega) (by omega), hsz]
  show Result.ok _ W = _
  unfold sliced
  rw [show (1 + 5 * (k : Int)).toNat = 1 + 5 * k by omega, show (1 : Int).toNat = 1 from rfl, show 1 + 5 * k - 1 = 5 * k by omega]
  by_cases e : cap = 1
  · rw [if_pos e, if_pos e]
  · rw [if_neg e, if_neg e]
    show Result.ok (Value.slice (some ((⟨b, off, none⟩ : Addr).add (1 * 1))) _ _) W = _
    rw [Addr.add_mid]
/-- what the rounds have gathered -/
def DeI (n0 : Nat) (w : World) (r : List UInt8) {k : Nat} (pre : List (Pc k)) (W : World) : Prop :=
  (∃ v, Boxed W n0 43 v ∧ W.ownsRow (n0 + 3) 50 5 v (pre.map fun y => effAt r y.1).length (effsCs (pre.map fun y => effAt r y.1)) ∧ True) ∧ Below n0 w W ∧ n0 + 3 ≤ W.heap.size
theorem deI_own (n0 B : Nat) (w : World) (r : List UInt8) {k : Nat} (hn : n0 ≤ w.heap.size) (hB : n0 ≤ B) : OwnFrom B (DeI n0 w r (k := k)) := by
  have h1 := OwnFrom.and (Own.from (holdsRow_own (n0 + 3) n0 43 50 5 (fun pre : List (Pc k) => (pre.map fun y => effAt r y.1).length) (fun pre => effsCs (pre.map fun y => effAt r y.1)) (fun _ _ => True)) B) (ownFrom_below hn hB)
  intro pre W W' row h hg hr
  have h2 := h1 pre W W' row ⟨h.1, h.2.1⟩ hg hr
  exact ⟨h2.1, h2.2, Nat.le_trans h.2.2 hg.size⟩
theorem rd_e1 (W : World) (a b c d e : Int) (t : TypeId) : Rd (W.alloc (.cells #[.int .i64 a, .int .i64 b, .int .i64 c, .int .i64 d, .int .i64 e] t)) (fun i => i = W.heap.size) 5 (.slice (some ⟨W.heap.size, 0, none⟩) 1 1) 1 [.int .i64 a, .int .i64 b, .int .i64 c, .int .i64 d, .int .i64 e] :=
  ⟨rfl, by simp [maxLen], .inr ⟨W.heap.size, 0, 1, rfl, Nat.le_refl _, fun _ => rfl, fun j x hj => by
    rw [Nat.zero_add, obj_cell (heap_alloc_new W _)]
    match j, hj with
    | 0, hj => exact hj
    | 1, hj => exact hj
    | 2, hj => exact hj
    | 3, hj => exact hj
    | 4, hj => exact hj⟩⟩
theorem keepsOthers_of {T : Nat → Prop} {W W' : World} (h : Kept T W W') (hT : ∀ k o, T k → W.heap[k]? = some o → o.isCells = true) : KeepsOthers W W' :=
  ⟨h.size, fun k o hk ho => h.obj hk (fun e => by rw [hT k o e hk] at ho; cases ho)⟩
theorem effsCs_snoc (l : List Eff) (e : Eff) : effsCs (l ++ [e]) = effsCs l ++ effCs e := by simp [effsCs]
theorem de_close {w W W2 : World} {n0 N k : Nat} {r : List UInt8} {pre : List (Pc k)} {y : Pc k} {v v2 : Value} {y0 y1 y2 y3 y4 : Nat} (hN : N ≤ n0 + 3)
    (hrow : W.ownsRow (n0 + 3) 50 5 v (pre.map fun y => effAt r y.1).length (effsCs (pre.map fun y => effAt r y.1))) (hbox : Boxed W n0 43 v) (hB : Below n0 w W ∧ n0 + 3 ≤ W.heap.size)
    (he : effAt r y.1 = ⟨y0, y1, y2, y3, y4⟩)
    (hown2 : W2.ownsRow (n0 + 3) 50 5 v2 ((pre.map fun y => effAt r y.1).length + 1) (effsCs (pre.map fun y => effAt r y.1) ++ [.int .i64 (y0 : Nat), .int .i64 (y1 : Nat), .int .i64 (y2 : Nat), .int .i64 (y3 : Nat), .int .i64 (y4 : Nat)]))
    (hg : (W.alloc (.cells #[.int .i64 (y0 : Nat), .int .i64 (y1 : Nat), .int .i64 (y2 : Nat), .int .i64 (y3 : Nat), .int .i64 (y4 : Nat)] 50)).drew.grownBy W2 v.ownBlock) :
    KeepsOthers W (W2.setCell ⟨n0, 0, none⟩ v2) ∧ Kept (Sx n0 N) W (W2.setCell ⟨n0, 0, none⟩ v2) ∧ DeI n0 w r (pre ++ [y]) (W2.setCell ⟨n0, 0, none⟩ v2) := by
  have kW2 : Kept (fun i => v.ownBlock = some i) W W2 := (((Kept.refl (fun i => v.ownBlock = some i) W).alloc _).drew).grown hg (fun k e _ => e)
  have kW3 : Kept (fun i => i = n0 ∨ v.ownBlock = some i) W (W2.setCell ⟨n0, 0, none⟩ v2) := (kW2.mono fun _ _ e => .inr e).setCell (p := ⟨n0, 0, none⟩) (fun _ => .inl rfl) _
  have hv : ∀ i, v.ownBlock = some i → n0 + 3 ≤ i ∧ i < W.heap.size := fun i e => hrow.lt i e
  refine ⟨keepsOthers_of kW3 (fun k o hk ho => ?_), kW3.mono (fun i _ e => ?_), ⟨v2, ?_, ?_, trivial⟩, ?_, ?_⟩
  · rcases hk with rfl | hk
    · rw [show W.heap[k]? = _ from hbox] at ho; cases ho; rfl
    · obtain ⟨_, ⟨hv', _⟩ | ⟨g, cap, cur, hv', _, hh, _⟩⟩ := hrow
      · subst hv'; cases hk
      · subst hv'; cases hk; rw [hh] at ho; cases ho; rfl
  · rcases e with e | e
    · exact .inl e
    · exact .inr (by have := (hv i e).1; omega)
  · have hb2 : Boxed W2 n0 43 v := kW2.obj hbox (fun e => by have := (hv _ e).1; omega)
    exact hb2.set v2
  · rw [List.map_append, List.map_singleton, effsCs_snoc, List.length_append, List.length_singleton, he]
    exact owned_kept hown2 ((Kept.refl (fun i => i = n0) W2).setCell (p := ⟨n0, 0, none⟩) (fun _ => rfl) _) (fun b _ e h => by have := (hown2.lt b e).1; omega)
  · exact hB.1.trans (kW3.below (fun i _ e => by rcases e with e | e; omega; have := (hv i e).1; omega) (by omega))
  · have := kW3.size; omega
theorem results67 {W : World} {tmps : Array Value} {g : Nat} {v : Value} (ht : tmps.getD 2 undef = .pointer (some ⟨g, 0, none⟩)) (hh : W.heap[g]? = some (.cells #[v] 43 (0, 0))) :
    (results Tryz.f80 tmps).run Tryz.prog W = .ok (.tuple #[v, tmps.getD 3 undef, tmps.getD 4 undef]) W := by
  have hr : Tryz.f80.results = #[.cell 2 43, .tmp 3, .tmp 4] := rfl
  have hl : (loadVar 43 ⟨g, 0, none⟩).run Tryz.prog W = .ok v W := by
    have hc : W.cell? ⟨g, 0, none⟩ = some v := (obj_cell hh 0).trans rfl
    simp [loadVar, isAgg, Sem.run_bind, run_underlying Tryz.underlying43, go_sem, hc]
  have ht' : tmps[2]?.getD undef = .pointer (some ⟨g, 0, none⟩) := by simpa using ht
  simp only [results, hr]
  simp [Sem.run_bind, Result.andThen, asAddr, ht', hl]
set_option maxRecDepth 100000 in
set_option maxHeartbeats 8000000 in
theorem edecode_ok {x : UInt8} {r : List UInt8} (hx : x.toNat ≤ 4) (hr : 5 * x.toNat ≤ r.length) {w : World} {B : Nat → Prop} {v : Value} (hv : Rd w B 1 v (x :: r).length (bts (x :: r))) :
    Calls Tryz.prog 80 #[v] w (EDecPost (edec (x :: r)) w) := by
  obtain ⟨_, hml, ⟨_, h0⟩ | ⟨b, off, cap, rfl, hcap, _, hc⟩⟩ := hv
  · simp at h0
  obtain ⟨k, hk⟩ : ∃ k, x.toNat = k := ⟨_, rfl⟩
  rw [hk] at hx hr
  have hlen : (x :: r).length = 1 + r.length := by rw [List.length_cons]; omega
  obtain ⟨m, hm⟩ : ∃ m, (x :: r).length = m := ⟨_, rfl⟩
  rw [hm] at hml hcap hlen ⊢
  obtain ⟨ad', cap', hsl, hc5, had⟩ := slice_lh (b := b) (off := off) hcap (k := k) (by omega)
  have g0 : w.cell? ⟨b, off, none⟩ = some (.int .u8 (k : Nat)) := by rw [← hk]; exact hc 0 _ rfl
  have hED : edec (x :: r) = (if allE ((List.range k).map (effAt r)) then some ((List.range k).map (effAt r), 1 + 5 * k) else none) := by
    simp only [edec]
    rw [hk, if_neg (by omega), if_neg (by omega), effsOf_at k r hr]
  have hblt : b < w.heap.size := block_lt_of_cell g0
  have HC := Lib.hid (fun (j : Nat) (h : j < 5 * k) => (show w.cell? ⟨b, off + 1 + j, none⟩ = some (.int .u8 ((r.getD j 0).toNat : Nat)) from by
    have := hc (j + 1) (.int .u8 ((r.getD j 0).toNat : Nat)) (by rw [bts_get, List.getElem?_cons_succ, List.getD_eq_getElem?_getD, List.getElem?_eq_getElem (show j < r.length by omega)]; rfl)
    rw [show off + 1 + j = off + (j + 1) by omega]
    exact this))
  have HED := Lib.hid hED
  have HAD := Lib.hid had
  have d1 : decide ((m : Int) < 1 + 5 * (k : Int)) = false := decide_eq_false (by omega)
  have hm1 : 1 + 5 * k ≤ m := by omega
  have hm0 : ((m : Int) == 0) = false := by simp; omega
  have hk0 : (k : Int) < 256 := by omega
  have hk4 : decide ((k : Int) > 4) = false := decide_eq_false (by omega)
  obtain ⟨b1, hb1⟩ : ∃ b, allE ((List.range k).map (effAt r)) = b := ⟨_, rfl⟩
  clear hc hk hlen hED had hml hr hm
  refine (callsIn_wide (n := 9)).1 ?_
  refine callsIn_of_wp_marks Tryz.func80 rfl trivial ?_ rfl
  simp only [Tryz.ntmps80, List.size_toArray, List.length_cons, List.length_nil, Nat.reduceAdd, Nat.reduceSub, Array.replicate_succ, Array.replicate_zero, List.push_toArray, List.append_toArray, List.nil_append, List.cons_append]
  gi_wp2_with (refine ⟨trivial, ?_⟩; gi_at_call 95; refine (callsIn_wide.2 (chunk_any _ _ _ _)).mono ?_; rintro e w' ⟨rfl, rfl⟩)
  obtain ⟨w3, hw3⟩ : ∃ w3, ((w.alloc (.cells #[.slice none 0 0] 43)).alloc (.cells #[.slice ad' (5 * k) cap'] 51)).alloc (.cells #[.int .i64 5] 3) = w3 := ⟨_, rfl⟩
  have k3 : Kept No w w3 := by rw [← hw3]; exact (((Kept.refl No w).alloc _).alloc _).alloc _
  have z3 : w3.heap.size = w.heap.size + 3 := by rw [← hw3]; simp
  have bO : Boxed w3 w.heap.size 43 (.slice none 0 0) := by rw [← hw3]; exact obj_alloc (obj_alloc (heap_alloc_new w _) _) _
  have e1 : w3.cell? ⟨w.heap.size + 1, 0, none⟩ = some (.slice ad' (5 * k) cap') := by rw [← hw3, World.cell?_alloc_past _ _ _ (by simp), World.cell?_alloc_at _ _ _ _ (by simp)]; rfl
  have e2 : w3.cell? ⟨w.heap.size + 1 + 1, 0, none⟩ = some (.int .i64 5) := by rw [← hw3, World.cell?_alloc_at _ _ _ _ (by simp)]; rfl
  have hbel : Below w.heap.size w w3 := k3.to_below
  rw [hw3]
  clear hw3 k3
  refine wpIn_rangeFunc_ownF (w0 := w3) rfl (by decide) (gf := 101) (lb := #[.pointer (some ⟨w.heap.size + 1, 0, none⟩), .pointer (some ⟨w.heap.size + 1 + 1, 0, none⟩)]) rfl trivial (enters_of Tryz.func101 (by kernel_rfl) rfl)
    (chunk_stops (Sx w.heap.size w3.heap.size) k (w.heap.size + 1) (w.heap.size + 1 + 1) b (off + 1) cap' ad' 8 (by decide) hx hc5 HAD.out (not_sx (by omega) (by omega)) (not_sx (by omega) (by omega)) w3 e1 e2)
    (fun h k => h.and k) (fun W lb o o' hl hh ho hw => (Kept.refl _ W).grown (grownBy_putObj' W lb o') (fun k e _ => by cases e; exact .inr hl)) (Below.refl _ _) (fun _ => rfl)
    (DeI w.heap.size w r) (fun _ _ _ => False) (deI_own _ _ w r (Nat.le_refl _) (by omega)) (fun _ _ _ _ _ hs _ _ => hs)
    ⟨⟨.slice none 0 0, bO, World.ownsRow_nil _ _ _ _, trivial⟩, hbel, by omega⟩
    ?a1 ?assign ?body ?done ?stop
  case assign =>
    intro l x W K hK
    gi_wp2
    exact hK
  case body =>
    rintro lp pre y W ⟨⟨v3, hbox, hrow, _⟩, hB, hsz⟩ hlt
    have hyk := y.2
    have hcell := hbox.cell
    have hfree := hbox.frozen
    have hW : ∀ i, i < 5 → W.cell? ⟨b, off + 1 + 5 * y.1 + i, none⟩ = some (.int .u8 ((r.getD (5 * y.1 + i) 0).toNat : Nat)) := fun i hi => by
      have h1 := HC.out (5 * y.1 + i) (by omega)
      rw [Nat.add_assoc, hB.cell (p := ⟨b, off + 1 + (5 * y.1 + i), none⟩) hblt]
      exact h1
    have q0 := hW 0 (by decide)
    have q1 := hW 1 (by decide)
    have q2 := hW 2 (by decide)
    have q3 := hW 3 (by decide)
    have q4 := hW 4 (by decide)
    simp only [Nat.add_zero] at q0
    have l0 := (r.getD (5 * y.1) 0).toNat_lt
    have l1 := (r.getD (5 * y.1 + 1) 0).toNat_lt
    have l2 := (r.getD (5 * y.1 + 2) 0).toNat_lt
    have l3 := (r.getD (5 * y.1 + 3) 0).toNat_lt
    have l4 := (r.getD (5 * y.1 + 4) 0).toNat_lt
    have hEA : effAt r y.1 = ⟨(r.getD (5 * y.1) 0).toNat, (r.getD (5 * y.1 + 1) 0).toNat, (r.getD (5 * y.1 + 2) 0).toNat, (r.getD (5 * y.1 + 3) 0).toNat, (r.getD (5 * y.1 + 4) 0).toNat⟩ := rfl
    obtain ⟨y0, hy0⟩ : ∃ y0, (r.getD (5 * y.1) 0).toNat = y0 := ⟨_, rfl⟩
    obtain ⟨y1, hy1⟩ : ∃ y1, (r.getD (5 * y.1 + 1) 0).toNat = y1 := ⟨_, rfl⟩
    obtain ⟨y2, hy2⟩ : ∃ y2, (r.getD (5 * y.1 + 2) 0).toNat = y2 := ⟨_, rfl⟩
    obtain ⟨y3, hy3⟩ : ∃ y3, (r.getD (5 * y.1 + 3) 0).toNat = y3 := ⟨_, rfl⟩
    obtain ⟨y4, hy4⟩ : ∃ y4, (r.getD (5 * y.1 + 4) 0).toNat = y4 := ⟨_, rfl⟩
    rw [hy0, hy1, hy2, hy3, hy4] at hEA
    rw [hy0] at q0 l0
    rw [hy1] at q1 l1
    rw [hy2] at q2 l2
    rw [hy3] at q3 l3
    rw [hy4] at q4 l4
    obtain ⟨p, hp⟩ : ∃ p, off + 1 + 5 * y.1 = p := ⟨_, rfl⟩
    rw [hp] at q0 q1 q2 q3 q4
    rw [hp]
    have HEA := Lib.hid hEA
    have HROW := Lib.hid hrow
    have HBOX := Lib.hid hbox
    have HB := Lib.hid (And.intro hB hsz)
    have HPL := Lib.hid (show ((pre.map fun y => effAt r y.1).length + 1) * 40 ≤ 140737488355328 by rw [List.length_map]; omega)
    have HSZ := Lib.hid (show w.heap.size + 3 ≤ W.heap.size from hsz)
    clear hW hy0 hy1 hy2 hy3 hy4 hEA hrow hbox hB hp hlt hyk hsz
    gi_wp2
    have w0 : IntKind.i64.wrap (y0 : Int) = (y0 : Int) := IntWalk.i64_in _ (by omega)
    have w1 : IntKind.i64.wrap (y1 : Int) = (y1 : Int) := IntWalk.i64_in _ (by omega)
    have w2 : IntKind.i64.wrap (y2 : Int) = (y2 : Int) := IntWalk.i64_in _ (by omega)
    have w4 : IntKind.i64.wrap (y3 : Int) = (y3 : Int) := IntWalk.i64_in _ (by omega)
    have w5 : IntKind.i64.wrap (y4 : Int) = (y4 : Int) := IntWalk.i64_in _ (by omega)
    refine wpIn_region_round_held (S := fun W' => Below w.heap.size W W') (by kernel_rfl) (by kernel_rfl) (by rintro ⟨a, w, h⟩; exact h) (Below.refl _ W).drew (fun hHeld => ?_)
    refine wpAnyH_take (i := 1) (v := .slice (some ⟨b, p, none⟩) 5 5) rfl (by kernel_rfl) (by kernel_rfl) (by kernel_rfl) (fun _ _ _ h => h) (Or.inl ⟨by rfl, ?_⟩) (by assumption) ?_
    · intro W2 hSw; have s0 := (hSw.cell (p := ⟨b, p, none⟩) hblt).trans q0; have s1 := (hSw.cell (p := ⟨b, p + 1, none⟩) hblt).trans q1; have s2 := (hSw.cell (p := ⟨b, p + 2, none⟩) hblt).trans q2; have s3 := (hSw.cell (p := ⟨b, p + 3, none⟩) hblt).trans q3; have s4 := (hSw.cell (p := ⟨b, p + 4, none⟩) hblt).trans q4; go_simp
    simp only [Act.put, List.setIfInBounds_toArray, List.set_cons_zero, List.set_cons_succ]
    refine wpAnyH_take (i := 2) (v := .pointer (some ⟨b, p, none⟩)) rfl (by kernel_rfl) (by kernel_rfl) (by kernel_rfl) (fun _ _ _ h => h) (Or.inl ⟨by rfl, ?_⟩) (by assumption) ?_
    · intro W2 hSw; have s0 := (hSw.cell (p := ⟨b, p, none⟩) hblt).trans q0; have s1 := (hSw.cell (p := ⟨b, p + 1, none⟩) hblt).trans q1; have s2 := (hSw.cell (p := ⟨b, p + 2, none⟩) hblt).trans q2; have s3 := (hSw.cell (p := ⟨b, p + 3, none⟩) hblt).trans q3; have s4 := (hSw.cell (p := ⟨b, p + 4, none⟩) hblt).trans q4; go_simp
    simp only [Act.put, List.setIfInBounds_toArray, List.set_cons_zero, List.set_cons_succ]
    refine wpAnyH_take (i := 3) (v := .int .u8 (y0 : Nat)) rfl (by kernel_rfl) (by kernel_rfl) (by kernel_rfl) (fun _ _ _ h => h) (Or.inl ⟨by rfl, ?_⟩) (by assumption) ?_
    · intro W2 hSw; have s0 := (hSw.cell (p := ⟨b, p, none⟩) hblt).trans q0; have s1 := (hSw.cell (p := ⟨b, p + 1, none⟩) hblt).trans q1; have s2 := (hSw.cell (p := ⟨b, p + 2, none⟩) hblt).trans q2; have s3 := (hSw.cell (p := ⟨b, p + 3, none⟩) hblt).trans q3; have s4 := (hSw.cell (p := ⟨b, p + 4, none⟩) hblt).trans q4; go_simp
    simp only [Act.put, List.setIfInBounds_toArray, List.set_cons_zero, List.set_cons_succ]
    refine wpAnyH_take (i := 4) (v := .int .i64 (y0 : Nat)) rfl (by kernel_rfl) (by kernel_rfl) (by kernel_rfl) (fun _ _ _ h => h) (Or.inl ⟨by rfl, ?_⟩) (by assumption) ?_
    · intro W2 hSw; have s0 := (hSw.cell (p := ⟨b, p, none⟩) hblt).trans q0; have s1 := (hSw.cell (p := ⟨b, p + 1, none⟩) hblt).trans q1; have s2 := (hSw.cell (p := ⟨b, p + 2, none⟩) hblt).trans q2; have s3 := (hSw.cell (p := ⟨b, p + 3, none⟩) hblt).trans q3; have s4 := (hSw.cell (p := ⟨b, p + 4, none⟩) hblt).trans q4; go_simp
    simp only [Act.put, List.setIfInBounds_toArray, List.set_cons_zero, List.set_cons_succ]
    refine wpAnyH_take (i := 5) (v := .slice (some ⟨b, p, none⟩) 5 5) rfl (by kernel_rfl) (by kernel_rfl) (by kernel_rfl) (fun _ _ _ h => h) (Or.inl ⟨by rfl, ?_⟩) (by assumption) ?_
    · intro W2 hSw; have s0 := (hSw.cell (p := ⟨b, p, none⟩) hblt).trans q0; have s1 := (hSw.cell (p := ⟨b, p + 1, none⟩) hblt).trans q1; have s2 := (hSw.cell (p := ⟨b, p + 2, none⟩) hblt).trans q2; have s3 := (hSw.cell (p := ⟨b, p + 3, none⟩) hblt).trans q3; have s4 := (hSw.cell (p := ⟨b, p + 4, none⟩) hblt).trans q4; go_simp
    simp only [Act.put, List.setIfInBounds_toArray, List.set_cons_zero, List.set_cons_succ]
    refine wpAnyH_take (i := 6) (v := .pointer (some ⟨b, p + 1, none⟩)) rfl (by kernel_rfl) (by kernel_rfl) (by kernel_rfl) (fun _ _ _ h => h) (Or.inl ⟨by rfl, ?_⟩) (by assumption) ?_
    · intro W2 hSw; have s0 := (hSw.cell (p := ⟨b, p, none⟩) hblt).trans q0; have s1 := (hSw.cell (p := ⟨b, p + 1, none⟩) hblt).trans q1; have s2 := (hSw.cell (p := ⟨b, p + 2, none⟩) hblt).trans q2; have s3 := (hSw.cell (p := ⟨b, p + 3, none⟩) hblt).trans q3; have s4 := (hSw.cell (p := ⟨b, p + 4, none⟩) hblt).trans q4; go_simp
    simp only [Act.put, List.setIfInBounds_toArray, List.set_cons_zero, List.set_cons_succ]
    refine wpAnyH_take (i := 7) (v := .int .u8 (y1 : Nat)) rfl (by kernel_rfl) (by kernel_rfl) (by kernel_rfl) (fun _ _ _ h => h) (Or.inl ⟨by rfl, ?_⟩) (by assumption) ?_
    · intro W2 hSw; have s0 := (hSw.cell (p := ⟨b, p, none⟩) hblt).trans q0; have s1 := (hSw.cell (p := ⟨b, p + 1, none⟩) hblt).trans q1; have s2 := (hSw.cell (p := ⟨b, p + 2, none⟩) hblt).trans q2; have s3 := (hSw.cell (p := ⟨b, p + 3, none⟩) hblt).trans q3; have s4 := (hSw.cell (p := ⟨b, p + 4, none⟩) hblt).trans q4; go_simp
    simp only [Act.put, List.setIfInBounds_toArray, List.set_cons_zero, List.set_cons_succ]
    refine wpAnyH_take (i := 8) (v := .int .i64 (y1 : Nat)) rfl (by kernel_rfl) (by kernel_rfl) (by kernel_rfl) (fun _ _ _ h => h) (Or.inl ⟨by rfl, ?_⟩) (by assumption) ?_
    · intro W2 hSw; have s0 := (hSw.cell (p := ⟨b, p, none⟩) hblt).trans q0; have s1 := (hSw.cell (p := ⟨b, p + 1, none⟩) hblt).trans q1; have s2 := (hSw.cell (p := ⟨b, p + 2, none⟩) hblt).trans q2; have s3 := (hSw.cell (p := ⟨b, p + 3, none⟩) hblt).trans q3; have s4 := (hSw.cell (p := ⟨b, p + 4, none⟩) hblt).trans q4; go_simp
    simp only [Act.put, List.setIfInBounds_toArray, List.set_cons_zero, List.set_cons_succ]
    refine wpAnyH_take (i := 9) (v := .slice (some ⟨b, p, none⟩) 5 5) rfl (by kernel_rfl) (by kernel_rfl) (by kernel_rfl) (fun _ _ _ h => h) (Or.inl ⟨by rfl, ?_⟩) (by assumption) ?_
    · intro W2 hSw; have s0 := (hSw.cell (p := ⟨b, p, none⟩) hblt).trans q0; have s1 := (hSw.cell (p := ⟨b, p + 1, none⟩) hblt).trans q1; have s2 := (hSw.cell (p := ⟨b, p + 2, none⟩) hblt).trans q2; have s3 := (hSw.cell (p := ⟨b, p + 3, none⟩) hblt).trans q3; have s4 := (hSw.cell (p := ⟨b, p + 4, none⟩) hblt).trans q4; go_simp
    simp only [Act.put, List.setIfInBounds_toArray, List.set_cons_zero, List.set_cons_succ]
    refine wpAnyH_take (i := 10) (v := .pointer (some ⟨b, p + 2, none⟩)) rfl (by kernel_rfl) (by kernel_rfl) (by kernel_rfl) (fun _ _ _ h => h) (Or.inl ⟨by rfl, ?_⟩) (by assumption) ?_
    · intro W2 hSw; have s0 := (hSw.cell (p := ⟨b, p, none⟩) hblt).trans q0; have s1 := (hSw.cell (p := ⟨b, p + 1, none⟩) hblt).trans q1; have s2 := (hSw.cell (p := ⟨b, p + 2, none⟩) hblt).trans q2; have s3 := (hSw.cell (p := ⟨b, p + 3, none⟩) hblt).trans q3; have s4 := (hSw.cell (p := ⟨b, p + 4, none⟩) hblt).trans q4; go_simp
    simp only [Act.put, List.setIfInBounds_toArray, List.set_cons_zero, List.set_cons_succ]
    refine wpAnyH_take (i := 11) (v := .int .u8 (y2 : Nat)) rfl (by kernel_rfl) (by kernel_rfl) (by kernel_rfl) (fun _ _ _ h => h) (Or.inl ⟨by rfl, ?_⟩) (by assumption) ?_
    · intro W2 hSw; have s0 := (hSw.cell (p := ⟨b, p, none⟩) hblt).trans q0; have s1 := (hSw.cell (p := ⟨b, p + 1, none⟩) hblt).trans q1; have s2 := (hSw.cell (p := ⟨b, p + 2, none⟩) hblt).trans q2; have s3 := (hSw.cell (p := ⟨b, p + 3, none⟩) hblt).trans q3; have s4 := (hSw.cell (p := ⟨b, p + 4, none⟩) hblt).trans q4; go_simp
    simp only [Act.put, List.setIfInBounds_toArray, List.set_cons_zero, List.set_cons_succ]
    refine wpAnyH_take (i := 12) (v := .int .i64 (y2 : Nat)) rfl (by kernel_rfl) (by kernel_rfl) (by kernel_rfl) (fun _ _ _ h => h) (Or.inl ⟨by rfl, ?_⟩) (by assumption) ?_
    · intro W2 hSw; have s0 := (hSw.cell (p := ⟨b, p, none⟩) hblt).trans q0; have s1 := (hSw.cell (p := ⟨b, p + 1, none⟩) hblt).trans q1; have s2 := (hSw.cell (p := ⟨b, p + 2, none⟩) hblt).trans q2; have s3 := (hSw.cell (p := ⟨b, p + 3, none⟩) hblt).trans q3; have s4 := (hSw.cell (p := ⟨b, p + 4, none⟩) hblt).trans q4; go_simp
    simp only [Act.put, List.setIfInBounds_toArray, List.set_cons_zero, List.set_cons_succ]
    refine wpAnyH_take (i := 13) (v := .slice (some ⟨b, p, none⟩) 5 5) rfl (by kernel_rfl) (by kernel_rfl) (by kernel_rfl) (fun _ _ _ h => h) (Or.inl ⟨by rfl, ?_⟩) (by assumption) ?_
    · intro W2 hSw; have s0 := (hSw.cell (p := ⟨b, p, none⟩) hblt).trans q0; have s1 := (hSw.cell (p := ⟨b, p + 1, none⟩) hblt).trans q1; have s2 := (hSw.cell (p := ⟨b, p + 2, none⟩) hblt).trans q2; have s3 := (hSw.cell (p := ⟨b, p + 3, none⟩) hblt).trans q3; have s4 := (hSw.cell (p := ⟨b, p + 4, none⟩) hblt).trans q4; go_simp
    simp only [Act.put, List.setIfInBounds_toArray, List.set_cons_zero, List.set_cons_succ]
    refine wpAnyH_take (i := 14) (v := .pointer (some ⟨b, p + 3, none⟩)) rfl (by kernel_rfl) (by kernel_rfl) (by kernel_rfl) (fun _ _ _ h => h) (Or.inl ⟨by rfl, ?_⟩) (by assumption) ?_
    · intro W2 hSw; have s0 := (hSw.cell (p := ⟨b, p, none⟩) hblt).trans q0; have s1 := (hSw.cell (p := ⟨b, p + 1, none⟩) hblt).trans q1; have s2 := (hSw.cell (p := ⟨b, p + 2, none⟩) hblt).trans q2; have s3 := (hSw.cell (p := ⟨b, p + 3, none⟩) hblt).trans q3; have s4 := (hSw.cell (p := ⟨b, p + 4, none⟩) hblt).trans q4; go_simp
    simp only [Act.put, List.setIfInBounds_toArray, List.set_cons_zero, List.set_cons_succ]
    refine wpAnyH_take (i := 15) (v := .int .u8 (y3 : Nat)) rfl (by kernel_rfl) (by kernel_rfl) (by kernel_rfl) (fun _ _ _ h => h) (Or.inl ⟨by rfl, ?_⟩) (by assumption) ?_
    · intro W2 hSw; have s0 := (hSw.cell (p := ⟨b, p, none⟩) hblt).trans q0; have s1 := (hSw.cell (p := ⟨b, p + 1, none⟩) hblt).trans q1; have s2 := (hSw.cell (p := ⟨b, p + 2, none⟩) hblt).trans q2; have s3 := (hSw.cell (p := ⟨b, p + 3, none⟩) hblt).trans q3; have s4 := (hSw.cell (p := ⟨b, p + 4, none⟩) hblt).trans q4; go_simp
    simp only [Act.put, List.setIfInBounds_toArray, List.set_cons_zero, List.set_cons_succ]
    refine wpAnyH_take (i := 16) (v := .int .i64 (y3 : Nat)) rfl (by kernel_rfl) (by kernel_rfl) (by kernel_rfl) (fun _ _ _ h => h) (Or.inl ⟨by rfl, ?_⟩) (by assumption) ?_
    · intro W2 hSw; have s0 := (hSw.cell (p := ⟨b, p, none⟩) hblt).trans q0; have s1 := (hSw.cell (p := ⟨b, p + 1, none⟩) hblt).trans q1; have s2 := (hSw.cell (p := ⟨b, p + 2, none⟩) hblt).trans q2; have s3 := (hSw.cell (p := ⟨b, p + 3, none⟩) hblt).trans q3; have s4 := (hSw.cell (p := ⟨b, p + 4, none⟩) hblt).trans q4; go_simp
    simp only [Act.put, List.setIfInBounds_toArray, List.set_cons_zero, List.set_cons_succ]
    refine wpAnyH_take (i := 17) (v := .slice (some ⟨b, p, none⟩) 5 5) rfl (by kernel_rfl) (by kernel_rfl) (by kernel_rfl) (fun _ _ _ h => h) (Or.inl ⟨by rfl, ?_⟩) (by assumption) ?_
    · intro W2 hSw; have s0 := (hSw.cell (p := ⟨b, p, none⟩) hblt).trans q0; have s1 := (hSw.cell (p := ⟨b, p + 1, none⟩) hblt).trans q1; have s2 := (hSw.cell (p := ⟨b, p + 2, none⟩) hblt).trans q2; have s3 := (hSw.cell (p := ⟨b, p + 3, none⟩) hblt).trans q3; have s4 := (hSw.cell (p := ⟨b, p + 4, none⟩) hblt).trans q4; go_simp
    simp only [Act.put, List.setIfInBounds_toArray, List.set_cons_zero, List.set_cons_succ]
    refine wpAnyH_take (i := 18) (v := .pointer (some ⟨b, p + 4, none⟩)) rfl (by kernel_rfl) (by kernel_rfl) (by kernel_rfl) (fun _ _ _ h => h) (Or.inl ⟨by rfl, ?_⟩) (by assumption) ?_
    · intro W2 hSw; have s0 := (hSw.cell (p := ⟨b, p, none⟩) hblt).trans q0; have s1 := (hSw.cell (p := ⟨b, p + 1, none⟩) hblt).trans q1; have s2 := (hSw.cell (p := ⟨b, p + 2, none⟩) hblt).trans q2; have s3 := (hSw.cell (p := ⟨b, p + 3, none⟩) hblt).trans q3; have s4 := (hSw.cell (p := ⟨b, p + 4, none⟩) hblt).trans q4; go_simp
    simp only [Act.put, List.setIfInBounds_toArray, List.set_cons_zero, List.set_cons_succ]
    refine wpAnyH_take (i := 19) (v := .int .u8 (y4 : Nat)) rfl (by kernel_rfl) (by kernel_rfl) (by kernel_rfl) (fun _ _ _ h => h) (Or.inl ⟨by rfl, ?_⟩) (by assumption) ?_
    · intro W2 hSw; have s0 := (hSw.cell (p := ⟨b, p, none⟩) hblt).trans q0; have s1 := (hSw.cell (p := ⟨b, p + 1, none⟩) hblt).trans q1; have s2 := (hSw.cell (p := ⟨b, p + 2, none⟩) hblt).trans q2; have s3 := (hSw.cell (p := ⟨b, p + 3, none⟩) hblt).trans q3; have s4 := (hSw.cell (p := ⟨b, p + 4, none⟩) hblt).trans q4; go_simp
    simp only [Act.put, List.setIfInBounds_toArray, List.set_cons_zero, List.set_cons_succ]
    refine wpAnyH_take (i := 20) (v := .int .i64 (y4 : Nat)) rfl (by kernel_rfl) (by kernel_rfl) (by kernel_rfl) (fun _ _ _ h => h) (Or.inl ⟨by rfl, ?_⟩) (by assumption) ?_
    · intro W2 hSw; have s0 := (hSw.cell (p := ⟨b, p, none⟩) hblt).trans q0; have s1 := (hSw.cell (p := ⟨b, p + 1, none⟩) hblt).trans q1; have s2 := (hSw.cell (p := ⟨b, p + 2, none⟩) hblt).trans q2; have s3 := (hSw.cell (p := ⟨b, p + 3, none⟩) hblt).trans q3; have s4 := (hSw.cell (p := ⟨b, p + 4, none⟩) hblt).trans q4; go_simp
    simp only [Act.put, List.setIfInBounds_toArray, List.set_cons_zero, List.set_cons_succ]
    refine wpAnyH_take (i := 21) (v := .agg #[.int .i64 (y0 : Nat), .int .i64 (y1 : Nat), .int .i64 (y2 : Nat), .int .i64 (y3 : Nat), .int .i64 (y4 : Nat)]) rfl (by kernel_rfl) (by kernel_rfl) (by kernel_rfl) (fun _ _ _ h => h) (Or.inl ⟨by rfl, ?_⟩) (by assumption) ?_
    · intro W2 hSw; have s0 := (hSw.cell (p := ⟨b, p, none⟩) hblt).trans q0; have s1 := (hSw.cell (p := ⟨b, p + 1, none⟩) hblt).trans q1; have s2 := (hSw.cell (p := ⟨b, p + 2, none⟩) hblt).trans q2; have s3 := (hSw.cell (p := ⟨b, p + 3, none⟩) hblt).trans q3; have s4 := (hSw.cell (p := ⟨b, p + 4, none⟩) hblt).trans q4; go_simp
    simp only [Act.put, List.setIfInBounds_toArray, List.set_cons_zero, List.set_cons_succ]
    have hsz0 : w.heap.size + 3 ≤ W.heap.size := by have := HSZ.out; omega
    have hSW : Below w.heap.size W W.drew := (Below.refl _ W).drew
    have KA : Kept No W (W.alloc (.cells #[.int .i64 (y0 : Nat), .int .i64 (y1 : Nat), .int .i64 (y2 : Nat), .int .i64 (y3 : Nat), .int .i64 (y4 : Nat)] 50)).drew := ((Kept.refl No W).alloc _).drew
    have hSA : Below w.heap.size W (W.alloc (.cells #[.int .i64 (y0 : Nat), .int .i64 (y1 : Nat), .int .i64 (y2 : Nat), .int .i64 (y3 : Nat), .int .i64 (y4 : Nat)] 50)).drew := ((Below.refl _ W).alloc (by omega) _).drew
    have hz0 : w.heap.size < W.heap.size := by omega
    refine wpAnyH_ready (rs := [0, 22]) (by kernel_rfl) (by simp) ?_
    refine AllReadyH.cons rfl (fun K hK => ?_) (AllReadyH.cons rfl (fun K hK => ?_) AllReadyH.nil)
    · go_simp
      refine hK.out _ _ hSW (fun _ => ?_)
      clear hK K
      refine wpAnyH_ready (rs := [22]) (by kernel_rfl) (by simp) ?_
      refine AllReadyH.cons rfl (fun K hK => ?_) AllReadyH.nil
      go_simp
      refine hK.out _ _ hSA (fun _ => ?_)
      clear hK K
      refine wpAnyH_ready (rs := [23]) (by kernel_rfl) (by simp) ?_
      refine AllReadyH.cons rfl (fun K hK => ?_) AllReadyH.nil
      refine step_append_rdo (xv := .slice (some ⟨W.heap.size, 0, none⟩) 1 1) rfl rfl rfl rfl eiE (owned_kept HROW.out KA (fun _ _ _ => not_no _)) (rd_e1 W _ _ _ _ _ _).drew (by intro u hu; simp at hu; rcases hu with rfl | rfl | rfl | rfl | rfl <;> rfl) HPL.out (by simp; omega) ?_
      intro v2 W2 hown2 hg2 _
      obtain ⟨ad2, cap2, e9⟩ := owned_slice hown2; rw [List.length_map] at e9; subst e9
      have hb2 : Boxed W2 w.heap.size 43 v3 := (KA.any.grown (S := fun i => v3.ownBlock = some i) hg2 (fun k e _ => e)).obj HBOX.out (fun e => by have := (HROW.out.lt _ e).1; omega)
      have hS2 : Below w.heap.size W W2 := hSA.grown hg2 (by simp; omega) (fun k e => by have := (HROW.out.lt _ e).1; omega)
      refine hK.out _ _ hS2 (fun _ => ?_)
      clear hK K
      have hc2 := hb2.cell
      have hf2 := hb2.frozen
      refine wpAnyH_ready (rs := [24]) (by kernel_rfl) (by simp) ?_
      refine AllReadyH.cons rfl (fun K hK => ?_) AllReadyH.nil
      go_simp
      refine hK.out _ _ (hS2.setCell (by simp) _) (fun _ => ?_)
      clear hK K
      refine wpAnyH_done (by kernel_rfl) ?_ _
      exact de_close (by omega) HROW.out HBOX.out HB.out HEA.out hown2 hg2
    · go_simp
      refine hK.out _ _ hSA (fun _ => ?_)
      clear hK K
      refine wpAnyH_ready (rs := [0]) (by kernel_rfl) (by simp) ?_
      refine AllReadyH.cons rfl (fun K hK => ?_) AllReadyH.nil
      go_simp
      refine hK.out _ _ hSA (fun _ => ?_)
      clear hK K
      refine wpAnyH_ready (rs := [23]) (by kernel_rfl) (by simp) ?_
      refine AllReadyH.cons rfl (fun K hK => ?_) AllReadyH.nil
      refine step_append_rdo (xv := .slice (some ⟨W.heap.size, 0, none⟩) 1 1) rfl rfl rfl rfl eiE (owned_kept HROW.out KA (fun _ _ _ => not_no _)) (rd_e1 W _ _ _ _ _ _).drew (by intro u hu; simp at hu; rcases hu with rfl | rfl | rfl | rfl | rfl <;> rfl) HPL.out (by simp; omega) ?_
      intro v2 W2 hown2 hg2 _
      obtain ⟨ad2, cap2, e9⟩ := owned_slice hown2; rw [List.length_map] at e9; subst e9
      have hb2 : Boxed W2 w.heap.size 43 v3 := (KA.any.grown (S := fun i => v3.ownBlock = some i) hg2 (fun k e _ => e)).obj HBOX.out (fun e => by have := (HROW.out.lt _ e).1; omega)
      have hS2 : Below w.heap.size W W2 := hSA.grown hg2 (by simp; omega) (fun k e => by have := (HROW.out.lt _ e).1; omega)
      refine hK.out _ _ hS2 (fun _ => ?_)
      clear hK K
      have hc2 := hb2.cell
      have hf2 := hb2.frozen
      refine wpAnyH_ready (rs := [24]) (by kernel_rfl) (by simp) ?_
      refine AllReadyH.cons rfl (fun K hK => ?_) AllReadyH.nil
      go_simp
      refine hK.out _ _ (hS2.setCell (by simp) _) (fun _ => ?_)
      clear hK K
      refine wpAnyH_done (by kernel_rfl) ?_ _
      exact de_close (by omega) HROW.out HBOX.out HB.out HEA.out hown2 hg2
  case done =>
    rintro D ys W hD hS ⟨⟨v3, hbox, hrow, _⟩, hB, hsz⟩ hK
    have hys : (ys.map fun y => effAt r y.1) = (List.range k).map (effAt r) := by rw [← hS, List.map_map]; rfl
    rw [hys] at hrow
    obtain ⟨L, hL⟩ : ∃ L, (List.range k).map (effAt r) = L := ⟨_, rfl⟩
    rw [hL] at hrow hb1 HED
    have hLk : L.length = k := by rw [← hL, List.length_map, List.length_range]
    obtain ⟨ad4, cap4, rfl⟩ := owned_slice hrow
    have hc := hbox.cell
    have hAl := allE_any (by omega) (show EffsAt W _ _ L from rd_owned hrow)
    rw [hb1] at hAl
    have HA := Lib.hid hAl
    have HROW := Lib.hid hrow
    have HBOX := Lib.hid hbox
    have HBL := Lib.hid (And.intro hB hsz)
    have HKD := Lib.hid hK
    have HB1 := Lib.hid hb1
    have HDN := Lib.hid (show w.heap.size + 3 ≤ D by omega)
    clear hS hys hL hrow hbox hB hsz hK hAl hb1 hLk hD e1 e2 bO hbel
    cases b1
    · gi_wp2_with (refine ⟨trivial, ?_⟩; gi_at_call 52; refine (callsIn_wide.2 HA.out).mono ?_; rintro e W5 ⟨rfl, hk5⟩; have HK5 := Lib.hid hk5; have hb5 : Boxed W5 w.heap.size 43 (.slice ad4 L.length cap4) := hk5.obj HBOX.out (not_no _); have hc5 := hb5.cell; have hf5 := hb5.frozen; have HB5 := Lib.hid hb5; clear hk5 hb5)
      have hW6 : (W5.setCell ⟨w.heap.size, 0, none⟩ (.slice none 0 0)).heap[w.heap.size]? = some (.cells #[.slice none 0 0] 43 (0, 0)) := obj_store HB5.out 0 (.slice none 0 0)
      have hD6 : (W5.setCell ⟨w.heap.size, 0, none⟩ (.slice none 0 0)).heap[D]? = some (.deferred (some [])) := obj_setCell (HK5.out.obj HKD.out (not_no _)) (p := ⟨w.heap.size, 0, none⟩) _ (by have := HDN.out; simp; omega)
      refine ⟨by simp, .inl ⟨_, _, rfl, run_takeDeferred hD6, ?_⟩⟩
      have hkD : Kept (fun i => i = D) (W5.setCell ⟨w.heap.size, 0, none⟩ (.slice none 0 0)) ((W5.setCell ⟨w.heap.size, 0, none⟩ (.slice none 0 0)).putObj D (.deferred none)) := (Kept.refl (fun i => i = D) _).grown (grownBy_putObj' _ D _) (fun k e _ => by cases e; rfl)
      refine ⟨_, results67 rfl (hkD.obj hW6 (by have := HDN.out; omega)), ?_⟩
      have hED := HED.out
      have hB1 := HB1.out
      rw [hED, hB1]
      refine ⟨6, rfl, by decide, ?_⟩
      exact ((((Kept.of_below HBL.out.1).and HK5.out).setCell (p := ⟨w.heap.size, 0, none⟩) (fun h => by simp at h) _)).trans hkD (fun _ _ h => h) (fun i hi e => by have := HDN.out; omega)
    · gi_wp2_with (refine ⟨trivial, ?_⟩; gi_at_call 52; refine (callsIn_wide.2 HA.out).mono ?_; rintro e W5 ⟨rfl, hk5⟩; have HK5 := Lib.hid hk5; have hb5 : Boxed W5 w.heap.size 43 (.slice ad4 L.length cap4) := hk5.obj HBOX.out (not_no _); have hc5 := hb5.cell; have hf5 := hb5.frozen; have HB5 := Lib.hid hb5; clear hk5 hb5)
      have hW6 : (W5.setCell ⟨w.heap.size, 0, none⟩ (.slice ad4 L.length cap4)).heap[w.heap.size]? = some (.cells #[.slice ad4 L.length cap4] 43 (0, 0)) := obj_store HB5.out 0 (.slice ad4 L.length cap4)
      have hD6 : (W5.setCell ⟨w.heap.size, 0, none⟩ (.slice ad4 L.length cap4)).heap[D]? = some (.deferred (some [])) := obj_setCell (HK5.out.obj HKD.out (not_no _)) (p := ⟨w.heap.size, 0, none⟩) _ (by have := HDN.out; simp; omega)
      refine ⟨by simp, .inl ⟨_, _, rfl, run_takeDeferred hD6, ?_⟩⟩
      have hkD : Kept (fun i => i = D) (W5.setCell ⟨w.heap.size, 0, none⟩ (.slice ad4 L.length cap4)) ((W5.setCell ⟨w.heap.size, 0, none⟩ (.slice ad4 L.length cap4)).putObj D (.deferred none)) := (Kept.refl (fun i => i = D) _).grown (grownBy_putObj' _ D _) (fun k e _ => by cases e; rfl)
      refine ⟨_, results67 rfl (hkD.obj hW6 (by have := HDN.out; omega)), ?_⟩
      have hED := HED.out
      have hB1 := HB1.out
      rw [hED, hB1]
      have hrow6 := owned_kept (owned_kept HROW.out HK5.out fun _ _ _ => not_no _) ((Kept.refl (fun i => i = w.heap.size) W5).setCell (p := ⟨w.heap.size, 0, none⟩) (fun _ => rfl) (.slice ad4 L.length cap4)) (fun b _ e h => by have := (HROW.out.lt b e).1; omega)
      refine ⟨.slice ad4 L.length cap4, ?_, owned_mono (ownsRow_putObj hrow6 _ hD6 rfl) (by omega), ?_⟩
      · rw [show ((1 + 5 * k : Nat) : Int) = 1 + 5 * (k : Int) by omega]; rfl
      · exact ((((Kept.of_below HBL.out.1).and HK5.out).setCell (p := ⟨w.heap.size, 0, none⟩) (fun h => by simp at h) _)).trans hkD (fun _ _ h => h) (fun i hi e => by have := HDN.out; omega)
  case stop =>
    rintro D c pre W _ _ h _
    exact h.elim
/-- no bytes, too many, too few -/
theorem edecode_no {b : List UInt8} (h : b = [] ∨ ∃ x r, b = x :: r ∧ (4 < x.toNat ∨ r.length < 5 * x.toNat)) {w : World} {B : Nat → Prop} {v : Value} (hv : Rd w B 1 v b.length (bts b)) :
    Calls Tryz.prog 80 #[v] w (EDecPost none w) := by
  have hK : Kept No w (w.alloc (.cells #[.slice none 0 0] 43)) := (Kept.refl No w).alloc _
  have hH : (w.alloc (.cells #[.slice none 0 0] 43)).heap[w.heap.size]? = some (.cells #[.slice none 0 0] 43 (0, 0)) := heap_alloc_new w _
  have HK := Lib.hid hK
  have HH := Lib.hid hH
  clear hK hH
  rcases h with rfl | ⟨x, r, rfl, h⟩
  · obtain ⟨ad, cap, rfl⟩ := rd_slice hv
    clear hv
    simp only [List.length_nil]
    go_enter Tryz.func80, Tryz.ntmps80
    go_wp2_with fail
    exact bodyPost_ret (results67 rfl HH.out) rfl ⟨4, rfl, by decide, HK.out⟩
  · obtain ⟨_, hml, ⟨_, h0⟩ | ⟨b, off, cap, rfl, hcap, _, hc⟩⟩ := hv
    · simp at h0
    obtain ⟨k, hk⟩ : ∃ k, x.toNat = k := ⟨_, rfl⟩
    have hxl := x.toNat_lt
    rw [hk] at h hxl
    have hlen : (x :: r).length = 1 + r.length := by rw [List.length_cons]; omega
    obtain ⟨m, hm⟩ : ∃ m, (x :: r).length = m := ⟨_, rfl⟩
    rw [hm] at hml hcap hlen ⊢
    have g0 : w.cell? ⟨b, off, none⟩ = some (.int .u8 (k : Nat)) := by rw [← hk]; exact hc 0 _ rfl
    have hblt : b < w.heap.size := block_lt_of_cell g0
    have hm0 : ((m : Int) == 0) = false := by simp; omega
    have hm1 : (0 : Int) < (m : Int) := by omega
    by_cases h4 : 4 < k
    · have d1 : decide (4 < (k : Int)) = true := decide_eq_true (by omega)
      clear hc hk hlen hml hm h
      go_enter Tryz.func80, Tryz.ntmps80
      go_wp2_with fail
      exact bodyPost_ret (results67 rfl HH.out) rfl ⟨6, rfl, by decide, HK.out⟩
    · have d1 : decide (4 < (k : Int)) = false := decide_eq_false (by omega)
      have d2 : decide ((m : Int) < 1 + 5 * (k : Int)) = true := decide_eq_true (by omega)
      clear hc hk hlen hml hm h
      go_enter Tryz.func80, Tryz.ntmps80
      go_wp2_with fail
      exact bodyPost_ret (results67 rfl HH.out) rfl ⟨4, rfl, by decide, HK.out⟩
theorem edecode_any {b : List UInt8} {w : World} {B : Nat → Prop} {v : Value} (hv : Rd w B 1 v b.length (bts b)) : Calls Tryz.prog 80 #[v] w (EDecPost (edec b) w) := by
  rcases b with _ | ⟨x, r⟩
  · exact edecode_no (.inl rfl) hv
  by_cases h4 : 4 < x.toNat
  · have : edec (x :: r) = none := by simp only [edec]; rw [if_pos h4]
    rw [this]
    exact edecode_no (.inr ⟨x, r, rfl, .inl h4⟩) hv
  by_cases h5 : r.length < 5 * x.toNat
  · have : edec (x :: r) = none := by simp only [edec]; rw [if_neg h4, if_pos h5]
    rw [this]
    exact edecode_no (.inr ⟨x, r, rfl, .inr h5⟩) hv
  exact edecode_ok (by omega) (by omega) hv
end Go.Proofs.YtclgoilfclmibaaGreatDoor
