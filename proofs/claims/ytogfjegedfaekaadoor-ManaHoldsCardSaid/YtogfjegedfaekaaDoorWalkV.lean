/-
  Mana: the reference's Parse.
-/
import Derived.Test.YtogfjegedfaekaaDoorWalkU
import Derived.StillTailTactics
import Derived.Deep.QuietTactic
import Derived.BigQuiet
import Derived.Deep.Cut
import Derived.Deep.CutBlock
set_option linter.unusedVariables false
set_option linter.unusedSimpArgs false
namespace Go.Proofs.YtogfjegedfaekaaDoor
open Go.RowKit Go.Zn Go.Zm
attribute [local go_sem] Oper.semAt_some

theorem pOk_r {l : List UInt8} (h : pOk l = true) : ∃ a b c d g : Nat, RDec l a b c d g ∧ cost a b c d g = true ∧ costT a b c d g = l := by
  unfold pOk at h
  simp only [Bool.and_eq_true, beq_iff_eq] at h
  obtain ⟨h1, h2⟩ := h
  obtain ⟨hX, g1, g2⟩ := cost_out h1
  obtain ⟨G, hG⟩ := Int.eq_ofNat_of_zero_le g1
  have e : (mG l).toNat = G := by omega
  rw [e] at h2
  rw [hG] at h1
  have hr := rdec_cost (mOf l 69) (mOf l 84) (mOf l 76) (mOf l 83) G (by omega)
  rw [h2] at hr
  exact ⟨_, _, _, _, _, hr, h1, h2⟩
theorem pOk_of {a b c d g : Nat} {l : List UInt8} (h : cost a b c d g = true) (e : costT a b c d g = l) : pOk l = true ∧ pC l = ⟨⟨a, b, c, d⟩, g⟩ := by
  obtain ⟨hX, g1, g2⟩ := cost_out h
  have hm := mdec_cost a b c d g (by omega)
  rw [e] at hm
  obtain ⟨m0, m1, m2, m3, m4⟩ := hm
  have hp : pOk l = true := by
    unfold pOk
    rw [m0, m1, m2, m3, m4, h]
    simpa using e
  exact ⟨hp, by unfold pC; rw [hp, m0, m1, m2, m3, m4]; rfl⟩
structure RQ (w0 : World) (n0 n1 n2 n3 D : Nat) (wr : World) : Prop where
  hr : wr.heap[w0.heap.size]? = some (.cells #[.int .i64 0, .int .i64 0, .int .i64 0, .int .i64 0, .int .i64 0] 25 (0, 0))
  hc : wr.heap[w0.heap.size + 1]? = some (.cells #[.int .i64 (n0 : Nat), .int .i64 (n1 : Nat), .int .i64 (n2 : Nat), .int .i64 (n3 : Nat), .int .i64 (D : Nat)] 25 (0, 0))
  kept : Kept No w0 wr
theorem RQ.drew {w0 : World} {n0 n1 n2 n3 D : Nat} {wr : World} (h : RQ w0 n0 n1 n2 n3 D wr) : RQ w0 n0 n1 n2 n3 D wr.drew := ⟨h.hr, h.hc, h.kept.drew⟩
theorem RQ.drewN {w0 : World} {n0 n1 n2 n3 D : Nat} {wr : World} (h : RQ w0 n0 n1 n2 n3 D wr) (n : Nat) : RQ w0 n0 n1 n2 n3 D (wr.drewN n) := ⟨h.hr, h.hc, h.kept.drewN n⟩
theorem RQ.put4 {w0 : World} {n0 n1 n2 n3 D : Nat} {wr : World} (h : RQ w0 n0 n1 n2 n3 D wr) (E : Nat) (v : Int) (hv : v = (E : Nat)) : RQ w0 n0 n1 n2 n3 E (wr.setCell ⟨w0.heap.size + 1, 4, none⟩ (.int .i64 v)) := by
  subst hv
  exact ⟨obj_setCell h.hr _ (by simp), obj_store h.hc 4 _, h.kept.setCell (fun h => by simp at h; omega) _⟩
theorem RQ.put0 {w0 : World} {n0 n1 n2 n3 D : Nat} {wr : World} (h : RQ w0 n0 n1 n2 n3 D wr) : RQ w0 (n0 + 1) n1 n2 n3 D (wr.setCell ⟨w0.heap.size + 1, 0, none⟩ (.int .i64 ((n0 : Int) + 1))) :=
  ⟨obj_setCell h.hr _ (by simp), obj_store h.hc 0 _, h.kept.setCell (fun h => by simp at h; omega) _⟩
theorem RQ.put1 {w0 : World} {n0 n1 n2 n3 D : Nat} {wr : World} (h : RQ w0 n0 n1 n2 n3 D wr) : RQ w0 n0 (n1 + 1) n2 n3 D (wr.setCell ⟨w0.heap.size + 1, 1, none⟩ (.int .i64 ((n1 : Int) + 1))) :=
  ⟨obj_setCell h.hr _ (by simp), obj_store h.hc 1 _, h.kept.setCell (fun h => by simp at h; omega) _⟩
theorem RQ.put2 {w0 : World} {n0 n1 n2 n3 D : Nat} {wr : World} (h : RQ w0 n0 n1 n2 n3 D wr) : RQ w0 n0 n1 (n2 + 1) n3 D (wr.setCell ⟨w0.heap.size + 1, 2, none⟩ (.int .i64 ((n2 : Int) + 1))) :=
  ⟨obj_setCell h.hr _ (by simp), obj_store h.hc 2 _, h.kept.setCell (fun h => by simp at h; omega) _⟩
theorem RQ.put3 {w0 : World} {n0 n1 n2 n3 D : Nat} {wr : World} (h : RQ w0 n0 n1 n2 n3 D wr) : RQ w0 n0 n1 n2 (n3 + 1) D (wr.setCell ⟨w0.heap.size + 1, 3, none⟩ (.int .i64 ((n3 : Int) + 1))) :=
  ⟨obj_setCell h.hr _ (by simp), obj_store h.hc 3 _, h.kept.setCell (fun h => by simp at h; omega) _⟩
theorem results23 {W : World} {tmps : Array Value} {g : Nat} {cs : Array Value} {u : Value} (ht : tmps.getD 2 undef = .pointer (some ⟨g, 0, none⟩)) (h5 : tmps.getD 3 undef = u) (hh : W.heap[g]? = some (.cells cs 25 (0, 0))) (hs : cs.size = 5) :
    (results Tryd.f23 tmps).run Tryd.prog W = .ok (.tuple #[.agg cs, u]) W := by
  have hi : (Tryd.prog.info? 25).map (·.size) = some cs.size := by rw [hs]; kernel_rfl
  have e := run_loadVar_row (P := Tryd.prog) W g 25 25 cs (0, 0) _ hh Tryd.underlying25 rfl hi
  rw [results_cell_tmp (p := 2) (u := 3) (ty := 25) rfl, ht, h5]
  simp [asAddr, e, Result.andThen]
def DRel (l : List UInt8) (w0 : World) (i : Value) (wr : World) : Prop := ∃ k D : Nat, i = .int .i64 (k : Nat) ∧ k ≤ rk l ∧ D = dval 0 (l.take k) ∧ ((k = 0 ∧ D = 0) ∨ (k = 1 ∧ D ≤ 9) ∨ (k = 2 ∧ D ≤ 99)) ∧ RQ w0 0 0 0 0 D wr
/-- where the k-th letter begins -/
def rj (l : List UInt8) : Nat → Nat
  | 0 => r0 l | 1 => r1 l | 2 => r2 l | 3 => r3 l | _ => r4 l
def nk (l : List UInt8) (m : Nat) (k : Nat) : Nat := if k < m then (match k with | 0 => run (l.drop (r0 l)) 69 | 1 => run (l.drop (r1 l)) 84 | 2 => run (l.drop (r2 l)) 76 | _ => run (l.drop (r3 l)) 83) else 0
def LRel (l : List UInt8) (w0 : World) (i k : Value) (wr : World) : Prop := ∃ m I : Nat, k = .int .i64 (m : Nat) ∧ m ≤ 4 ∧ i = .int .i64 (I : Nat) ∧ I = rj l m ∧ RQ w0 (nk l m 0) (nk l m 1) (nk l m 2) (nk l m 3) (rAny l) wr
def TRel2 (l : List UInt8) (x : UInt8) (b : Nat) (P : Nat → World → Prop) (i : Value) (wr : World) : Prop := ∃ t I : Nat, i = .int .i64 (I : Nat) ∧ I = b + t ∧ t ≤ run (l.drop b) x ∧ P t wr
theorem nk_le {l : List UInt8} (h : l.length ≤ 200) {m n0 n1 n2 n3 : Nat} (h0 : nk l m 0 = n0) (h1 : nk l m 1 = n1) (h2 : nk l m 2 = n2) (h3 : nk l m 3 = n3) : n0 ≤ 200 ∧ n1 ≤ 200 ∧ n2 ≤ 200 ∧ n3 ≤ 200 := by
  have k : ∀ (x : UInt8) (i : Nat), run (l.drop i) x ≤ 200 := fun x i => by have := run_le l x i; omega
  subst h0 h1 h2 h3
  unfold nk
  refine ⟨?_, ?_, ?_, ?_⟩ <;> (split <;> first | exact k _ _ | omega)
theorem str_ext (l : List UInt8) (J : Nat) (x : UInt8) (h : J < l.length) : (((strOf l).extract J (J + 1)).toList == (strOf [x]).toList) = (l[J]? == some x) := by
  have e : (strOf l).extract J (J + 1) = strOf [l[J]] := by
    apply ByteArray.ext
    simp [strOf]
    rw [List.drop_eq_getElem_cons h]
    rfl
  rw [e, strOf_toList, strOf_toList, List.getElem?_eq_getElem h]
  rw [Bool.eq_iff_iff]
  simp
theorem strOf_at (l : List UInt8) (k : Nat) (h : k < (strOf l).size) : (strOf l)[k] = l[k]'(by rw [← strOf_size]; exact h) := by
  simp [strOf, ByteArray.getElem_eq_getElem_data]
set_option maxRecDepth 100000 in
set_option maxHeartbeats 4000000 in
theorem rparse_any (l : List UInt8) (w : World) (h : l.length ≤ 200) : Calls Tryd.prog 23 #[.string (strOf l)] w fun e w' => e = .returned (.tuple #[.agg #[.int .i64 ((pC l).of.a), .int .i64 ((pC l).of.b), .int .i64 ((pC l).of.c), .int .i64 ((pC l).of.d), .int .i64 ((pC l).g)], .bool (pOk l)]) ∧ Kept No w w' := by
  have hsz := strOf_size l
  obtain ⟨w1, hw1⟩ : ∃ w1, (w.alloc (.cells #[.int .i64 0, .int .i64 0, .int .i64 0, .int .i64 0, .int .i64 0] 25)).alloc (.cells #[.int .i64 0, .int .i64 0, .int .i64 0, .int .i64 0, .int .i64 0] 25) = w1 := ⟨_, rfl⟩
  have HQ := Lib.hid (show RQ w 0 0 0 0 0 w1 by
    rw [← hw1]
    exact ⟨obj_alloc (heap_alloc_new w _) _, World.alloc_at (by simp) _, ((Kept.refl No w).alloc _).alloc _⟩)
  go_enter Tryd.func23, Tryd.ntmps23
  go_upto_block 0 with (fail)
  go_cut [5] from 7 (fun i wx => ∃ k : Nat, i = .int .i64 (k : Nat) ∧ k = rj l 0 ∧ RQ w (nk l 0 0) (nk l 0 1) (nk l 0 2) (nk l 0 3) (rAny l) wx)
  case first =>
   go_wp2_with fail
   go_loopw [5] (fun i wr => DRel l w i wr) (fun i _ => 3 - (intOf i).toNat)
   case atStart => exact ⟨0, 0, rfl, Nat.zero_le _, rfl, .inl ⟨rfl, rfl⟩, HQ.out⟩
   case round =>
     obtain ⟨k, D, rfl, hk, hD, hb, hp⟩ := hrel
     have hk2 := rk_le l
     have hdm := dig_more l k hk
     have HD := Lib.hid hD
     clear hD
     by_cases hlt : k < rk l
     · obtain ⟨h1, x, hx, h2, h3⟩ := hdm.1 hlt
       have hkl : k < l.length := by omega
       have hkl2 : k < (strOf l).size := by rw [hsz]; exact hkl
       have hxk : (strOf l)[k] = x := by
         rw [strOf_at]
         rw [List.getElem?_eq_getElem hkl] at hx
         exact Option.some.inj hx
       have hD9 : D ≤ 9 := by omega
       have HU := Lib.hid (show 10 * D + (x.toNat - 48) = dval 0 (l.take (k + 1)) by
         have e : l.take (k + 1) = l.take k ++ [x] := by rw [List.take_add_one, hx]; rfl
         rw [e, dval_snoc, ← HD.out])
       have c4 := obj_cell hp.hc 4
       have f4 := obj_free hp.hc 4
       have HP := Lib.hid hp
       have HB := Lib.hid hb
       have HLT := Lib.hid hlt
       clear hp hb hdm hx hlt hk
       have hk1 : (k : Int) < 2 := by omega
       have hw1 : IntKind.i64.wrap (10 * (D : Int)) = 10 * D := IntWalk.i64_in _ (by omega)
       have hw2 : IntKind.u8.wrap ((x.toNat : Int) - 48) = (x.toNat : Int) - 48 := by
         rw [IntKind.wrap_u8]
         omega
       have hw3 : IntKind.i64.wrap ((x.toNat : Int) - 48) = (x.toNat : Int) - 48 := IntWalk.i64_in _ (by omega)
       have hw4 : IntKind.i64.wrap (10 * (D : Int) + ((x.toNat : Int) - 48)) = 10 * (D : Int) + ((x.toNat : Int) - 48) := IntWalk.i64_in _ (by omega)
       have HE := Lib.hid (show 10 * (D : Int) + ((x.toNat : Int) - 48) = ((10 * D + (x.toNat - 48) : Nat) : Int) by omega)
       go_wp2_with fail
       go_still_tail 10, (by kernel_rfl)
       go_wp2_with fail
       have HPN := Lib.hid ((HP.out.put4 _ _ HE.out).drew)
       refine ⟨⟨k + 1, _, by go_num, by have := HLT.out; omega, HU.out, ?_, HPN.out⟩, by simp [intOf]; omega⟩
       have := HB.out
       omega
     · have hke : k = rk l := by omega
       have HDE := Lib.hid (show D = rAny l by rw [HD.out, hke]; rfl)
       have HKE := Lib.hid (show k = rj l 0 from hke)
       have HP := Lib.hid (show RQ w (nk l 0 0) (nk l 0 1) (nk l 0 2) (nk l 0 3) (rAny l) wr by
         rw [← HDE.out]
         exact hp)
       have hno : ¬ (k < 2 ∧ ∃ c, l[k]? = some c ∧ 48 ≤ c.toNat ∧ c.toNat ≤ 57) := fun h => hlt (hdm.2 h)
       clear hdm hp hb hke hlt hk HD
       by_cases hkl : k < l.length
       · obtain ⟨x, hx⟩ : ∃ x, l[k]? = some x := ⟨_, List.getElem?_eq_getElem hkl⟩
         have hkl2 : k < (strOf l).size := by rw [hsz]; exact hkl
         have hxk : (strOf l)[k] = x := by
           rw [strOf_at]
           rw [List.getElem?_eq_getElem hkl] at hx
           exact Option.some.inj hx
         have h3 : ¬ (k < 2 ∧ 48 ≤ x.toNat ∧ x.toNat ≤ 57) := fun h => hno ⟨h.1, x, hx, h.2⟩
         clear hno hx
         have HHE := Lib.hid hxk
         by_cases x1 : 48 ≤ x.toNat
         · by_cases x2 : x.toNat ≤ 57
           · have hk9 : ¬ (k : Int) < 2 := by omega
             clear h3
             go_wp2_with fail
             go_meet
             case rel => exact ⟨k, rfl, HKE.out, HP.out⟩
           · clear h3
             go_wp2_with fail
             go_meet
             case rel => exact ⟨k, rfl, HKE.out, HP.out⟩
         · clear h3
           go_wp2_with fail
           go_meet
           case rel => exact ⟨k, rfl, HKE.out, HP.out⟩
       · clear hno
         go_wp2_with fail
         go_meet
         case rel => exact ⟨k, rfl, HKE.out, HP.out⟩
  case rest =>
    obtain ⟨k, rfl, hke, hp⟩ := hcut
    have HKE := Lib.hid hke
    have HP := Lib.hid hp
    clear hke hp
    go_wp2_with fail
    go_loopw [5, 6] (fun i k wr => LRel l w i k wr) (fun _ k _ => 4 - (intOf k).toNat)
    case atStart => exact ⟨0, k, rfl, by decide, rfl, HKE.out, HP.out⟩
    case round =>
      obtain ⟨m, I, rfl, hm4, rfl, hI, hp⟩ := hrel
      have HI := Lib.hid hI
      clear hI
      obtain ⟨n0, hn0⟩ : ∃ n, nk l m 0 = n := ⟨_, rfl⟩
      obtain ⟨n1, hn1⟩ : ∃ n, nk l m 1 = n := ⟨_, rfl⟩
      obtain ⟨n2, hn2⟩ : ∃ n, nk l m 2 = n := ⟨_, rfl⟩
      obtain ⟨n3, hn3⟩ : ∃ n, nk l m 3 = n := ⟨_, rfl⟩
      obtain ⟨D, hDD⟩ : ∃ n, rAny l = n := ⟨_, rfl⟩
      rw [hn0, hn1, hn2, hn3, hDD] at hp
      have HN := Lib.hid (show nk l m 0 = n0 ∧ nk l m 1 = n1 ∧ nk l m 2 = n2 ∧ nk l m 3 = n3 ∧ rAny l = D from ⟨hn0, hn1, hn2, hn3, hDD⟩)
      have HNB := Lib.hid (show n0 ≤ 200 ∧ n1 ≤ 200 ∧ n2 ≤ 200 ∧ n3 ≤ 200 from nk_le h hn0 hn1 hn2 hn3)
      clear hn0 hn1 hn2 hn3 hDD
      obtain rfl | rfl | rfl | rfl | rfl : m = 0 ∨ m = 1 ∨ m = 2 ∨ m = 3 ∨ m = 4 := by omega
      · have hnk : n0 = 0 := by have := HN.out; rw [← (show nk l 0 0 = n0 by omega)]; rfl
        subst hnk
        have HP0 := Lib.hid hp
        clear hp
        go_wp2_with fail
        go_loopw [5] (fun i wr => TRel2 l 69 (r0 l) (fun t wr => RQ w t n1 n2 n3 D wr) i wr) (fun i _ => l.length + 1 - (intOf i).toNat)
        case atStart => exact ⟨0, I, rfl, HI.out, Nat.zero_le _, HP0.out⟩
        case round =>
          obtain ⟨t, J, rfl, hJ, htr, hp⟩ := hrel
          have hrl := run_le l 69 (r0 l)
          have hmore := run_more l 69 (r0 l) t htr
          rw [← hJ] at hmore
          have HJ := Lib.hid hJ
          have HTR := Lib.hid htr
          have hlet := letter0
          by_cases hlt : t < run (l.drop (r0 l)) 69
          · have hx := hmore.1 hlt
            have hJl : J < l.length := (List.getElem?_eq_some_iff.1 hx).1
            have HX := Lib.hid hx
            have HLT := Lib.hid hlt
            have ht2 : t ≤ 200 := by omega
            have hex := str_ext l J 69 hJl
            have he1 : (((strOf l).extract J (J + 1)).toList == (strOf [69]).toList) = true := by rw [hex, hx]; rfl
            have c0 := obj_cell hp.hc 0
            have f0 := obj_free hp.hc 0
            have HP := Lib.hid hp
            clear hp hex hmore hx hlt hJ htr hlet
            go_wp2_with fail
            go_quiet ((go_at_call 34; exact Calls.quiet_of_same ((letter0 _).mono fun _ _ ⟨a, b⟩ => ⟨a, b.symm⟩)))
            all_goals go_wp2_with fail
            refine ⟨⟨t + 1, J + 1, by go_num, ?_, ?_, (HP.out.drewN _).put0⟩, by simp [intOf]; omega⟩
            · have := HJ.out
              omega
            · have := HLT.out
              omega
          · have hte : t = run (l.drop (r0 l)) 69 := by omega
            have hxn : l[J]? ≠ some 69 := fun e => hlt (hmore.2 e)
            have HJE := Lib.hid (show J = rj l 1 by
              show J = r0 l + run (l.drop (r0 l)) 69
              omega)
            have HRQ := Lib.hid (show RQ w (nk l 1 0) (nk l 1 1) (nk l 1 2) (nk l 1 3) (rAny l) wr by
              obtain ⟨q0, q1, q2, q3, q4⟩ := HN.out
              rw [show nk l 1 0 = t from hte.symm]
              rw [show nk l 1 1 = n1 from q1]
              rw [show nk l 1 2 = n2 from q2]
              rw [show nk l 1 3 = n3 from q3]
              rw [q4]
              exact hp)
            clear hp hmore hlt hJ htr hte hlet
            by_cases hJl : J < l.length
            · have hex := str_ext l J 69 hJl
              have he1 : (((strOf l).extract J (J + 1)).toList == (strOf [69]).toList) = false := by rw [hex]; simpa using hxn
              clear hex hxn
              go_wp2_with fail
              go_quiet ((go_at_call 34; exact Calls.quiet_of_same ((letter0 _).mono fun _ _ ⟨a, b⟩ => ⟨a, b.symm⟩)))
              all_goals go_wp2_with fail
              have HRN := Lib.hid (fun n : Nat => HRQ.out.drewN n)
              go_roundw
              case rel => first | exact ⟨1, J, by go_num, by decide, rfl, HJE.out, HRN.out _⟩ | ((repeat apply Exists.intro); exact ⟨⟨1, J, by go_num, by decide, rfl, HJE.out, HRN.out _⟩, rfl⟩)
              case measure => simp [intOf]
            · clear hxn
              go_wp2_with fail
              go_quiet (fail)
              all_goals go_wp2_with fail
              have HRN := Lib.hid (fun n : Nat => HRQ.out.drewN n)
              go_roundw
              case rel => first | exact ⟨1, J, by go_num, by decide, rfl, HJE.out, HRN.out _⟩ | ((repeat apply Exists.intro); exact ⟨⟨1, J, by go_num, by decide, rfl, HJE.out, HRN.out _⟩, rfl⟩)
              case measure => simp [intOf]
      · have hnk : n1 = 0 := by have := HN.out; rw [← (show nk l 1 1 = n1 by omega)]; rfl
        subst hnk
        have HP0 := Lib.hid hp
        clear hp
        go_wp2_with fail
        go_loopw [5] (fun i wr => TRel2 l 84 (r1 l) (fun t wr => RQ w n0 t n2 n3 D wr) i wr) (fun i _ => l.length + 1 - (intOf i).toNat)
        case atStart => exact ⟨0, I, rfl, HI.out, Nat.zero_le _, HP0.out⟩
        case round =>
          obtain ⟨t, J, rfl, hJ, htr, hp⟩ := hrel
          have hrl := run_le l 84 (r1 l)
          have hmore := run_more l 84 (r1 l) t htr
          rw [← hJ] at hmore
          have HJ := Lib.hid hJ
          have HTR := Lib.hid htr
          have hlet := letter1
          by_cases hlt : t < run (l.drop (r1 l)) 84
          · have hx := hmore.1 hlt
            have hJl : J < l.length := (List.getElem?_eq_some_iff.1 hx).1
            have HX := Lib.hid hx
            have HLT := Lib.hid hlt
            have ht2 : t ≤ 200 := by omega
            have hex := str_ext l J 84 hJl
            have he1 : (((strOf l).extract J (J + 1)).toList == (strOf [84]).toList) = true := by rw [hex, hx]; rfl
            have c1 := obj_cell hp.hc 1
            have f1 := obj_free hp.hc 1
            have HP := Lib.hid hp
            clear hp hex hmore hx hlt hJ htr hlet
            go_wp2_with fail
            go_quiet ((go_at_call 34; exact Calls.quiet_of_same ((letter1 _).mono fun _ _ ⟨a, b⟩ => ⟨a, b.symm⟩)))
            all_goals go_wp2_with fail
            refine ⟨⟨t + 1, J + 1, by go_num, ?_, ?_, (HP.out.drewN _).put1⟩, by simp [intOf]; omega⟩
            · have := HJ.out
              omega
            · have := HLT.out
              omega
          · have hte : t = run (l.drop (r1 l)) 84 := by omega
            have hxn : l[J]? ≠ some 84 := fun e => hlt (hmore.2 e)
            have HJE := Lib.hid (show J = rj l 2 by
              show J = r1 l + run (l.drop (r1 l)) 84
              omega)
            have HRQ := Lib.hid (show RQ w (nk l 2 0) (nk l 2 1) (nk l 2 2) (nk l 2 3) (rAny l) wr by
              obtain ⟨q0, q1, q2, q3, q4⟩ := HN.out
              rw [show nk l 2 0 = n0 from q0]
              rw [show nk l 2 1 = t from hte.symm]
              rw [show nk l 2 2 = n2 from q2]
              rw [show nk l 2 3 = n3 from q3]
              rw [q4]
              exact hp)
            clear hp hmore hlt hJ htr hte hlet
            by_cases hJl : J < l.length
            · have hex := str_ext l J 84 hJl
              have he1 : (((strOf l).extract J (J + 1)).toList == (strOf [84]).toList) = false := by rw [hex]; simpa using hxn
              clear hex hxn
              go_wp2_with fail
              go_quiet ((go_at_call 34; exact Calls.quiet_of_same ((letter1 _).mono fun _ _ ⟨a, b⟩ => ⟨a, b.symm⟩)))
              all_goals go_wp2_with fail
              have HRN := Lib.hid (fun n : Nat => HRQ.out.drewN n)
              go_roundw
              case rel => first | exact ⟨2, J, by go_num, by decide, rfl, HJE.out, HRN.out _⟩ | ((repeat apply Exists.intro); exact ⟨⟨2, J, by go_num, by decide, rfl, HJE.out, HRN.out _⟩, rfl⟩)
              case measure => simp [intOf]
            · clear hxn
              go_wp2_with fail
              go_quiet (fail)
              all_goals go_wp2_with fail
              have HRN := Lib.hid (fun n : Nat => HRQ.out.drewN n)
              go_roundw
              case rel => first | exact ⟨2, J, by go_num, by decide, rfl, HJE.out, HRN.out _⟩ | ((repeat apply Exists.intro); exact ⟨⟨2, J, by go_num, by decide, rfl, HJE.out, HRN.out _⟩, rfl⟩)
              case measure => simp [intOf]
      · have hnk : n2 = 0 := by have := HN.out; rw [← (show nk l 2 2 = n2 by omega)]; rfl
        subst hnk
        have HP0 := Lib.hid hp
        clear hp
        go_wp2_with fail
        go_loopw [5] (fun i wr => TRel2 l 76 (r2 l) (fun t wr => RQ w n0 n1 t n3 D wr) i wr) (fun i _ => l.length + 1 - (intOf i).toNat)
        case atStart => exact ⟨0, I, rfl, HI.out, Nat.zero_le _, HP0.out⟩
        case round =>
          obtain ⟨t, J, rfl, hJ, htr, hp⟩ := hrel
          have hrl := run_le l 76 (r2 l)
          have hmore := run_more l 76 (r2 l) t htr
          rw [← hJ] at hmore
          have HJ := Lib.hid hJ
          have HTR := Lib.hid htr
          have hlet := letter2
          by_cases hlt : t < run (l.drop (r2 l)) 76
          · have hx := hmore.1 hlt
            have hJl : J < l.length := (List.getElem?_eq_some_iff.1 hx).1
            have HX := Lib.hid hx
            have HLT := Lib.hid hlt
            have ht2 : t ≤ 200 := by omega
            have hex := str_ext l J 76 hJl
            have he1 : (((strOf l).extract J (J + 1)).toList == (strOf [76]).toList) = true := by rw [hex, hx]; rfl
            have c2 := obj_cell hp.hc 2
            have f2 := obj_free hp.hc 2
            have HP := Lib.hid hp
            clear hp hex hmore hx hlt hJ htr hlet
            go_wp2_with fail
            go_quiet ((go_at_call 34; exact Calls.quiet_of_same ((letter2 _).mono fun _ _ ⟨a, b⟩ => ⟨a, b.symm⟩)))
            all_goals go_wp2_with fail
            refine ⟨⟨t + 1, J + 1, by go_num, ?_, ?_, (HP.out.drewN _).put2⟩, by simp [intOf]; omega⟩
            · have := HJ.out
              omega
            · have := HLT.out
              omega
          · have hte : t = run (l.drop (r2 l)) 76 := by omega
            have hxn : l[J]? ≠ some 76 := fun e => hlt (hmore.2 e)
            have HJE := Lib.hid (show J = rj l 3 by
              show J = r2 l + run (l.drop (r2 l)) 76
              omega)
            have HRQ := Lib.hid (show RQ w (nk l 3 0) (nk l 3 1) (nk l 3 2) (nk l 3 3) (rAny l) wr by
              obtain ⟨q0, q1, q2, q3, q4⟩ := HN.out
              rw [show nk l 3 0 = n0 from q0]
              rw [show nk l 3 1 = n1 from q1]
              rw [show nk l 3 2 = t from hte.symm]
              rw [show nk l 3 3 = n3 from q3]
              rw [q4]
              exact hp)
            clear hp hmore hlt hJ htr hte hlet
            by_cases hJl : J < l.length
            · have hex := str_ext l J 76 hJl
              have he1 : (((strOf l).extract J (J + 1)).toList == (strOf [76]).toList) = false := by rw [hex]; simpa using hxn
              clear hex hxn
              go_wp2_with fail
              go_quiet ((go_at_call 34; exact Calls.quiet_of_same ((letter2 _).mono fun _ _ ⟨a, b⟩ => ⟨a, b.symm⟩)))
              all_goals go_wp2_with fail
              have HRN := Lib.hid (fun n : Nat => HRQ.out.drewN n)
              go_roundw
              case rel => first | exact ⟨3, J, by go_num, by decide, rfl, HJE.out, HRN.out _⟩ | ((repeat apply Exists.intro); exact ⟨⟨3, J, by go_num, by decide, rfl, HJE.out, HRN.out _⟩, rfl⟩)
              case measure => simp [intOf]
            · clear hxn
              go_wp2_with fail
              go_quiet (fail)
              all_goals go_wp2_with fail
              have HRN := Lib.hid (fun n : Nat => HRQ.out.drewN n)
              go_roundw
              case rel => first | exact ⟨3, J, by go_num, by decide, rfl, HJE.out, HRN.out _⟩ | ((repeat apply Exists.intro); exact ⟨⟨3, J, by go_num, by decide, rfl, HJE.out, HRN.out _⟩, rfl⟩)
              case measure => simp [intOf]
      · have hnk : n3 = 0 := by have := HN.out; rw [← (show nk l 3 3 = n3 by omega)]; rfl
        subst hnk
        have HP0 := Lib.hid hp
        clear hp
        go_wp2_with fail
        go_loopw [5] (fun i wr => TRel2 l 83 (r3 l) (fun t wr => RQ w n0 n1 n2 t D wr) i wr) (fun i _ => l.length + 1 - (intOf i).toNat)
        case atStart => exact ⟨0, I, rfl, HI.out, Nat.zero_le _, HP0.out⟩
        case round =>
          obtain ⟨t, J, rfl, hJ, htr, hp⟩ := hrel
          have hrl := run_le l 83 (r3 l)
          have hmore := run_more l 83 (r3 l) t htr
          rw [← hJ] at hmore
          have HJ := Lib.hid hJ
          have HTR := Lib.hid htr
          have hlet := letter3
          by_cases hlt : t < run (l.drop (r3 l)) 83
          · have hx := hmore.1 hlt
            have hJl : J < l.length := (List.getElem?_eq_some_iff.1 hx).1
            have HX := Lib.hid hx
            have HLT := Lib.hid hlt
            have ht2 : t ≤ 200 := by omega
            have hex := str_ext l J 83 hJl
            have he1 : (((strOf l).extract J (J + 1)).toList == (strOf [83]).toList) = true := by rw [hex, hx]; rfl
            have c3 := obj_cell hp.hc 3
            have f3 := obj_free hp.hc 3
            have HP := Lib.hid hp
            clear hp hex hmore hx hlt hJ htr hlet
            go_wp2_with fail
            go_quiet ((go_at_call 34; exact Calls.quiet_of_same ((letter3 _).mono fun _ _ ⟨a, b⟩ => ⟨a, b.symm⟩)))
            all_goals go_wp2_with fail
            refine ⟨⟨t + 1, J + 1, by go_num, ?_, ?_, (HP.out.drewN _).put3⟩, by simp [intOf]; omega⟩
            · have := HJ.out
              omega
            · have := HLT.out
              omega
          · have hte : t = run (l.drop (r3 l)) 83 := by omega
            have hxn : l[J]? ≠ some 83 := fun e => hlt (hmore.2 e)
            have HJE := Lib.hid (show J = rj l 4 by
              show J = r3 l + run (l.drop (r3 l)) 83
              omega)
            have HRQ := Lib.hid (show RQ w (nk l 4 0) (nk l 4 1) (nk l 4 2) (nk l 4 3) (rAny l) wr by
              obtain ⟨q0, q1, q2, q3, q4⟩ := HN.out
              rw [show nk l 4 0 = n0 from q0]
              rw [show nk l 4 1 = n1 from q1]
              rw [show nk l 4 2 = n2 from q2]
              rw [show nk l 4 3 = t from hte.symm]
              rw [q4]
              exact hp)
            clear hp hmore hlt hJ htr hte hlet
            by_cases hJl : J < l.length
            · have hex := str_ext l J 83 hJl
              have he1 : (((strOf l).extract J (J + 1)).toList == (strOf [83]).toList) = false := by rw [hex]; simpa using hxn
              clear hex hxn
              go_wp2_with fail
              go_quiet ((go_at_call 34; exact Calls.quiet_of_same ((letter3 _).mono fun _ _ ⟨a, b⟩ => ⟨a, b.symm⟩)))
              all_goals go_wp2_with fail
              have HRN := Lib.hid (fun n : Nat => HRQ.out.drewN n)
              go_roundw
              case rel => first | exact ⟨4, J, by go_num, by decide, rfl, HJE.out, HRN.out _⟩ | ((repeat apply Exists.intro); exact ⟨⟨4, J, by go_num, by decide, rfl, HJE.out, HRN.out _⟩, rfl⟩)
              case measure => simp [intOf]
            · clear hxn
              go_wp2_with fail
              go_quiet (fail)
              all_goals go_wp2_with fail
              have HRN := Lib.hid (fun n : Nat => HRQ.out.drewN n)
              go_roundw
              case rel => first | exact ⟨4, J, by go_num, by decide, rfl, HJE.out, HRN.out _⟩ | ((repeat apply Exists.intro); exact ⟨⟨4, J, by go_num, by decide, rfl, HJE.out, HRN.out _⟩, rfl⟩)
              case measure => simp [intOf]
      · obtain ⟨q0, q1, q2, q3, q4⟩ := HN.out
        have HQN := Lib.hid (show run (l.drop (r0 l)) 69 = n0 ∧ run (l.drop (r1 l)) 84 = n1 ∧ run (l.drop (r2 l)) 76 = n2 ∧ run (l.drop (r3 l)) 83 = n3 ∧ rAny l = D from ⟨q0, q1, q2, q3, q4⟩)
        clear q0 q1 q2 q3 q4 HN
        have hIr : I = r4 l := HI.out
        have HIR := Lib.hid hIr
        clear hIr
        by_cases hIl : I < l.length
        · have HPK := Lib.hid (show pOk l = false by
            cases hp : pOk l
            · rfl
            · obtain ⟨_, _, _, _, _, hr, _, _⟩ := pOk_r hp
              have := hr.e
              have := HIR.out
              omega)
          have HPC := Lib.hid (show pC l = ⟨⟨0, 0, 0, 0⟩, 0⟩ by unfold pC; rw [HPK.out]; rfl)
          have hb7 := hp.hr
          have z0 := obj_cell hb7 0
          have z1 := obj_cell hb7 1
          have z2 := obj_cell hb7 2
          have z3 := obj_cell hb7 3
          have z4 := obj_cell hb7 4
          have y0 := obj_free hb7 0
          have y1 := obj_free hb7 1
          have y2 := obj_free hb7 2
          have y3 := obj_free hb7 3
          have y4 := obj_free hb7 4
          have HB7 := Lib.hid hb7
          have HK7 := Lib.hid hp.kept
          clear hb7
          clear hp
          go_wp2_with fail
          have k1 := obj_store (obj_store (obj_store (obj_store (obj_store HB7.out 0 (.int .i64 0)) 1 (.int .i64 0)) 2 (.int .i64 0)) 3 (.int .i64 0)) 4 (.int .i64 0)
          refine bodyPost_ret (results23 rfl rfl k1 rfl) rfl ⟨congrArg (fun q : C5 × Bool => Ending.returned (.tuple #[.agg #[.int .i64 q.1.of.a, .int .i64 q.1.of.b, .int .i64 q.1.of.c, .int .i64 q.1.of.d, .int .i64 q.1.g], .bool q.2])) (show ((⟨⟨0, 0, 0, 0⟩, 0⟩, false) : C5 × Bool) = (pC l, pOk l) by rw [HPC.out, HPK.out]), ?_⟩
          have hn : ∀ (h : w.heap.size < w.heap.size), No w.heap.size := fun h => by omega
          exact (((((HK7.out).setCell (p := ⟨w.heap.size, 0, none⟩) hn _).setCell (p := ⟨w.heap.size, 1, none⟩) hn _).setCell (p := ⟨w.heap.size, 2, none⟩) hn _).setCell (p := ⟨w.heap.size, 3, none⟩) hn _).setCell (p := ⟨w.heap.size, 4, none⟩) hn _
        · have c0 := obj_cell hp.hc 0
          have c1 := obj_cell hp.hc 1
          have c2 := obj_cell hp.hc 2
          have c3 := obj_cell hp.hc 3
          have c4 := obj_cell hp.hc 4
          have HP := Lib.hid hp
          clear hp
          go_wp2_with fail
          refine (rvalidCost_any n0 n1 n2 n3 D _).mono ?_
          rintro e w5 ⟨rfl, hk⟩
          have HP5 := Lib.hid (show RQ w n0 n1 n2 n3 D w5 from ⟨hk.obj HP.out.hr (not_no _), hk.obj HP.out.hc (not_no _), HP.out.kept.and hk⟩)
          clear hk
          have c0 := obj_cell HP5.out.hc 0
          have c1 := obj_cell HP5.out.hc 1
          have c2 := obj_cell HP5.out.hc 2
          have c3 := obj_cell HP5.out.hc 3
          have c4 := obj_cell HP5.out.hc 4
          cases hco : cost n0 n1 n2 n3 D
          · have HPK := Lib.hid (show pOk l = false by
              cases hp : pOk l
              · rfl
              · obtain ⟨_, _, _, _, _, hr, h2, _⟩ := pOk_r hp
                obtain ⟨p0, p1, p2, p3, p4⟩ := HQN.out
                have z0 := hr.a.symm.trans p0
                have z1 := hr.b.symm.trans p1
                have z2 := hr.c.symm.trans p2
                have z3 := hr.d.symm.trans p3
                have z4 := hr.g.symm.trans p4
                rw [z0, z1, z2, z3, z4, hco] at h2
                cases h2)
            have HPC := Lib.hid (show pC l = ⟨⟨0, 0, 0, 0⟩, 0⟩ by unfold pC; rw [HPK.out]; rfl)
            have hb7 := HP5.out.hr
            have z0 := obj_cell hb7 0
            have z1 := obj_cell hb7 1
            have z2 := obj_cell hb7 2
            have z3 := obj_cell hb7 3
            have z4 := obj_cell hb7 4
            have y0 := obj_free hb7 0
            have y1 := obj_free hb7 1
            have y2 := obj_free hb7 2
            have y3 := obj_free hb7 3
            have y4 := obj_free hb7 4
            have HB7 := Lib.hid hb7
            have HK7 := Lib.hid HP5.out.kept
            clear hb7
            clear hco
            go_wp2_with fail
            have k1 := obj_store (obj_store (obj_store (obj_store (obj_store HB7.out 0 (.int .i64 0)) 1 (.int .i64 0)) 2 (.int .i64 0)) 3 (.int .i64 0)) 4 (.int .i64 0)
            refine bodyPost_ret (results23 rfl rfl k1 rfl) rfl ⟨congrArg (fun q : C5 × Bool => Ending.returned (.tuple #[.agg #[.int .i64 q.1.of.a, .int .i64 q.1.of.b, .int .i64 q.1.of.c, .int .i64 q.1.of.d, .int .i64 q.1.g], .bool q.2])) (show ((⟨⟨0, 0, 0, 0⟩, 0⟩, false) : C5 × Bool) = (pC l, pOk l) by rw [HPC.out, HPK.out]), ?_⟩
            have hn : ∀ (h : w.heap.size < w.heap.size), No w.heap.size := fun h => by omega
            exact (((((HK7.out).setCell (p := ⟨w.heap.size, 0, none⟩) hn _).setCell (p := ⟨w.heap.size, 1, none⟩) hn _).setCell (p := ⟨w.heap.size, 2, none⟩) hn _).setCell (p := ⟨w.heap.size, 3, none⟩) hn _).setCell (p := ⟨w.heap.size, 4, none⟩) hn _
          · have HTX := Lib.hid (fun W => rtext_ok n0 n1 n2 n3 D W hco)
            obtain ⟨tx, htx⟩ : ∃ tx, costT n0 n1 n2 n3 D = tx := ⟨_, rfl⟩
            rw [htx] at HTX
            have t1 : ((strOf tx).toList == (strOf l).toList) = (tx == l) := by rw [strOf_toList, strOf_toList]
            have t2 : ((strOf tx).toList != (strOf l).toList) = !(tx == l) := by rw [strOf_toList, strOf_toList]; rfl
            cases hbl : (tx == l)
            · rw [hbl] at t1 t2
              have HPK := Lib.hid (show pOk l = false by
                cases hp : pOk l
                · rfl
                · obtain ⟨_, _, _, _, _, hr, h2, h3⟩ := pOk_r hp
                  obtain ⟨p0, p1, p2, p3, p4⟩ := HQN.out
                  have z0 := hr.a.symm.trans p0
                  have z1 := hr.b.symm.trans p1
                  have z2 := hr.c.symm.trans p2
                  have z3 := hr.d.symm.trans p3
                  have z4 := hr.g.symm.trans p4
                  rw [z0, z1, z2, z3, z4, htx] at h3
                  rw [h3] at hbl
                  simp at hbl)
              have HPC := Lib.hid (show pC l = ⟨⟨0, 0, 0, 0⟩, 0⟩ by unfold pC; rw [HPK.out]; rfl)
              clear hco hbl htx
              go_wp2_with fail
              refine (HTX.out _).mono ?_
              rintro e w7 ⟨rfl, hk⟩
              have HP7 := Lib.hid (show RQ w n0 n1 n2 n3 D w7 from ⟨hk.obj HP5.out.hr (not_no _), hk.obj HP5.out.hc (not_no _), HP5.out.kept.and hk⟩)
              clear hk
              have hb7 := HP7.out.hr
              have z0 := obj_cell hb7 0
              have z1 := obj_cell hb7 1
              have z2 := obj_cell hb7 2
              have z3 := obj_cell hb7 3
              have z4 := obj_cell hb7 4
              have y0 := obj_free hb7 0
              have y1 := obj_free hb7 1
              have y2 := obj_free hb7 2
              have y3 := obj_free hb7 3
              have y4 := obj_free hb7 4
              have HB7 := Lib.hid hb7
              have HK7 := Lib.hid HP7.out.kept
              clear hb7
              go_wp2_with fail
              have k1 := obj_store (obj_store (obj_store (obj_store (obj_store HB7.out 0 (.int .i64 0)) 1 (.int .i64 0)) 2 (.int .i64 0)) 3 (.int .i64 0)) 4 (.int .i64 0)
              refine bodyPost_ret (results23 rfl rfl k1 rfl) rfl ⟨congrArg (fun q : C5 × Bool => Ending.returned (.tuple #[.agg #[.int .i64 q.1.of.a, .int .i64 q.1.of.b, .int .i64 q.1.of.c, .int .i64 q.1.of.d, .int .i64 q.1.g], .bool q.2])) (show ((⟨⟨0, 0, 0, 0⟩, 0⟩, false) : C5 × Bool) = (pC l, pOk l) by rw [HPC.out, HPK.out]), ?_⟩
              have hn : ∀ (h : w.heap.size < w.heap.size), No w.heap.size := fun h => by omega
              exact (((((HK7.out).setCell (p := ⟨w.heap.size, 0, none⟩) hn _).setCell (p := ⟨w.heap.size, 1, none⟩) hn _).setCell (p := ⟨w.heap.size, 2, none⟩) hn _).setCell (p := ⟨w.heap.size, 3, none⟩) hn _).setCell (p := ⟨w.heap.size, 4, none⟩) hn _
            · rw [hbl] at t1 t2
              have hpo := pOk_of (l := l) hco (by rw [htx]; simpa using hbl)
              have HPK := Lib.hid hpo.1
              have HPC := Lib.hid hpo.2
              clear hco hbl htx hpo
              go_wp2_with fail
              refine (HTX.out _).mono ?_
              rintro e w7 ⟨rfl, hk⟩
              have HP7 := Lib.hid (show RQ w n0 n1 n2 n3 D w7 from ⟨hk.obj HP5.out.hr (not_no _), hk.obj HP5.out.hc (not_no _), HP5.out.kept.and hk⟩)
              clear hk
              have hb7 := HP7.out.hr
              have z0 := obj_cell hb7 0
              have z1 := obj_cell hb7 1
              have z2 := obj_cell hb7 2
              have z3 := obj_cell hb7 3
              have z4 := obj_cell hb7 4
              have y0 := obj_free hb7 0
              have y1 := obj_free hb7 1
              have y2 := obj_free hb7 2
              have y3 := obj_free hb7 3
              have y4 := obj_free hb7 4
              have HB7 := Lib.hid hb7
              have HK7 := Lib.hid HP7.out.kept
              clear hb7
              have c0 := obj_cell HP7.out.hc 0
              have c1 := obj_cell HP7.out.hc 1
              have c2 := obj_cell HP7.out.hc 2
              have c3 := obj_cell HP7.out.hc 3
              have c4 := obj_cell HP7.out.hc 4
              go_wp2_with fail
              have k1 := obj_store (obj_store (obj_store (obj_store (obj_store HB7.out 0 (.int .i64 ((n0 : Nat)))) 1 (.int .i64 ((n1 : Nat)))) 2 (.int .i64 ((n2 : Nat)))) 3 (.int .i64 ((n3 : Nat)))) 4 (.int .i64 ((D : Nat)))
              refine bodyPost_ret (results23 rfl rfl k1 rfl) rfl ⟨congrArg (fun q : C5 × Bool => Ending.returned (.tuple #[.agg #[.int .i64 q.1.of.a, .int .i64 q.1.of.b, .int .i64 q.1.of.c, .int .i64 q.1.of.d, .int .i64 q.1.g], .bool q.2])) (show ((⟨⟨(n0 : Nat), (n1 : Nat), (n2 : Nat), (n3 : Nat)⟩, (D : Nat)⟩, true) : C5 × Bool) = (pC l, pOk l) by rw [HPC.out, HPK.out]), ?_⟩
              have hn : ∀ (h : w.heap.size < w.heap.size), No w.heap.size := fun h => by omega
              exact (((((HK7.out).setCell (p := ⟨w.heap.size, 0, none⟩) hn _).setCell (p := ⟨w.heap.size, 1, none⟩) hn _).setCell (p := ⟨w.heap.size, 2, none⟩) hn _).setCell (p := ⟨w.heap.size, 3, none⟩) hn _).setCell (p := ⟨w.heap.size, 4, none⟩) hn _
end Go.Proofs.YtogfjegedfaekaaDoor
