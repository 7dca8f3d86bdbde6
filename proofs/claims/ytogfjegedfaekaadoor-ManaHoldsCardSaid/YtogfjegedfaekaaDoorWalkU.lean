/-
  Mana: Parse.
-/
import Derived.Test.YtogfjegedfaekaaDoorWalkT
import Derived.Test.YtogfjegedfaekaaDoorL
import Derived.Lib.ConvBytes
import Derived.Laws.ResultCell
set_option linter.unusedVariables false
set_option linter.unusedSimpArgs false
namespace Go.Proofs.YtogfjegedfaekaaDoor
open Go.RowKit Go.Zn Go.Zm
attribute [local go_sem] Oper.semAt_some

theorem strOf_extract (l : List UInt8) (n : Nat) : (strOf l).extract 0 n = strOf (l.take n) := by
  apply ByteArray.ext
  simp [strOf]
theorem strOf_list (l : List UInt8) : (strOf l).data.toList = l := by simp [strOf]
theorem strOf_toList (l : List UInt8) : (strOf l).toList = l := by rw [ByteArray.toList_eq]; exact strOf_list l
theorem kept_bytes (w : World) (e : TypeId) (s : ByteArray) : Kept No w (Lib.bytesWorld w e s) :=
  ⟨rfl, rfl, rfl, by rw [Lib.bytesWorld_size]; omega, fun k hk _ => Lib.bytesWorld_at_old w e s k hk⟩
/-- the two errors of strconv are there -/
structure Errs (w : World) : Prop where
  s : ∃ ev, w.cell? ⟨Tryd.laysC172_ren.g 15, 0, none⟩ = some ev ∧ (ev = .nilIface ∨ ∃ te pe, ev = .iface te pe)
  r : ∃ ev, w.cell? ⟨Tryd.laysC172_ren.g 16, 0, none⟩ = some ev ∧ (ev = .nilIface ∨ ∃ te pe, ev = .iface te pe)
theorem Errs.kept {w w' : World} (h : Errs w) (hk : Kept No w w') : Errs w' := by
  obtain ⟨⟨e1, h1, k1⟩, ⟨e2, h2, k2⟩⟩ := h
  exact ⟨⟨e1, hk.cell h1 (not_no _), k1⟩, ⟨e2, hk.cell h2 (not_no _), k2⟩⟩
theorem atoi_no {s : ByteArray} (hs : s.size ≤ 1000) (h : ∀ v, Lib.atoiAll s.data.toList ≠ .ok v) (w : World) (hE : Errs w) :
    Calls Tryd.prog 43 #[.string s] w fun e w' => (∃ v t p, e = .returned (.tuple #[.int .i64 v, .iface t p])) ∧ Kept No w w' := by
  obtain ⟨⟨e1, h1, k1⟩, ⟨e2, h2, k2⟩⟩ := hE
  rcases ha : Lib.atoiAll s.data.toList with v | _ | _
  · exact absurd ha (h v)
  · exact (Any.strconv_Atoi_syntax Tryd.laysC172 s (by omega) ha e1 w h1 k1).mono fun e w' ⟨n, he, _, _, hb⟩ => ⟨⟨_, _, _, he⟩, Kept.of_below hb⟩
  · exact (Tryd.strconv_Atoi_range s (by omega) ha e2 w h2 k2).mono fun e w' ⟨n, he, _, _, hb⟩ => ⟨⟨_, _, _, he⟩, Kept.of_below hb⟩
theorem atoi_yes {s : ByteArray} (hs : s.size ≤ 1000) {v : Int} (h : Lib.atoiAll s.data.toList = .ok v) (w : World) :
    Calls Tryd.prog 43 #[.string s] w fun e w' => e = .returned (.tuple #[.int .i64 v, .nilIface]) ∧ Kept No w w' := by
  refine (Tryd.strconv_Atoi_ok s (by omega) v h w).mono fun e w' ⟨he, hw⟩ => ⟨he, ?_⟩
  rcases hw with rfl | ⟨t, rfl⟩
  · exact Kept.refl No _
  · exact kept_bytes _ _ _
theorem trim_any (l : List UInt8) (w : World) : Calls Tryd.prog 42 #[.string (strOf l), .string ⟨#[48, 49, 50, 51, 52, 53, 54, 55, 56, 57]⟩] w fun e w' => e = .returned (.string (strOf (rest l))) ∧ Kept No w w' := by
  refine (Tryd.strings_TrimLeft_ascii (strOf l) ⟨#[48, 49, 50, 51, 52, 53, 54, 55, 56, 57]⟩ w (by decide) (ascii_of_all (by decide))).mono fun e w' ⟨he, hb⟩ => ⟨he.trans ?_, Kept.of_below hb⟩
  rw [strOf_list]
  rfl
theorem rest_le (l : List UInt8) : (rest l).length ≤ l.length := by
  unfold rest Lib.trimLeftS
  exact (List.dropWhile_sublist _).length_le
def ltr (x : UInt8) : Int := if x = 69 then 0 else if x = 84 then 1 else if x = 76 then 2 else if x = 83 then 3 else -1
theorem index_any (x : UInt8) (w : World) : Calls Tryd.prog 44 #[.string ⟨#[69, 84, 76, 83]⟩, .int .u8 x.toNat] w fun e w' => e = .returned (.int .i64 (ltr x)) ∧ w = w' := by
  refine (Tryd.strings_IndexByte ⟨#[69, 84, 76, 83]⟩ x.toNat w).mono fun e w' ⟨he, hw⟩ => ⟨he.trans ?_, hw.symm⟩
  have e1 : (x.toNat : Int).toNat.toUInt8 = x := by simp
  rw [e1]
  show Ending.returned (.int .i64 (Lib.indexByte [69, 84, 76, 83] x)) = _
  congr 2
  unfold ltr
  simp only [Lib.indexByte]
  by_cases h1 : x = 69
  · subst h1; rfl
  · by_cases h2 : x = 84
    · subst h2; rfl
    · by_cases h3 : x = 76
      · subst h3; rfl
      · by_cases h4 : x = 83
        · subst h4; rfl
        · have e1 : ((69 : UInt8) == x) = false := by simpa using fun e => h1 e.symm
          have e2 : ((84 : UInt8) == x) = false := by simpa using fun e => h2 e.symm
          have e3 : ((76 : UInt8) == x) = false := by simpa using fun e => h3 e.symm
          have e4 : ((83 : UInt8) == x) = false := by simpa using fun e => h4 e.symm
          simp [e1, e2, e3, e4, h1, h2, h3, h4]
theorem results35 {W : World} {tmps : Array Value} {g : Nat} {cs : Array Value} {u : Value} (ht : tmps.getD 2 undef = .pointer (some ⟨g, 0, none⟩)) (h5 : tmps.getD 3 undef = u) (hh : W.heap[g]? = some (.cells cs 25 (0, 0))) (hs : cs.size = 5) :
    (results Tryd.f35 tmps).run Tryd.prog W = .ok (.tuple #[.agg cs, u]) W := by
  have hi : (Tryd.prog.info? 25).map (·.size) = some cs.size := by rw [hs]; kernel_rfl
  have e := run_loadVar_row (P := Tryd.prog) W g 25 25 cs (0, 0) _ hh Tryd.underlying25 rfl hi
  rw [results_cell_tmp (p := 2) (u := 3) (ty := 25) rfl, ht, h5]
  simp [asAddr, e, Result.andThen]
def pOk (l : List UInt8) : Bool := cost (mOf l 69) (mOf l 84) (mOf l 76) (mOf l 83) (mG l) && (costT (mOf l 69) (mOf l 84) (mOf l 76) (mOf l 83) (mG l).toNat == l)
def pC (l : List UInt8) : C5 := if pOk l then ⟨⟨mOf l 69, mOf l 84, mOf l 76, mOf l 83⟩, mG l⟩ else ⟨⟨0, 0, 0, 0⟩, 0⟩
def pE (l : List UInt8) : Int := if pOk l then 0 else 6
theorem pOk_len {l : List UInt8} (h : pOk l = true) : l.length ≤ 100 := by
  unfold pOk at h
  simp only [Bool.and_eq_true, beq_iff_eq] at h
  obtain ⟨hX, g1, g2⟩ := cost_out h.1
  obtain ⟨⟨a1, a2⟩, ⟨b1, b2⟩, ⟨e1, e2⟩, ⟨d1, d2⟩⟩ := in4_out hX
  rw [← h.2]
  unfold costT lets
  have := (dig_ok (mOf l 69 == 0 && mOf l 84 == 0 && mOf l 76 == 0 && mOf l 83 == 0) (mG l).toNat (by omega)).len
  simp only [List.length_append, List.length_replicate]
  omega
set_option maxRecDepth 100000 in
theorem parse_long (l : List UInt8) (w : World) (h : 100 < l.length) (hl : l.length ≤ maxLen) : Calls Tryd.prog 35 #[.string (strOf l)] w fun e w' => e = .returned (.tuple #[.agg #[.int .i64 0, .int .i64 0, .int .i64 0, .int .i64 0, .int .i64 0], .int .i64 6]) ∧ Kept No w w' := by
  obtain ⟨w1, hw1⟩ : ∃ w1, (w.alloc (.cells #[.int .i64 0, .int .i64 0, .int .i64 0, .int .i64 0, .int .i64 0] 25)).alloc (.cells #[.int .i64 0, .int .i64 0, .int .i64 0, .int .i64 0, .int .i64 0] 25) = w1 := ⟨_, rfl⟩
  have hb : w1.heap[w.heap.size]? = some (.cells #[.int .i64 0, .int .i64 0, .int .i64 0, .int .i64 0, .int .i64 0] 25 (0, 0)) := by rw [← hw1]; exact obj_alloc (heap_alloc_new w _) _
  have hc : w1.heap[w.heap.size + 1]? = some (.cells #[.int .i64 0, .int .i64 0, .int .i64 0, .int .i64 0, .int .i64 0] 25 (0, 0)) := by rw [← hw1]; exact World.alloc_at (by simp) _
  have HK1 := Lib.hid (show Kept No w w1 by rw [← hw1]; exact ((Kept.refl No w).alloc _).alloc _)
  have hsz := strOf_size l
  unfold maxLen at hl
  have z0 := obj_cell hb 0
  have z1 := obj_cell hb 1
  have z2 := obj_cell hb 2
  have z3 := obj_cell hb 3
  have z4 := obj_cell hb 4
  have f0 := obj_free hb 0
  have f1 := obj_free hb 1
  have f2 := obj_free hb 2
  have f3 := obj_free hb 3
  have f4 := obj_free hb 4
  have c0 := obj_cell hc 0
  have c1 := obj_cell hc 1
  have c2 := obj_cell hc 2
  have c3 := obj_cell hc 3
  have c4 := obj_cell hc 4
  have HB := Lib.hid hb
  clear hb hc
  go_enter Tryd.func35, Tryd.ntmps35
  go_wp2_with fail
  have k1 := obj_store (obj_store (obj_store (obj_store (obj_store HB.out 0 (.int .i64 0)) 1 (.int .i64 0)) 2 (.int .i64 0)) 3 (.int .i64 0)) 4 (.int .i64 0)
  refine bodyPost_ret (results35 rfl rfl k1 rfl) rfl ⟨rfl, ?_⟩
  have hn : ∀ (h : w.heap.size < w.heap.size), No w.heap.size := fun h => by omega
  exact (((((HK1.out).setCell (p := ⟨w.heap.size, 0, none⟩) hn _).setCell (p := ⟨w.heap.size, 1, none⟩) hn _).setCell (p := ⟨w.heap.size, 2, none⟩) hn _).setCell (p := ⟨w.heap.size, 3, none⟩) hn _).setCell (p := ⟨w.heap.size, 4, none⟩) hn _
/-- Behind j bytes: the numbers so far. -/
structure PR (l : List UInt8) (v : Int) (g : Nat) (bc : Array Value) (fz : Nat × Nat) (w0 : World) (n0 n1 n2 n3 : Nat) (wr : World) : Prop where
  hr : wr.heap[w0.heap.size]? = some (.cells #[.int .i64 0, .int .i64 0, .int .i64 0, .int .i64 0, .int .i64 0] 25 (0, 0))
  hc : wr.heap[w0.heap.size + 1]? = some (.cells #[.int .i64 (n0 : Nat), .int .i64 (n1 : Nat), .int .i64 (n2 : Nat), .int .i64 (n3 : Nat), .int .i64 v] 25 (0, 0))
  hg : wr.heap[g]? = some (.cells bc 5 fz)
  ne : w0.heap.size + 1 < g
  kept : Kept No w0 wr
/-- the numbers are those of the first j bytes -/
def Cnt (r : List UInt8) (j n0 n1 n2 n3 : Nat) : Prop := (r.take j).count 69 = n0 ∧ (r.take j).count 84 = n1 ∧ (r.take j).count 76 = n2 ∧ (r.take j).count 83 = n3
theorem Cnt.le {r : List UInt8} {j n0 n1 n2 n3 : Nat} (h : Cnt r j n0 n1 n2 n3) : n0 ≤ r.length ∧ n1 ≤ r.length ∧ n2 ≤ r.length ∧ n3 ≤ r.length := by
  obtain ⟨rfl, rfl, rfl, rfl⟩ := h
  have k : ∀ x : UInt8, (r.take j).count x ≤ r.length := fun x => Nat.le_trans List.count_le_length (by simp; omega)
  exact ⟨k _, k _, k _, k _⟩
theorem Cnt.up {r : List UInt8} {j n0 n1 n2 n3 : Nat} (h : Cnt r j n0 n1 n2 n3) {x : UInt8} (hx : r[j]? = some x) :
    Cnt r (j + 1) (n0 + if x = 69 then 1 else 0) (n1 + if x = 84 then 1 else 0) (n2 + if x = 76 then 1 else 0) (n3 + if x = 83 then 1 else 0) := by
  obtain ⟨rfl, rfl, rfl, rfl⟩ := h
  have hj : j < r.length := (List.getElem?_eq_some_iff.1 hx).1
  have e : r.take (j + 1) = r.take j ++ [x] := by
    rw [List.take_add_one, hx]
    rfl
  unfold Cnt
  rw [e]
  have k : ∀ y : UInt8, (r.take j ++ [x]).count y = (r.take j).count y + if x = y then 1 else 0 := fun y => by
    rw [List.count_append]
    by_cases h : x = y
    · simp [h]
    · simp [h]
  exact ⟨k _, k _, k _, k _⟩
theorem Cnt.end {r : List UInt8} {n0 n1 n2 n3 : Nat} (h : Cnt r r.length n0 n1 n2 n3) : r.count 69 = n0 ∧ r.count 84 = n1 ∧ r.count 76 = n2 ∧ r.count 83 = n3 := by
  unfold Cnt at h
  rw [List.take_length] at h
  exact h
theorem PR.put0 {l : List UInt8} {v : Int} {g : Nat} {bc : Array Value} {fz : Nat × Nat} {w0 : World} {n0 n1 n2 n3 : Nat} {wr : World} (h : PR l v g bc fz w0 n0 n1 n2 n3 wr) : PR l v g bc fz w0 (n0 + 1) n1 n2 n3 (wr.setCell ⟨w0.heap.size + 1, 0, none⟩ (.int .i64 ((n0 : Int) + 1))) :=
  ⟨obj_setCell h.hr _ (by simp), obj_store h.hc 0 _, obj_setCell h.hg _ (by have := h.ne; simp; omega), h.ne, h.kept.setCell (fun h => by simp at h; omega) _⟩
theorem PR.put1 {l : List UInt8} {v : Int} {g : Nat} {bc : Array Value} {fz : Nat × Nat} {w0 : World} {n0 n1 n2 n3 : Nat} {wr : World} (h : PR l v g bc fz w0 n0 n1 n2 n3 wr) : PR l v g bc fz w0 n0 (n1 + 1) n2 n3 (wr.setCell ⟨w0.heap.size + 1, 1, none⟩ (.int .i64 ((n1 : Int) + 1))) :=
  ⟨obj_setCell h.hr _ (by simp), obj_store h.hc 1 _, obj_setCell h.hg _ (by have := h.ne; simp; omega), h.ne, h.kept.setCell (fun h => by simp at h; omega) _⟩
theorem PR.put2 {l : List UInt8} {v : Int} {g : Nat} {bc : Array Value} {fz : Nat × Nat} {w0 : World} {n0 n1 n2 n3 : Nat} {wr : World} (h : PR l v g bc fz w0 n0 n1 n2 n3 wr) : PR l v g bc fz w0 n0 n1 (n2 + 1) n3 (wr.setCell ⟨w0.heap.size + 1, 2, none⟩ (.int .i64 ((n2 : Int) + 1))) :=
  ⟨obj_setCell h.hr _ (by simp), obj_store h.hc 2 _, obj_setCell h.hg _ (by have := h.ne; simp; omega), h.ne, h.kept.setCell (fun h => by simp at h; omega) _⟩
theorem PR.put3 {l : List UInt8} {v : Int} {g : Nat} {bc : Array Value} {fz : Nat × Nat} {w0 : World} {n0 n1 n2 n3 : Nat} {wr : World} (h : PR l v g bc fz w0 n0 n1 n2 n3 wr) : PR l v g bc fz w0 n0 n1 n2 (n3 + 1) (wr.setCell ⟨w0.heap.size + 1, 3, none⟩ (.int .i64 ((n3 : Int) + 1))) :=
  ⟨obj_setCell h.hr _ (by simp), obj_store h.hc 3 _, obj_setCell h.hg _ (by have := h.ne; simp; omega), h.ne, h.kept.setCell (fun h => by simp at h; omega) _⟩
def PRel (l : List UInt8) (v : Int) (g : Nat) (bc : Array Value) (fz : Nat × Nat) (w0 : World) (i : Value) (wr : World) : Prop :=
  ∃ j n0 n1 n2 n3 : Nat, i = .int .i64 (j : Nat) ∧ j ≤ (rest l).length ∧ Cnt (rest l) j n0 n1 n2 n3 ∧ PR l v g bc fz w0 n0 n1 n2 n3 wr
set_option maxRecDepth 100000 in
set_option maxHeartbeats 4000000 in
theorem parse_short (l : List UInt8) (w : World) (h : l.length ≤ 100) (hE : Errs w) : Calls Tryd.prog 35 #[.string (strOf l)] w fun e w' => e = .returned (.tuple #[.agg #[.int .i64 ((pC l).of.a), .int .i64 ((pC l).of.b), .int .i64 ((pC l).of.c), .int .i64 ((pC l).of.d), .int .i64 ((pC l).g)], .int .i64 (pE l)]) ∧ Kept No w w' := by
  have hsz := strOf_size l
  have hsr := strOf_size (rest l)
  have hrl := rest_le l
  have HEX := Lib.hid (strOf_extract l (l.length - (rest l).length))
  obtain ⟨w1, hw1⟩ : ∃ w1, (w.alloc (.cells #[.int .i64 0, .int .i64 0, .int .i64 0, .int .i64 0, .int .i64 0] 25)).alloc (.cells #[.int .i64 0, .int .i64 0, .int .i64 0, .int .i64 0, .int .i64 0] 25) = w1 := ⟨_, rfl⟩
  have hb : w1.heap[w.heap.size]? = some (.cells #[.int .i64 0, .int .i64 0, .int .i64 0, .int .i64 0, .int .i64 0] 25 (0, 0)) := by rw [← hw1]; exact obj_alloc (heap_alloc_new w _) _
  have hc : w1.heap[w.heap.size + 1]? = some (.cells #[.int .i64 0, .int .i64 0, .int .i64 0, .int .i64 0, .int .i64 0] 25 (0, 0)) := by rw [← hw1]; exact World.alloc_at (by simp) _
  have HK1 := Lib.hid (show Kept No w w1 by rw [← hw1]; exact ((Kept.refl No w).alloc _).alloc _)
  have c0 := obj_cell hc 0
  have c1 := obj_cell hc 1
  have c2 := obj_cell hc 2
  have c3 := obj_cell hc 3
  have c4 := obj_cell hc 4
  have f0 := obj_free hc 0
  have f1 := obj_free hc 1
  have f2 := obj_free hc 2
  have f3 := obj_free hc 3
  have f4 := obj_free hc 4
  have HB := Lib.hid hb
  have HC := Lib.hid hc
  have HE := Lib.hid hE
  clear hb hc hE
  go_enter Tryd.func35, Tryd.ntmps35
  go_wp2_with fail
  refine (trim_any l _).mono ?_
  rintro e w2 ⟨rfl, hk⟩
  have hb := hk.obj HB.out (not_no _)
  have hc := hk.obj HC.out (not_no _)
  have c0 := obj_cell hc 0
  have c1 := obj_cell hc 1
  have c2 := obj_cell hc 2
  have c3 := obj_cell hc 3
  have c4 := obj_cell hc 4
  have f0 := obj_free hc 0
  have f1 := obj_free hc 1
  have f2 := obj_free hc 2
  have f3 := obj_free hc 3
  have f4 := obj_free hc 4
  have HB2 := Lib.hid hb
  have HC2 := Lib.hid hc
  have HK2 := Lib.hid (HK1.out.and hk)
  clear hb hc hk
  have hfr : (l.length : Int) - (rest l).length = ((l.length - (rest l).length : Nat) : Int) := by omega
  go_wp2_with fail
  rw [HEX.out]
  have hfz : (strOf (l.take (l.length - (rest l).length))).size ≤ 1000 := by rw [strOf_size, List.length_take]; omega
  by_cases ho : ∃ v, Lib.atoiAll (front l) = .ok v
  · obtain ⟨v, ho⟩ := ho
    have HMG := Lib.hid (show mG l = v by unfold mG mAny; rw [ho])
    refine (atoi_yes hfz (by rw [strOf_list]; exact ho) _).mono ?_
    rintro e w3 ⟨rfl, hk⟩
    clear hfz ho hfr
    have hc := hk.obj HC2.out (not_no _)
    have c0 := obj_cell hc 0
    have c1 := obj_cell hc 1
    have c2 := obj_cell hc 2
    have c3 := obj_cell hc 3
    have c4 := obj_cell hc 4
    have f0 := obj_free hc 0
    have f1 := obj_free hc 1
    have f2 := obj_free hc 2
    have f3 := obj_free hc 3
    have f4 := obj_free hc 4
    have HB4' := Lib.hid (hk.obj HB2.out (not_no _))
    have HK3 := Lib.hid (HK2.out.and hk)
    obtain ⟨w4, hw4⟩ : ∃ w4, w3.setCell ⟨w.heap.size + 1, 4, none⟩ (.int .i64 v) = w4 := ⟨_, rfl⟩
    have HC4 := Lib.hid (show w4.heap[w.heap.size + 1]? = some (.cells #[.int .i64 0, .int .i64 0, .int .i64 0, .int .i64 0, .int .i64 v] 25 (0, 0)) by rw [← hw4]; exact obj_store hc 4 _)
    have HB4 := Lib.hid (show w4.heap[w.heap.size]? = some (.cells #[.int .i64 0, .int .i64 0, .int .i64 0, .int .i64 0, .int .i64 0] 25 (0, 0)) by rw [← hw4]; exact obj_setCell HB4'.out _ (by simp))
    have HK4 := Lib.hid (show Kept No w w4 by rw [← hw4]; exact HK3.out.setCell (fun h => by simp at h; omega) _)
    clear hc hk
    have hcv := Lib.run_convert_string_bytes (P := Tryd.prog) w4 9 59 5 (strOf (rest l)) (u := .string) Tryd.underlying9 Tryd.underlying59 Tryd.underlying5
    obtain ⟨w5, hw5⟩ : ∃ w5, Lib.bytesWorld w4 5 (strOf (rest l)) = w5 := ⟨_, rfl⟩
    obtain ⟨g, hgg⟩ : ∃ g, w4.heap.size = g := ⟨_, rfl⟩
    have hgl : w.heap.size + 1 < g := by rw [← hgg]; exact obj_lt HC4.out
    obtain ⟨bc, hbc⟩ : ∃ bc, Lib.bytesCells w4 5 (strOf (rest l)) = bc := ⟨_, rfl⟩
    have HBC := Lib.hid (show ∀ (j : Nat) (x : UInt8), (rest l)[j]? = some x → bc[j]? = some (.int .u8 x.toNat) from fun j x hx => by
      have hj := (List.getElem?_eq_some_iff.1 hx).1
      have h0 := Lib.bytesWorld_cell w4 5 (strOf (rest l)) j (by rw [hsr]; exact hj)
      rw [strOf_list] at h0
      simp only [World.cell?, Lib.bytesWorld_at_new, hbc] at h0
      rw [List.getD_eq_getElem?_getD, hx] at h0
      simpa using h0)
    have HPR := Lib.hid (show PR l v g bc (bc.size, bc.size + 1) w 0 0 0 0 w5 from
      ⟨by rw [← hw5]; exact (Lib.bytesWorld_at_old w4 5 _ _ (obj_lt HB4.out)).trans HB4.out, by rw [← hw5]; exact (Lib.bytesWorld_at_old w4 5 _ _ (obj_lt HC4.out)).trans HC4.out, by rw [← hw5, ← hgg, ← hbc]; exact Lib.bytesWorld_at_new w4 5 _, hgl, by rw [← hw5]; exact HK4.out.and (kept_bytes w4 5 _)⟩)
    rw [hw5] at hcv
    clear hbc
    go_wp2_with fail
    go_loopw [37] (fun i wr => PRel l v g bc (bc.size, bc.size + 1) w i wr) (fun i _ => (rest l).length - (intOf i).toNat)
    case atStart => exact ⟨0, 0, 0, 0, 0, rfl, Nat.zero_le _, ⟨rfl, rfl, rfl, rfl⟩, HPR.out⟩
    case round =>
      obtain ⟨j, n0, n1, n2, n3, rfl, hj, hcn, hp⟩ := hrel
      obtain ⟨b0, b1, b2, b3⟩ := hcn.le
      have HCN := Lib.hid hcn
      clear hcn
      by_cases hlt : j < (rest l).length
      · have hx : (rest l)[j]? = some (rest l)[j] := List.getElem?_eq_getElem hlt
        obtain ⟨x, hxx⟩ : ∃ x, (rest l)[j] = x := ⟨_, rfl⟩
        rw [hxx] at hx
        clear hxx
        have hcell : wr.cell? ⟨g, j, none⟩ = some (.int .u8 x.toNat) := (obj_cell hp.hg j).trans (HBC.out j x hx)
        have HUP := Lib.hid (HCN.out.up hx)
        have HIX := Lib.hid (fun W => index_any x W)
        clear hx
        have c0 := obj_cell hp.hc 0
        have c1 := obj_cell hp.hc 1
        have c2 := obj_cell hp.hc 2
        have c3 := obj_cell hp.hc 3
        have f0 := obj_free hp.hc 0
        have f1 := obj_free hp.hc 1
        have f2 := obj_free hp.hc 2
        have f3 := obj_free hp.hc 3
        have HP := Lib.hid hp
        clear hp
        by_cases x0 : x = 69
        · subst x0
          have HC5 := Lib.hid (show Cnt (rest l) (j + 1) (n0 + 1) n1 n2 n3 by simpa using HUP.out)
          have hcell' : wr.cell? ⟨g, j, none⟩ = some (.int .u8 69) := hcell
          clear hcell
          go_wp2_with fail
          refine (HIX.out _).mono ?_
          rintro e w6 ⟨rfl, rfl⟩
          rw [show ltr 69 = 0 from rfl]
          go_wp2_with fail
          go_roundw
          case rel => first | exact ⟨j + 1, n0 + 1, n1, n2, n3, by go_num, by omega, HC5.out, HP.out.put0⟩ | ((repeat apply Exists.intro); exact ⟨⟨j + 1, n0 + 1, n1, n2, n3, by go_num, by omega, HC5.out, HP.out.put0⟩, rfl⟩)
          case measure => simp [intOf]; omega
        by_cases x1 : x = 84
        · subst x1
          have HC5 := Lib.hid (show Cnt (rest l) (j + 1) n0 (n1 + 1) n2 n3 by simpa using HUP.out)
          have hcell' : wr.cell? ⟨g, j, none⟩ = some (.int .u8 84) := hcell
          clear hcell
          go_wp2_with fail
          refine (HIX.out _).mono ?_
          rintro e w6 ⟨rfl, rfl⟩
          rw [show ltr 84 = 1 from rfl]
          go_wp2_with fail
          go_roundw
          case rel => first | exact ⟨j + 1, n0, n1 + 1, n2, n3, by go_num, by omega, HC5.out, HP.out.put1⟩ | ((repeat apply Exists.intro); exact ⟨⟨j + 1, n0, n1 + 1, n2, n3, by go_num, by omega, HC5.out, HP.out.put1⟩, rfl⟩)
          case measure => simp [intOf]; omega
        by_cases x2 : x = 76
        · subst x2
          have HC5 := Lib.hid (show Cnt (rest l) (j + 1) n0 n1 (n2 + 1) n3 by simpa using HUP.out)
          have hcell' : wr.cell? ⟨g, j, none⟩ = some (.int .u8 76) := hcell
          clear hcell
          go_wp2_with fail
          refine (HIX.out _).mono ?_
          rintro e w6 ⟨rfl, rfl⟩
          rw [show ltr 76 = 2 from rfl]
          go_wp2_with fail
          go_roundw
          case rel => first | exact ⟨j + 1, n0, n1, n2 + 1, n3, by go_num, by omega, HC5.out, HP.out.put2⟩ | ((repeat apply Exists.intro); exact ⟨⟨j + 1, n0, n1, n2 + 1, n3, by go_num, by omega, HC5.out, HP.out.put2⟩, rfl⟩)
          case measure => simp [intOf]; omega
        by_cases x3 : x = 83
        · subst x3
          have HC5 := Lib.hid (show Cnt (rest l) (j + 1) n0 n1 n2 (n3 + 1) by simpa using HUP.out)
          have hcell' : wr.cell? ⟨g, j, none⟩ = some (.int .u8 83) := hcell
          clear hcell
          go_wp2_with fail
          refine (HIX.out _).mono ?_
          rintro e w6 ⟨rfl, rfl⟩
          rw [show ltr 83 = 3 from rfl]
          go_wp2_with fail
          go_roundw
          case rel => first | exact ⟨j + 1, n0, n1, n2, n3 + 1, by go_num, by omega, HC5.out, HP.out.put3⟩ | ((repeat apply Exists.intro); exact ⟨⟨j + 1, n0, n1, n2, n3 + 1, by go_num, by omega, HC5.out, HP.out.put3⟩, rfl⟩)
          case measure => simp [intOf]; omega
        have HC5 := Lib.hid (show Cnt (rest l) (j + 1) n0 n1 n2 n3 by simpa [x0, x1, x2, x3] using HUP.out)
        have HLT := Lib.hid (show ltr x = -1 by simp [ltr, x0, x1, x2, x3])
        clear x0 x1 x2 x3
        go_wp2_with fail
        refine (HIX.out _).mono ?_
        rw [HLT.out]
        rintro e w6 ⟨rfl, rfl⟩
        go_wp2_with fail
        go_roundw
        case rel => first | exact ⟨j + 1, n0, n1, n2, n3, by go_num, by omega, HC5.out, HP.out⟩ | ((repeat apply Exists.intro); exact ⟨⟨j + 1, n0, n1, n2, n3, by go_num, by omega, HC5.out, HP.out⟩, rfl⟩)
        case measure => simp [intOf]; omega
      · have hje : j = (rest l).length := by omega
        have hcn := HCN.out
        rw [hje] at hcn
        obtain ⟨m0, m1, m2, m3⟩ := hcn.end
        have e0 : mOf l 69 = n0 := m0
        have e1 : mOf l 84 = n1 := m1
        have e2 : mOf l 76 = n2 := m2
        have e3 : mOf l 83 = n3 := m3
        have e4 : mG l = v := HMG.out
        have hpk : pOk l = (cost n0 n1 n2 n3 v && (costT n0 n1 n2 n3 (v : Int).toNat == l)) := by unfold pOk; rw [e0, e1, e2, e3, e4]
        have hpc : pC l = if pOk l then ⟨⟨n0, n1, n2, n3⟩, v⟩ else ⟨⟨0, 0, 0, 0⟩, 0⟩ := by unfold pC; rw [e0, e1, e2, e3, e4]
        clear hcn m0 m1 m2 m3 e0 e1 e2 e3 e4
        have c0 := obj_cell hp.hc 0
        have c1 := obj_cell hp.hc 1
        have c2 := obj_cell hp.hc 2
        have c3 := obj_cell hp.hc 3
        have c4 := obj_cell hp.hc 4
        have z0 := obj_cell hp.hr 0
        have z1 := obj_cell hp.hr 1
        have z2 := obj_cell hp.hr 2
        have z3 := obj_cell hp.hr 3
        have z4 := obj_cell hp.hr 4
        have HP := Lib.hid hp
        clear hp
        have HT := Lib.hid (fun W => text_any n0 n1 n2 n3 v W)
        cases hco : cost n0 n1 n2 n3 v
        · have hs1 : textS n0 n1 n2 n3 v = ⟨#[]⟩ := by unfold textS; rw [hco]; rfl
          have hs2 : textE n0 n1 n2 n3 v = 2 := by unfold textE; rw [hco]; rfl
          have HPK := Lib.hid (show pOk l = false by rw [hpk, hco]; rfl)
          rw [HPK.out] at hpc
          have HPC := Lib.hid hpc
          clear hpk hpc hco
          rw [hs1, hs2] at HT
          clear hs1 hs2
          go_wp2_with fail
          refine (HT.out _).mono ?_
          rintro e w7 ⟨rfl, hk⟩
          have hb7 := hk.obj HP.out.hr (not_no _)
          have hc7 := hk.obj HP.out.hc (not_no _)
          have z0 := obj_cell hb7 0
          have z1 := obj_cell hb7 1
          have z2 := obj_cell hb7 2
          have z3 := obj_cell hb7 3
          have z4 := obj_cell hb7 4
          have y0 := obj_free hb7 0
          have y1 := obj_free hb7 1
          have y2 := obj_free hb7 2
          have y3 := obj_free hb7 3
          have y4 := obj_free hb7 4
          have c0 := obj_cell hc7 0
          have c1 := obj_cell hc7 1
          have c2 := obj_cell hc7 2
          have c3 := obj_cell hc7 3
          have c4 := obj_cell hc7 4
          have HB7 := Lib.hid hb7
          have HK7 := Lib.hid (HP.out.kept.and hk)
          clear hb7 hc7 hk
          go_wp2_with fail
          have k1 := obj_store (obj_store (obj_store (obj_store (obj_store HB7.out 0 (.int .i64 0)) 1 (.int .i64 0)) 2 (.int .i64 0)) 3 (.int .i64 0)) 4 (.int .i64 0)
          refine bodyPost_ret (results35 rfl rfl k1 rfl) rfl ⟨congrArg (fun q : C5 × Int => Ending.returned (.tuple #[.agg #[.int .i64 q.1.of.a, .int .i64 q.1.of.b, .int .i64 q.1.of.c, .int .i64 q.1.of.d, .int .i64 q.1.g], .int .i64 q.2])) (show ((⟨⟨0, 0, 0, 0⟩, 0⟩, 6) : C5 × Int) = (pC l, pE l) by unfold pE; rw [HPC.out, HPK.out]; rfl), ?_⟩
          have hn : ∀ (h : w.heap.size < w.heap.size), No w.heap.size := fun h => by omega
          exact (((((HK7.out).setCell (p := ⟨w.heap.size, 0, none⟩) hn _).setCell (p := ⟨w.heap.size, 1, none⟩) hn _).setCell (p := ⟨w.heap.size, 2, none⟩) hn _).setCell (p := ⟨w.heap.size, 3, none⟩) hn _).setCell (p := ⟨w.heap.size, 4, none⟩) hn _
        · have hs1 : textS n0 n1 n2 n3 v = strOf (costT n0 n1 n2 n3 (v : Int).toNat) := by unfold textS; rw [hco]; simp
          have hs2 : textE n0 n1 n2 n3 v = 0 := by unfold textE; rw [hco]; rfl
          rw [hs1, hs2] at HT
          clear hs1 hs2
          obtain ⟨tx, htx⟩ : ∃ tx, costT n0 n1 n2 n3 (v : Int).toNat = tx := ⟨_, rfl⟩
          rw [htx] at HT hpk
          clear htx
          rw [hco, Bool.true_and] at hpk
          clear hco
          have t1 : ((strOf tx).toList == (strOf l).toList) = (tx == l) := by rw [strOf_toList, strOf_toList]
          have t2 : ((strOf tx).toList != (strOf l).toList) = !(tx == l) := by rw [strOf_toList, strOf_toList]; rfl
          cases hbl : (tx == l)
          · rw [hbl] at t1 t2 hpk
            have HPK := Lib.hid hpk
            rw [HPK.out] at hpc
            have HPC := Lib.hid hpc
            clear hpk hpc hbl
            go_wp2_with fail
            refine (HT.out _).mono ?_
            rintro e w7 ⟨rfl, hk⟩
            have hb7 := hk.obj HP.out.hr (not_no _)
            have hc7 := hk.obj HP.out.hc (not_no _)
            have z0 := obj_cell hb7 0
            have z1 := obj_cell hb7 1
            have z2 := obj_cell hb7 2
            have z3 := obj_cell hb7 3
            have z4 := obj_cell hb7 4
            have y0 := obj_free hb7 0
            have y1 := obj_free hb7 1
            have y2 := obj_free hb7 2
            have y3 := obj_free hb7 3
            have y4 := obj_free hb7 4
            have c0 := obj_cell hc7 0
            have c1 := obj_cell hc7 1
            have c2 := obj_cell hc7 2
            have c3 := obj_cell hc7 3
            have c4 := obj_cell hc7 4
            have HB7 := Lib.hid hb7
            have HK7 := Lib.hid (HP.out.kept.and hk)
            clear hb7 hc7 hk
            go_wp2_with fail
            have k1 := obj_store (obj_store (obj_store (obj_store (obj_store HB7.out 0 (.int .i64 0)) 1 (.int .i64 0)) 2 (.int .i64 0)) 3 (.int .i64 0)) 4 (.int .i64 0)
            refine bodyPost_ret (results35 rfl rfl k1 rfl) rfl ⟨congrArg (fun q : C5 × Int => Ending.returned (.tuple #[.agg #[.int .i64 q.1.of.a, .int .i64 q.1.of.b, .int .i64 q.1.of.c, .int .i64 q.1.of.d, .int .i64 q.1.g], .int .i64 q.2])) (show ((⟨⟨0, 0, 0, 0⟩, 0⟩, 6) : C5 × Int) = (pC l, pE l) by unfold pE; rw [HPC.out, HPK.out]; rfl), ?_⟩
            have hn : ∀ (h : w.heap.size < w.heap.size), No w.heap.size := fun h => by omega
            exact (((((HK7.out).setCell (p := ⟨w.heap.size, 0, none⟩) hn _).setCell (p := ⟨w.heap.size, 1, none⟩) hn _).setCell (p := ⟨w.heap.size, 2, none⟩) hn _).setCell (p := ⟨w.heap.size, 3, none⟩) hn _).setCell (p := ⟨w.heap.size, 4, none⟩) hn _
          · rw [hbl] at t1 t2 hpk
            have HPK := Lib.hid hpk
            rw [HPK.out] at hpc
            have HPC := Lib.hid hpc
            clear hpk hpc hbl
            go_wp2_with fail
            refine (HT.out _).mono ?_
            rintro e w7 ⟨rfl, hk⟩
            have hb7 := hk.obj HP.out.hr (not_no _)
            have hc7 := hk.obj HP.out.hc (not_no _)
            have z0 := obj_cell hb7 0
            have z1 := obj_cell hb7 1
            have z2 := obj_cell hb7 2
            have z3 := obj_cell hb7 3
            have z4 := obj_cell hb7 4
            have y0 := obj_free hb7 0
            have y1 := obj_free hb7 1
            have y2 := obj_free hb7 2
            have y3 := obj_free hb7 3
            have y4 := obj_free hb7 4
            have c0 := obj_cell hc7 0
            have c1 := obj_cell hc7 1
            have c2 := obj_cell hc7 2
            have c3 := obj_cell hc7 3
            have c4 := obj_cell hc7 4
            have HB7 := Lib.hid hb7
            have HK7 := Lib.hid (HP.out.kept.and hk)
            clear hb7 hc7 hk
            go_wp2_with fail
            have k1 := obj_store (obj_store (obj_store (obj_store (obj_store HB7.out 0 (.int .i64 ((n0 : Nat)))) 1 (.int .i64 ((n1 : Nat)))) 2 (.int .i64 ((n2 : Nat)))) 3 (.int .i64 ((n3 : Nat)))) 4 (.int .i64 v)
            refine bodyPost_ret (results35 rfl rfl k1 rfl) rfl ⟨congrArg (fun q : C5 × Int => Ending.returned (.tuple #[.agg #[.int .i64 q.1.of.a, .int .i64 q.1.of.b, .int .i64 q.1.of.c, .int .i64 q.1.of.d, .int .i64 q.1.g], .int .i64 q.2])) (show ((⟨⟨(n0 : Nat), (n1 : Nat), (n2 : Nat), (n3 : Nat)⟩, v⟩, 0) : C5 × Int) = (pC l, pE l) by unfold pE; rw [HPC.out, HPK.out]; rfl), ?_⟩
            have hn : ∀ (h : w.heap.size < w.heap.size), No w.heap.size := fun h => by omega
            exact (((((HK7.out).setCell (p := ⟨w.heap.size, 0, none⟩) hn _).setCell (p := ⟨w.heap.size, 1, none⟩) hn _).setCell (p := ⟨w.heap.size, 2, none⟩) hn _).setCell (p := ⟨w.heap.size, 3, none⟩) hn _).setCell (p := ⟨w.heap.size, 4, none⟩) hn _
  · have hno : ∀ v, Lib.atoiAll (front l) ≠ .ok v := fun v e => ho ⟨v, e⟩
    have HMG := Lib.hid (show mG l = 0 by
      unfold mG mAny
      rcases hq : Lib.atoiAll (front l) with v | _ | _
      · exact absurd hq (hno v)
      · rfl
      · rfl)
    refine (atoi_no hfz (by rw [strOf_list]; exact hno) _ (HE.out.kept HK2.out)).mono ?_
    rintro e w4 ⟨⟨v, t, p, rfl⟩, hk⟩
    clear hfz ho hfr hno
    have HC4 := Lib.hid (hk.obj HC2.out (not_no _))
    have HB4 := Lib.hid (hk.obj HB2.out (not_no _))
    have HK4 := Lib.hid (HK2.out.and hk)
    clear hk
    have hcv := Lib.run_convert_string_bytes (P := Tryd.prog) w4 9 59 5 (strOf (rest l)) (u := .string) Tryd.underlying9 Tryd.underlying59 Tryd.underlying5
    obtain ⟨w5, hw5⟩ : ∃ w5, Lib.bytesWorld w4 5 (strOf (rest l)) = w5 := ⟨_, rfl⟩
    obtain ⟨g, hgg⟩ : ∃ g, w4.heap.size = g := ⟨_, rfl⟩
    have hgl : w.heap.size + 1 < g := by rw [← hgg]; exact obj_lt HC4.out
    obtain ⟨bc, hbc⟩ : ∃ bc, Lib.bytesCells w4 5 (strOf (rest l)) = bc := ⟨_, rfl⟩
    have HBC := Lib.hid (show ∀ (j : Nat) (x : UInt8), (rest l)[j]? = some x → bc[j]? = some (.int .u8 x.toNat) from fun j x hx => by
      have hj := (List.getElem?_eq_some_iff.1 hx).1
      have h0 := Lib.bytesWorld_cell w4 5 (strOf (rest l)) j (by rw [hsr]; exact hj)
      rw [strOf_list] at h0
      simp only [World.cell?, Lib.bytesWorld_at_new, hbc] at h0
      rw [List.getD_eq_getElem?_getD, hx] at h0
      simpa using h0)
    have HPR := Lib.hid (show PR l 0 g bc (bc.size, bc.size + 1) w 0 0 0 0 w5 from
      ⟨by rw [← hw5]; exact (Lib.bytesWorld_at_old w4 5 _ _ (obj_lt HB4.out)).trans HB4.out, by rw [← hw5]; exact (Lib.bytesWorld_at_old w4 5 _ _ (obj_lt HC4.out)).trans HC4.out, by rw [← hw5, ← hgg, ← hbc]; exact Lib.bytesWorld_at_new w4 5 _, hgl, by rw [← hw5]; exact HK4.out.and (kept_bytes w4 5 _)⟩)
    rw [hw5] at hcv
    clear hbc
    go_wp2_with fail
    go_loopw [37] (fun i wr => PRel l 0 g bc (bc.size, bc.size + 1) w i wr) (fun i _ => (rest l).length - (intOf i).toNat)
    case atStart => exact ⟨0, 0, 0, 0, 0, rfl, Nat.zero_le _, ⟨rfl, rfl, rfl, rfl⟩, HPR.out⟩
    case round =>
      obtain ⟨j, n0, n1, n2, n3, rfl, hj, hcn, hp⟩ := hrel
      obtain ⟨b0, b1, b2, b3⟩ := hcn.le
      have HCN := Lib.hid hcn
      clear hcn
      by_cases hlt : j < (rest l).length
      · have hx : (rest l)[j]? = some (rest l)[j] := List.getElem?_eq_getElem hlt
        obtain ⟨x, hxx⟩ : ∃ x, (rest l)[j] = x := ⟨_, rfl⟩
        rw [hxx] at hx
        clear hxx
        have hcell : wr.cell? ⟨g, j, none⟩ = some (.int .u8 x.toNat) := (obj_cell hp.hg j).trans (HBC.out j x hx)
        have HUP := Lib.hid (HCN.out.up hx)
        have HIX := Lib.hid (fun W => index_any x W)
        clear hx
        have c0 := obj_cell hp.hc 0
        have c1 := obj_cell hp.hc 1
        have c2 := obj_cell hp.hc 2
        have c3 := obj_cell hp.hc 3
        have f0 := obj_free hp.hc 0
        have f1 := obj_free hp.hc 1
        have f2 := obj_free hp.hc 2
        have f3 := obj_free hp.hc 3
        have HP := Lib.hid hp
        clear hp
        by_cases x0 : x = 69
        · subst x0
          have HC5 := Lib.hid (show Cnt (rest l) (j + 1) (n0 + 1) n1 n2 n3 by simpa using HUP.out)
          have hcell' : wr.cell? ⟨g, j, none⟩ = some (.int .u8 69) := hcell
          clear hcell
          go_wp2_with fail
          refine (HIX.out _).mono ?_
          rintro e w6 ⟨rfl, rfl⟩
          rw [show ltr 69 = 0 from rfl]
          go_wp2_with fail
          go_roundw
          case rel => first | exact ⟨j + 1, n0 + 1, n1, n2, n3, by go_num, by omega, HC5.out, HP.out.put0⟩ | ((repeat apply Exists.intro); exact ⟨⟨j + 1, n0 + 1, n1, n2, n3, by go_num, by omega, HC5.out, HP.out.put0⟩, rfl⟩)
          case measure => simp [intOf]; omega
        by_cases x1 : x = 84
        · subst x1
          have HC5 := Lib.hid (show Cnt (rest l) (j + 1) n0 (n1 + 1) n2 n3 by simpa using HUP.out)
          have hcell' : wr.cell? ⟨g, j, none⟩ = some (.int .u8 84) := hcell
          clear hcell
          go_wp2_with fail
          refine (HIX.out _).mono ?_
          rintro e w6 ⟨rfl, rfl⟩
          rw [show ltr 84 = 1 from rfl]
          go_wp2_with fail
          go_roundw
          case rel => first | exact ⟨j + 1, n0, n1 + 1, n2, n3, by go_num, by omega, HC5.out, HP.out.put1⟩ | ((repeat apply Exists.intro); exact ⟨⟨j + 1, n0, n1 + 1, n2, n3, by go_num, by omega, HC5.out, HP.out.put1⟩, rfl⟩)
          case measure => simp [intOf]; omega
        by_cases x2 : x = 76
        · subst x2
          have HC5 := Lib.hid (show Cnt (rest l) (j + 1) n0 n1 (n2 + 1) n3 by simpa using HUP.out)
          have hcell' : wr.cell? ⟨g, j, none⟩ = some (.int .u8 76) := hcell
          clear hcell
          go_wp2_with fail
          refine (HIX.out _).mono ?_
          rintro e w6 ⟨rfl, rfl⟩
          rw [show ltr 76 = 2 from rfl]
          go_wp2_with fail
          go_roundw
          case rel => first | exact ⟨j + 1, n0, n1, n2 + 1, n3, by go_num, by omega, HC5.out, HP.out.put2⟩ | ((repeat apply Exists.intro); exact ⟨⟨j + 1, n0, n1, n2 + 1, n3, by go_num, by omega, HC5.out, HP.out.put2⟩, rfl⟩)
          case measure => simp [intOf]; omega
        by_cases x3 : x = 83
        · subst x3
          have HC5 := Lib.hid (show Cnt (rest l) (j + 1) n0 n1 n2 (n3 + 1) by simpa using HUP.out)
          have hcell' : wr.cell? ⟨g, j, none⟩ = some (.int .u8 83) := hcell
          clear hcell
          go_wp2_with fail
          refine (HIX.out _).mono ?_
          rintro e w6 ⟨rfl, rfl⟩
          rw [show ltr 83 = 3 from rfl]
          go_wp2_with fail
          go_roundw
          case rel => first | exact ⟨j + 1, n0, n1, n2, n3 + 1, by go_num, by omega, HC5.out, HP.out.put3⟩ | ((repeat apply Exists.intro); exact ⟨⟨j + 1, n0, n1, n2, n3 + 1, by go_num, by omega, HC5.out, HP.out.put3⟩, rfl⟩)
          case measure => simp [intOf]; omega
        have HC5 := Lib.hid (show Cnt (rest l) (j + 1) n0 n1 n2 n3 by simpa [x0, x1, x2, x3] using HUP.out)
        have HLT := Lib.hid (show ltr x = -1 by simp [ltr, x0, x1, x2, x3])
        clear x0 x1 x2 x3
        go_wp2_with fail
        refine (HIX.out _).mono ?_
        rw [HLT.out]
        rintro e w6 ⟨rfl, rfl⟩
        go_wp2_with fail
        go_roundw
        case rel => first | exact ⟨j + 1, n0, n1, n2, n3, by go_num, by omega, HC5.out, HP.out⟩ | ((repeat apply Exists.intro); exact ⟨⟨j + 1, n0, n1, n2, n3, by go_num, by omega, HC5.out, HP.out⟩, rfl⟩)
        case measure => simp [intOf]; omega
      · have hje : j = (rest l).length := by omega
        have hcn := HCN.out
        rw [hje] at hcn
        obtain ⟨m0, m1, m2, m3⟩ := hcn.end
        have e0 : mOf l 69 = n0 := m0
        have e1 : mOf l 84 = n1 := m1
        have e2 : mOf l 76 = n2 := m2
        have e3 : mOf l 83 = n3 := m3
        have e4 : mG l = 0 := HMG.out
        have hpk : pOk l = (cost n0 n1 n2 n3 0 && (costT n0 n1 n2 n3 (0 : Int).toNat == l)) := by unfold pOk; rw [e0, e1, e2, e3, e4]
        have hpc : pC l = if pOk l then ⟨⟨n0, n1, n2, n3⟩, 0⟩ else ⟨⟨0, 0, 0, 0⟩, 0⟩ := by unfold pC; rw [e0, e1, e2, e3, e4]
        clear hcn m0 m1 m2 m3 e0 e1 e2 e3 e4
        have c0 := obj_cell hp.hc 0
        have c1 := obj_cell hp.hc 1
        have c2 := obj_cell hp.hc 2
        have c3 := obj_cell hp.hc 3
        have c4 := obj_cell hp.hc 4
        have z0 := obj_cell hp.hr 0
        have z1 := obj_cell hp.hr 1
        have z2 := obj_cell hp.hr 2
        have z3 := obj_cell hp.hr 3
        have z4 := obj_cell hp.hr 4
        have HP := Lib.hid hp
        clear hp
        have HT := Lib.hid (fun W => text_any n0 n1 n2 n3 0 W)
        cases hco : cost n0 n1 n2 n3 0
        · have hs1 : textS n0 n1 n2 n3 0 = ⟨#[]⟩ := by unfold textS; rw [hco]; rfl
          have hs2 : textE n0 n1 n2 n3 0 = 2 := by unfold textE; rw [hco]; rfl
          have HPK := Lib.hid (show pOk l = false by rw [hpk, hco]; rfl)
          rw [HPK.out] at hpc
          have HPC := Lib.hid hpc
          clear hpk hpc hco
          rw [hs1, hs2] at HT
          clear hs1 hs2
          go_wp2_with fail
          refine (HT.out _).mono ?_
          rintro e w7 ⟨rfl, hk⟩
          have hb7 := hk.obj HP.out.hr (not_no _)
          have hc7 := hk.obj HP.out.hc (not_no _)
          have z0 := obj_cell hb7 0
          have z1 := obj_cell hb7 1
          have z2 := obj_cell hb7 2
          have z3 := obj_cell hb7 3
          have z4 := obj_cell hb7 4
          have y0 := obj_free hb7 0
          have y1 := obj_free hb7 1
          have y2 := obj_free hb7 2
          have y3 := obj_free hb7 3
          have y4 := obj_free hb7 4
          have c0 := obj_cell hc7 0
          have c1 := obj_cell hc7 1
          have c2 := obj_cell hc7 2
          have c3 := obj_cell hc7 3
          have c4 := obj_cell hc7 4
          have HB7 := Lib.hid hb7
          have HK7 := Lib.hid (HP.out.kept.and hk)
          clear hb7 hc7 hk
          go_wp2_with fail
          have k1 := obj_store (obj_store (obj_store (obj_store (obj_store HB7.out 0 (.int .i64 0)) 1 (.int .i64 0)) 2 (.int .i64 0)) 3 (.int .i64 0)) 4 (.int .i64 0)
          refine bodyPost_ret (results35 rfl rfl k1 rfl) rfl ⟨congrArg (fun q : C5 × Int => Ending.returned (.tuple #[.agg #[.int .i64 q.1.of.a, .int .i64 q.1.of.b, .int .i64 q.1.of.c, .int .i64 q.1.of.d, .int .i64 q.1.g], .int .i64 q.2])) (show ((⟨⟨0, 0, 0, 0⟩, 0⟩, 6) : C5 × Int) = (pC l, pE l) by unfold pE; rw [HPC.out, HPK.out]; rfl), ?_⟩
          have hn : ∀ (h : w.heap.size < w.heap.size), No w.heap.size := fun h => by omega
          exact (((((HK7.out).setCell (p := ⟨w.heap.size, 0, none⟩) hn _).setCell (p := ⟨w.heap.size, 1, none⟩) hn _).setCell (p := ⟨w.heap.size, 2, none⟩) hn _).setCell (p := ⟨w.heap.size, 3, none⟩) hn _).setCell (p := ⟨w.heap.size, 4, none⟩) hn _
        · have hs1 : textS n0 n1 n2 n3 0 = strOf (costT n0 n1 n2 n3 (0 : Int).toNat) := by unfold textS; rw [hco]; simp
          have hs2 : textE n0 n1 n2 n3 0 = 0 := by unfold textE; rw [hco]; rfl
          rw [hs1, hs2] at HT
          clear hs1 hs2
          obtain ⟨tx, htx⟩ : ∃ tx, costT n0 n1 n2 n3 (0 : Int).toNat = tx := ⟨_, rfl⟩
          rw [htx] at HT hpk
          clear htx
          rw [hco, Bool.true_and] at hpk
          clear hco
          have t1 : ((strOf tx).toList == (strOf l).toList) = (tx == l) := by rw [strOf_toList, strOf_toList]
          have t2 : ((strOf tx).toList != (strOf l).toList) = !(tx == l) := by rw [strOf_toList, strOf_toList]; rfl
          cases hbl : (tx == l)
          · rw [hbl] at t1 t2 hpk
            have HPK := Lib.hid hpk
            rw [HPK.out] at hpc
            have HPC := Lib.hid hpc
            clear hpk hpc hbl
            go_wp2_with fail
            refine (HT.out _).mono ?_
            rintro e w7 ⟨rfl, hk⟩
            have hb7 := hk.obj HP.out.hr (not_no _)
            have hc7 := hk.obj HP.out.hc (not_no _)
            have z0 := obj_cell hb7 0
            have z1 := obj_cell hb7 1
            have z2 := obj_cell hb7 2
            have z3 := obj_cell hb7 3
            have z4 := obj_cell hb7 4
            have y0 := obj_free hb7 0
            have y1 := obj_free hb7 1
            have y2 := obj_free hb7 2
            have y3 := obj_free hb7 3
            have y4 := obj_free hb7 4
            have c0 := obj_cell hc7 0
            have c1 := obj_cell hc7 1
            have c2 := obj_cell hc7 2
            have c3 := obj_cell hc7 3
            have c4 := obj_cell hc7 4
            have HB7 := Lib.hid hb7
            have HK7 := Lib.hid (HP.out.kept.and hk)
            clear hb7 hc7 hk
            go_wp2_with fail
            have k1 := obj_store (obj_store (obj_store (obj_store (obj_store HB7.out 0 (.int .i64 0)) 1 (.int .i64 0)) 2 (.int .i64 0)) 3 (.int .i64 0)) 4 (.int .i64 0)
            refine bodyPost_ret (results35 rfl rfl k1 rfl) rfl ⟨congrArg (fun q : C5 × Int => Ending.returned (.tuple #[.agg #[.int .i64 q.1.of.a, .int .i64 q.1.of.b, .int .i64 q.1.of.c, .int .i64 q.1.of.d, .int .i64 q.1.g], .int .i64 q.2])) (show ((⟨⟨0, 0, 0, 0⟩, 0⟩, 6) : C5 × Int) = (pC l, pE l) by unfold pE; rw [HPC.out, HPK.out]; rfl), ?_⟩
            have hn : ∀ (h : w.heap.size < w.heap.size), No w.heap.size := fun h => by omega
            exact (((((HK7.out).setCell (p := ⟨w.heap.size, 0, none⟩) hn _).setCell (p := ⟨w.heap.size, 1, none⟩) hn _).setCell (p := ⟨w.heap.size, 2, none⟩) hn _).setCell (p := ⟨w.heap.size, 3, none⟩) hn _).setCell (p := ⟨w.heap.size, 4, none⟩) hn _
          · rw [hbl] at t1 t2 hpk
            have HPK := Lib.hid hpk
            rw [HPK.out] at hpc
            have HPC := Lib.hid hpc
            clear hpk hpc hbl
            go_wp2_with fail
            refine (HT.out _).mono ?_
            rintro e w7 ⟨rfl, hk⟩
            have hb7 := hk.obj HP.out.hr (not_no _)
            have hc7 := hk.obj HP.out.hc (not_no _)
            have z0 := obj_cell hb7 0
            have z1 := obj_cell hb7 1
            have z2 := obj_cell hb7 2
            have z3 := obj_cell hb7 3
            have z4 := obj_cell hb7 4
            have y0 := obj_free hb7 0
            have y1 := obj_free hb7 1
            have y2 := obj_free hb7 2
            have y3 := obj_free hb7 3
            have y4 := obj_free hb7 4
            have c0 := obj_cell hc7 0
            have c1 := obj_cell hc7 1
            have c2 := obj_cell hc7 2
            have c3 := obj_cell hc7 3
            have c4 := obj_cell hc7 4
            have HB7 := Lib.hid hb7
            have HK7 := Lib.hid (HP.out.kept.and hk)
            clear hb7 hc7 hk
            go_wp2_with fail
            have k1 := obj_store (obj_store (obj_store (obj_store (obj_store HB7.out 0 (.int .i64 ((n0 : Nat)))) 1 (.int .i64 ((n1 : Nat)))) 2 (.int .i64 ((n2 : Nat)))) 3 (.int .i64 ((n3 : Nat)))) 4 (.int .i64 0)
            refine bodyPost_ret (results35 rfl rfl k1 rfl) rfl ⟨congrArg (fun q : C5 × Int => Ending.returned (.tuple #[.agg #[.int .i64 q.1.of.a, .int .i64 q.1.of.b, .int .i64 q.1.of.c, .int .i64 q.1.of.d, .int .i64 q.1.g], .int .i64 q.2])) (show ((⟨⟨(n0 : Nat), (n1 : Nat), (n2 : Nat), (n3 : Nat)⟩, 0⟩, 0) : C5 × Int) = (pC l, pE l) by unfold pE; rw [HPC.out, HPK.out]; rfl), ?_⟩
            have hn : ∀ (h : w.heap.size < w.heap.size), No w.heap.size := fun h => by omega
            exact (((((HK7.out).setCell (p := ⟨w.heap.size, 0, none⟩) hn _).setCell (p := ⟨w.heap.size, 1, none⟩) hn _).setCell (p := ⟨w.heap.size, 2, none⟩) hn _).setCell (p := ⟨w.heap.size, 3, none⟩) hn _).setCell (p := ⟨w.heap.size, 4, none⟩) hn _
end Go.Proofs.YtogfjegedfaekaaDoor
