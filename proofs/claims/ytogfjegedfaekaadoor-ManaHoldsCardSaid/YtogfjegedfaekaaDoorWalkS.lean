/-
  Mana: the text of a cost.
-/
import Derived.Test.YtogfjegedfaekaaDoorWalkR
import Derived.Test.YtogfjegedfaekaaDoorWalkI
import Derived.Test.YtogfjegedfaekaaDoorShelf
set_option linter.unusedVariables false
set_option linter.unusedSimpArgs false
namespace Go.Proofs.YtogfjegedfaekaaDoor
open Go.RowKit Go.Zn Go.Zm
attribute [local go_sem] Oper.semAt_some

theorem builder_kept {B b : Nat} {bs : List Value} {w w' : World} (h : Lib.IsBuilderF 61 5 B b bs w) (hk : Below w.heap.size w w') : Lib.IsBuilderF 61 5 B b bs w' := by
  have key : ∀ p, Lib.BuilderAtF 61 5 B b p bs w → Lib.BuilderAtF 61 5 B b p bs w' := by
    intro p ⟨h1, v, h2, h3, h4⟩
    refine ⟨h1, v, (hk.block b (obj_lt h2)).trans h2, ?_, h4⟩
    obtain ⟨h5, h6 | ⟨g, cap, cur, fz, h6, h7, h8, h9⟩⟩ := h3
    · exact ⟨h5, .inl h6⟩
    · exact ⟨h5, .inr ⟨g, cap, cur, fz, h6, h7, (hk.block g (obj_lt h8)).trans h8, h9⟩⟩
  exact h.elim (fun x => .inl (key _ x)) (fun x => .inr (key _ x))
theorem builder_drew {B b : Nat} {bs : List Value} {w : World} (h : Lib.IsBuilderF 61 5 B b bs w) : Lib.IsBuilderF 61 5 B b bs w.drew := h
theorem strCells_of (l : List UInt8) : Lib.strCells (strOf l) = Lib.byteCells l := by
  simp [Lib.strCells, Lib.byteCells, strOf]
theorem byteCells_app (l r : List UInt8) : Lib.byteCells l ++ Lib.byteCells r = Lib.byteCells (l ++ r) := by
  simp [Lib.byteCells]
theorem byteCells_len (l : List UInt8) : (Lib.byteCells l).length = l.length := by
  simp [Lib.byteCells]
/-- Behind some of the writing the builder holds l. -/
structure TW (cs : Array Value) (l : List UInt8) (w0 : World) (B : Nat) (wr : World) : Prop where
  hb : Lib.IsBuilderF 61 5 B B (Lib.byteCells l) wr
  lt : w0.heap.size < B
  hB : B < wr.heap.size
  hc : wr.heap[w0.heap.size]? = some (.cells cs 25 (0, 0))
  kept : Kept No w0 wr
theorem TW.new {cs : Array Value} {l : List UInt8} {w0 wr w' : World} {B : Nat} (h : TW cs l w0 B wr) (hk : Below wr.heap.size wr w') : TW cs l w0 B w' :=
  ⟨builder_kept h.hb hk, h.lt, Nat.lt_of_lt_of_le h.hB hk.size, (hk.block _ (Nat.lt_trans h.lt h.hB)).trans h.hc, h.kept.and (Kept.of_below hk)⟩
theorem TW.drew {cs : Array Value} {l : List UInt8} {w0 wr : World} {B : Nat} (h : TW cs l w0 B wr) : TW cs l w0 B wr.drew := ⟨h.hb, h.lt, h.hB, h.hc, h.kept.drew⟩
theorem TW.write {cs : Array Value} {l r : List UInt8} {w0 wr : World} {B : Nat} (h : TW cs l w0 B wr) (hl : l.length + r.length ≤ 1000) : Calls Tryd.prog 36 #[.pointer (some ⟨B, 0, none⟩), .string (strOf r)] wr fun e w' => e = .returned (.tuple #[.int .i64 (strOf r).size, .nilIface]) ∧ TW cs (l ++ r) w0 B w' := by
  refine (Tryd.bWrite B B (Lib.byteCells l) (strOf r) wr h.hb ?_ (Nat.le_of_lt h.hB)).mono fun e w' ⟨he, hb, hk⟩ => ⟨he, ?_, h.lt, Nat.lt_of_lt_of_le h.hB hk.size, (hk.block _ h.lt).trans h.hc, ?_⟩
  · rw [byteCells_len, strOf_size]
    omega
  · rw [strCells_of, byteCells_app] at hb
    exact .inr hb
  · exact ⟨hk.os.trans h.kept.os, hk.tape.trans h.kept.tape, hk.output.trans h.kept.output, Nat.le_trans h.kept.size hk.size, fun k h1 h2 => (hk.block k (Nat.lt_trans h1 h.lt)).trans (h.kept.block k h1 h2)⟩
theorem TW.text {cs : Array Value} {l : List UInt8} {w0 wr : World} {B : Nat} (h : TW cs l w0 B wr) : Calls Tryd.prog 39 #[.pointer (some ⟨B, 0, none⟩)] wr fun e w' => e = .returned (.string (strOf l)) ∧ Kept No w0 w' := by
  refine (Tryd.Builder_String_any_f B B l wr h.hb (Nat.le_of_lt h.hB)).mono fun e w' ⟨he, hb, hk⟩ => ⟨he, ?_⟩
  exact ⟨hk.os.trans h.kept.os, hk.tape.trans h.kept.tape, hk.output.trans h.kept.output, Nat.le_trans h.kept.size hk.size, fun k h1 h2 => (hk.block k (Nat.lt_trans h1 h.lt)).trans (h.kept.block k h1 h2)⟩
theorem TW.start {cs : Array Value} {w0 w : World} (hk : Kept No w0 w) (hc : w.heap[w0.heap.size]? = some (.cells cs 25 (0, 0))) : TW cs [] w0 w.heap.size (w.alloc (.cells #[.pointer none, .slice none 0 0] 61)) := by
  refine ⟨.inl ⟨Nat.le_refl _, .slice none 0 0, heap_alloc_new w _, ⟨rfl, .inl ⟨rfl, rfl⟩⟩, by simp [Value.ownBlock]⟩, obj_lt hc, by simp, obj_alloc hc _, hk.alloc _⟩
theorem rep_one (x : UInt8) (n : Nat) : Lib.repeatL [x] n = List.replicate n x := by
  have := Lib.repeatL_replicate x 1 n
  simpa using this
theorem repeat0 (n : Nat) (hn : n ≤ 20) (W : World) : Calls Tryd.prog 38 #[.string ((⟨#[69, 84, 76, 83]⟩ : ByteArray).extract 0 1), .int .i64 (n : Nat)] W fun e w' => e = .returned (.string (strOf (List.replicate n 69))) ∧ Below W.heap.size W w' := by
  refine (Tryd.strings_Repeat _ n W (by omega) ?_).mono fun e w' ⟨he, hk⟩ => ⟨he.trans ?_, hk⟩
  · show 1 * n ≤ _
    omega
  · show Ending.returned (.string ⟨(Lib.repeatL [69] n).toArray⟩) = _
    rw [rep_one]
    rfl
theorem repeat1 (n : Nat) (hn : n ≤ 20) (W : World) : Calls Tryd.prog 38 #[.string ((⟨#[69, 84, 76, 83]⟩ : ByteArray).extract 1 2), .int .i64 (n : Nat)] W fun e w' => e = .returned (.string (strOf (List.replicate n 84))) ∧ Below W.heap.size W w' := by
  refine (Tryd.strings_Repeat _ n W (by omega) ?_).mono fun e w' ⟨he, hk⟩ => ⟨he.trans ?_, hk⟩
  · show 1 * n ≤ _
    omega
  · show Ending.returned (.string ⟨(Lib.repeatL [84] n).toArray⟩) = _
    rw [rep_one]
    rfl
theorem repeat2 (n : Nat) (hn : n ≤ 20) (W : World) : Calls Tryd.prog 38 #[.string ((⟨#[69, 84, 76, 83]⟩ : ByteArray).extract 2 3), .int .i64 (n : Nat)] W fun e w' => e = .returned (.string (strOf (List.replicate n 76))) ∧ Below W.heap.size W w' := by
  refine (Tryd.strings_Repeat _ n W (by omega) ?_).mono fun e w' ⟨he, hk⟩ => ⟨he.trans ?_, hk⟩
  · show 1 * n ≤ _
    omega
  · show Ending.returned (.string ⟨(Lib.repeatL [76] n).toArray⟩) = _
    rw [rep_one]
    rfl
theorem repeat3 (n : Nat) (hn : n ≤ 20) (W : World) : Calls Tryd.prog 38 #[.string ((⟨#[69, 84, 76, 83]⟩ : ByteArray).extract 3 4), .int .i64 (n : Nat)] W fun e w' => e = .returned (.string (strOf (List.replicate n 83))) ∧ Below W.heap.size W w' := by
  refine (Tryd.strings_Repeat _ n W (by omega) ?_).mono fun e w' ⟨he, hk⟩ => ⟨he.trans ?_, hk⟩
  · show 1 * n ≤ _
    omega
  · show Ending.returned (.string ⟨(Lib.repeatL [83] n).toArray⟩) = _
    rw [rep_one]
    rfl
set_option maxRecDepth 100000 in
theorem text_bad (a b c d g : Int) (w : World) (h : cost a b c d g = false) : Calls Tryd.prog 25 #[.agg #[.int .i64 a, .int .i64 b, .int .i64 c, .int .i64 d, .int .i64 g]] w fun e w' => e = .returned (.tuple #[.string ⟨#[]⟩, .int .i64 2]) ∧ Kept No w w' := by
  obtain ⟨w1, hw1⟩ : ∃ w1, w.alloc (.cells #[.int .i64 a, .int .i64 b, .int .i64 c, .int .i64 d, .int .i64 g] 25) = w1 := ⟨_, rfl⟩
  have hb : w1.heap[w.heap.size]? = some (.cells #[.int .i64 a, .int .i64 b, .int .i64 c, .int .i64 d, .int .i64 g] 25 (0, 0)) := by rw [← hw1]; exact heap_alloc_new w _
  have HK1 := Lib.hid (show Kept No w w1 by rw [← hw1]; exact (Kept.refl No w).alloc _)
  have c0 := obj_cell hb 0
  have c1 := obj_cell hb 1
  have c2 := obj_cell hb 2
  have c3 := obj_cell hb 3
  have c4 := obj_cell hb 4
  have HB := Lib.hid hb
  clear hb
  go_enter Tryd.func25, Tryd.ntmps25
  go_wp2_with fail
  refine (validCost_any a b c d g _).mono ?_
  rintro e w2 ⟨rfl, hk⟩
  rw [h]
  have HK := Lib.hid (HK1.out.and hk)
  clear hk
  go_wp2_with fail
  go_ret2
  exact ⟨rfl, HK.out⟩
set_option maxRecDepth 100000 in
set_option maxHeartbeats 4000000 in
theorem text_ok (a b c d g : Nat) (w : World) (h : cost a b c d g = true) : Calls Tryd.prog 25 #[.agg #[.int .i64 (a : Nat), .int .i64 (b : Nat), .int .i64 (c : Nat), .int .i64 (d : Nat), .int .i64 (g : Nat)]] w fun e w' => e = .returned (.tuple #[.string (strOf (costT a b c d g)), .int .i64 0]) ∧ Kept No w w' := by
  obtain ⟨hX, g1, g2⟩ := cost_out h
  obtain ⟨⟨a1, a2⟩, ⟨b1, b2⟩, ⟨e1, e2⟩, ⟨d1, d2⟩⟩ := in4_out hX
  clear hX
  obtain ⟨D, hD⟩ : ∃ D, digs (a == 0 && b == 0 && c == 0 && d == 0) g = D := ⟨_, rfl⟩
  have HDL := Lib.hid (show D.length ≤ 2 by rw [← hD]; exact (dig_ok _ g (by omega)).len)
  have HD := Lib.hid hD
  clear hD
  have hq5 : ∀ W, Sem.run Tryd.prog (binOp .eql 25 (.agg #[.int .i64 (a : Nat), .int .i64 (b : Nat), .int .i64 (c : Nat), .int .i64 (d : Nat), .int .i64 (g : Nat)]) (.agg #[.int .i64 0, .int .i64 0, .int .i64 0, .int .i64 0, .int .i64 0])) W = .ok (.bool (q5 a b c d g 0 0 0 0 0)) W := fun W => eql5 _ _ _ _ _ _ _ _ _ _ W
  have i0 := idx0 a b c d
  have i1 := idx1 a b c d
  have i2 := idx2 a b c d
  have i3 := idx3 a b c d
  obtain ⟨w1, hw1⟩ : ∃ w1, w.alloc (.cells #[.int .i64 (a : Nat), .int .i64 (b : Nat), .int .i64 (c : Nat), .int .i64 (d : Nat), .int .i64 (g : Nat)] 25) = w1 := ⟨_, rfl⟩
  have hb : w1.heap[w.heap.size]? = some (.cells #[.int .i64 (a : Nat), .int .i64 (b : Nat), .int .i64 (c : Nat), .int .i64 (d : Nat), .int .i64 (g : Nat)] 25 (0, 0)) := by rw [← hw1]; exact heap_alloc_new w _
  have HK1 := Lib.hid (show Kept No w w1 by rw [← hw1]; exact (Kept.refl No w).alloc _)
  have c0 := obj_cell hb 0
  have c1 := obj_cell hb 1
  have c2 := obj_cell hb 2
  have c3 := obj_cell hb 3
  have c4 := obj_cell hb 4
  have HB := Lib.hid hb
  clear hb
  go_enter Tryd.func25, Tryd.ntmps25
  go_wp2_with fail
  refine (validCost_any a b c d g _).mono ?_
  rintro e w2 ⟨rfl, hk⟩
  rw [h]
  have hb := hk.obj HB.out (not_no _)
  obtain ⟨w3, hw3⟩ : ∃ w3, w2.alloc (.cells #[.pointer none, .slice none 0 0] 61) = w3 := ⟨_, rfl⟩
  have HS := Lib.hid (show TW #[.int .i64 (a : Nat), .int .i64 (b : Nat), .int .i64 (c : Nat), .int .i64 (d : Nat), .int .i64 (g : Nat)] [] w w2.heap.size w3 by rw [← hw3]; exact TW.start (HK1.out.and hk) hb)
  have hb3 : w3.heap[w.heap.size]? = some (.cells #[.int .i64 (a : Nat), .int .i64 (b : Nat), .int .i64 (c : Nat), .int .i64 (d : Nat), .int .i64 (g : Nat)] 25 (0, 0)) := by rw [← hw3]; exact obj_alloc hb _
  have c0 := obj_cell hb3 0
  have c1 := obj_cell hb3 1
  have c2 := obj_cell hb3 2
  have c3 := obj_cell hb3 3
  have c4 := obj_cell hb3 4
  have HB3 := Lib.hid hb3
  clear hb hb3 hk h
  by_cases hg0 : 0 < g
  · have HH := Lib.hid (show Lib.decDigits g = D by rw [← HD.out]; unfold digs; rw [if_neg (by omega)])
    have HIT := Lib.hid (fun W => Tryd.strconv_Itoa_small g (by omega) W)
    go_wp2_with fail
    refine (HIT.out _).mono ?_
    rintro e w4 ⟨rfl, hw4⟩
    subst hw4
    go_wp2_with fail
    refine (HS.out.write (r := Lib.decDigits g) ?_).mono ?_
    · rw [HH.out]
      have := HDL.out
      simpa using (by omega : D.length ≤ 1000)
    rintro e w5 ⟨rfl, ht⟩
    rw [List.nil_append, HH.out] at ht
    have HT1 := Lib.hid (show TW #[.int .i64 (a : Nat), .int .i64 (b : Nat), .int .i64 (c : Nat), .int .i64 (d : Nat), .int .i64 (g : Nat)] (D ++ preL a b c d 0) w w2.heap.size w5 by simpa [preL] using ht)
    have c0 := obj_cell ht.hc 0
    have c1 := obj_cell ht.hc 1
    have c2 := obj_cell ht.hc 2
    have c3 := obj_cell ht.hc 3
    have c4 := obj_cell ht.hc 4
    clear ht
    go_wp2_with fail
    go_loopw [24] (fun i wr => ∃ k : Nat, i = .int .i64 (k : Nat) ∧ k ≤ 4 ∧ TW #[.int .i64 (a : Nat), .int .i64 (b : Nat), .int .i64 (c : Nat), .int .i64 (d : Nat), .int .i64 (g : Nat)] (D ++ preL a b c d k) w w2.heap.size wr) (fun i _ => 4 - (intOf i).toNat)
    case atStart => exact ⟨0, rfl, by decide, HT1.out⟩
    case round =>
      obtain ⟨k, rfl, hk4, ht⟩ := hrel
      have HT := Lib.hid ht
      have HPL := Lib.hid (pre_len a b c d k (by omega) (by omega) (by omega) (by omega))
      clear ht
      obtain rfl | rfl | rfl | rfl | rfl : k = 0 ∨ k = 1 ∨ k = 2 ∨ k = 3 ∨ k = 4 := by omega
      · go_wp2_with fail
        refine (repeat0 a (by omega) _).mono ?_
        rintro e w5 ⟨rfl, hk⟩
        have HT5 := Lib.hid (HT.out.new hk)
        clear hk
        go_wp2_with fail
        refine (HT5.out.write (r := List.replicate a 69) ?_).mono ?_
        · have := HPL.out
          have := HDL.out
          simp only [List.length_append, List.length_replicate]
          omega
        rintro e w6 ⟨rfl, ht⟩
        rw [pre_up0] at ht
        have HT6 := Lib.hid ht
        clear ht
        go_wp2_with fail
        go_roundw
        case rel => first | exact ⟨1, by go_num, by decide, HT6.out⟩ | ((repeat apply Exists.intro); exact ⟨⟨1, by go_num, by decide, HT6.out⟩, rfl⟩)
        case measure => simp [intOf]
      · go_wp2_with fail
        refine (repeat1 b (by omega) _).mono ?_
        rintro e w5 ⟨rfl, hk⟩
        have HT5 := Lib.hid (HT.out.new hk)
        clear hk
        go_wp2_with fail
        refine (HT5.out.write (r := List.replicate b 84) ?_).mono ?_
        · have := HPL.out
          have := HDL.out
          simp only [List.length_append, List.length_replicate]
          omega
        rintro e w6 ⟨rfl, ht⟩
        rw [pre_up1] at ht
        have HT6 := Lib.hid ht
        clear ht
        go_wp2_with fail
        go_roundw
        case rel => first | exact ⟨2, by go_num, by decide, HT6.out⟩ | ((repeat apply Exists.intro); exact ⟨⟨2, by go_num, by decide, HT6.out⟩, rfl⟩)
        case measure => simp [intOf]
      · go_wp2_with fail
        refine (repeat2 c (by omega) _).mono ?_
        rintro e w5 ⟨rfl, hk⟩
        have HT5 := Lib.hid (HT.out.new hk)
        clear hk
        go_wp2_with fail
        refine (HT5.out.write (r := List.replicate c 76) ?_).mono ?_
        · have := HPL.out
          have := HDL.out
          simp only [List.length_append, List.length_replicate]
          omega
        rintro e w6 ⟨rfl, ht⟩
        rw [pre_up2] at ht
        have HT6 := Lib.hid ht
        clear ht
        go_wp2_with fail
        go_roundw
        case rel => first | exact ⟨3, by go_num, by decide, HT6.out⟩ | ((repeat apply Exists.intro); exact ⟨⟨3, by go_num, by decide, HT6.out⟩, rfl⟩)
        case measure => simp [intOf]
      · go_wp2_with fail
        refine (repeat3 d (by omega) _).mono ?_
        rintro e w5 ⟨rfl, hk⟩
        have HT5 := Lib.hid (HT.out.new hk)
        clear hk
        go_wp2_with fail
        refine (HT5.out.write (r := List.replicate d 83) ?_).mono ?_
        · have := HPL.out
          have := HDL.out
          simp only [List.length_append, List.length_replicate]
          omega
        rintro e w6 ⟨rfl, ht⟩
        rw [pre_up3] at ht
        have HT6 := Lib.hid ht
        clear ht
        go_wp2_with fail
        go_roundw
        case rel => first | exact ⟨4, by go_num, by decide, HT6.out⟩ | ((repeat apply Exists.intro); exact ⟨⟨4, by go_num, by decide, HT6.out⟩, rfl⟩)
        case measure => simp [intOf]
      · go_wp2_with fail
        refine HT.out.text.mono ?_
        rintro e w7 ⟨rfl, hk⟩
        have HK7 := Lib.hid hk
        clear hk
        go_wp2_with fail
        go_ret2
        exact ⟨by rw [preL_lets, ← HD.out]; rfl, HK7.out⟩
  have hg9 : ¬ (0 : Int) < (g : Nat) := by omega
  by_cases hz : a = 0 ∧ b = 0 ∧ c = 0 ∧ d = 0
  · have hq6 : q5 a b c d g 0 0 0 0 0 = true := by
      obtain ⟨rfl, rfl, rfl, rfl⟩ := hz
      obtain rfl : g = 0 := by omega
      rfl
    have HH := Lib.hid (show Lib.decDigits g = D by
      rw [← HD.out]
      unfold digs
      obtain ⟨rfl, rfl, rfl, rfl⟩ := hz
      obtain rfl : g = 0 := by omega
      rw [dec_lt 0 (by decide)]
      rfl)
    clear hz
    have HIT := Lib.hid (fun W => Tryd.strconv_Itoa_small g (by omega) W)
    go_wp2_with fail
    refine (HIT.out _).mono ?_
    rintro e w4 ⟨rfl, hw4⟩
    subst hw4
    go_wp2_with fail
    refine (HS.out.write (r := Lib.decDigits g) ?_).mono ?_
    · rw [HH.out]
      have := HDL.out
      simpa using (by omega : D.length ≤ 1000)
    rintro e w5 ⟨rfl, ht⟩
    rw [List.nil_append, HH.out] at ht
    have HT1 := Lib.hid (show TW #[.int .i64 (a : Nat), .int .i64 (b : Nat), .int .i64 (c : Nat), .int .i64 (d : Nat), .int .i64 (g : Nat)] (D ++ preL a b c d 0) w w2.heap.size w5 by simpa [preL] using ht)
    have c0 := obj_cell ht.hc 0
    have c1 := obj_cell ht.hc 1
    have c2 := obj_cell ht.hc 2
    have c3 := obj_cell ht.hc 3
    have c4 := obj_cell ht.hc 4
    clear ht
    go_wp2_with fail
    go_loopw [24] (fun i wr => ∃ k : Nat, i = .int .i64 (k : Nat) ∧ k ≤ 4 ∧ TW #[.int .i64 (a : Nat), .int .i64 (b : Nat), .int .i64 (c : Nat), .int .i64 (d : Nat), .int .i64 (g : Nat)] (D ++ preL a b c d k) w w2.heap.size wr) (fun i _ => 4 - (intOf i).toNat)
    case atStart => exact ⟨0, rfl, by decide, HT1.out⟩
    case round =>
      obtain ⟨k, rfl, hk4, ht⟩ := hrel
      have HT := Lib.hid ht
      have HPL := Lib.hid (pre_len a b c d k (by omega) (by omega) (by omega) (by omega))
      clear ht
      obtain rfl | rfl | rfl | rfl | rfl : k = 0 ∨ k = 1 ∨ k = 2 ∨ k = 3 ∨ k = 4 := by omega
      · go_wp2_with fail
        refine (repeat0 a (by omega) _).mono ?_
        rintro e w5 ⟨rfl, hk⟩
        have HT5 := Lib.hid (HT.out.new hk)
        clear hk
        go_wp2_with fail
        refine (HT5.out.write (r := List.replicate a 69) ?_).mono ?_
        · have := HPL.out
          have := HDL.out
          simp only [List.length_append, List.length_replicate]
          omega
        rintro e w6 ⟨rfl, ht⟩
        rw [pre_up0] at ht
        have HT6 := Lib.hid ht
        clear ht
        go_wp2_with fail
        go_roundw
        case rel => first | exact ⟨1, by go_num, by decide, HT6.out⟩ | ((repeat apply Exists.intro); exact ⟨⟨1, by go_num, by decide, HT6.out⟩, rfl⟩)
        case measure => simp [intOf]
      · go_wp2_with fail
        refine (repeat1 b (by omega) _).mono ?_
        rintro e w5 ⟨rfl, hk⟩
        have HT5 := Lib.hid (HT.out.new hk)
        clear hk
        go_wp2_with fail
        refine (HT5.out.write (r := List.replicate b 84) ?_).mono ?_
        · have := HPL.out
          have := HDL.out
          simp only [List.length_append, List.length_replicate]
          omega
        rintro e w6 ⟨rfl, ht⟩
        rw [pre_up1] at ht
        have HT6 := Lib.hid ht
        clear ht
        go_wp2_with fail
        go_roundw
        case rel => first | exact ⟨2, by go_num, by decide, HT6.out⟩ | ((repeat apply Exists.intro); exact ⟨⟨2, by go_num, by decide, HT6.out⟩, rfl⟩)
        case measure => simp [intOf]
      · go_wp2_with fail
        refine (repeat2 c (by omega) _).mono ?_
        rintro e w5 ⟨rfl, hk⟩
        have HT5 := Lib.hid (HT.out.new hk)
        clear hk
        go_wp2_with fail
        refine (HT5.out.write (r := List.replicate c 76) ?_).mono ?_
        · have := HPL.out
          have := HDL.out
          simp only [List.length_append, List.length_replicate]
          omega
        rintro e w6 ⟨rfl, ht⟩
        rw [pre_up2] at ht
        have HT6 := Lib.hid ht
        clear ht
        go_wp2_with fail
        go_roundw
        case rel => first | exact ⟨3, by go_num, by decide, HT6.out⟩ | ((repeat apply Exists.intro); exact ⟨⟨3, by go_num, by decide, HT6.out⟩, rfl⟩)
        case measure => simp [intOf]
      · go_wp2_with fail
        refine (repeat3 d (by omega) _).mono ?_
        rintro e w5 ⟨rfl, hk⟩
        have HT5 := Lib.hid (HT.out.new hk)
        clear hk
        go_wp2_with fail
        refine (HT5.out.write (r := List.replicate d 83) ?_).mono ?_
        · have := HPL.out
          have := HDL.out
          simp only [List.length_append, List.length_replicate]
          omega
        rintro e w6 ⟨rfl, ht⟩
        rw [pre_up3] at ht
        have HT6 := Lib.hid ht
        clear ht
        go_wp2_with fail
        go_roundw
        case rel => first | exact ⟨4, by go_num, by decide, HT6.out⟩ | ((repeat apply Exists.intro); exact ⟨⟨4, by go_num, by decide, HT6.out⟩, rfl⟩)
        case measure => simp [intOf]
      · go_wp2_with fail
        refine HT.out.text.mono ?_
        rintro e w7 ⟨rfl, hk⟩
        have HK7 := Lib.hid hk
        clear hk
        go_wp2_with fail
        go_ret2
        exact ⟨by rw [preL_lets, ← HD.out]; rfl, HK7.out⟩
  · have hq6 : q5 a b c d g 0 0 0 0 0 = false := by
      have : ¬ ((a : Int) = 0 ∧ (b : Int) = 0 ∧ (c : Int) = 0 ∧ (d : Int) = 0) := by omega
      rw [q5_zero, Bool.eq_false_iff]
      intro h
      simp only [Bool.and_eq_true, beq_iff_eq] at h
      exact this ⟨h.1.1.1.1, h.1.1.1.2, h.1.1.2, h.1.2⟩
    have HT1 := Lib.hid (show TW #[.int .i64 (a : Nat), .int .i64 (b : Nat), .int .i64 (c : Nat), .int .i64 (d : Nat), .int .i64 (g : Nat)] (D ++ preL a b c d 0) w w2.heap.size w3 by
      have hD : D = [] := by
        rw [← HD.out]
        unfold digs
        rw [if_pos (by omega), if_neg (by simp; omega)]
      rw [hD]
      exact HS.out)
    clear hz
    go_wp2_with fail
    go_loopw [24] (fun i wr => ∃ k : Nat, i = .int .i64 (k : Nat) ∧ k ≤ 4 ∧ TW #[.int .i64 (a : Nat), .int .i64 (b : Nat), .int .i64 (c : Nat), .int .i64 (d : Nat), .int .i64 (g : Nat)] (D ++ preL a b c d k) w w2.heap.size wr) (fun i _ => 4 - (intOf i).toNat)
    case atStart => exact ⟨0, rfl, by decide, HT1.out⟩
    case round =>
      obtain ⟨k, rfl, hk4, ht⟩ := hrel
      have HT := Lib.hid ht
      have HPL := Lib.hid (pre_len a b c d k (by omega) (by omega) (by omega) (by omega))
      clear ht
      obtain rfl | rfl | rfl | rfl | rfl : k = 0 ∨ k = 1 ∨ k = 2 ∨ k = 3 ∨ k = 4 := by omega
      · go_wp2_with fail
        refine (repeat0 a (by omega) _).mono ?_
        rintro e w5 ⟨rfl, hk⟩
        have HT5 := Lib.hid (HT.out.new hk)
        clear hk
        go_wp2_with fail
        refine (HT5.out.write (r := List.replicate a 69) ?_).mono ?_
        · have := HPL.out
          have := HDL.out
          simp only [List.length_append, List.length_replicate]
          omega
        rintro e w6 ⟨rfl, ht⟩
        rw [pre_up0] at ht
        have HT6 := Lib.hid ht
        clear ht
        go_wp2_with fail
        go_roundw
        case rel => first | exact ⟨1, by go_num, by decide, HT6.out⟩ | ((repeat apply Exists.intro); exact ⟨⟨1, by go_num, by decide, HT6.out⟩, rfl⟩)
        case measure => simp [intOf]
      · go_wp2_with fail
        refine (repeat1 b (by omega) _).mono ?_
        rintro e w5 ⟨rfl, hk⟩
        have HT5 := Lib.hid (HT.out.new hk)
        clear hk
        go_wp2_with fail
        refine (HT5.out.write (r := List.replicate b 84) ?_).mono ?_
        · have := HPL.out
          have := HDL.out
          simp only [List.length_append, List.length_replicate]
          omega
        rintro e w6 ⟨rfl, ht⟩
        rw [pre_up1] at ht
        have HT6 := Lib.hid ht
        clear ht
        go_wp2_with fail
        go_roundw
        case rel => first | exact ⟨2, by go_num, by decide, HT6.out⟩ | ((repeat apply Exists.intro); exact ⟨⟨2, by go_num, by decide, HT6.out⟩, rfl⟩)
        case measure => simp [intOf]
      · go_wp2_with fail
        refine (repeat2 c (by omega) _).mono ?_
        rintro e w5 ⟨rfl, hk⟩
        have HT5 := Lib.hid (HT.out.new hk)
        clear hk
        go_wp2_with fail
        refine (HT5.out.write (r := List.replicate c 76) ?_).mono ?_
        · have := HPL.out
          have := HDL.out
          simp only [List.length_append, List.length_replicate]
          omega
        rintro e w6 ⟨rfl, ht⟩
        rw [pre_up2] at ht
        have HT6 := Lib.hid ht
        clear ht
        go_wp2_with fail
        go_roundw
        case rel => first | exact ⟨3, by go_num, by decide, HT6.out⟩ | ((repeat apply Exists.intro); exact ⟨⟨3, by go_num, by decide, HT6.out⟩, rfl⟩)
        case measure => simp [intOf]
      · go_wp2_with fail
        refine (repeat3 d (by omega) _).mono ?_
        rintro e w5 ⟨rfl, hk⟩
        have HT5 := Lib.hid (HT.out.new hk)
        clear hk
        go_wp2_with fail
        refine (HT5.out.write (r := List.replicate d 83) ?_).mono ?_
        · have := HPL.out
          have := HDL.out
          simp only [List.length_append, List.length_replicate]
          omega
        rintro e w6 ⟨rfl, ht⟩
        rw [pre_up3] at ht
        have HT6 := Lib.hid ht
        clear ht
        go_wp2_with fail
        go_roundw
        case rel => first | exact ⟨4, by go_num, by decide, HT6.out⟩ | ((repeat apply Exists.intro); exact ⟨⟨4, by go_num, by decide, HT6.out⟩, rfl⟩)
        case measure => simp [intOf]
      · go_wp2_with fail
        refine HT.out.text.mono ?_
        rintro e w7 ⟨rfl, hk⟩
        have HK7 := Lib.hid hk
        clear hk
        go_wp2_with fail
        go_ret2
        exact ⟨by rw [preL_lets, ← HD.out]; rfl, HK7.out⟩
end Go.Proofs.YtogfjegedfaekaaDoor
