/-
  Bracket: Text.
-/
import Derived.Test.YtphlpclhmodekaaDoorWalkJ
import Derived.Test.YtphlpclhmodekaaDoorShelf
set_option linter.unusedVariables false
set_option linter.unusedSimpArgs false
namespace Go.Proofs.YtphlpclhmodekaaDoor
open Go.RowKit Go.Zn
attribute [local go_sem] Oper.semAt_some

theorem builder_kept {B b : Nat} {bs : List Value} {w w' : World} (h : Lib.IsBuilderF 68 5 B b bs w) (hk : Below w.heap.size w w') : Lib.IsBuilderF 68 5 B b bs w' := by
  have key : ∀ p, Lib.BuilderAtF 68 5 B b p bs w → Lib.BuilderAtF 68 5 B b p bs w' := by
    intro p ⟨h1, v, h2, h3, h4⟩
    refine ⟨h1, v, (hk.block b (obj_lt h2)).trans h2, ?_, h4⟩
    obtain ⟨h5, h6 | ⟨g, cap, cur, fz, h6, h7, h8, h9⟩⟩ := h3
    · exact ⟨h5, .inl h6⟩
    · exact ⟨h5, .inr ⟨g, cap, cur, fz, h6, h7, (hk.block g (obj_lt h8)).trans h8, h9⟩⟩
  exact h.elim (fun x => .inl (key _ x)) (fun x => .inr (key _ x))
theorem strCells_of (l : List UInt8) : Lib.strCells (strOf l) = Lib.byteCells l := by
  simp [Lib.strCells, Lib.byteCells, strOf]
theorem byteCells_app (l r : List UInt8) : Lib.byteCells l ++ Lib.byteCells r = Lib.byteCells (l ++ r) := by
  simp [Lib.byteCells]
theorem byteCells_len (l : List UInt8) : (Lib.byteCells l).length = l.length := by
  simp [Lib.byteCells]
theorem strOf_size (l : List UInt8) : (strOf l).size = l.length := by simp [strOf, ByteArray.size]
/-- behind some of the writing the builder holds l -/
structure TW (l : List UInt8) (w0 : World) (B : Nat) (wr : World) : Prop where
  hb : Lib.IsBuilderF 68 5 B B (Lib.byteCells l) wr
  lt : w0.heap.size ≤ B
  hB : B < wr.heap.size
  kept : Kept No w0 wr
theorem TW.put {l r : List UInt8} {w0 wr w' : World} {B : Nat} (h : TW l w0 B wr) (hb : Lib.BuilderAtF 68 5 B B (.pointer (some ⟨B, 0, none⟩)) (Lib.byteCells l ++ Lib.byteCells r) w') (hk : Below B wr w') : TW (l ++ r) w0 B w' := by
  rw [byteCells_app] at hb
  exact ⟨.inr hb, h.lt, Nat.lt_of_lt_of_le h.hB hk.size, ⟨hk.os.trans h.kept.os, hk.tape.trans h.kept.tape, hk.output.trans h.kept.output, Nat.le_trans h.kept.size hk.size, fun k h1 h2 => (hk.block k (Nat.lt_of_lt_of_le h1 h.lt)).trans (h.kept.block k h1 h2)⟩⟩
theorem TW.write {l r : List UInt8} {w0 wr : World} {B : Nat} (h : TW l w0 B wr) (hl : l.length + r.length ≤ 1000) : Calls Tryd.prog 33 #[.pointer (some ⟨B, 0, none⟩), .string (strOf r)] wr fun e w' => e = .returned (.tuple #[.int .i64 (r.length : Nat), .nilIface]) ∧ TW (l ++ r) w0 B w' := by
  refine (Tryd.bWrite B B (Lib.byteCells l) (strOf r) wr h.hb ?_ (Nat.le_of_lt h.hB)).mono fun e w' ⟨he, hb, hk⟩ => ⟨by rw [he, strOf_size], h.put (by rw [strCells_of] at hb; exact hb) hk⟩
  rw [byteCells_len, strOf_size]
  omega
theorem TW.byte {l : List UInt8} {w0 wr : World} {B : Nat} (h : TW l w0 B wr) (hl : l.length + 1 ≤ 1000) (c : UInt8) : Calls Tryd.prog 35 #[.pointer (some ⟨B, 0, none⟩), .int .u8 (c.toNat : Nat)] wr fun e w' => e = .returned .nilIface ∧ TW (l ++ [c]) w0 B w' := by
  refine (Tryd.bByte B B (Lib.byteCells l) (c.toNat : Nat) wr h.hb ?_ (Nat.le_of_lt h.hB)).mono fun e w' ⟨he, hb, hk, _⟩ => ⟨he, h.put (r := [c]) hb hk⟩
  rw [byteCells_len]
  omega
theorem TW.text {l : List UInt8} {w0 wr : World} {B : Nat} (h : TW l w0 B wr) : Calls Tryd.prog 36 #[.pointer (some ⟨B, 0, none⟩)] wr fun e w' => e = .returned (.string (strOf l)) ∧ Kept No w0 w' := by
  refine (Tryd.Builder_String_any_f B B l wr h.hb (Nat.le_of_lt h.hB)).mono fun e w' ⟨he, hb, hk⟩ => ⟨he, ?_⟩
  exact ⟨hk.os.trans h.kept.os, hk.tape.trans h.kept.tape, hk.output.trans h.kept.output, Nat.le_trans h.kept.size hk.size, fun k h1 h2 => (hk.block k (Nat.lt_of_lt_of_le h1 h.lt)).trans (h.kept.block k h1 h2)⟩
theorem TW.start (w : World) : TW [] w w.heap.size (w.alloc (.cells #[.pointer none, .slice none 0 0] 68)) :=
  ⟨.inl ⟨Nat.le_refl _, .slice none 0 0, heap_alloc_new w _, ⟨rfl, .inl ⟨rfl, rfl⟩⟩, by simp [Value.ownBlock]⟩, Nat.le_refl _, by simp, (Kept.refl No w).alloc _⟩
theorem strOf_app (l r : List UInt8) : strOf l ++ strOf r = strOf (l ++ r) := by
  apply ByteArray.ext
  simp [strOf]
theorem dec_len (E : Nat) (h : E < 100) : (Lib.decDigits E).length ≤ 2 := by
  by_cases h1 : E < 10
  · rw [Lib.decDigits_one h1]; simp
  · rw [Lib.decDigits_two h1 h]; simp

set_option maxRecDepth 100000 in
theorem text_any {k E : Nat} {f : Nat → Nat} {b : Nat} {w : World} (hB : BS k E f b w) : Calls Tryd.prog 12 #[.pointer (some ⟨b, 0, none⟩)] w fun e w' => e = .returned (.string (strOf (textF k E f))) ∧ Kept No w w' := by
  have hle := hB.z.le
  have hE64 : E ≤ 64 := by have := hB.z.hi; omega
  have HN := Lib.hid (fun w (hB : BS k E f b w) => none_no hB)
  have HBY := Lib.hid (fun w (hB : BS k E f b w) m (hm : m + 1 < 2 ^ k) => bye_any hB hm)
  have HIT := Lib.hid (fun w => (show Calls Tryd.prog 34 #[.int .i64 (E : Nat)] w fun e w' => e = .returned (.string (strOf (Lib.decDigits E))) ∧ w' = w from Tryd.strconv_Itoa_small E (by omega) w))
  have HF := Lib.hid hB.wf.le
  have HWON := Lib.hid (fun w (hB : BS k E f b w) m (hm : m + 1 < 2 ^ k) => hB.won hm)
  have hp := Nat.one_le_two_pow (n := k)
  have hdl := dec_len E (by omega)
  obtain ⟨D, hD⟩ : ∃ D, Lib.decDigits E = D := ⟨_, rfl⟩
  have htx : textF k E f = D ++ [58] ++ chsF k E f (2 ^ k - 1) := by unfold textF; rw [hD]
  rw [hD] at HIT hdl
  obtain ⟨S, hS⟩ : ∃ S, 2 ^ k = S := ⟨_, rfl⟩
  have HC1 := Lib.hid (fun w (hB : BS k E f b w) => (show w.cell? ⟨b, 1, none⟩ = some (.int .i64 (S : Nat)) by rw [← hS]; exact hB.size))
  have HB := Lib.hid hB
  rw [hS] at hle hp htx HBY HWON
  rw [htx]
  have q0 : IntKind.i64.wrap ((S : Int) - 1) = (S : Int) - 1 := IntWalk.i64_in _ (by omega)
  have c0 := hB.ent
  obtain ⟨w1, hw1⟩ : ∃ w1, w.alloc (.cells #[.pointer none, .slice none 0 0] 68) = w1 := ⟨_, rfl⟩
  have HT1 := Lib.hid (show TW [] w w.heap.size w1 by rw [← hw1]; exact TW.start w)
  have HB1 := Lib.hid (hB.to HT1.out.kept (not_no _))
  have c0' := HB1.out.ent
  have hsz : (strOf D).size ≤ 2 := by rw [strOf_size]; exact hdl
  have HW1 := Lib.hid (show Calls Tryd.prog 33 #[.pointer (some ⟨w.heap.size, 0, none⟩), .string (strOf D ++ { data := #[58] })] w1 fun e w' => e = .returned (.tuple #[.int .i64 ((D ++ [58]).length : Nat), .nilIface]) ∧ TW (D ++ [58]) w w.heap.size w' from by
    have := HT1.out.write (r := D ++ [58]) (by simp; omega)
    rw [show (strOf D ++ { data := #[58] } : ByteArray) = strOf (D ++ [58]) from strOf_app D [58]]
    exact this)
  have HDL := Lib.hid hdl
  clear hB hS hD htx hdl
  go_enter Tryd.func12, Tryd.ntmps12
  go_wp2_with fail
  refine (HN.out _ HB.out).mono ?_
  rintro e w2 ⟨rfl, hk⟩
  have hk := hk.symm
  subst hk
  go_wp2_with fail
  refine (HIT.out _).mono ?_
  rintro e w2 ⟨rfl, hk⟩
  have hk := hk.symm
  subst hk
  go_wp2_with fail
  refine HW1.out.mono ?_
  rintro e w2 ⟨rfl, ht⟩
  have HT2 := Lib.hid ht
  have c1 := HC1.out _ (HB.out.to ht.kept (not_no _))
  clear ht
  go_wp2_with fail
  go_loopw [19] (fun iv wr => ∃ j : Nat, iv = .int .i64 (j : Nat) ∧ j + 1 ≤ S ∧ TW (D ++ [58] ++ chsF k E f j) w w.heap.size wr) (fun iv _ => S - (intOf iv).toNat)
  case atStart => exact ⟨0, rfl, by omega, by rw [show D ++ [58] ++ chsF k E f 0 = D ++ [58] by simp [chsF]]; exact HT2.out⟩
  case round =>
    obtain ⟨j, rfl, hj, ht⟩ := hrel
    have HT := Lib.hid ht
    have HBR := Lib.hid (HB.out.to ht.kept (not_no _))
    have hlen : (D ++ [58] ++ chsF k E f j).length + 1 ≤ 1000 := by
      have := HDL.out
      simp only [List.length_append, List.length_cons, List.length_nil, chsF_len]
      omega
    have HBT := Lib.hid (fun c => ht.byte hlen c)
    clear ht hlen
    by_cases hlt : j + 1 < S
    · have d1 : decide ((j : Int) < (S : Int) - 1) = true := decide_eq_true (by omega)
      have HJ := Lib.hid hlt
      have hj63 : j < 63 := by omega
      clear hlt hj
      cases hby : byeF k E j
      · have HC := Lib.hid (show Calls Tryd.prog 28 #[.pointer (some ⟨b, 0, none⟩), .int .i64 (j : Nat)] wr fun e w' => e = .returned (.bool false) ∧ w' = wr from hby ▸ HBY.out wr HBR.out j HJ.out)
        have hfj := HF.out j
        have cm := HWON.out wr HBR.out j HJ.out
        obtain ⟨d, hd⟩ : ∃ d, f j = d := ⟨_, rfl⟩
        rw [hd] at cm hfj
        have hch : chF k E f j = if d = 0 then 46 else if d = 1 then 48 else 49 := by unfold chF; rw [hby, hd]; rfl
        clear hby hd
        obtain rfl | rfl | rfl : d = 0 ∨ d = 1 ∨ d = 2 := by omega
        · have HCH := Lib.hid (show chF k E f j = 46 from hch)
          have HBC := Lib.hid (show Calls Tryd.prog 35 #[.pointer (some ⟨w.heap.size, 0, none⟩), .int .u8 46] wr fun e w' => e = .returned .nilIface ∧ TW (D ++ [58] ++ chsF k E f j ++ [46]) w w.heap.size w' from HBT.out 46)
          clear hch
          go_wp2_with fail
          refine (HC.out).mono ?_
          rintro e w3 ⟨rfl, hk⟩
          have hk := hk.symm
          subst hk
          go_wp2_with fail
          refine HBC.out.mono ?_
          rintro e w3 ⟨rfl, ht⟩
          have HTN := Lib.hid ht
          clear ht
          go_wp2_with fail
          have := HJ.out
          exact ⟨⟨j + 1, by go_num, by omega, by rw [chsF_succ, HCH.out, ← List.append_assoc]; exact HTN.out⟩, by simp [intOf]; omega⟩
        · have HCH := Lib.hid (show chF k E f j = 48 from hch)
          have HBC := Lib.hid (show Calls Tryd.prog 35 #[.pointer (some ⟨w.heap.size, 0, none⟩), .int .u8 48] wr fun e w' => e = .returned .nilIface ∧ TW (D ++ [58] ++ chsF k E f j ++ [48]) w w.heap.size w' from HBT.out 48)
          clear hch
          go_wp2_with fail
          refine (HC.out).mono ?_
          rintro e w3 ⟨rfl, hk⟩
          have hk := hk.symm
          subst hk
          go_wp2_with fail
          refine HBC.out.mono ?_
          rintro e w3 ⟨rfl, ht⟩
          have HTN := Lib.hid ht
          clear ht
          go_wp2_with fail
          have := HJ.out
          exact ⟨⟨j + 1, by go_num, by omega, by rw [chsF_succ, HCH.out, ← List.append_assoc]; exact HTN.out⟩, by simp [intOf]; omega⟩
        · have HCH := Lib.hid (show chF k E f j = 49 from hch)
          have HBC := Lib.hid (show Calls Tryd.prog 35 #[.pointer (some ⟨w.heap.size, 0, none⟩), .int .u8 49] wr fun e w' => e = .returned .nilIface ∧ TW (D ++ [58] ++ chsF k E f j ++ [49]) w w.heap.size w' from HBT.out 49)
          clear hch
          go_wp2_with fail
          refine (HC.out).mono ?_
          rintro e w3 ⟨rfl, hk⟩
          have hk := hk.symm
          subst hk
          go_wp2_with fail
          refine HBC.out.mono ?_
          rintro e w3 ⟨rfl, ht⟩
          have HTN := Lib.hid ht
          clear ht
          go_wp2_with fail
          have := HJ.out
          exact ⟨⟨j + 1, by go_num, by omega, by rw [chsF_succ, HCH.out, ← List.append_assoc]; exact HTN.out⟩, by simp [intOf]; omega⟩
      · have HC := Lib.hid (show Calls Tryd.prog 28 #[.pointer (some ⟨b, 0, none⟩), .int .i64 (j : Nat)] wr fun e w' => e = .returned (.bool true) ∧ w' = wr from hby ▸ HBY.out wr HBR.out j HJ.out)
        have HCH := Lib.hid (show chF k E f j = 45 by unfold chF; rw [hby]; rfl)
        have HBC := Lib.hid (show Calls Tryd.prog 35 #[.pointer (some ⟨w.heap.size, 0, none⟩), .int .u8 45] wr fun e w' => e = .returned .nilIface ∧ TW (D ++ [58] ++ chsF k E f j ++ [45]) w w.heap.size w' from HBT.out 45)
        clear hby
        go_wp2_with fail
        refine (HC.out).mono ?_
        rintro e w3 ⟨rfl, hk⟩
        have hk := hk.symm
        subst hk
        go_wp2_with fail
        refine HBC.out.mono ?_
        rintro e w3 ⟨rfl, ht⟩
        have HTN := Lib.hid ht
        clear ht
        go_wp2_with fail
        have := HJ.out
        exact ⟨⟨j + 1, by go_num, by omega, by rw [chsF_succ, HCH.out, ← List.append_assoc]; exact HTN.out⟩, by simp [intOf]; omega⟩
    · have d1 : decide ((j : Int) < (S : Int) - 1) = false := decide_eq_false (by omega)
      have hjS : j = S - 1 := by omega
      have HJ := Lib.hid hjS
      have htx := HT.out.text
      obtain ⟨L, hL⟩ : ∃ L, D ++ [58] ++ chsF k E f j = L := ⟨_, rfl⟩
      rw [hL] at htx
      have HTX := Lib.hid htx
      have HL := Lib.hid hL
      clear hlt hjS hL htx
      go_wp2_with fail
      refine HTX.out.mono ?_
      rintro e w3 ⟨rfl, hk⟩
      have HK := Lib.hid hk
      clear hk
      go_wp2_with fail
      go_ret
      exact ⟨by rw [← HJ.out, HL.out]; rfl, HK.out⟩
end Go.Proofs.YtphlpclhmodekaaDoor
