/-
  Runes: Fold, cut, Fit.
-/
import Derived.Test.YtoahnfmbmpllaaaDoorWalkC
set_option linter.unusedVariables false
set_option linter.unusedSimpArgs false
namespace Go.Proofs.YtoahnfmbmpllaaaDoor
open Go.RowKit Go.Zn
attribute [local go_sem] Oper.semAt_some

theorem strCells_of (l : List UInt8) : Lib.strCells (strOf l) = Lib.byteCells l := by
  simp [Lib.strCells, Lib.byteCells, strOf]
theorem byteCells_app (l r : List UInt8) : Lib.byteCells l ++ Lib.byteCells r = Lib.byteCells (l ++ r) := by
  simp [Lib.byteCells]
theorem byteCells_len (l : List UInt8) : (Lib.byteCells l).length = l.length := by
  simp [Lib.byteCells]
theorem builder_kept {B b : Nat} {bs : List Value} {w w' : World} (h : Lib.IsBuilderF 42 5 B b bs w) (hk : Below w.heap.size w w') : Lib.IsBuilderF 42 5 B b bs w' := by
  have key : ∀ p, Lib.BuilderAtF 42 5 B b p bs w → Lib.BuilderAtF 42 5 B b p bs w' := by
    intro p ⟨h1, v, h2, h3, h4⟩
    refine ⟨h1, v, (hk.block b (obj_lt h2)).trans h2, ?_, h4⟩
    obtain ⟨h5, h6 | ⟨g, cap, cur, fz, h6, h7, h8, h9⟩⟩ := h3
    · exact ⟨h5, .inl h6⟩
    · exact ⟨h5, .inr ⟨g, cap, cur, fz, h6, h7, (hk.block g (obj_lt h8)).trans h8, h9⟩⟩
  exact h.elim (fun x => .inl (key _ x)) (fun x => .inr (key _ x))
theorem kept_below {w0 w w' : World} {B : Nat} (h : Kept No w0 w) (hB : w0.heap.size ≤ B) (hk : Below B w w') : Kept No w0 w' :=
  ⟨hk.os.trans h.os, hk.tape.trans h.tape, hk.output.trans h.output, Nat.le_trans h.size hk.size, fun k h1 h2 => (hk.block k (Nat.lt_of_lt_of_le h1 hB)).trans (h.block k h1 h2)⟩
/-- a builder that holds acc, and an iterator over l behind it -/
structure BI (l acc : List UInt8) (B k pos : Nat) (w0 wr : World) : Prop where
  hb : Lib.IsBuilderF 42 5 B B (Lib.byteCells acc) wr
  hi : It l k pos w0 wr
  lo : w0.heap.size ≤ B
  ne : B < k
theorem BI.lt {l acc : List UInt8} {B k pos : Nat} {w0 wr : World} (h : BI l acc B k pos w0 wr) : B < wr.heap.size := by have := h.hi.lt; have := h.ne; omega
theorem BI.no {l acc : List UInt8} {B k pos : Nat} {w0 w w' : World} (h : BI l acc B k pos w0 w) (hk : Kept No w w') : BI l acc B k pos w0 w' := ⟨builder_kept h.hb hk.to_below, h.hi.no hk, h.lo, h.ne⟩
theorem BI.next {l acc : List UInt8} {B k pos : Nat} {w0 w : World} (h : BI l acc B k pos w0 w) (pos' : Nat) : BI l acc B k pos' w0 (w.iterAt k (strOf l) pos') := ⟨h.hb.iterAt h.hi.it pos', h.hi.next pos', h.lo, h.ne⟩
theorem BI.put {l acc r : List UInt8} {B k pos : Nat} {w0 w w' : World} (h : BI l acc B k pos w0 w) (hb : Lib.BuilderAtF 42 5 B B (.pointer (some ⟨B, 0, none⟩)) (Lib.byteCells acc ++ Lib.byteCells r) w') (hk : Below B w w') (ho : Lib.OthersKept 5 (some B) w w') : BI l (acc ++ r) B k pos w0 w' := by
  rw [byteCells_app] at hb
  exact ⟨.inr hb, ⟨ho.iter h.hi.it (by have := h.ne; omega), h.hi.lo, kept_below h.hi.kept h.lo hk⟩, h.lo, h.ne⟩
theorem BI.write {l acc r : List UInt8} {B k pos : Nat} {w0 w : World} (h : BI l acc B k pos w0 w) (hl : acc.length + r.length ≤ 100000000) : Calls Tryd.prog 18 #[.pointer (some ⟨B, 0, none⟩), .string (strOf r)] w fun e w' => e = .returned (.tuple #[.int .i64 (r.length : Nat), .nilIface]) ∧ BI l (acc ++ r) B k pos w0 w' := by
  refine (Tryd.bWrite B B (Lib.byteCells acc) (strOf r) w h.hb ?_ (Nat.le_of_lt h.lt)).mono fun e w' ⟨he, hb, hk, ho⟩ => ⟨by rw [he, strOf_size], h.put (by rw [strCells_of] at hb; exact hb) hk ho⟩
  rw [byteCells_len, strOf_size]
  omega
theorem BI.rune {l acc : List UInt8} {B k pos : Nat} {w0 w : World} (h : BI l acc B k pos w0 w) (hl : acc.length ≤ 100000000) {c : Nat} (hc : Scal c) : Calls Tryd.prog 50 #[.pointer (some ⟨B, 0, none⟩), .int .i32 (c : Nat)] w fun e w' => (∃ v, e = .returned (.tuple #[.int .i64 v, .nilIface])) ∧ BI l (acc ++ enc [c]) B k pos w0 w' := by
  have hcl := hc.le
  refine (Tryd.bRune B B (Lib.byteCells acc) (c : Nat) (by omega) (by omega) w h.hb ?_ (Nat.le_of_lt h.lt)).mono fun e w' ⟨he, hb, hk, ho⟩ => ⟨⟨_, he⟩, h.put (by rw [enc_one, Lib.byteCells_encodeRune]; exact hb) hk ho⟩
  rw [byteCells_len]
  omega
theorem BI.text {l acc : List UInt8} {B k pos : Nat} {w0 w : World} (h : BI l acc B k pos w0 w) : Calls Tryd.prog 20 #[.pointer (some ⟨B, 0, none⟩)] w fun e w' => e = .returned (.string (strOf acc)) ∧ Kept No w0 w' := by
  refine (Tryd.Builder_String_any_k B B acc w h.hb (Nat.le_of_lt h.lt)).mono fun e w' ⟨he, hb, hk, _⟩ => ⟨he, kept_below h.hi.kept h.lo hk⟩
theorem BI.start (l : List UInt8) (w : World) : BI l [] w.heap.size (w.heap.size + 1) 0 w ((w.alloc (.cells #[.pointer none, .slice none 0 0] 42)).alloc (.stringIter (strOf l) 0)) := by
  refine ⟨?_, ⟨World.alloc_at (by simp) _, by omega, ((Kept.refl No w).alloc _).alloc _⟩, Nat.le_refl _, by omega⟩
  exact (Lib.IsBuilderF.of (Lib.fresh_isBuilder 42 5 w)).alloc _
def FoRel (l : List UInt8) (B k : Nat) (w0 : World) (wr : World) : Prop :=
  ∃ (pos : Nat) (acc : List UInt8), acc ++ enc ((rest l pos).flatMap foldR) = foldS l ∧ BI l acc B k pos w0 wr
set_option maxHeartbeats 4000000 in
theorem foldS_any {l : List UInt8} (hl : l.length ≤ 100000) {w : World} (hV : VS w) : Calls Tryd.prog 10 #[.string (strOf l)] w fun e w' => e = .returned (.string (strOf (foldS l))) ∧ Kept No w w' := by
  have hsz := strOf_size l
  have HL := Lib.hid (Nat.le_trans (foldS_len l) (show 8 * l.length ≤ 800000 by omega))
  have HV := Lib.hid hV
  have HST := Lib.hid (BI.start l w)
  clear hV hl
  go_enter Tryd.func10, Tryd.ntmps10
  go_wp2_with fail
  go_loopw [] (fun wr => FoRel l w.heap.size (w.heap.size + 1) w wr) (fun wr => l.length - wr.iterPos (w.heap.size + 1))
  case atStart => exact ⟨0, [], by rw [rest_zero, List.nil_append]; rfl, HST.out⟩
  case round =>
    obtain ⟨pos, acc, hn, hI⟩ := hrel
    have HI := Lib.hid hI
    have hip := hI.hi.pos
    by_cases hp : pos < l.length
    · have hp2 : pos < (strOf l).size := by omega
      have hnx : ∀ ty, (Instr.next (.pointer (some ⟨w.heap.size + 1, 0, none⟩)) true ty).run Tryd.prog wr = _ := fun ty => Lib.run_next_any_at wr (w.heap.size + 1) (strOf l) pos ty hI.hi.it hp2
      have hd : Utf8.decode (strOf l) pos = dec l pos := rfl
      rw [hd] at hnx
      obtain ⟨d, hdd⟩ : ∃ d, dec l pos = d := ⟨_, rfl⟩
      have hsc : Scal d.1 := by rw [← hdd]; exact dec_scal l pos
      have hdp : 1 ≤ d.2 := by rw [← hdd]; exact dec_pos l pos
      have hra := rest_at hp
      rw [hdd] at hnx hra
      obtain ⟨c, wd⟩ := d
      have hra : rest l pos = c :: rest l (pos + wd) := hra
      have hdp : 1 ≤ wd := hdp
      have HI2 := Lib.hid (HI.out.next (pos + wd))
      have hS : acc ++ enc (foldR c) ++ enc ((rest l (pos + wd)).flatMap foldR) = foldS l := by
        rw [← hn, hra, List.flatMap_cons, enc_app, List.append_assoc]
      have HS := Lib.hid hS
      have HBD := Lib.hid (show acc.length + (enc (foldR c)).length ≤ 100000000 by
        have := congrArg List.length hS
        simp only [List.length_append] at this
        have := HL.out
        omega)
      have HC := Lib.hid (fold_any hsc (HV.out.no HI2.out.hi.kept))
      have HP := Lib.hid (And.intro hp hdp)
      obtain ⟨m, hm⟩ : ∃ m, enc (foldR c) = m := ⟨_, rfl⟩
      rw [hm] at HS HC HBD
      clear hI hn hd hdd hsc hra hm hp hdp hS
      go_wp2_with fail
      refine HC.out.mono ?_
      rintro e w1 ⟨rfl, hk⟩
      have HI3 := Lib.hid (HI2.out.no hk)
      clear hk
      go_wp2_with fail
      refine (HI3.out.write HBD.out).mono ?_
      rintro e w2 ⟨rfl, hb⟩
      have HI4 := Lib.hid hb
      clear hb
      go_wp2_with fail
      have hP := HP.out
      have h3 := HI4.out.hi.pos
      refine ⟨⟨pos + wd, acc ++ m, HS.out, HI4.out⟩, ?_⟩
      rw [h3, hip]
      omega
    · have hp2 : ¬ pos < (strOf l).size := by omega
      have hnx : ∀ ty, (Instr.next (.pointer (some ⟨w.heap.size + 1, 0, none⟩)) true ty).run Tryd.prog wr = _ := fun ty => Lib.run_next_end_at wr (w.heap.size + 1) (strOf l) pos ty hI.hi.it hp2
      have HS := Lib.hid (show acc = foldS l by rw [rest_end hp] at hn; simpa [enc] using hn)
      have HT := Lib.hid hI.text
      clear hI hn hp
      go_wp2_with fail
      refine HT.out.mono ?_
      rintro e w2 ⟨rfl, hk⟩
      have HK := Lib.hid hk
      clear hk
      go_wp2_with fail
      go_ret
      exact ⟨by rw [← HS.out]; rfl, HK.out⟩
def CuRel (l : List UInt8) (most B k : Nat) (w0 : World) (nv : Value) (wr : World) : Prop :=
  ∃ (pos n : Nat) (acc : List Nat), nv = .int .i64 (n : Nat) ∧ n = colsL acc ∧ acc ++ cutR most n (rest l pos) = cutR most 0 (rns l) ∧ BI l (enc acc) B k pos w0 wr
theorem enc_bound : ∀ L : List Nat, (enc L).length ≤ 4 * L.length
  | [] => by simp [enc]
  | c :: L => by
    have := enc_len c
    have := enc_bound L
    rw [enc_cons, List.length_append, List.length_cons]
    omega
set_option maxHeartbeats 4000000 in
theorem cut_any {l : List UInt8} (hl : l.length ≤ 100000) {most : Nat} (hmost : most ≤ 200000) {w : World} (hV : VS w) : Calls Tryd.prog 31 #[.string (strOf l), .int .i64 (most : Nat)] w fun e w' => e = .returned (.tuple #[.string (strOf (enc (cutR most 0 (rns l)))), .int .i64 (colsL (cutR most 0 (rns l)) : Nat)]) ∧ Kept No w w' := by
  have hsz := strOf_size l
  have HL := Lib.hid (show (enc (cutR most 0 (rns l))).length ≤ 400000 by
    have := enc_bound (cutR most 0 (rns l))
    have := cutR_len_le most (rns l) 0
    have := rns_len l
    omega)
  have HLC := Lib.hid (show colsL (cutR most 0 (rns l)) ≤ 200000 by have := cutR_le most (rns l) 0 (by omega); omega)
  have HV := Lib.hid hV
  have HST := Lib.hid (BI.start l w)
  clear hV hl
  go_enter Tryd.func31, Tryd.ntmps31
  go_wp2_with fail
  go_loopw [7] (fun nv wr => CuRel l most w.heap.size (w.heap.size + 1) w nv wr) (fun _ wr => l.length - wr.iterPos (w.heap.size + 1))
  case atStart => exact ⟨0, 0, [], rfl, rfl, by rw [rest_zero, List.nil_append], HST.out⟩
  case round =>
    obtain ⟨pos, n, acc, rfl, hnc, hn, hI⟩ := hrel
    have HI := Lib.hid hI
    have hip := hI.hi.pos
    have hnl : n ≤ 200000 := by
      have h := congrArg colsL hn
      rw [colsL_app] at h
      have := HLC.out
      omega
    by_cases hp : pos < l.length
    · have hp2 : pos < (strOf l).size := by omega
      have hnx : ∀ ty, (Instr.next (.pointer (some ⟨w.heap.size + 1, 0, none⟩)) true ty).run Tryd.prog wr = _ := fun ty => Lib.run_next_any_at wr (w.heap.size + 1) (strOf l) pos ty hI.hi.it hp2
      have hd : Utf8.decode (strOf l) pos = dec l pos := rfl
      rw [hd] at hnx
      obtain ⟨d, hdd⟩ : ∃ d, dec l pos = d := ⟨_, rfl⟩
      have hsc : Scal d.1 := by rw [← hdd]; exact dec_scal l pos
      have hdp : 1 ≤ d.2 := by rw [← hdd]; exact dec_pos l pos
      have hra := rest_at hp
      rw [hdd] at hnx hra
      obtain ⟨c, wd⟩ := d
      have hra : rest l pos = c :: rest l (pos + wd) := hra
      have hdp : 1 ≤ wd := hdp
      have hsc : Scal c := hsc
      have HI2 := Lib.hid (HI.out.next (pos + wd))
      have HC := Lib.hid (fun w (h : VS w) => columns_any hsc.le h)
      have hcl := colR_le c
      have q1 : IntKind.i64.wrap ((n : Int) + ((colR c : Nat) : Int)) = (n : Int) + ((colR c : Nat) : Int) := IntWalk.i64_in _ (by omega)
      rw [hra] at hn
      have HP := Lib.hid (And.intro hp hdp)
      by_cases hc : most < n + colR c
      · have HS := Lib.hid (show acc = cutR most 0 (rns l) by
          rw [show cutR most n (c :: rest l (pos + wd)) = [] by unfold cutR; rw [if_pos hc], List.append_nil] at hn
          exact hn)
        have d1 : decide ((most : Int) < (n : Int) + ((colR c : Nat) : Int)) = true := decide_eq_true (by omega)
        have d1' : decide (most < n + colR c) = true := decide_eq_true hc
        have HNC := Lib.hid hnc
        obtain ⟨m, hm⟩ : ∃ m, colR c = m := ⟨_, rfl⟩
        rw [hm] at q1 HC d1 d1'
        clear hI hn hd hdd hsc hra hm hp hdp hc hcl hnc
        go_wp2_with fail
        refine (HC.out _ (HV.out.no HI2.out.hi.kept)).mono ?_
        rintro e w1 ⟨rfl, hk⟩
        have HI3 := Lib.hid (HI2.out.no hk)
        clear hk
        go_wp2_with fail
        refine HI3.out.text.mono ?_
        rintro e w2 ⟨rfl, hk⟩
        have HK := Lib.hid hk
        clear hk
        go_wp2_with fail
        go_ret2
        exact ⟨by rw [← HS.out, ← HNC.out]; rfl, HK.out⟩
      · have hcut : cutR most n (c :: rest l (pos + wd)) = c :: cutR most (n + colR c) (rest l (pos + wd)) := by
          show (if most < n + colR c then [] else c :: cutR most (n + colR c) (rest l (pos + wd))) = _
          rw [if_neg hc]
        have hS : acc ++ [c] ++ cutR most (n + colR c) (rest l (pos + wd)) = cutR most 0 (rns l) := by
          rw [hcut] at hn
          rw [← hn, List.append_assoc]
          rfl
        have HS := Lib.hid hS
        have HNC := Lib.hid (show n + colR c = colsL (acc ++ [c]) by rw [colsL_app, ← hnc]; rfl)
        have HBD := Lib.hid (show (enc acc).length ≤ 100000000 by
          have h := congrArg (fun L => (enc L).length) hS
          simp only [enc_app, List.length_append] at h
          have := HL.out
          omega)
        have HSC := Lib.hid hsc
        have d1 : decide ((most : Int) < (n : Int) + ((colR c : Nat) : Int)) = false := decide_eq_false (by omega)
        have d1' : decide (most < n + colR c) = false := decide_eq_false hc
        obtain ⟨m, hm⟩ : ∃ m, colR c = m := ⟨_, rfl⟩
        rw [hm] at q1 HC d1 d1' HS HNC
        clear hI hn hd hdd hsc hra hm hp hdp hc hcl hnc hcut hS
        go_wp2_with fail
        refine (HC.out _ (HV.out.no HI2.out.hi.kept)).mono ?_
        rintro e w1 ⟨rfl, hk⟩
        have HI3 := Lib.hid (HI2.out.no hk)
        clear hk
        go_wp2_with fail
        refine (HC.out _ (HV.out.no HI3.out.hi.kept)).mono ?_
        rintro e w2 ⟨rfl, hk⟩
        have HI4 := Lib.hid (HI3.out.no hk)
        clear hk
        go_wp2_with fail
        refine (HI4.out.rune HBD.out HSC.out).mono ?_
        rintro e w3 ⟨⟨v, rfl⟩, hb⟩
        have HI5 := Lib.hid (show BI l (enc (acc ++ [c])) w.heap.size (w.heap.size + 1) (pos + wd) w w3 by rw [enc_app]; exact hb)
        clear hb
        go_wp2_with fail
        have hP := HP.out
        have h3 := HI5.out.hi.pos
        refine ⟨⟨pos + wd, n + m, acc ++ [c], by go_num, HNC.out, HS.out, HI5.out⟩, ?_⟩
        rw [h3, hip]
        omega
    · have hp2 : ¬ pos < (strOf l).size := by omega
      have hnx : ∀ ty, (Instr.next (.pointer (some ⟨w.heap.size + 1, 0, none⟩)) true ty).run Tryd.prog wr = _ := fun ty => Lib.run_next_end_at wr (w.heap.size + 1) (strOf l) pos ty hI.hi.it hp2
      have HS := Lib.hid (show acc = cutR most 0 (rns l) by rw [rest_end hp] at hn; simpa [cutR] using hn)
      have HT := Lib.hid hI.text
      have HNC := Lib.hid hnc
      clear hI hn hp hnc
      go_wp2_with fail
      refine HT.out.mono ?_
      rintro e w2 ⟨rfl, hk⟩
      have HK := Lib.hid hk
      clear hk
      go_wp2_with fail
      go_ret2
      exact ⟨by rw [← HS.out, ← HNC.out]; rfl, HK.out⟩
end Go.Proofs.YtoahnfmbmpllaaaDoor
