/-
  Bracket: nil and zero brackets; Seats, Champion, Matches.
-/
import Derived.Test.YtphlpclhmodekaaDoorWalkD
set_option linter.unusedVariables false
set_option linter.unusedSimpArgs false
namespace Go.Proofs.YtphlpclhmodekaaDoor
open Go.RowKit Go.Zn
attribute [local go_sem] Oper.semAt_some

theorem wpList_load_want {P : Program} {ops : Array Oper} {rest : List Oper} {op : Oper} {a : Act} {w : World} {Q : Exit → Act → World → Prop} (ty : TypeId) (x : Operand) (ho : op.op = .load ty x) (hw : Region.wanted op (yielded ops a.tmps) = true)
    (b o : Nat) (hx : a.eval x = .pointer (some ⟨b, o, none⟩)) (cs : List Value) (d : TypeDesc) (hc : w.rangeAt b o cs)
    (hu : P.underlying ty = some d) (hd : d.isRow = true) (hi : (P.info? ty).map (·.size) = some cs.length)
    (h : wpList P ops Q rest (a.put op.dst (.agg cs.toArray)) w) : wpList P ops Q (op :: rest) a w :=
  BigFrame.wpList_want hw fun _ hK => wp_load_mid ty x ho b o hx cs d hc hu hd hi (hK _ _ h)
theorem part3 (xs : Array Value) (k : Nat) (x : Int) (h : xs[k]? = some (.int .i64 x)) (W : World) : (part 3 xs k).run Tryd.prog W = .ok (.int .i64 x) W :=
  run_part_plain W (by kernel_rfl) h
theorem eqB_in (D : Nat) (cs zs : Array Value) (E : Int) (h : cs[0]? = some (.int .i64 E)) (hz : zs[0]? = some (.int .i64 0)) (hE : (E == 0) = false) (W : World) : (Op.equalIn (D + 3) 46 (.agg cs) (.agg zs)).run Tryd.prog W = .ok false W := by
  have e3 : ∀ (x y : Int) (W : World), (Op.equalIn (D + 2) 3 (.int .i64 x) (.int .i64 y)).run Tryd.prog W = .ok (x == y) W := fun x y W => run_equalIn_int W (D + 1) 3 .i64 .i64 x y Tryd.underlying3
  obtain ⟨x, y, z, hf, hx1, hx2, hx3⟩ : ∃ x y z : Field, (Tryd.prog.fieldsOf 46).toList = [x, y, z] ∧ x.type = 3 ∧ x.offset = 0 ∧ (x.name == "_") = false :=
    ⟨(Tryd.prog.fieldsOf 46)[0]!, (Tryd.prog.fieldsOf 46)[1]!, (Tryd.prog.fieldsOf 46)[2]!, by kernel_rfl, by kernel_rfl, by kernel_rfl, by kernel_rfl⟩
  rw [run_equalIn_agg W (D + 2) 46 _ _ (by kernel_rfl) (by kernel_rfl), hf]
  have hx3' : x.name ≠ "_" := by simpa using hx3
  have p0 := part3 cs 0 E h
  have p1 := part3 zs 0 0 hz
  simp only [Op.eqFields, hx1, hx2, hx3', ne_eq, not_false_eq_true, if_true, Sem.run_bind, Sem.run_ite, Sem.run_pure, p0, p1, e3, hE, Result.andThen_ok]
  rfl
theorem eqB_false (cs zs : Array Value) (E : Int) (h : cs[0]? = some (.int .i64 E)) (hz : zs[0]? = some (.int .i64 0)) (hE : (E == 0) = false) (W : World) : Sem.run Tryd.prog (binOp .eql 46 (.agg cs) (.agg zs)) W = .ok (.bool false) W := by
  rw [run_eql_struct, eqB_in 9997 cs zs E h hz hE]
  rfl

set_option maxRecDepth 100000 in
theorem none_no {k E : Nat} {f : Nat → Nat} {b : Nat} {w : World} (hB : BS k E f b w) : Calls Tryd.prog 30 #[.pointer (some ⟨b, 0, none⟩)] w fun e w' => e = .returned (.bool false) ∧ w' = w := by
  have hE : 2 ≤ E := by have := hB.z.lo; have := hB.z.one; have := pow_le' hB.z.one; omega
  have hr : w.rangeAt b 0 (cellsB E (2 ^ k) f) := fun j v hv => by
    rw [obj_cell hB.hb (0 + j), List.getElem?_toArray, Nat.zero_add]; exact hv
  have hi : (Tryd.prog.info? 46).map (·.size) = some (cellsB E (2 ^ k) f).length := by rw [cellsB_len]; kernel_rfl
  obtain ⟨cs, hcs⟩ : ∃ cs, cellsB E (2 ^ k) f = cs := ⟨_, rfl⟩
  have h0 : cs.toArray[0]? = some (.int .i64 (E : Nat)) := by rw [← hcs]; rfl
  have heq : ∀ W, Sem.run Tryd.prog (binOp .eql 46 (.agg cs.toArray) (.agg Tryd.zeroCells46)) W = .ok (.bool false) W := fun W => eqB_false cs.toArray _ E h0 (by kernel_rfl) (by simp; omega) W
  rw [hcs] at hr hi
  have HR := Lib.hid hr
  have HI := Lib.hid hi
  clear hr hB h0 hcs hE hi
  go_enter Tryd.func30, Tryd.ntmps30
  go_wp2_with (refine wpList_load_want 46 _ rfl (by rfl) b 0 rfl cs _ HR.out Tryd.underlying46 rfl HI.out ?_)
  go_ret
  exact ⟨rfl, rfl⟩
theorem none_nil (w : World) : Calls Tryd.prog 30 #[.pointer none] w fun e w' => e = .returned (.bool true) ∧ w' = w := by
  go_enter Tryd.func30, Tryd.ntmps30
  go_wp2_with fail
  go_ret
  exact ⟨rfl, rfl⟩

/-- ahead of a function that asks for nil first -/
theorem seats_in {k E : Nat} {f : Nat → Nat} {b : Nat} {w : World} (hB : BS k E f b w) {m : Nat} (hm : m + 1 < 2 ^ k) : Calls Tryd.prog 15 #[.pointer (some ⟨b, 0, none⟩), .int .i64 (m : Nat)] w fun e w' => e = .returned (.tuple #[.int .i64 (seatsF k E f m).1, .int .i64 (seatsF k E f m).2, .int .i64 0]) ∧ w' = w := by
  have hle := hB.z.le
  have HN := Lib.hid (fun w (hB : BS k E f b w) => none_no hB)
  have HS := Lib.hid (fun w (hB : BS k E f b w) => seats_any hB hm)
  obtain ⟨S, hS⟩ : ∃ S, 2 ^ k = S := ⟨_, rfl⟩
  have HC1 := Lib.hid (fun w (hB : BS k E f b w) => (show w.cell? ⟨b, 1, none⟩ = some (.int .i64 (S : Nat)) by rw [← hS]; exact hB.size))
  have HB := Lib.hid hB
  rw [hS] at hm hle
  have q0 : IntKind.i64.wrap ((S : Int) - 1) = (S : Int) - 1 := IntWalk.i64_in _ (by omega)
  have q1 : decide ((S : Int) - 1 ≤ (m : Int)) = false := decide_eq_false (by omega)
  clear hB hS hle hm
  go_enter Tryd.func15, Tryd.ntmps15
  go_wp2_with fail
  refine (HN.out _ HB.out).mono ?_
  rintro e w1 ⟨rfl, hk⟩
  have hk := hk.symm
  subst hk
  have hk := Kept.refl No w
  have HB1 := Lib.hid (HB.out.to hk (not_no _))
  have HK1 := Lib.hid hk
  clear hk
  have c1 := HC1.out _ HB1.out
  go_wp2_with fail
  refine (HS.out _ HB1.out).mono ?_
  rintro e w2 ⟨rfl, hk⟩
  have hk := hk.symm
  subst hk
  have hk := Kept.refl No w
  have HK2 := Lib.hid (HK1.out.and hk)
  clear hk
  go_wp2_with fail
  go_ret3
  exact ⟨rfl, rfl⟩

theorem seats_out {k E : Nat} {f : Nat → Nat} {b : Nat} {w : World} (hB : BS k E f b w) {m : Int} (hm : m < 0 ∨ ((2 ^ k : Nat) : Int) - 1 ≤ m) : Calls Tryd.prog 15 #[.pointer (some ⟨b, 0, none⟩), .int .i64 m] w fun e w' => e = .returned (.tuple #[.int .i64 0, .int .i64 0, .int .i64 3]) ∧ w' = w := by
  have hle := hB.z.le
  have HN := Lib.hid (fun w (hB : BS k E f b w) => none_no hB)
  obtain ⟨S, hS⟩ : ∃ S, 2 ^ k = S := ⟨_, rfl⟩
  have HC1 := Lib.hid (fun w (hB : BS k E f b w) => (show w.cell? ⟨b, 1, none⟩ = some (.int .i64 (S : Nat)) by rw [← hS]; exact hB.size))
  have HB := Lib.hid hB
  rw [hS] at hm hle
  have q0 : IntKind.i64.wrap ((S : Int) - 1) = (S : Int) - 1 := IntWalk.i64_in _ (by omega)
  clear hB hS hle
  by_cases hneg : m < 0
  · have q1 : decide (m < 0) = true := decide_eq_true hneg
    clear hneg hm
    go_enter Tryd.func15, Tryd.ntmps15
    go_wp2_with fail
    refine (HN.out _ HB.out).mono ?_
    rintro e w1 ⟨rfl, hk⟩
    have hk := hk.symm
    subst hk
    have hk := Kept.refl No w
    have HK1 := Lib.hid hk
    clear hk
    go_wp2_with fail
    go_ret3
    exact ⟨rfl, rfl⟩
  · have q1 : decide (m < 0) = false := decide_eq_false hneg
    have q2 : decide ((S : Int) - 1 ≤ m) = true := decide_eq_true (by omega)
    clear hneg hm
    go_enter Tryd.func15, Tryd.ntmps15
    go_wp2_with fail
    refine (HN.out _ HB.out).mono ?_
    rintro e w1 ⟨rfl, hk⟩
    have hk := hk.symm
    subst hk
    have hk := Kept.refl No w
    have HB1 := Lib.hid (HB.out.to hk (not_no _))
    have HK1 := Lib.hid hk
    clear hk
    have c1 := HC1.out _ HB1.out
    go_wp2_with fail
    go_ret3
    exact ⟨rfl, rfl⟩

theorem champion_any {k E : Nat} {f : Nat → Nat} {b : Nat} {w : World} (hB : BS k E f b w) : Calls Tryd.prog 11 #[.pointer (some ⟨b, 0, none⟩)] w fun e w' => e = .returned (.int .i64 (winF k E f (2 ^ k - 2))) ∧ w' = w := by
  have hle := hB.z.le
  obtain ⟨H, hH, hH1, _⟩ := hB.z.pow
  have HN := Lib.hid (fun w (hB : BS k E f b w) => none_no hB)
  have HS := Lib.hid (fun w (hB : BS k E f b w) => (show Calls Tryd.prog 32 #[.pointer (some ⟨b, 0, none⟩), .int .i64 (2 * (H : Int) - 2)] w fun e w' => e = .returned (.int .i64 (winF k E f (2 ^ k - 2))) ∧ w' = w by
    have := winner_any hB (m := 2 ^ k - 2) (by omega)
    rw [show (((2 ^ k - 2 : Nat) : Int)) = 2 * (H : Int) - 2 by omega] at this
    exact this))
  have HC1 := Lib.hid (fun w (hB : BS k E f b w) => (show w.cell? ⟨b, 1, none⟩ = some (.int .i64 ((2 * H : Nat) : Int)) by rw [← hH]; exact hB.size))
  have HB := Lib.hid hB
  have q0 : IntKind.i64.wrap (2 * (H : Int) - 2) = 2 * (H : Int) - 2 := IntWalk.i64_in _ (by omega)
  clear hB hH hle hH1
  go_enter Tryd.func11, Tryd.ntmps11
  go_wp2_with fail
  refine (HN.out _ HB.out).mono ?_
  rintro e w1 ⟨rfl, hk⟩
  have hk := hk.symm
  subst hk
  have hk := Kept.refl No w
  have HB1 := Lib.hid (HB.out.to hk (not_no _))
  have HK1 := Lib.hid hk
  clear hk
  have c1 := HC1.out _ HB1.out
  go_wp2_with fail
  refine (HS.out _ HB1.out).mono ?_
  rintro e w2 ⟨rfl, hk⟩
  have hk := hk.symm
  subst hk
  have hk := Kept.refl No w
  have HK2 := Lib.hid (HK1.out.and hk)
  clear hk
  go_wp2_with fail
  go_ret
  exact ⟨rfl, rfl⟩

theorem matches_any {k E : Nat} {f : Nat → Nat} {b : Nat} {w : World} (hB : BS k E f b w) : Calls Tryd.prog 21 #[.pointer (some ⟨b, 0, none⟩)] w fun e w' => e = .returned (.int .i64 ((2 ^ k - 1 : Nat) : Int)) ∧ w' = w := by
  have hle := hB.z.le
  have HN := Lib.hid (fun w (hB : BS k E f b w) => none_no hB)
  obtain ⟨S, hS⟩ : ∃ S, 2 ^ k = S := ⟨_, rfl⟩
  have HC1 := Lib.hid (fun w (hB : BS k E f b w) => (show w.cell? ⟨b, 1, none⟩ = some (.int .i64 (S : Nat)) by rw [← hS]; exact hB.size))
  have HB := Lib.hid hB
  have hp := Nat.one_le_two_pow (n := k)
  rw [hS] at hle hp
  rw [hS]
  have q0 : IntKind.i64.wrap ((S : Int) - 1) = (S : Int) - 1 := IntWalk.i64_in _ (by omega)
  have HR := Lib.hid (show (S : Int) - 1 = ((S - 1 : Nat) : Int) by omega)
  clear hB hS hle hp
  go_enter Tryd.func21, Tryd.ntmps21
  go_wp2_with fail
  refine (HN.out _ HB.out).mono ?_
  rintro e w1 ⟨rfl, hk⟩
  have hk := hk.symm
  subst hk
  have hk := Kept.refl No w
  have HB1 := Lib.hid (HB.out.to hk (not_no _))
  have HK1 := Lib.hid hk
  clear hk
  have c1 := HC1.out _ HB1.out
  go_wp2_with fail
  go_ret
  exact ⟨by rw [← HR.out]; rfl, rfl⟩
end Go.Proofs.YtphlpclhmodekaaDoor
