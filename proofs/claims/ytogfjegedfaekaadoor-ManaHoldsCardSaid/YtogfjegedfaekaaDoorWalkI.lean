/-
  Mana: equality of pools and of costs.
-/
import Derived.Test.YtogfjegedfaekaaDoorWalkA
import Derived.Laws.StructEq
import Derived.ChangeKeysEq
set_option linter.unusedVariables false
set_option linter.unusedSimpArgs false
namespace Go.Proofs.YtogfjegedfaekaaDoor
open Go.RowKit Go.Zn
attribute [local go_sem] Oper.semAt_some

def q4 (a b c d a' b' c' d' : Int) : Bool := a == a' && b == b' && c == c' && d == d'
def q5 (a b c d g a' b' c' d' g' : Int) : Bool := q4 a b c d a' b' c' d' && g == g'
theorem part3 (xs : Array Value) (k : Nat) (x : Int) (h : xs[k]? = some (.int .i64 x)) (W : World) : (part 3 xs k).run Tryd.prog W = .ok (.int .i64 x) W :=
  run_part_plain W (by kernel_rfl) h
theorem eq4in (D : Nat) (a b c d a' b' c' d' : Int) (W : World) : (Op.equalIn (D + 2) 23 (.agg #[.int .i64 a, .int .i64 b, .int .i64 c, .int .i64 d]) (.agg #[.int .i64 a', .int .i64 b', .int .i64 c', .int .i64 d'])).run Tryd.prog W = .ok (q4 a b c d a' b' c' d') W := by
  obtain ⟨i, hi⟩ := Option.isSome_iff_exists.1 (show (Tryd.prog.info? 3).isSome = true by kernel_rfl)
  have hc : Tryd.prog.cellsOf 3 = 1 := by kernel_rfl
  have e3 : ∀ (x y : Int) (W : World), (Op.equalIn (D + 1) 3 (.int .i64 x) (.int .i64 y)).run Tryd.prog W = .ok (x == y) W := fun x y W => run_equalIn_int W D 3 .i64 .i64 x y Tryd.underlying3
  rw [run_equalIn_array W (D + 1) _ _ Tryd.underlying23 hi, hc]
  have p0 := fun (a b c d : Int) (W : World) => part3 #[.int .i64 a, .int .i64 b, .int .i64 c, .int .i64 d] 0 a rfl W
  have p1 := fun (a b c d : Int) (W : World) => part3 #[.int .i64 a, .int .i64 b, .int .i64 c, .int .i64 d] 1 b rfl W
  have p2 := fun (a b c d : Int) (W : World) => part3 #[.int .i64 a, .int .i64 b, .int .i64 c, .int .i64 d] 2 c rfl W
  have p3 := fun (a b c d : Int) (W : World) => part3 #[.int .i64 a, .int .i64 b, .int .i64 c, .int .i64 d] 3 d rfl W
  show (Op.eqItems (D + 1) 3 1 _ _ [0, 1, 2, 3]).run Tryd.prog W = _
  simp only [Op.eqItems, Sem.run_bind, Sem.run_ite, Sem.run_pure, Nat.mul_one, p0, p1, p2, p3, e3, Result.andThen_ok]
  unfold q4
  generalize (a == a') = r1
  generalize (b == b') = r2
  generalize (c == c') = r3
  generalize (d == d') = r4
  clear e3 p0 p1 p2 p3
  cases r1 <;> cases r2 <;> cases r3 <;> cases r4 <;> rfl
theorem eql4 (a b c d a' b' c' d' : Int) (W : World) : Sem.run Tryd.prog (binOp .eql 23 (.agg #[.int .i64 a, .int .i64 b, .int .i64 c, .int .i64 d]) (.agg #[.int .i64 a', .int .i64 b', .int .i64 c', .int .i64 d'])) W = .ok (.bool (q4 a b c d a' b' c' d')) W := by
  rw [run_eql_struct, eq4in 9998]
  rfl
theorem eq5in (D : Nat) (a b c d g a' b' c' d' g' : Int) (W : World) : (Op.equalIn (D + 3) 25 (.agg #[.int .i64 a, .int .i64 b, .int .i64 c, .int .i64 d, .int .i64 g]) (.agg #[.int .i64 a', .int .i64 b', .int .i64 c', .int .i64 d', .int .i64 g'])).run Tryd.prog W = .ok (q5 a b c d g a' b' c' d' g') W := by
  have e3 : ∀ (x y : Int) (W : World), (Op.equalIn (D + 2) 3 (.int .i64 x) (.int .i64 y)).run Tryd.prog W = .ok (x == y) W := fun x y W => run_equalIn_int W (D + 1) 3 .i64 .i64 x y Tryd.underlying3
  have p0 : ∀ (a b c d g : Int) (W : World), (part 23 #[.int .i64 a, .int .i64 b, .int .i64 c, .int .i64 d, .int .i64 g] 0).run Tryd.prog W = .ok (.agg #[.int .i64 a, .int .i64 b, .int .i64 c, .int .i64 d]) W := fun a b c d g W => by kernel_rfl
  have p4 := fun (a b c d g : Int) (W : World) => part3 #[.int .i64 a, .int .i64 b, .int .i64 c, .int .i64 d, .int .i64 g] 4 g rfl W
  obtain ⟨x, y, hf, hx1, hx2, hx3, hy1, hy2, hy3⟩ : ∃ x y : Field, (Tryd.prog.fieldsOf 25).toList = [x, y] ∧ x.type = 23 ∧ x.offset = 0 ∧ (x.name == "_") = false ∧ y.type = 3 ∧ y.offset = 4 ∧ (y.name == "_") = false :=
    ⟨(Tryd.prog.fieldsOf 25)[0]!, (Tryd.prog.fieldsOf 25)[1]!, by kernel_rfl, by kernel_rfl, by kernel_rfl, by kernel_rfl, by kernel_rfl, by kernel_rfl, by kernel_rfl⟩
  rw [run_equalIn_agg W (D + 2) 25 _ _ (by kernel_rfl) (by kernel_rfl), hf]
  have hx3' : x.name ≠ "_" := by simpa using hx3
  have hy3' : y.name ≠ "_" := by simpa using hy3
  have e4 := eq4in D
  simp only [Op.eqFields, hx1, hx2, hx3', hy1, hy2, hy3', ne_eq, not_false_eq_true, if_true, Sem.run_bind, Sem.run_ite, Sem.run_pure, p0, p4, e3, e4, Result.andThen_ok]
  unfold q5
  generalize q4 a b c d a' b' c' d' = r1
  generalize (g == g') = r2
  clear e3 p0 p4 e4
  cases r1 <;> cases r2 <;> rfl
theorem eql5 (a b c d g a' b' c' d' g' : Int) (W : World) : Sem.run Tryd.prog (binOp .eql 25 (.agg #[.int .i64 a, .int .i64 b, .int .i64 c, .int .i64 d, .int .i64 g]) (.agg #[.int .i64 a', .int .i64 b', .int .i64 c', .int .i64 d', .int .i64 g'])) W = .ok (.bool (q5 a b c d g a' b' c' d' g')) W := by
  rw [run_eql_struct, eq5in 9997]
  rfl
theorem neq5 (a b c d g a' b' c' d' g' : Int) (W : World) : Sem.run Tryd.prog (binOp .neq 25 (.agg #[.int .i64 a, .int .i64 b, .int .i64 c, .int .i64 d, .int .i64 g]) (.agg #[.int .i64 a', .int .i64 b', .int .i64 c', .int .i64 d', .int .i64 g'])) W = .ok (.bool (!q5 a b c d g a' b' c' d' g')) W := by
  rw [run_neq_struct, eq5in 9997]
  rfl
theorem q4_self (a b c d : Int) : q4 a b c d a b c d = true := by simp [q4]
theorem q5_self (a b c d g : Int) : q5 a b c d g a b c d g = true := by simp [q5, q4]
theorem q5_zero (a b c d g : Int) : q5 a b c d g 0 0 0 0 0 = (a == 0 && b == 0 && c == 0 && d == 0 && g == 0) := rfl
end Go.Proofs.YtogfjegedfaekaaDoor
