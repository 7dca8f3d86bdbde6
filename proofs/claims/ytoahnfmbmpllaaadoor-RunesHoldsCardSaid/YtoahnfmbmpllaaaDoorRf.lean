/-
  Runes, the plain model: which runes are letters; folding, widths, what fits.
-/
import Derived.Test.YtoahnfmbmpllaaaDoorRm
import Derived.Lib.IndexMore
import Derived.Lib.TrimByte
import Derived.Lib.Repeat
set_option linter.unusedVariables false
set_option linter.unusedSimpArgs false
namespace Go.Proofs.YtoahnfmbmpllaaaDoor
open Go.Lib

def letL : List (Nat × Nat) := [(65, 90), (97, 122), (192, 214), (216, 246), (248, 255), (913, 929), (931, 937), (945, 969), (19968, 40959)]
def wideL : List (Nat × Nat) := [(4352, 4447), (11904, 42191), (44032, 55203), (65280, 65376)]
def greekL : List (Nat × Nat) := [(913, 929), (931, 937)]
def inL (r : Nat) (l : List (Nat × Nat)) : Bool := l.any fun p => decide (p.1 ≤ r) && decide (r ≤ p.2)
def plainR (r : Nat) : Bool := inL r letL || (decide (48 ≤ r) && decide (r ≤ 57))
/-- the words of the runes from U+00C0 to U+00DF -/
def wordsR : List (List Nat) := [[97], [97], [97], [97], [97], [97], [97, 101], [99], [101], [101], [101], [101], [105], [105], [105], [105], [100], [110], [111], [111], [111], [111], [111], [215], [111], [117], [117], [117], [117], [121], [116, 104], [115, 115]]
def foldR (r : Nat) : List Nat :=
  if 65 ≤ r ∧ r ≤ 90 then [r + 32]
  else if 192 ≤ r ∧ r ≤ 223 then wordsR.getD (r - 192) []
  else if r = 247 then [247]
  else if r = 255 then [121]
  else if 224 ≤ r ∧ r < 255 then wordsR.getD (r - 224) []
  else if inL r greekL then [r + 32]
  else [r]
theorem fold_big {r : Nat} (h : 1024 ≤ r) : foldR r = [r] := by
  unfold foldR
  rw [if_neg (by omega), if_neg (by omega), if_neg (by omega), if_neg (by omega), if_neg (by omega), if_neg]
  simp [inL, greekL]
  omega
def foldOk (r : Nat) : Bool := ((foldR r).all fun c => decide (Scal c) && !(decide (65 ≤ c) && decide (c ≤ 90))) && ((foldR r).flatMap foldR == foldR r)
theorem foldOk_small : ∀ r : Fin 1024, foldOk r.val = true := by decide +kernel
theorem fold_ok {r : Nat} (h : Scal r) : (∀ c ∈ foldR r, Scal c ∧ ¬ (65 ≤ c ∧ c ≤ 90)) ∧ (foldR r).flatMap foldR = foldR r := by
  by_cases hr : r < 1024
  · have := foldOk_small ⟨r, hr⟩
    unfold foldOk at this
    simp only [Bool.and_eq_true, List.all_eq_true, decide_eq_true_eq, beq_iff_eq, Bool.not_eq_true', Bool.and_eq_false_iff, decide_eq_false_iff_not] at this
    obtain ⟨h1, h2⟩ := this
    refine ⟨fun c hc => ⟨(h1 c hc).1, ?_⟩, h2⟩
    have := (h1 c hc).2
    omega
  · rw [fold_big (by omega)]
    refine ⟨fun c hc => ?_, ?_⟩
    · rw [List.mem_singleton] at hc
      subst hc
      exact ⟨h, by omega⟩
    · simp [fold_big (show 1024 ≤ r by omega)]
/-- the folded string -/
def foldS (l : List UInt8) : List UInt8 := enc ((rns l).flatMap foldR)
theorem foldS_scal (l : List UInt8) : ∀ c ∈ (rns l).flatMap foldR, Scal c := by
  intro c hc
  obtain ⟨r, hr, hc⟩ := List.mem_flatMap.mp hc
  exact ((fold_ok (rns_scal l r hr)).1 c hc).1
theorem rns_fold (l : List UInt8) : rns (foldS l) = (rns l).flatMap foldR := rns_enc (foldS_scal l)
theorem fold_low {l : List UInt8} {c : Nat} (h : c ∈ rns (foldS l)) : ¬ (65 ≤ c ∧ c ≤ 90) := by
  rw [rns_fold] at h
  obtain ⟨r, hr, hc⟩ := List.mem_flatMap.mp h
  exact ((fold_ok (rns_scal l r hr)).1 c hc).2
theorem foldS_idem (l : List UInt8) : foldS (foldS l) = foldS l := by
  show enc ((rns (foldS l)).flatMap foldR) = enc ((rns l).flatMap foldR)
  congr 1
  rw [rns_fold]
  have h := rns_scal l
  generalize rns l = L at h
  induction L with
  | nil => rfl
  | cons c L ih =>
    rw [List.flatMap_cons, List.flatMap_append, (fold_ok (h c (by simp))).2, ih (fun x hx => h x (by simp [hx]))]
/-- the search key -/
def keyS (l : List UInt8) : List UInt8 := enc ((rns (foldS l)).filter plainR)
theorem keyS_fold (l : List UInt8) : keyS (foldS l) = keyS l := by unfold keyS; rw [foldS_idem]
theorem key_map (f : Int → Int) (hf : ∀ c : Nat, f c = if plainR c then (c : Int) else -1) (l : List UInt8) : mapD f l = enc ((rns l).filter plainR) := by
  rw [mapD_eq]
  generalize rns l = L
  induction L with
  | nil => rfl
  | cons c L ih =>
    rw [List.flatMap_cons, ih, hf c]
    by_cases h : plainR c = true
    · rw [if_pos h, if_pos (by omega), List.filter_cons_of_pos h]
      rfl
    · rw [if_neg h, if_neg (by decide), List.filter_cons_of_neg h]
      rfl
theorem foldR_len (r : Nat) : (enc (foldR r)).length ≤ 8 := by
  have h : (foldR r).length ≤ 2 := by
    by_cases hr : r < 1024
    · have : ∀ r : Fin 1024, decide ((foldR r.val).length ≤ 2) = true := by decide +kernel
      exact of_decide_eq_true (this ⟨r, hr⟩)
    · rw [fold_big (by omega)]; simp
  match hm : foldR r, h with
  | [], _ => simp [enc]
  | [a], _ => rw [enc_one]; have := enc_len a; omega
  | [a, b], _ =>
    rw [enc_cons, enc_one, List.length_append]
    have := enc_len a
    have := enc_len b
    omega
theorem foldS_len (l : List UInt8) : (foldS l).length ≤ 8 * l.length := by
  have h := rns_len l
  have : ∀ L : List Nat, (enc (L.flatMap foldR)).length ≤ 8 * L.length := by
    intro L
    induction L with
    | nil => simp [enc]
    | cons c L ih =>
      rw [List.flatMap_cons, enc_app, List.length_append]
      have := foldR_len c
      simp only [List.length_cons]
      omega
  have := this (rns l)
  unfold foldS
  omega
def markR (r : Nat) : Bool := r == 32 || (r == 39 || (r == 45 || (r == 44 || r == 46)))
/-- a name -/
def validV (l : List UInt8) : Bool := validD l && (!(l == []) && (decide ((rns l).length ≤ 24) && (!contains l [32, 32] && ((trimB l 32 == l) && (rns l).all fun r => plainR r || markR r))))

/-- how many columns a rune takes -/
def colR (r : Nat) : Nat := if r < 32 ∨ (127 ≤ r ∧ r ≤ 159) then 0 else if inL r wideL then 2 else 1
theorem colR_le (r : Nat) : colR r ≤ 2 := by 
  unfold colR
  split
  · omega
  · split <;> omega
def colsL (L : List Nat) : Nat := (L.map colR).sum
theorem colsL_nil : colsL [] = 0 := rfl
theorem colsL_cons (c : Nat) (L : List Nat) : colsL (c :: L) = colR c + colsL L := rfl
theorem colsL_app (L M : List Nat) : colsL (L ++ M) = colsL L + colsL M := by simp [colsL]
theorem colsL_le : ∀ L : List Nat, colsL L ≤ 2 * L.length
  | [] => by simp [colsL]
  | c :: L => by have := colR_le c; have := colsL_le L; rw [colsL_cons, List.length_cons]; omega
def widthS (l : List UInt8) : Nat := colsL (rns l)
theorem widthS_le (l : List UInt8) : widthS l ≤ 2 * l.length := by have := colsL_le (rns l); have := rns_len l; unfold widthS; omega
/-- the first runes that take at most so many columns -/
def cutR (most : Nat) : Nat → List Nat → List Nat
  | _, [] => []
  | n, c :: L => if most < n + colR c then [] else c :: cutR most (n + colR c) L
theorem cutR_all (most : Nat) : ∀ (L : List Nat) (n : Nat), n + colsL L ≤ most → cutR most n L = L
  | [], _, _ => rfl
  | c :: L, n, h => by
    rw [colsL_cons] at h
    unfold cutR
    rw [if_neg (by omega), cutR_all most L _ (by omega)]
theorem cutR_le (most : Nat) : ∀ (L : List Nat) (n : Nat), n ≤ most → n + colsL (cutR most n L) ≤ most
  | [], n, h => by unfold cutR; rw [colsL_nil]; omega
  | c :: L, n, h => by
    unfold cutR
    by_cases hc : most < n + colR c
    · rw [if_pos hc, colsL_nil]; omega
    · rw [if_neg hc, colsL_cons]
      have := cutR_le most L (n + colR c) (by omega)
      omega
theorem cutR_take (most : Nat) : ∀ (L : List Nat) (n : Nat), cutR most n L = L.take (cutR most n L).length
  | [], _ => by simp [cutR]
  | c :: L, n => by
    unfold cutR
    by_cases hc : most < n + colR c
    · rw [if_pos hc]; rfl
    · rw [if_neg hc, List.length_cons, List.take_succ_cons, ← cutR_take most L (n + colR c)]
theorem cutR_len_le (most : Nat) (L : List Nat) (n : Nat) : (cutR most n L).length ≤ L.length := by
  have := congrArg List.length (cutR_take most L n)
  rw [List.length_take] at this
  omega
/-- one rune more is too wide -/
theorem cutR_next (most : Nat) : ∀ (L : List Nat) (n m : Nat), n ≤ most → most < n + colsL L → (n + colsL (L.take (m + 1)) ≤ most ↔ m < (cutR most n L).length)
  | [], n, m, h0, h => by rw [colsL_nil] at h; omega
  | c :: L, n, m, h0, h => by
    rw [List.take_succ_cons, colsL_cons]
    rw [colsL_cons] at h
    unfold cutR
    by_cases hc : most < n + colR c
    · rw [if_pos hc]; simp; omega
    · rw [if_neg hc, List.length_cons]
      cases m with
      | zero => rw [List.take_zero, colsL_nil]; omega
      | succ m =>
        have := cutR_next most L (n + colR c) m (by omega) (by omega)
        omega
/-- what fits -/
def fitR (L : List Nat) (k : Nat) : List Nat :=
  if k < colsL L then (if k = 0 then [] else cutR (k - 1) 0 L ++ [8230] ++ List.replicate (k - (colsL (cutR (k - 1) 0 L) + 1)) 32)
  else L ++ List.replicate (k - colsL L) 32
def fitS (l : List UInt8) (k : Nat) : List UInt8 := enc (fitR (rns l) k)
theorem cols_spaces : ∀ n, colsL (List.replicate n 32) = n
  | 0 => rfl
  | n + 1 => by
    rw [List.replicate_succ, colsL_cons, cols_spaces n]
    have : colR 32 = 1 := by decide
    omega
theorem fitR_cols (L : List Nat) (k : Nat) : colsL (fitR L k) = k := by
  unfold fitR
  by_cases h : k < colsL L
  · rw [if_pos h]
    by_cases h0 : k = 0
    · rw [if_pos h0, h0]; rfl
    · rw [if_neg h0, colsL_app, colsL_app, cols_spaces]
      have := cutR_le (k - 1) L 0 (by omega)
      have e : colsL [8230] = 1 := by decide
      omega
  · rw [if_neg h, colsL_app, cols_spaces]; omega
theorem fitR_scal {L : List Nat} (hL : ∀ c ∈ L, Scal c) (k : Nat) : ∀ c ∈ fitR L k, Scal c := by
  intro c hc
  unfold fitR at hc
  by_cases h : k < colsL L
  · rw [if_pos h] at hc
    by_cases h0 : k = 0
    · rw [if_pos h0] at hc; simp at hc
    · rw [if_neg h0] at hc
      rcases List.mem_append.mp hc with hc | hc
      · rcases List.mem_append.mp hc with hc | hc
        · rw [cutR_take] at hc; exact hL c (List.mem_of_mem_take hc)
        · rw [List.mem_singleton] at hc; subst hc; decide
      · rw [(List.mem_replicate.mp hc).2]; decide
  · rw [if_neg h] at hc
    rcases List.mem_append.mp hc with hc | hc
    · exact hL c hc
    · rw [(List.mem_replicate.mp hc).2]; decide
theorem width_fit (l : List UInt8) (k : Nat) : widthS (fitS l k) = k := by
  unfold widthS fitS
  rw [rns_enc (fitR_scal (rns_scal l) k), fitR_cols]
end Go.Proofs.YtoahnfmbmpllaaaDoor
