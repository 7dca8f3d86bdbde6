/-
  Runes, the plain model: the runes of a string, and their bytes.
-/
import Derived.Lib.MapLaws
import Derived.Lib.TrimUEq
import Derived.Lib.RuneCount
import Derived.Lib.ValidLaws
set_option linter.unusedVariables false
set_option linter.unusedSimpArgs false
namespace Go.Proofs.YtoahnfmbmpllaaaDoor
open Go.Lib

/-- a code point that UTF-8 can hold -/
def Scal (c : Nat) : Prop := c < 55296 ∨ (57344 ≤ c ∧ c ≤ 1114111)
instance (c : Nat) : Decidable (Scal c) := by unfold Scal; infer_instance
theorem decodeN_scal (n b0 b1 b2 b3 : Nat) : Scal (decodeN n b0 b1 b2 b3).1 := by
  unfold Scal
  rcases decodeN_shape n b0 b1 b2 b3 with ⟨h, e⟩ | ⟨h1, h2, h3, h4, e⟩ | ⟨h1, h2, h3, h4, h5, h6, e⟩ | ⟨h1, h2, h3, h4, h5, h6, h7, e⟩ | e
  all_goals (rw [e]; simp only; omega)
theorem decodeL_scal (l : List UInt8) : Scal (decodeL l).1 := by rw [decodeL_N]; exact decodeN_scal _ _ _ _ _
theorem decodeL_pos (l : List UInt8) : 1 ≤ (decodeL l).2 := by rw [decodeL_N]; exact decodeN_ge1 _ _ _ _ _

/-- the runes of a string -/
def rnsF : Nat → List UInt8 → List Nat
  | 0, _ => []
  | n + 1, l => if l = [] then [] else (decodeL l).1 :: rnsF n (l.drop (decodeL l).2)
def rns (l : List UInt8) : List Nat := rnsF l.length l
theorem rnsF_nil : ∀ n, rnsF n [] = []
  | 0 => rfl
  | n + 1 => by simp [rnsF]
theorem rnsF_fuel : ∀ (n m : Nat) (l : List UInt8), l.length ≤ n → l.length ≤ m → rnsF n l = rnsF m l
  | 0, m, l, hn, _ => by
    obtain rfl : l = [] := List.eq_nil_of_length_eq_zero (by omega)
    rw [rnsF_nil, rnsF_nil]
  | n + 1, 0, l, _, hm => by
    obtain rfl : l = [] := List.eq_nil_of_length_eq_zero (by omega)
    rw [rnsF_nil, rnsF_nil]
  | n + 1, m + 1, l, hn, hm => by
    unfold rnsF
    by_cases h : l = []
    · rw [if_pos h, if_pos h]
    · have := decodeL_pos l
      have h1 : 1 ≤ l.length := List.length_pos_iff.mpr h
      rw [if_neg h, if_neg h, rnsF_fuel n m _ (by rw [List.length_drop]; omega) (by rw [List.length_drop]; omega)]
theorem rns_nil : rns [] = [] := rfl
theorem rns_step {l : List UInt8} (h : l ≠ []) : rns l = (decodeL l).1 :: rns (l.drop (decodeL l).2) := by
  have := decodeL_pos l
  have h1 : 1 ≤ l.length := List.length_pos_iff.mpr h
  unfold rns
  rw [rnsF_fuel l.length (l.length + 1) l (Nat.le_refl _) (by omega)]
  show (if l = [] then [] else (decodeL l).1 :: rnsF l.length (l.drop (decodeL l).2)) = _
  rw [if_neg h, rnsF_fuel l.length (l.drop (decodeL l).2).length _ (by rw [List.length_drop]; omega) (Nat.le_refl _)]
/-- by way of a place in the string -/
theorem rns_at (s : ByteArray) {pos : Nat} (h : pos < s.size) : rns (s.data.toList.drop pos) = (Utf8.decode s pos).1 :: rns (s.data.toList.drop (pos + (Utf8.decode s pos).2)) := by
  have hne : s.data.toList.drop pos ≠ [] := by
    intro e
    have := congrArg List.length e
    simp at this
    have h2 : s.size = s.data.size := rfl
    omega
  rw [rns_step hne, decodeL_drop, List.drop_drop]
theorem rns_end (s : ByteArray) {pos : Nat} (h : ¬ pos < s.size) : rns (s.data.toList.drop pos) = [] := by
  rw [List.drop_eq_nil_of_le]
  · rfl
  · have h2 : s.size = s.data.size := rfl
    simp
    omega
theorem rns_ind {P : List UInt8 → List Nat → Prop} (h0 : P [] []) (h1 : ∀ l, l ≠ [] → P (l.drop (decodeL l).2) (rns (l.drop (decodeL l).2)) → P l ((decodeL l).1 :: rns (l.drop (decodeL l).2))) : ∀ l, P l (rns l) := by
  intro l
  obtain ⟨n, hn⟩ : ∃ n, l.length = n := ⟨_, rfl⟩
  induction n using Nat.strongRecOn generalizing l with
  | _ n ih =>
    by_cases h : l = []
    · subst h; exact h0
    · rw [rns_step h]
      have := decodeL_pos l
      have hl : 1 ≤ l.length := List.length_pos_iff.mpr h
      exact h1 l h (ih _ (by rw [List.length_drop]; omega) _ rfl)
theorem rns_len (l : List UInt8) : (rns l).length ≤ l.length := by
  refine rns_ind (P := fun l r => r.length ≤ l.length) (Nat.le_refl _) (fun l h ih => ?_) l
  have := decodeL_pos l
  have hl : 1 ≤ l.length := List.length_pos_iff.mpr h
  rw [List.length_drop] at ih
  simp only [List.length_cons]
  omega
theorem rns_scal (l : List UInt8) : ∀ c ∈ rns l, Scal c := by
  refine rns_ind (P := fun l r => ∀ c ∈ r, Scal c) (by simp) (fun l h ih c hc => ?_) l
  rcases List.mem_cons.mp hc with rfl | hc
  · exact decodeL_scal l
  · exact ih c hc

/-- the bytes of runes -/
def enc (L : List Nat) : List UInt8 := L.flatMap fun (c : Nat) => encodeRune (c : Int)
theorem enc_nil : enc [] = [] := rfl
theorem enc_cons (c : Nat) (L : List Nat) : enc (c :: L) = encodeRune (c : Int) ++ enc L := rfl
theorem enc_app (L M : List Nat) : enc (L ++ M) = enc L ++ enc M := by unfold enc; rw [List.flatMap_append]
theorem enc_one (c : Nat) : enc [c] = encodeRune (c : Int) := by simp [enc]
theorem enc_len (c : Nat) : 1 ≤ (encodeRune (c : Int)).length ∧ (encodeRune (c : Int)).length ≤ 4 := by
  have := encodeRuneZ_length (c : Int)
  simpa [encodeRune] using this
theorem byte_nat {z : Int} (h0 : 0 ≤ z) (h1 : z < 256) : (z.toNat.toUInt8).toNat = z.toNat := by
  simp
  omega
/-- what is written is read -/
theorem decode_enc {c : Nat} (h : Scal c) (r : List UInt8) : decodeL (encodeRune (c : Int) ++ r) = (c, (encodeRune (c : Int)).length) := by
  unfold Scal at h
  rw [decodeL_N]
  by_cases h1 : c ≤ 127
  · have e : encodeRune (c : Int) = [((c : Int)).toNat.toUInt8] := by unfold encodeRune; rw [encodeRuneZ_one (by omega) (by omega)]; rfl
    have hb := byte_nat (z := (c : Int)) (by omega) (by omega)
    rw [e]
    rw [decodeN_ascii _ _ _ _ _ (by
      show (((c : Int)).toNat.toUInt8).toNat < 128
      omega)]
    show ((((c : Int)).toNat.toUInt8).toNat, 1) = (c, 1)
    rw [hb]
    rfl
  by_cases h2 : c ≤ 2047
  · have e : encodeRune (c : Int) = [((192 : Int) + c / 64).toNat.toUInt8, ((128 : Int) + c % 64).toNat.toUInt8] := by unfold encodeRune; rw [encodeRuneZ_two (by omega) (by omega)]; rfl
    have hb0 := byte_nat (z := (192 : Int) + c / 64) (by omega) (by omega)
    have hb1 := byte_nat (z := (128 : Int) + c % 64) (by omega) (by omega)
    rw [e]
    show decodeN (r.length + 1 + 1) (((192 : Int) + c / 64).toNat.toUInt8).toNat (((128 : Int) + c % 64).toNat.toUInt8).toNat _ _ = (c, 2)
    rw [hb0, hb1]
    unfold decodeN
    rw [if_neg (by omega), if_pos (by omega), if_pos (by omega)]
    congr 1
    omega
  by_cases h3 : c ≤ 65535
  · have e : encodeRune (c : Int) = [((224 : Int) + c / 4096).toNat.toUInt8, ((128 : Int) + c / 64 % 64).toNat.toUInt8, ((128 : Int) + c % 64).toNat.toUInt8] := by unfold encodeRune; rw [encodeRuneZ_three (by omega)]; rfl
    have hb0 := byte_nat (z := (224 : Int) + c / 4096) (by omega) (by omega)
    have hb1 := byte_nat (z := (128 : Int) + c / 64 % 64) (by omega) (by omega)
    have hb2 := byte_nat (z := (128 : Int) + c % 64) (by omega) (by omega)
    rw [e]
    show decodeN (r.length + 1 + 1 + 1) (((224 : Int) + c / 4096).toNat.toUInt8).toNat (((128 : Int) + c / 64 % 64).toNat.toUInt8).toNat (((128 : Int) + c % 64).toNat.toUInt8).toNat _ = (c, 3)
    rw [hb0, hb1, hb2]
    unfold decodeN
    rw [if_neg (by omega), if_neg (by omega), if_pos (by omega), if_pos (by omega)]
    congr 1
    omega
  · have e : encodeRune (c : Int) = [((240 : Int) + c / 262144).toNat.toUInt8, ((128 : Int) + c / 4096 % 64).toNat.toUInt8, ((128 : Int) + c / 64 % 64).toNat.toUInt8, ((128 : Int) + c % 64).toNat.toUInt8] := by unfold encodeRune; rw [encodeRuneZ_four (by omega) (by omega)]; rfl
    have hb0 := byte_nat (z := (240 : Int) + c / 262144) (by omega) (by omega)
    have hb1 := byte_nat (z := (128 : Int) + c / 4096 % 64) (by omega) (by omega)
    have hb2 := byte_nat (z := (128 : Int) + c / 64 % 64) (by omega) (by omega)
    have hb3 := byte_nat (z := (128 : Int) + c % 64) (by omega) (by omega)
    rw [e]
    show decodeN (r.length + 1 + 1 + 1 + 1) (((240 : Int) + c / 262144).toNat.toUInt8).toNat (((128 : Int) + c / 4096 % 64).toNat.toUInt8).toNat (((128 : Int) + c / 64 % 64).toNat.toUInt8).toNat (((128 : Int) + c % 64).toNat.toUInt8).toNat = (c, 4)
    rw [hb0, hb1, hb2, hb3]
    unfold decodeN
    rw [if_neg (by omega), if_neg (by omega), if_neg (by omega), if_pos (by omega), if_pos (by omega)]
    congr 1
    omega
theorem rns_enc_app : ∀ (L : List Nat), (∀ c ∈ L, Scal c) → ∀ r, rns (enc L ++ r) = L ++ rns r
  | [], _, r => by simp [enc]
  | c :: L, h, r => by
    have hl := enc_len c
    have hne : enc (c :: L) ++ r ≠ [] := by
      intro e
      have := congrArg List.length e
      rw [enc_cons] at this
      simp only [List.length_append, List.length_nil] at this
      omega
    rw [rns_step hne, enc_cons, List.append_assoc, decode_enc (h c (by simp)), List.drop_left, rns_enc_app L (fun x hx => h x (by simp [hx])) r]
    rfl
theorem rns_enc {L : List Nat} (h : ∀ c ∈ L, Scal c) : rns (enc L) = L := by
  have := rns_enc_app L h []
  simpa [rns_nil] using this
/-- strings.Map, by runes -/
theorem mapD_eq (f : Int → Int) (l : List UInt8) : mapD f l = (rns l).flatMap fun (c : Nat) => if 0 ≤ f (c : Int) then encodeRune (f (c : Int)) else [] := by
  refine rns_ind (P := fun l r => mapD f l = r.flatMap fun (c : Nat) => if 0 ≤ f (c : Int) then encodeRune (f (c : Int)) else []) rfl (fun l h ih => ?_) l
  rw [mapD_step f l h, ih]
  rfl
theorem runeCountFrom_eq (s : ByteArray) : ∀ fuel pos, s.size ≤ pos + fuel → runeCountFrom s fuel pos = (rns (s.data.toList.drop pos)).length
  | 0, pos, h => by rw [rns_end s (by omega)]; rfl
  | f + 1, pos, h => by
    unfold runeCountFrom
    by_cases hp : pos < s.size
    · have := width_pos s pos
      rw [if_pos hp, runeCountFrom_eq s f _ (by omega), rns_at s hp]
      simp
      omega
    · rw [if_neg hp, rns_end s hp]; rfl
theorem runeCount_eq (s : ByteArray) : runeCount s = (rns s.data.toList).length := by
  have := runeCountFrom_eq s s.size 0 (by omega)
  simpa [runeCount] using this
end Go.Proofs.YtoahnfmbmpllaaaDoor
