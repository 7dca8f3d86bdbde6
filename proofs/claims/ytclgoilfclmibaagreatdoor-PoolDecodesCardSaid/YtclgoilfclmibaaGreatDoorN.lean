/-
  Pool, plain: pools as bytes; what a byte more does to them; which cards are selected.
-/
import Derived.Test.YtclgoilfclmibaaGreatDoorM
set_option linter.unusedVariables false
set_option linter.unusedSimpArgs false
namespace Go.Proofs.YtclgoilfclmibaaGreatDoor

def sumS (n : Nat) (b : List UInt8) : Nat := b.foldl (fun n x => (31 * n + x.toNat) % 4294967296) n
def sumF (b : List UInt8) : Nat := sumS 17 b
def be2 (n : Nat) : List UInt8 := [bt (n / 256 : Nat), bt n]
def be4 (n : Nat) : List UInt8 := [bt (n / 16777216 : Nat), bt (n / 65536 : Nat), bt (n / 256 : Nat), bt n]
def getF (b : List UInt8) : Nat := b.foldl (fun n x => n * 256 + x.toNat) 0
def body (l : List Crd) : List UInt8 := be2 l.length ++ l.flatMap cenc
def penc (l : List Crd) : List UInt8 := body l ++ be4 (sumF (body l))
def names (l : List Crd) : List (List UInt8) := l.map (·.name)
def wrongF (l : List Crd) : Int := if 400 < l.length then 5 else if !l.all cvalid then 2 else if (names l).Nodup then 0 else 11
def cardsF : Nat → List UInt8 → Option (List Crd × List UInt8)
  | 0, b => some ([], b)
  | n + 1, b => (cdec b).bind fun p => (cardsF n (b.drop p.2)).map fun q => (p.1 :: q.1, q.2)
theorem cardsF_zero (b : List UInt8) : cardsF 0 b = some ([], b) := rfl
theorem cardsF_succ (n : Nat) (b : List UInt8) : cardsF (n + 1) b = (cdec b).bind fun p => (cardsF n (b.drop p.2)).map fun q => (p.1 :: q.1, q.2) := rfl
/-- the error and the cards -/
def pdecF (b : List UInt8) : Int × List Crd :=
  if b.length < 6 then (4, []) else
  let a := b.take (b.length - 4)
  if sumF a ≠ getF (b.drop (b.length - 4)) then (10, []) else
  if 400 < getF (a.take 2) then (6, []) else
  match cardsF (getF (a.take 2)) (a.drop 2) with
  | none => (6, [])
  | some (l, r) => if wrongF l = 0 ∧ r = [] then (0, l) else (6, [])

theorem sumS_lt (n : Nat) (h : n < 4294967296) : ∀ b : List UInt8, sumS n b < 4294967296 := by
  intro b
  induction b generalizing n with
  | nil => exact h
  | cons x b ih => exact ih _ (Nat.mod_lt _ (by decide))
theorem sumF_lt (b : List UInt8) : sumF b < 4294967296 := sumS_lt 17 (by decide) b
theorem sumS_app (n : Nat) (a b : List UInt8) : sumS n (a ++ b) = sumS (sumS n a) b := by unfold sumS; rw [List.foldl_append]
theorem sumS_ne {n m : Nat} (hn : n < 4294967296) (hm : m < 4294967296) (h : n ≠ m) : ∀ b : List UInt8, sumS n b ≠ sumS m b := by
  intro b
  induction b generalizing n m with
  | nil => exact h
  | cons x b ih =>
    have h1 : (31 * n + x.toNat) % 4294967296 ≠ (31 * m + x.toNat) % 4294967296 := by omega
    exact ih (Nat.mod_lt _ (by decide)) (Nat.mod_lt _ (by decide)) h1
theorem sumF_flip {a r : List UInt8} {x y : UInt8} (h : x ≠ y) : sumF (a ++ x :: r) ≠ sumF (a ++ y :: r) := by
  unfold sumF
  rw [sumS_app, sumS_app]
  have hl := sumS_lt 17 (by decide) a
  have hx := x.toNat_lt
  have hy := y.toNat_lt
  have hne : x.toNat ≠ y.toNat := fun e => h (UInt8.toNat_inj.1 e)
  have h1 : (31 * sumS 17 a + x.toNat) % 4294967296 ≠ (31 * sumS 17 a + y.toNat) % 4294967296 := by omega
  exact sumS_ne (Nat.mod_lt _ (by decide)) (Nat.mod_lt _ (by decide)) h1 r
theorem btN {n : Nat} : (bt (n : Nat)).toNat = n % 256 := by have := bt_nat (n : Nat); omega
theorem get_be2 {n : Nat} (h : n < 65536) : getF (be2 n) = n := by
  show (0 * 256 + (bt (n / 256 : Nat)).toNat) * 256 + (bt (n : Nat)).toNat = n
  rw [btN, btN]; omega
theorem get_be4 {n : Nat} (h : n < 4294967296) : getF (be4 n) = n := by
  show (((0 * 256 + (bt (n / 16777216 : Nat)).toNat) * 256 + (bt (n / 65536 : Nat)).toNat) * 256 + (bt (n / 256 : Nat)).toNat) * 256 + (bt (n : Nat)).toNat = n
  rw [btN, btN, btN, btN]; omega
theorem bt_eq {n : Nat} {x : UInt8} (h : n % 256 = x.toNat) : bt (n : Nat) = x := UInt8.toNat_inj.1 (by rw [btN]; exact h)
theorem be2_get {b : List UInt8} (h : b.length = 2) : be2 (getF b) = b := by
  match b, h with
  | [x, y], _ =>
    have hx := x.toNat_lt
    have hy := y.toNat_lt
    have e : getF [x, y] = (0 * 256 + x.toNat) * 256 + y.toNat := rfl
    unfold be2
    rw [bt_eq (x := x) (by rw [e]; omega), bt_eq (x := y) (by rw [e]; omega)]
theorem be4_get {b : List UInt8} (h : b.length = 4) : be4 (getF b) = b := by
  match b, h with
  | [x, y, z, u], _ =>
    have hx := x.toNat_lt
    have hy := y.toNat_lt
    have hz := z.toNat_lt
    have hu := u.toNat_lt
    have e : getF [x, y, z, u] = (((0 * 256 + x.toNat) * 256 + y.toNat) * 256 + z.toNat) * 256 + u.toNat := rfl
    unfold be4
    rw [bt_eq (x := x) (by rw [e]; omega), bt_eq (x := y) (by rw [e]; omega), bt_eq (x := z) (by rw [e]; omega), bt_eq (x := u) (by rw [e]; omega)]
theorem get_ne {a b : List UInt8} (h : a.length = 4) (h' : b.length = 4) (hne : a ≠ b) : getF a ≠ getF b := fun e => hne (by rw [← be4_get h, ← be4_get h', e])
theorem be4_len (n : Nat) : (be4 n).length = 4 := rfl
theorem be2_len (n : Nat) : (be2 n).length = 2 := rfl
theorem body_len (l : List Crd) : 2 ≤ (body l).length := by unfold body; rw [List.length_append, be2_len]; omega
theorem penc_len (l : List Crd) : (penc l).length = (body l).length + 4 := by unfold penc; rw [List.length_append, be4_len]
theorem wrong_out {l : List Crd} (h : wrongF l = 0) : l.length ≤ 400 ∧ (∀ c ∈ l, cvalid c = true) ∧ (names l).Nodup := by
  unfold wrongF at h
  split at h
  · cases h
  split at h
  · cases h
  split at h
  · rename_i h1 h2 h3
    exact ⟨by omega, by simpa using h2, h3⟩
  · cases h
theorem cards_enc : ∀ {l : List Crd}, (∀ c ∈ l, cvalid c = true) → ∀ r, cardsF l.length (l.flatMap cenc ++ r) = some (l, r)
  | [], _, r => cardsF_zero r
  | c :: l, h, r => by
    rw [List.flatMap_cons, List.append_assoc, List.length_cons, cardsF_succ, cdec_enc (h c (by simp))]
    rw [Option.bind_some]
    simp only
    rw [List.drop_left, cards_enc (fun x hx => h x (List.mem_cons_of_mem _ hx)) r]
    rfl
theorem cards_some : ∀ {n : Nat} {b : List UInt8} {l : List Crd} {r : List UInt8}, cardsF n b = some (l, r) → l.length = n ∧ b = l.flatMap cenc ++ r
  | 0, b, l, r, h => by
    rw [cardsF_zero] at h
    have := Option.some.inj h
    have h1 := congrArg Prod.fst this
    have h2 := congrArg Prod.snd this
    simp only at h1 h2
    subst h1 h2
    exact ⟨rfl, rfl⟩
  | n + 1, b, l, r, h => by
    rw [cardsF_succ] at h
    cases hc : cdec b with
    | none => rw [hc] at h; cases h
    | some p =>
      obtain ⟨c, k⟩ := p
      rw [hc, Option.bind_some] at h
      simp only at h
      cases hr : cardsF n (b.drop k) with
      | none => rw [hr] at h; cases h
      | some q =>
        obtain ⟨l', r'⟩ := q
        rw [hr, Option.map_some] at h
        have hh := Option.some.inj h
        have e1 := congrArg Prod.fst hh
        have e2 := congrArg Prod.snd hh
        simp only at e1 e2
        subst e1 e2
        obtain ⟨h1, h2⟩ := cards_some hr
        obtain ⟨_, h3, _⟩ := cdec_some hc
        refine ⟨by rw [List.length_cons, h1], ?_⟩
        rw [List.flatMap_cons, List.append_assoc, ← h2]
        exact h3
/-- Decode inverts Encode -/
theorem pdec_enc {l : List Crd} (h : wrongF l = 0) : pdecF (penc l) = (0, l) := by
  obtain ⟨h1, h2, h3⟩ := wrong_out h
  have hb := body_len l
  have hp := penc_len l
  unfold pdecF
  rw [if_neg (by omega)]
  have e1 : (penc l).take ((penc l).length - 4) = body l := by
    rw [hp, Nat.add_sub_cancel]; unfold penc; rw [List.take_left]
  have e2 : (penc l).drop ((penc l).length - 4) = be4 (sumF (body l)) := by
    rw [hp, Nat.add_sub_cancel]; unfold penc; rw [List.drop_left]
  simp only [e1, e2]
  rw [get_be4 (sumF_lt _), if_neg (by simp)]
  have e3 : (body l).take 2 = be2 l.length := by unfold body; rw [List.take_left' (be2_len _)]
  have e4 : (body l).drop 2 = l.flatMap cenc ++ [] := by unfold body; rw [List.drop_left' (be2_len _), List.append_nil]
  rw [e3, get_be2 (by omega), if_neg (by omega), e4, cards_enc h2]
  simp only
  rw [if_pos ⟨h, trivial⟩]
theorem pdec_ok {b : List UInt8} {l : List Crd} (h : pdecF b = (0, l)) : wrongF l = 0 ∧ penc l = b := by
  unfold pdecF at h
  split at h
  · cases h
  rename_i h6
  simp only at h
  split at h
  · cases h
  rename_i hs
  split at h
  · cases h
  rename_i h4
  cases hc : cardsF (getF ((b.take (b.length - 4)).take 2)) ((b.take (b.length - 4)).drop 2) with
  | none => rw [hc] at h; cases h
  | some p =>
    obtain ⟨l', r⟩ := p
    rw [hc] at h
    simp only at h
    split at h
    · rename_i hw
      cases h
      obtain ⟨h1, h2⟩ := cards_some hc
      refine ⟨hw.1, ?_⟩
      rw [hw.2, List.append_nil] at h2
      have hbody : body l = b.take (b.length - 4) := by
        unfold body
        rw [h1, ← h2, be2_get (by rw [List.length_take, List.length_take]; omega), List.take_append_drop]
      unfold penc
      rw [hbody, show sumF (b.take (b.length - 4)) = getF (b.drop (b.length - 4)) from Classical.not_not.1 hs, be4_get (by rw [List.length_drop]; omega), List.take_append_drop]
    · cases h
/-- the error of a pool's bytes is none, or four others -/
theorem pdec_err {b : List UInt8} (h : (pdecF b).1 ≠ 0) : pdecF b = ((pdecF b).1, []) := by
  unfold pdecF at h ⊢
  split
  · rfl
  simp only at h ⊢
  split
  · rfl
  split
  · rfl
  cases hc : cardsF (getF ((b.take (b.length - 4)).take 2)) ((b.take (b.length - 4)).drop 2) with
  | none => rfl
  | some p =>
    obtain ⟨l', r⟩ := p
    simp only
    split
    · rename_i h6 hs h4 hw
      rw [if_neg h6, if_neg hs, if_neg h4, hc] at h
      simp only at h
      rw [if_pos hw] at h
      exact absurd rfl h
    · rfl
/-- one byte that is another one: the check fails -/
theorem pdec_flip {l : List Crd} {i : Nat} {y : UInt8} (hi : i < (penc l).length) (hy : (penc l)[i] ≠ y) : pdecF ((penc l).set i y) = (10, []) := by
  have hb := body_len l
  have hp := penc_len l
  have hl : ((penc l).set i y).length = (penc l).length := List.length_set ..
  unfold pdecF
  rw [if_neg (by omega)]
  simp only
  rw [if_pos ?_]
  rw [hl]
  rw [hp, Nat.add_sub_cancel]
  by_cases hlt : i < (body l).length
  · have e1 : ((penc l).set i y).take (body l).length = (body l).set i y := by
      unfold penc
      rw [List.set_append_left _ _ hlt, List.take_left' (List.length_set ..)]
    have e2 : ((penc l).set i y).drop (body l).length = be4 (sumF (body l)) := by
      unfold penc
      rw [List.set_append_left _ _ hlt, List.drop_left' (List.length_set ..)]
    rw [e1, e2, get_be4 (sumF_lt _)]
    have hne : (body l)[i] ≠ y := by
      have : (penc l)[i] = (body l)[i] := List.getElem_append_left hlt
      rw [← this]; exact hy
    rw [List.set_eq_take_append_cons_drop, if_pos hlt]
    have hd : body l = (body l).take i ++ (body l)[i] :: (body l).drop (i + 1) := by
      rw [List.getElem_cons_drop, List.take_append_drop]
    conv => rhs; rw [hd]
    exact fun e => sumF_flip (a := (body l).take i) (r := (body l).drop (i + 1)) hne e.symm
  · have e1 : ((penc l).set i y).take (body l).length = body l := by
      unfold penc
      rw [List.set_append_right _ _ (by omega), List.take_left]
    have e2 : ((penc l).set i y).drop (body l).length = (be4 (sumF (body l))).set (i - (body l).length) y := by
      unfold penc
      rw [List.set_append_right _ _ (by omega), List.drop_left]
    rw [e1, e2]
    have hj : i - (body l).length < (be4 (sumF (body l))).length := by rw [be4_len]; omega
    have hne : (be4 (sumF (body l)))[i - (body l).length] ≠ y := by
      have : (penc l)[i] = (be4 (sumF (body l)))[i - (body l).length] := List.getElem_append_right (by omega)
      rw [← this]; exact hy
    conv => lhs; rw [← get_be4 (sumF_lt (body l))]
    refine get_ne (be4_len _) (by rw [List.length_set, be4_len]) fun e => hne ?_
    have := List.getElem_set_self (l := be4 (sumF (body l))) (i := i - (body l).length) (a := y) (by rw [List.length_set]; exact hj)
    rw [← this]
    congr 1

/- which are selected -/
def fitsF (k r : Int) (c : Crd) : Bool := ((k == 0) || (c.kind == k)) && ((r == 0) || (c.rarity == r))
def selF (l : List Crd) (k r : Int) : List Nat := (List.range l.length).filter fun i => match l[i]? with | some c => fitsF k r c | none => false
theorem sel_snoc (l : List Crd) (c : Crd) (k r : Int) : selF (l ++ [c]) k r = selF l k r ++ (if fitsF k r c then [l.length] else []) := by
  unfold selF
  rw [List.length_append, List.length_singleton, List.range_succ, List.filter_append]
  congr 1
  · apply List.filter_congr
    intro i hi
    rw [List.getElem?_append_left (by simpa using hi)]
  · rw [List.filter_cons, List.getElem?_append_right (Nat.le_refl _), Nat.sub_self]
    simp only [List.getElem?_cons_zero, List.filter_nil]
theorem sel_count (l : List Crd) (k r : Int) : (selF l k r).length = l.countP (fitsF k r) := by
  have h : ∀ q : List Crd, (selF q.reverse k r).length = q.reverse.countP (fitsF k r) := by
    intro q
    induction q with
    | nil => rfl
    | cons c q ih =>
      rw [List.reverse_cons, sel_snoc, List.length_append, List.countP_append, ih]
      congr 1
      by_cases hf : fitsF k r c = true <;> simp [hf]
  have := h l.reverse
  rwa [List.reverse_reverse] at this
theorem sel_at {l : List Crd} {k r : Int} {i : Nat} (h : i ∈ selF l k r) : ∃ c, l[i]? = some c ∧ fitsF k r c = true := by
  unfold selF at h
  rw [List.mem_filter] at h
  obtain ⟨h1, h2⟩ := h
  have hi : i < l.length := by simpa using h1
  exact ⟨l[i], List.getElem?_eq_getElem hi, by rw [List.getElem?_eq_getElem hi] at h2; exact h2⟩
end Go.Proofs.YtclgoilfclmibaaGreatDoor
