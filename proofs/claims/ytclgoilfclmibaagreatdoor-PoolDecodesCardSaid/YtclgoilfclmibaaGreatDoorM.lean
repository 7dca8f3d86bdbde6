/-
  Pool, plain: the bytes of cards, and cards out of bytes.
-/
import Derived.Test.YtclgoilfclmibaaGreatDoorWalkL
set_option linter.unusedVariables false
set_option linter.unusedSimpArgs false
namespace Go.Proofs.YtclgoilfclmibaaGreatDoor

/-- a number as a byte -/
def bt (n : Int) : UInt8 := UInt8.ofNat (n % 256).toNat
theorem bt_nat (n : Int) : ((bt n).toNat : Int) = n % 256 := by
  unfold bt
  have h1 := Int.emod_nonneg n (show (256 : Int) ≠ 0 by decide)
  have h2 := Int.emod_lt_of_pos n (show (0 : Int) < 256 by decide)
  rw [UInt8.toNat_ofNat']
  omega
theorem bt_in {n : Int} (h0 : 0 ≤ n) (h1 : n ≤ 255) : ((bt n).toNat : Int) = n := by rw [bt_nat]; omega
theorem bt_inN {n : Int} (h0 : 0 ≤ n) (h1 : n ≤ 255) : (bt n).toNat = n.toNat := by have := bt_in h0 h1; omega
theorem bt_of (x : UInt8) : bt (x.toNat : Nat) = x := by
  have := bt_in (n := (x.toNat : Nat)) (by omega) (by have := x.toNat_lt; omega)
  exact UInt8.toNat_inj.1 (by omega)

def eB (e : Eff) : List UInt8 := [bt e.code, bt e.target, bt e.n, bt e.m, bt e.col]
def eenc (l : List Eff) : List UInt8 := bt (l.length : Nat) :: l.flatMap eB
def tB (t : Trg) : List UInt8 := bt t.when :: eenc t.effs
def cB1 (c : Crd) : List UInt8 := [bt c.kind, bt c.rarity, bt (c.name.length : Nat)]
def cB2 (c : Crd) : List UInt8 := [bt c.o0, bt c.o1, bt c.o2, bt c.o3, bt c.any, bt c.makes, bt c.power, bt c.tough, bt c.keys]
def cenc (c : Crd) : List UInt8 := cB1 c ++ c.name ++ cB2 c ++ eenc c.effs ++ bt (c.trgs.length : Nat) :: c.trgs.flatMap tB

/-- no bit but the lowest four -/
def keysB (k : Int) : Bool := decide (0 ≤ k) && decide (k ≤ 15)
def cvalid (c : Crd) : Bool :=
  namedB c.name && inB c.rarity 1 4 && cost c.o0 c.o1 c.o2 c.o3 c.any && allE c.effs &&
  (if c.kind = 1 then inB c.makes 0 3 && (val c.o0 c.o1 c.o2 c.o3 c.any == 0) && decide (c.effs.length = 0) && stillB c
   else if c.kind = 2 then (c.makes == 0) && inB c.power 0 20 && inB c.tough 1 20 && keysB c.keys && trgsB c.trgs
   else if c.kind = 3 ∨ c.kind = 4 then (c.makes == 0) && decide (0 < c.effs.length) && !c.effs.any itselfB && stillB c
   else false)

/-- effects out of fives of bytes -/
def effsOf : List UInt8 → List Eff
  | a :: b :: c :: d :: e :: r => ⟨a.toNat, b.toNat, c.toNat, d.toNat, e.toNat⟩ :: effsOf r
  | _ => []
def edec : List UInt8 → Option (List Eff × Nat)
  | [] => none
  | x :: r => if 4 < x.toNat then none else if r.length < 5 * x.toNat then none else
    let l := effsOf (r.take (5 * x.toNat)); if allE l then some (l, 1 + 5 * x.toNat) else none

/-- what a reader has left; none: behind an error -/
abbrev RS := Option (List UInt8)
def takeF (n : Nat) : RS → List UInt8 × RS
  | none => (List.replicate n 0, none)
  | some r => if r.length < n then (List.replicate n 0, none) else (r.take n, some (r.drop n))
def numF : RS → Nat × RS
  | none => (0, none)
  | some [] => (0, none)
  | some (x :: r) => (x.toNat, some r)
def mostF (n : Nat) (s : RS) : Nat × RS := match numF s with
  | (x, some r) => if n < x then (0, none) else (x, some r)
  | (_, none) => (0, none)
def effF : RS → List Eff × RS
  | none => ([], none)
  | some r => match edec r with
    | none => ([], none)
    | some (l, k) => (l, some (r.drop k))
def trgF : Nat → RS → List Trg × RS
  | 0, s => ([], s)
  | n + 1, s =>
    let w := numF s; let e := effF w.2; let t := trgF n e.2
    (⟨w.1, e.1⟩ :: t.1, t.2)
/-- the card that bytes begin with, and what is left -/
def crdF (b : List UInt8) : Crd × RS :=
  let k := numF (some b); let ra := numF k.2; let nl := mostF 32 ra.2; let nm := takeF nl.1 nl.2
  let a0 := numF nm.2; let a1 := numF a0.2; let a2 := numF a1.2; let a3 := numF a2.2; let an := numF a3.2; let mk := numF an.2
  let po := numF mk.2; let tu := numF po.2; let ky := numF tu.2; let ef := effF ky.2; let mn := mostF 2 ef.2; let tr := trgF mn.1 mn.2
  (⟨nm.1, k.1, a0.1, a1.1, a2.1, a3.1, an.1, mk.1, po.1, tu.1, ky.1, ef.1, tr.1, ra.1⟩, tr.2)
def cdec (b : List UInt8) : Option (Crd × Nat) := match crdF b with
  | (_, none) => none
  | (c, some r) => if cvalid c then some (c, b.length - r.length) else none

/- what is read forwards -/
theorem numF_cons (x : UInt8) (r : List UInt8) : numF (some (x :: r)) = (x.toNat, some r) := rfl
theorem mostF_cons {n : Nat} {x : UInt8} (h : x.toNat ≤ n) (r : List UInt8) : mostF n (some (x :: r)) = (x.toNat, some r) := by
  unfold mostF; rw [numF_cons]; simp only; rw [if_neg (by omega)]
theorem takeF_app (a r : List UInt8) : takeF a.length (some (a ++ r)) = (a, some r) := by
  unfold takeF
  simp
/- and backwards -/
theorem numF_some {s : RS} {r : List UInt8} (h : (numF s).2 = some r) : ∃ x : UInt8, s = some (x :: r) ∧ (numF s).1 = x.toNat := by
  rcases s with _ | _ | ⟨x, t⟩
  · cases h
  · cases h
  · cases h; exact ⟨x, rfl, rfl⟩
theorem mostF_some {n : Nat} {s : RS} {r : List UInt8} (h : (mostF n s).2 = some r) : ∃ x : UInt8, s = some (x :: r) ∧ x.toNat ≤ n ∧ (mostF n s).1 = x.toNat := by
  rcases s with _ | _ | ⟨x, t⟩
  · cases h
  · cases h
  · unfold mostF at h ⊢
    rw [numF_cons] at h ⊢
    simp only at h ⊢
    by_cases hx : n < x.toNat
    · rw [if_pos hx] at h; cases h
    · rw [if_neg hx] at h ⊢; cases h; exact ⟨x, rfl, by omega, rfl⟩
theorem takeF_some {n : Nat} {s : RS} {r : List UInt8} (h : (takeF n s).2 = some r) : ∃ a : List UInt8, a.length = n ∧ s = some (a ++ r) ∧ (takeF n s).1 = a := by
  rcases s with _ | t
  · cases h
  · unfold takeF at h ⊢
    simp only at h ⊢
    by_cases hx : t.length < n
    · rw [if_pos hx] at h; cases h
    · rw [if_neg hx] at h ⊢
      cases h
      exact ⟨t.take n, by rw [List.length_take]; omega, by rw [List.take_append_drop], rfl⟩
/- effects -/
theorem evalid_in {e : Eff} (h : evalid e = true) : (0 ≤ e.code ∧ e.code ≤ 12) ∧ (0 ≤ e.target ∧ e.target ≤ 6) ∧ (0 ≤ e.n ∧ e.n ≤ 99) ∧ (0 ≤ e.m ∧ e.m ≤ 9) ∧ (0 ≤ e.col ∧ e.col ≤ 3) := by
  unfold evalid at h
  have hb : ∀ (K : List Int) (e' : Eff), (∀ x ∈ K, 0 ≤ x ∧ x ≤ 6) → bareF K e' = true → (0 ≤ e'.target ∧ e'.target ≤ 6) ∧ e'.n = 0 ∧ e'.m = 0 ∧ e'.col = 0 := by
    intro K e' hK hh
    simp only [bareF, Bool.and_eq_true, beq_iff_eq, List.contains_iff_mem] at hh
    exact ⟨hK _ hh.1.1.1, hh.1.1.2, hh.1.2, hh.2⟩
  have hin : ∀ a b c : Int, inB a b c = true → b ≤ a ∧ a ≤ c := fun a b c h => by simpa [inB] using h
  have hc : ∀ (K : List Int) (most : Int) (e' : Eff), (∀ x ∈ K, 0 ≤ x ∧ x ≤ 6) → countF K most e' = true → (0 ≤ e'.target ∧ e'.target ≤ 6) ∧ (1 ≤ e'.n ∧ e'.n ≤ most) ∧ e'.m = 0 ∧ e'.col = 0 := by
    intro K most e' hK hh
    simp only [countF, Bool.and_eq_true] at hh
    have h1 := hb K _ hK hh.2
    exact ⟨h1.1, hin _ _ _ hh.1, h1.2.2.1, h1.2.2.2⟩
  have hp : ∀ (K : List Int) (least : Int) (e' : Eff), 0 ≤ least → (∀ x ∈ K, 0 ≤ x ∧ x ≤ 6) → pairF K least e' = true → (0 ≤ e'.target ∧ e'.target ≤ 6) ∧ (0 ≤ e'.n ∧ e'.n ≤ 9) ∧ (0 ≤ e'.m ∧ e'.m ≤ 9) ∧ e'.col = 0 := by
    intro K least e' h0 hK hh
    simp only [pairF, Bool.and_eq_true] at hh
    have h1 := hb K _ hK hh.2
    have h2 := hin _ _ _ hh.1.1.1
    have h3 := hin _ _ _ hh.1.1.2
    exact ⟨h1.1, h2, ⟨by omega, h3.2⟩, h1.2.2.2⟩
  split at h
  · have := hc _ _ _ (by decide) h; omega
  split at h
  · have := hc _ _ _ (by decide) h; omega
  split at h
  · have := hc _ _ _ (by decide) h; omega
  split at h
  · have := hb _ _ (by decide) h; omega
  split at h
  · have := hb _ _ (by decide) h; omega
  split at h
  · have := hp _ _ _ (by decide) (by decide) h; omega
  split at h
  · have := hc _ _ _ (by decide) h; omega
  split at h
  · have := hp _ _ _ (by decide) (by decide) h; omega
  split at h
  · simp only [colF, Bool.and_eq_true] at h
    have h1 := hc _ _ _ (by decide) h.2
    have h2 := hin _ _ _ h.1
    simp only at h1
    omega
  · cases h
theorem allE_out {l : List Eff} (h : allE l = true) : l.length ≤ 4 ∧ ∀ e ∈ l, evalid e = true := by
  unfold allE at h
  rw [Bool.and_eq_true, List.all_eq_true] at h
  exact ⟨of_decide_eq_true h.1, h.2⟩
theorem eB_len (e : Eff) : (eB e).length = 5 := rfl
theorem flat5 (l : List Eff) : (l.flatMap eB).length = 5 * l.length := by
  induction l with
  | nil => rfl
  | cons x l ih => rw [List.flatMap_cons, List.length_append, eB_len, ih, List.length_cons]; omega
theorem eenc_len (l : List Eff) : (eenc l).length = 1 + 5 * l.length := by unfold eenc; rw [List.length_cons, flat5]; omega
theorem effsOf_enc : ∀ {l : List Eff}, (∀ e ∈ l, evalid e = true) → effsOf (l.flatMap eB) = l
  | [], _ => rfl
  | e :: l, h => by
    have he := evalid_in (h e (by simp))
    show (⟨_, _, _, _, _⟩ : Eff) :: effsOf (l.flatMap eB) = e :: l
    rw [effsOf_enc fun x hx => h x (by simp [hx])]
    congr 1
    obtain ⟨c, t, n, m, o⟩ := e
    simp only at he ⊢
    rw [bt_in (by omega) (by omega), bt_in (by omega) (by omega), bt_in (by omega) (by omega), bt_in (by omega) (by omega), bt_in (by omega) (by omega)]
theorem effsOf_flat : ∀ (n : Nat) (a : List UInt8), a.length = 5 * n → (effsOf a).length = n ∧ (effsOf a).flatMap eB = a
  | 0, a, h => by
    have : a = [] := List.eq_nil_of_length_eq_zero (by omega)
    subst this; exact ⟨rfl, rfl⟩
  | n + 1, a, h => by
    match a, h with
    | a0 :: a1 :: a2 :: a3 :: a4 :: r, h =>
      obtain ⟨h1, h2⟩ := effsOf_flat n r (by simp at h; omega)
      refine ⟨by show (effsOf r).length + 1 = n + 1; rw [h1], ?_⟩
      show eB _ ++ (effsOf r).flatMap eB = _
      rw [h2]
      simp only [eB, bt_of]
      rfl
theorem edec_enc {l : List Eff} (h : allE l = true) (r : List UInt8) : edec (eenc l ++ r) = some (l, (eenc l).length) := by
  obtain ⟨h4, hv⟩ := allE_out h
  unfold eenc
  rw [List.cons_append]
  have hb : (bt (l.length : Nat)).toNat = l.length := by have := bt_inN (n := (l.length : Nat)) (by omega) (by omega); omega
  simp only [edec, hb]
  rw [if_neg (by omega), if_neg (by rw [List.length_append, flat5]; omega)]
  rw [show (l.flatMap eB ++ r).take (5 * l.length) = l.flatMap eB from List.take_left' (flat5 l)]
  rw [effsOf_enc hv, if_pos h, List.length_cons, flat5]
  congr 2
  omega
theorem edec_some {b : List UInt8} {l : List Eff} {k : Nat} (h : edec b = some (l, k)) : allE l = true ∧ b = eenc l ++ b.drop k ∧ k = (eenc l).length := by
  rcases b with _ | ⟨x, r⟩
  · cases h
  simp only [edec] at h
  split at h
  · cases h
  rename_i h1
  split at h
  · cases h
  rename_i h2
  split at h
  · rename_i h3
    cases h
    have ht : (r.take (5 * x.toNat)).length = 5 * x.toNat := by rw [List.length_take]; omega
    obtain ⟨q1, q2⟩ := effsOf_flat x.toNat _ ht
    refine ⟨h3, ?_, by rw [eenc_len, q1]⟩
    unfold eenc
    rw [q1, q2, bt_of, List.cons_append, Nat.add_comm 1, List.drop_succ_cons, List.take_append_drop]
  · cases h
theorem effF_enc {l : List Eff} (h : allE l = true) (r : List UInt8) : effF (some (eenc l ++ r)) = (l, some r) := by
  unfold effF
  simp only
  rw [edec_enc h]
  simp
theorem effF_some {s : RS} {r : List UInt8} (h : (effF s).2 = some r) : ∃ l, s = some (eenc l ++ r) ∧ allE l = true ∧ (effF s).1 = l := by
  rcases s with _ | t
  · cases h
  unfold effF at h ⊢
  simp only at h ⊢
  cases he : edec t with
  | none => rw [he] at h; cases h
  | some p =>
    obtain ⟨l, k⟩ := p
    rw [he] at h
    simp only at h ⊢
    cases h
    obtain ⟨h1, h2, h3⟩ := edec_some he
    exact ⟨l, by rw [← h2], h1, rfl⟩
/- triggers -/
def trgIn (t : Trg) : Prop := 0 ≤ t.when ∧ t.when ≤ 255 ∧ allE t.effs = true
theorem trgF_enc : ∀ {l : List Trg}, (∀ t ∈ l, trgIn t) → ∀ r, trgF l.length (some (l.flatMap tB ++ r)) = (l, some r)
  | [], _, r => rfl
  | t :: l, h, r => by
    obtain ⟨h0, h1, h2⟩ := h t (by simp)
    have hw := bt_in h0 h1
    rw [List.flatMap_cons, List.length_cons, List.append_assoc]
    unfold tB
    rw [List.cons_append]
    simp only [trgF, numF_cons]
    rw [effF_enc h2]
    simp only
    have ih := trgF_enc (fun x hx => h x (List.mem_cons_of_mem _ hx)) r
    unfold tB at ih
    rw [ih, hw]
theorem trgF_some : ∀ {n : Nat} {s : RS} {r : List UInt8}, (trgF n s).2 = some r → ∃ l, l.length = n ∧ s = some (l.flatMap tB ++ r) ∧ (trgF n s).1 = l
  | 0, s, r, h => ⟨[], rfl, h, rfl⟩
  | n + 1, s, r, h => by
    simp only [trgF] at h ⊢
    obtain ⟨l, h1, h2, h3⟩ := trgF_some h
    obtain ⟨es, h4, h5, h6⟩ := effF_some h2
    obtain ⟨x, h7, h8⟩ := numF_some h4
    refine ⟨⟨x.toNat, es⟩ :: l, by rw [List.length_cons, h1], ?_, by rw [h3, h6, h8]⟩
    rw [h7, List.flatMap_cons]
    unfold tB
    simp only [bt_of, List.cons_append, List.append_assoc]
/- cards -/
theorem inB_out {n a b : Int} (h : inB n a b = true) : a ≤ n ∧ n ≤ b := by simpa [inB] using h
theorem namedB_len {l : List UInt8} (h : namedB l = true) : 1 ≤ l.length ∧ l.length ≤ 32 := by
  unfold namedB at h
  rw [Bool.and_eq_true, Bool.and_eq_true] at h
  have := inB_out h.1.1
  omega
theorem trgsTo_all {l : List Trg} : ∀ {i : Nat}, trgsTo l i = true → ∀ (j : Nat) (t : Trg), j < i → l[j]? = some t → trgOk t = true
  | 0, _, j, t, hj, _ => by omega
  | i + 1, h, j, t, hj, ht => by
    rw [trgsTo, Bool.and_eq_true] at h
    by_cases e : j = i
    · subst e
      have h2 := h.2
      rw [ht] at h2
      exact ((Bool.and_eq_true _ _).mp h2).1
    · exact trgsTo_all h.1 j t (by omega) ht
theorem trgsB_in {l : List Trg} (h : trgsB l = true) : l.length ≤ 2 ∧ ∀ t ∈ l, trgIn t := by
  unfold trgsB at h
  rw [Bool.and_eq_true] at h
  refine ⟨of_decide_eq_true h.2, fun t ht => ?_⟩
  obtain ⟨j, hj, he⟩ := List.mem_iff_getElem.1 ht
  have := trgsTo_all h.1 j t hj (by rw [List.getElem?_eq_getElem hj, he])
  unfold trgOk at this
  rw [Bool.and_eq_true, Bool.and_eq_true, Bool.and_eq_true] at this
  have hw := inB_out this.1.1.1
  exact ⟨by omega, by omega, this.1.2⟩
theorem stillB_out {c : Crd} (h : stillB c = true) : c.power = 0 ∧ c.tough = 0 ∧ c.keys = 0 ∧ c.trgs = [] := by
  unfold stillB at h
  simp only [Bool.and_eq_true, beq_iff_eq, decide_eq_true_eq] at h
  exact ⟨h.1.1.1, h.1.1.2, h.1.2, List.eq_nil_of_length_eq_zero h.2⟩
/-- the ranges of a valid card -/
structure CIn (c : Crd) : Prop where
  name : 1 ≤ c.name.length ∧ c.name.length ≤ 32
  kind : 1 ≤ c.kind ∧ c.kind ≤ 4
  rarity : 1 ≤ c.rarity ∧ c.rarity ≤ 4
  o0 : 0 ≤ c.o0 ∧ c.o0 ≤ 20
  o1 : 0 ≤ c.o1 ∧ c.o1 ≤ 20
  o2 : 0 ≤ c.o2 ∧ c.o2 ≤ 20
  o3 : 0 ≤ c.o3 ∧ c.o3 ≤ 20
  any : 0 ≤ c.any ∧ c.any ≤ 20
  makes : 0 ≤ c.makes ∧ c.makes ≤ 3
  power : 0 ≤ c.power ∧ c.power ≤ 20
  tough : 0 ≤ c.tough ∧ c.tough ≤ 20
  keys : 0 ≤ c.keys ∧ c.keys ≤ 15
  effs : allE c.effs = true
  many : c.trgs.length ≤ 2
  trgs : ∀ t ∈ c.trgs, trgIn t
theorem cvalid_in {c : Crd} (h : cvalid c = true) : CIn c := by
  unfold cvalid at h
  simp only [Bool.and_eq_true] at h
  obtain ⟨⟨⟨⟨h1, h2⟩, h3⟩, h4⟩, h5⟩ := h
  obtain ⟨h20, g1, g2⟩ := cost_out h3
  obtain ⟨a0, a1, a2, a3⟩ := in4_out h20
  have hr := inB_out h2
  by_cases k1 : c.kind = 1
  · rw [if_pos k1] at h5
    simp only [Bool.and_eq_true] at h5
    obtain ⟨s1, s2, s3, s4⟩ := stillB_out h5.2
    have hm := inB_out h5.1.1.1
    exact ⟨namedB_len h1, by omega, hr, a0, a1, a2, a3, ⟨g1, g2⟩, hm, by omega, by omega, by omega, h4, by rw [s4]; decide, by rw [s4]; simp⟩
  rw [if_neg k1] at h5
  by_cases k2 : c.kind = 2
  · rw [if_pos k2] at h5
    simp only [Bool.and_eq_true, beq_iff_eq] at h5
    obtain ⟨t1, t2⟩ := trgsB_in h5.2
    have hp := inB_out h5.1.1.1.2
    have ht := inB_out h5.1.1.2
    have hk : 0 ≤ c.keys ∧ c.keys ≤ 15 := by simpa [keysB] using h5.1.2
    exact ⟨namedB_len h1, by omega, hr, a0, a1, a2, a3, ⟨g1, g2⟩, by omega, hp, by omega, hk, h4, t1, t2⟩
  rw [if_neg k2] at h5
  by_cases k3 : c.kind = 3 ∨ c.kind = 4
  · rw [if_pos k3] at h5
    simp only [Bool.and_eq_true, beq_iff_eq] at h5
    obtain ⟨s1, s2, s3, s4⟩ := stillB_out h5.2
    exact ⟨namedB_len h1, by omega, hr, a0, a1, a2, a3, ⟨g1, g2⟩, by omega, by omega, by omega, by omega, h4, by rw [s4]; decide, by rw [s4]; simp⟩
  · rw [if_neg k3] at h5; cases h5
theorem crdF_enc {c : Crd} (h : CIn c) (r : List UInt8) : crdF (cenc c ++ r) = (c, some r) := by
  obtain ⟨h1, h2, h3, h4, h5, h6, h7, h8, h9, h10, h11, h12, h13, h14, h15⟩ := h
  have hn : (bt (c.name.length : Nat)).toNat = c.name.length := by have := bt_inN (n := (c.name.length : Nat)) (by omega) (by omega); omega
  have ht : (bt (c.trgs.length : Nat)).toNat = c.trgs.length := by have := bt_inN (n := (c.trgs.length : Nat)) (by omega) (by omega); omega
  unfold cenc cB1 cB2
  simp only [List.cons_append, List.nil_append, List.append_assoc]
  unfold crdF
  simp only [numF_cons]
  rw [mostF_cons (by omega), hn]
  simp only
  rw [takeF_app]
  simp only [numF_cons]
  rw [effF_enc h13]
  simp only
  rw [mostF_cons (by omega), ht]
  simp only
  rw [trgF_enc h15]
  simp only
  rw [bt_in (by omega) (by omega), bt_in (by omega) (by omega), bt_in (by omega) (by omega), bt_in (by omega) (by omega), bt_in (by omega) (by omega), bt_in (by omega) (by omega), bt_in (by omega) (by omega), bt_in (by omega) (by omega), bt_in (by omega) (by omega), bt_in (by omega) (by omega), bt_in (by omega) (by omega)]
theorem crdF_some {b : List UInt8} {c : Crd} {r : List UInt8} (h : crdF b = (c, some r)) : b = cenc c ++ r := by
  have hc := congrArg Prod.fst h
  have hr := congrArg Prod.snd h
  clear h
  simp only [crdF] at hc hr
  obtain ⟨trl, t1, t2, t3⟩ := trgF_some hr
  obtain ⟨mn, m1, m2, m3⟩ := mostF_some t2
  obtain ⟨ef, e1, e2, e3⟩ := effF_some m1
  obtain ⟨ky, k1, k2⟩ := numF_some e1
  obtain ⟨tu, u1, u2⟩ := numF_some k1
  obtain ⟨po, p1, p2⟩ := numF_some u1
  obtain ⟨mk, q1, q2⟩ := numF_some p1
  obtain ⟨an, n1, n2⟩ := numF_some q1
  obtain ⟨a3, d1, d2⟩ := numF_some n1
  obtain ⟨a2, c1, c2⟩ := numF_some d1
  obtain ⟨a1, b1, b2⟩ := numF_some c1
  obtain ⟨a0, z1, z2⟩ := numF_some b1
  obtain ⟨nm, y1, y2, y3⟩ := takeF_some z1
  obtain ⟨nl, x1, x2, x3⟩ := mostF_some y2
  obtain ⟨ra, w1, w2⟩ := numF_some x1
  obtain ⟨kd, v1, v2⟩ := numF_some w1
  have hb := Option.some.inj v1
  rw [v2, w2, y3, z2, b2, c2, d2, n2, q2, p2, u2, k2, e3, t3] at hc
  subst hc
  rw [hb]
  unfold cenc cB1 cB2
  simp only [List.cons_append, List.nil_append, List.append_assoc, bt_of]
  rw [x3] at y1
  rw [m3] at t1
  rw [show bt (nm.length : Nat) = nl by rw [y1]; exact bt_of nl, show bt (trl.length : Nat) = mn by rw [t1]; exact bt_of mn]
theorem cdec_enc {c : Crd} (h : cvalid c = true) (r : List UInt8) : cdec (cenc c ++ r) = some (c, (cenc c).length) := by
  unfold cdec
  rw [crdF_enc (cvalid_in h)]
  simp only
  rw [if_pos h, List.length_append]
  congr 2
  omega
theorem cdec_some {b : List UInt8} {c : Crd} {k : Nat} (h : cdec b = some (c, k)) : cvalid c = true ∧ b = cenc c ++ b.drop k ∧ k = (cenc c).length := by
  unfold cdec at h
  obtain ⟨c', r, hc⟩ : ∃ c' r, crdF b = (c', r) := ⟨_, _, rfl⟩
  rw [hc] at h
  rcases r with _ | r
  · cases h
  simp only at h
  split at h
  · rename_i hv
    have hb := crdF_some hc
    cases h
    have hk : b.length - r.length = (cenc c).length := by rw [hb, List.length_append]; omega
    refine ⟨hv, ?_, hk⟩
    rw [hk]
    conv => rhs; rw [hb]
    rw [List.drop_left]
    exact hb
  · cases h
end Go.Proofs.YtclgoilfclmibaaGreatDoor
