/-
  Pool: what the document reads a card as (plain).
-/
import Derived.Test.YtclgoilfclmibaaGreatDoorWe
set_option linter.unusedVariables false
set_option linter.unusedSimpArgs false
namespace Go.Proofs.YtclgoilfclmibaaGreatDoor
open Go Go.RowKit Go.Zn

theorem trgF_none : ∀ n, (trgF n none).2 = none
  | 0 => rfl
  | n + 1 => trgF_none n
theorem trgF_nil (n : Nat) : (trgF (n + 1) (some [])).2 = none := trgF_none n
theorem trgF_bad (n : Nat) (x : UInt8) {r : List UInt8} (h : edec r = none) : (trgF (n + 1) (some (x :: r))).2 = none := by
  show (trgF n (effF (some r)).2).2 = none
  have e : effF (some r) = ([], none) := by unfold effF; simp only; rw [h]
  rw [e]
  exact trgF_none n
theorem trgF_good (n : Nat) (x : UInt8) {r : List UInt8} {l : List Eff} {k : Nat} (h : edec r = some (l, k)) : trgF (n + 1) (some (x :: r)) = (⟨x.toNat, l⟩ :: (trgF n (some (r.drop k))).1, (trgF n (some (r.drop k))).2) := by
  have e : effF (some r) = (l, some (r.drop k)) := by unfold effF; simp only; rw [h]
  show (⟨x.toNat, (effF (some r)).1⟩ :: (trgF n (effF (some r)).2).1, (trgF n (effF (some r)).2).2) = _
  rw [e]
/-- a card by its bytes -/
def crdM (kd ra : UInt8) (nm : List UInt8) (x : List UInt8) (l : List Eff) (ts : List Trg) : Crd :=
  ⟨nm, kd.toNat, (x.getD 0 0).toNat, (x.getD 1 0).toNat, (x.getD 2 0).toNat, (x.getD 3 0).toNat, (x.getD 4 0).toNat, (x.getD 5 0).toNat, (x.getD 6 0).toNat, (x.getD 7 0).toNat, (x.getD 8 0).toNat, l, ts, ra.toNat⟩
theorem cdec_short {b : List UInt8} (h : b.length < 3) : cdec b = none := by
  match b, h with
  | [], _ => rfl
  | [_], _ => rfl
  | [_, _], _ => rfl
theorem most_big {n : Nat} {x : UInt8} (h : n < x.toNat) (r : List UInt8) : mostF n (some (x :: r)) = (0, none) := by
  unfold mostF; rw [numF_cons]; simp only; rw [if_pos h]
theorem cdec_name {kd ra nl : UInt8} {r : List UInt8} (h : 32 < nl.toNat) : cdec (kd :: ra :: nl :: r) = none := by
  have e : (crdF (kd :: ra :: nl :: r)).2 = none := by
    unfold crdF
    simp only [numF_cons, most_big h]
    rfl
  unfold cdec
  cases hc : crdF (kd :: ra :: nl :: r) with
  | mk c s => rw [hc] at e; simp only at e; subst e; rfl
/-- what follows the name -/
def restF (kd ra : UInt8) (nm : List UInt8) (s : RS) : Crd × RS :=
  let a0 := numF s; let a1 := numF a0.2; let a2 := numF a1.2; let a3 := numF a2.2; let an := numF a3.2; let mk := numF an.2
  let po := numF mk.2; let tu := numF po.2; let ky := numF tu.2; let ef := effF ky.2; let mn := mostF 2 ef.2; let tr := trgF mn.1 mn.2
  (⟨nm, kd.toNat, a0.1, a1.1, a2.1, a3.1, an.1, mk.1, po.1, tu.1, ky.1, ef.1, tr.1, ra.toNat⟩, tr.2)
theorem crdF_rest {kd ra nl : UInt8} {r : List UInt8} (h : nl.toNat ≤ 32) : crdF (kd :: ra :: nl :: r) = restF kd ra (takeF nl.toNat (some r)).1 (takeF nl.toNat (some r)).2 := by
  unfold crdF
  simp only [numF_cons, mostF_cons h]
  rfl
theorem rest_short (kd ra : UInt8) (nm : List UInt8) {t : List UInt8} (h : t.length < 9) : (restF kd ra nm (some t)).2 = none := by
  match t, h with
  | [], _ => rfl
  | [_], _ => rfl
  | [_, _], _ => rfl
  | [_, _, _], _ => rfl
  | [_, _, _, _], _ => rfl
  | [_, _, _, _, _], _ => rfl
  | [_, _, _, _, _, _], _ => rfl
  | [_, _, _, _, _, _, _], _ => rfl
  | [_, _, _, _, _, _, _, _], _ => rfl
theorem rest_none (kd ra : UInt8) (nm : List UInt8) : (restF kd ra nm none).2 = none := rfl
theorem cdec_of_none {b : List UInt8} (h : (crdF b).2 = none) : cdec b = none := by
  unfold cdec
  cases hc : crdF b with
  | mk c s => rw [hc] at h; simp only at h; subst h; rfl
theorem cdec_tail {kd ra nl : UInt8} {r : List UInt8} (h : nl.toNat ≤ 32) (hs : r.length < nl.toNat + 9) : cdec (kd :: ra :: nl :: r) = none := by
  refine cdec_of_none ?_
  rw [crdF_rest h]
  by_cases h2 : r.length < nl.toNat
  · have e : takeF nl.toNat (some r) = (List.replicate nl.toNat 0, none) := by unfold takeF; simp only; rw [if_pos h2]
    rw [e]; rfl
  · have e : takeF nl.toNat (some r) = (r.take nl.toNat, some (r.drop nl.toNat)) := by unfold takeF; simp only; rw [if_neg h2]
    rw [e]
    exact rest_short kd ra _ (by rw [List.length_drop]; omega)
/-- behind the nine numbers -/
def endF (kd ra : UInt8) (nm x : List UInt8) (s : RS) : Crd × RS :=
  let ef := effF s; let mn := mostF 2 ef.2; let tr := trgF mn.1 mn.2
  (crdM kd ra nm x ef.1 tr.1, tr.2)
theorem cdec_end {kd ra nl : UInt8} {r : List UInt8} (h : nl.toNat ≤ 32) (hs : ¬ r.length < nl.toNat + 9) : crdF (kd :: ra :: nl :: r) = endF kd ra (r.take nl.toNat) ((r.drop nl.toNat).take 9) (some (r.drop (nl.toNat + 9))) := by
  rw [crdF_rest h]
  have e : takeF nl.toNat (some r) = (r.take nl.toNat, some (r.drop nl.toNat)) := by unfold takeF; simp only; rw [if_neg (by omega)]
  rw [e]
  have hd : (r.drop nl.toNat).length = r.length - nl.toNat := List.length_drop
  have e2 : r.drop (nl.toNat + 9) = (r.drop nl.toNat).drop 9 := by rw [List.drop_drop]
  rw [e2]
  generalize r.drop nl.toNat = t at hd
  match t, (show 9 ≤ t.length by omega) with
  | a0 :: a1 :: a2 :: a3 :: a4 :: a5 :: a6 :: a7 :: a8 :: u, _ => rfl
theorem end_bad (kd ra : UInt8) (nm x : List UInt8) {t : List UInt8} (h : edec t = none) : (endF kd ra nm x (some t)).2 = none := by
  have e : effF (some t) = ([], none) := by unfold effF; simp only; rw [h]
  unfold endF
  simp only [e]
  rfl
theorem end_nil (kd ra : UInt8) (nm x : List UInt8) {t : List UInt8} {l : List Eff} {k : Nat} (h : edec t = some (l, k)) (hd : t.drop k = []) : (endF kd ra nm x (some t)).2 = none := by
  have e : effF (some t) = (l, some (t.drop k)) := by unfold effF; simp only; rw [h]
  unfold endF
  simp only [e, hd]
  rfl
theorem end_many (kd ra : UInt8) (nm x : List UInt8) {t u : List UInt8} {l : List Eff} {k : Nat} {y : UInt8} (h : edec t = some (l, k)) (hd : t.drop k = y :: u) (hy : 2 < y.toNat) : (endF kd ra nm x (some t)).2 = none := by
  have e : effF (some t) = (l, some (t.drop k)) := by unfold effF; simp only; rw [h]
  unfold endF
  simp only [e, hd, most_big hy]
  rfl
theorem end_trgs (kd ra : UInt8) (nm x : List UInt8) {t u : List UInt8} {l : List Eff} {k : Nat} {y : UInt8} (h : edec t = some (l, k)) (hd : t.drop k = y :: u) (hy : y.toNat ≤ 2) : endF kd ra nm x (some t) = (crdM kd ra nm x l (trgF y.toNat (some u)).1, (trgF y.toNat (some u)).2) := by
  have e : effF (some t) = (l, some (t.drop k)) := by unfold effF; simp only; rw [h]
  unfold endF
  simp only [e, hd, mostF_cons hy]
end Go.Proofs.YtclgoilfclmibaaGreatDoor
