/-
  Pool: the document's reading of a card.
-/
import Derived.Test.YtclgoilfclmibaaGreatDoorWp
import Derived.Test.YtclgoilfclmibaaGreatDoorVi
set_option linter.unusedVariables false
set_option linter.unusedSimpArgs false
namespace Go.Proofs.YtclgoilfclmibaaGreatDoor
open Go Go.RowKit Go.Zn
attribute [local go_sem] Oper.semAt_some

theorem slice_mid {w : World} {B : Nat → Prop} {v : Value} {m : Nat} {r : List UInt8} (h : Rd w B 1 v m (bts r)) {lo hi : Nat} (h1 : lo ≤ hi) (h2 : hi ≤ m) (hm : 0 < m) :
    ∃ v', (∀ W, (Instr.sliceAt 51 v (some (.int .i64 (lo : Nat))) (some (.int .i64 (hi : Nat))) none).run Tryz.prog W = .ok v' W) ∧ Rd w B 1 v' (hi - lo) (bts ((r.drop lo).take (hi - lo))) := by
  have hl := h.1
  simp only [bts_length, Nat.mul_one] at hl
  obtain ⟨q1, q2, q3⟩ := h
  have hsz : ∀ W, (sizeOf (Tryz.prog.elem 51)).run Tryz.prog W = .ok 1 W := fun W => by kernel_rfl
  have hel : Tryz.prog.underlying 51 = some (.slice (Tryz.prog.elem 51)) := by kernel_rfl
  have hlen : (bts ((r.drop lo).take (hi - lo))).length = (hi - lo) * 1 := by rw [bts_length, List.length_take, List.length_drop]; omega
  rcases q3 with ⟨_, h0⟩ | ⟨b, off, cap, hv, hc, hb, hx⟩
  · omega
  · subst hv
    refine ⟨.slice (if cap = lo then some ⟨b, off, none⟩ else some ⟨b, off + lo, none⟩) (hi - lo) (cap - lo), fun W => ?_, hlen, by omega, ?_⟩
    · rw [run_sliceAt_slice W _ _ _ _ _ hel, run_slice_lh W _ _ _ _ hel .i64 .i64 _ _ (by omega) (by omega) (by omega), hsz]
      show Result.ok _ W = _
      unfold sliced
      rw [Int.toNat_natCast, Int.toNat_natCast]
      by_cases e : cap = lo
      · rw [if_pos e, if_pos e]
      · rw [if_neg e, if_neg e]
        show Result.ok (Value.slice (some ((⟨b, off, none⟩ : Addr).add (lo * 1))) _ _) W = _
        rw [Addr.add_mid, Nat.mul_one]
    · by_cases e : cap = lo
      · rw [if_pos e]
        refine .inr ⟨b, off, cap - lo, rfl, by omega, fun hp => ?_, fun j u hj => ?_⟩
        · rw [hlen] at hp; omega
        · have := (List.getElem?_eq_some_iff.1 hj).1
          rw [hlen] at this; omega
      · rw [if_neg e]
        refine .inr ⟨b, off + lo, cap - lo, rfl, by omega, fun hp => hb (by rw [bts_length]; omega), fun j u hj => ?_⟩
        have hjl := (List.getElem?_eq_some_iff.1 hj).1
        rw [hlen] at hjl
        rw [Nat.add_assoc]
        refine hx (lo + j) u ?_
        rw [bts_get] at hj ⊢
        rw [List.getElem?_take, List.getElem?_drop] at hj
        split at hj
        · exact hj
        · cases hj
theorem results40 {W : World} {tmps : Array Value} {g : Nat} {cs : Array Value} (ht : tmps.getD 2 undef = .pointer (some ⟨g, 0, none⟩)) (hh : W.heap[g]? = some (.cells cs 46 (0, 0))) (hs : cs.size = 14) :
    (results Tryz.f40 tmps).run Tryz.prog W = .ok (.tuple #[.agg cs, tmps.getD 3 undef, tmps.getD 4 undef]) W := by
  have hr : Tryz.f40.results = #[.cell 2 46, .tmp 3, .tmp 4] := rfl
  have hl := run_loadVar_row (P := Tryz.prog) W g 46 46 cs (0, 0) _ hh Tryz.underlying46 rfl (by rw [hs]; kernel_rfl)
  have ht' : tmps[2]?.getD undef = .pointer (some ⟨g, 0, none⟩) := by simpa using ht
  simp only [results, hr]
  simp [Sem.run_bind, Result.andThen, asAddr, ht', hl]
structure RcS (c : Crd) (w : World) (ev tv : Value) (W : World) : Prop where
  r : W.heap[w.heap.size]? = some (.cells zCells9 46 (0, 0))
  n : W.heap[w.heap.size + 1]? = some (.cells zCells9 46 (0, 0))
  bx : CObj W (w.heap.size + 2) c ev tv
  effs : OwnE W (w.heap.size + 3) ev c.effs
  trgs : OwnT W (w.heap.size + 3) tv c.trgs
  kept : Kept No w W
theorem RcS.no {c : Crd} {w W W' : World} {ev tv : Value} (h : RcS c w ev tv W) (hk : Kept No W W') : RcS c w ev tv W' := ⟨hk.obj h.r (not_no _), hk.obj h.n (not_no _), h.bx.no hk, h.effs.no hk, h.trgs.kept hk (.no _ _) (.no _ _), h.kept.and hk⟩
def CdPost (b : List UInt8) (w : World) (e : Ending) (w' : World) : Prop := Kept No w w' ∧
  ((∃ c k ev tv, cdec b = some (c, k) ∧ e = .returned (.tuple #[crdV c ev tv, .int .i64 (k : Nat), .int .i64 0]) ∧ OwnC w' w.heap.size c ev tv) ∨ (cdec b = none ∧ ∃ z : Int, z ≠ 0 ∧ e = .returned (.tuple #[crdV zC (.slice none 0 0) (.slice none 0 0), .int .i64 0, .int .i64 z])))
theorem edec_le {t : List UInt8} {l : List Eff} {k : Nat} (h : edec t = some (l, k)) : k ≤ t.length ∧ k ≤ 21 ∧ 1 ≤ k ∧ l.length ≤ 4 := by
  obtain ⟨h1, h2, h3⟩ := edec_some h
  have h4 := (allE_out h1).1
  have h5 := congrArg List.length h2
  rw [List.length_append] at h5
  have h6 := eenc_len l
  omega
def CtRel (b : List UInt8) (m mn : Nat) (u : List UInt8) (cm : List Trg → Crd) (w : World) (v : Value) (av iv : Value) (wr : World) : Prop := ∃ (i at_ : Nat) (ts : List Trg) (tv : Value), iv = .int .i64 (i : Nat) ∧ av = .int .i64 (at_ : Nat) ∧ i ≤ mn ∧ at_ ≤ m ∧ RcS (cm ts) w v tv wr ∧ (cm ts).trgs = ts ∧ ts.length = i ∧ (∀ t ∈ ts, t.effs.length ≤ 4) ∧
  trgF mn (some u) = (ts ++ (trgF (mn - i) (some (b.drop at_))).1, (trgF (mn - i) (some (b.drop at_))).2)
theorem drop_cons {b : List UInt8} {i : Nat} (h : i < b.length) : ∃ y, b[i]? = some y ∧ b.drop i = y :: b.drop (i + 1) := ⟨b[i], List.getElem?_eq_getElem h, List.drop_eq_getElem_cons h⟩
set_option maxRecDepth 100000 in
set_option maxHeartbeats 32000000 in
theorem rcdec_any {b : List UInt8} (hl : b.length ≤ 1000000) {w : World} {B : Nat → Prop} {v : Value} (hv : Rd w B 1 v b.length (bts b)) : Calls Tryz.prog 40 #[v] w (CdPost b w) := by
  have hv := hv.mono (C := fun k => k < w.heap.size) fun k hk _ => hk
  obtain ⟨ad, cap, rfl⟩ := rd_slice hv
  have HV := Lib.hid hv
  obtain ⟨w3, hw3⟩ : ∃ w3, ((w.alloc (.cells #[.string { data := #[] }, .int .i64 0, .int .i64 0, .int .i64 0, .int .i64 0, .int .i64 0, .int .i64 0, .int .i64 0, .int .i64 0, .int .i64 0, .int .i64 0, .slice none 0 0, .slice none 0 0, .int .i64 0] 46)).alloc (.cells #[.string { data := #[] }, .int .i64 0, .int .i64 0, .int .i64 0, .int .i64 0, .int .i64 0, .int .i64 0, .int .i64 0, .int .i64 0, .int .i64 0, .int .i64 0, .slice none 0 0, .slice none 0 0, .int .i64 0] 46)).alloc (.cells #[.string { data := #[] }, .int .i64 0, .int .i64 0, .int .i64 0, .int .i64 0, .int .i64 0, .int .i64 0, .int .i64 0, .int .i64 0, .int .i64 0, .int .i64 0, .slice none 0 0, .slice none 0 0, .int .i64 0] 46) = w3 := ⟨_, rfl⟩
  have hs3 : RcS zC w (.slice none 0 0) (.slice none 0 0) w3 := by
    rw [← hw3]
    refine ⟨obj_alloc (obj_alloc (heap_alloc_new w _) _) _, ?_, ?_, World.ownsRow_nil _ _ _ _, ⟨[], World.ownsRow_nil _ _ _ _, rfl⟩, (((Kept.refl No w).alloc _).alloc _).alloc _⟩
    · have := heap_alloc_new (w.alloc (.cells #[.string { data := #[] }, .int .i64 0, .int .i64 0, .int .i64 0, .int .i64 0, .int .i64 0, .int .i64 0, .int .i64 0, .int .i64 0, .int .i64 0, .int .i64 0, .slice none 0 0, .slice none 0 0, .int .i64 0] 46)) (.cells #[.string { data := #[] }, .int .i64 0, .int .i64 0, .int .i64 0, .int .i64 0, .int .i64 0, .int .i64 0, .int .i64 0, .int .i64 0, .int .i64 0, .int .i64 0, .slice none 0 0, .slice none 0 0, .int .i64 0] 46)
      rw [World.size_alloc] at this
      exact obj_alloc this _
    · have := heap_alloc_new ((w.alloc (.cells #[.string { data := #[] }, .int .i64 0, .int .i64 0, .int .i64 0, .int .i64 0, .int .i64 0, .int .i64 0, .int .i64 0, .int .i64 0, .int .i64 0, .int .i64 0, .slice none 0 0, .slice none 0 0, .int .i64 0] 46)).alloc (.cells #[.string { data := #[] }, .int .i64 0, .int .i64 0, .int .i64 0, .int .i64 0, .int .i64 0, .int .i64 0, .int .i64 0, .int .i64 0, .int .i64 0, .int .i64 0, .slice none 0 0, .slice none 0 0, .int .i64 0] 46)) (.cells #[.string { data := #[] }, .int .i64 0, .int .i64 0, .int .i64 0, .int .i64 0, .int .i64 0, .int .i64 0, .int .i64 0, .int .i64 0, .int .i64 0, .int .i64 0, .slice none 0 0, .slice none 0 0, .int .i64 0] 46)
      rw [World.size_alloc, World.size_alloc] at this
      exact this
  have HS3 := Lib.hid hs3
  have hsz3 : w3.heap.size = w.heap.size + 3 := by rw [← hw3]; simp
  obtain ⟨m, hm⟩ : ∃ m, b.length = m := ⟨_, rfl⟩
  have HM := Lib.hid hm
  rw [hm] at HV hl hv ⊢
  clear hs3
  by_cases h3 : m < 3
  · have hm3 : (m : Int) < 3 := by omega
    have HR := Lib.hid (cdec_short (b := b) (by omega))
    clear hv hm
    go_enter Tryz.func40, Tryz.ntmps40
    go_wp2_with (first | (with_reducible refine wpList_load_row rfl 46 _ rfl (w.heap.size + 1) rfl 46 _ (0, 0) _ HS3.out.n Tryz.underlying46 rfl (by kernel_rfl) ?_) | (refine wpList_store_row rfl 46 _ _ rfl w.heap.size zCells9 rfl rfl 46 _ HS3.out.r (by kernel_rfl) rfl zc_all9 ?_))
    refine bodyPost_ret (results40 rfl (setRow_heap _ _ _ _ _ _ HS3.out.r) rfl) rfl ?_
    exact ⟨HS3.out.kept.setRow (fun hh => absurd hh (Nat.lt_irrefl _)) _, .inr ⟨HR.out, _, by decide, rfl⟩⟩
  have hm3 : ¬ ((m : Int) < 3) := by omega
  have hz : ∃ bb off, ad = some ⟨bb, off, none⟩ ∧ m ≤ cap ∧ bb < w.heap.size := by
    obtain ⟨_, _, ⟨_, h0⟩ | ⟨bb, off, c1, he, hmc, hB, hc⟩⟩ := hv
    · omega
    · cases he
      exact ⟨bb, off, rfl, hmc, hB (by rw [bts_length]; omega)⟩
  obtain ⟨bb, off, rfl, hmc, hbb⟩ := hz
  have HBB := Lib.hid hbb
  have HCE := Lib.hid (fun (i : Nat) (y : UInt8) (hy : b[i]? = some y) (S : Nat → Prop) (W : World) (hk : Kept S w W) (hS : ¬ S bb) => (show W.cell? ⟨bb, off + i, none⟩ = some (.int .u8 y.toNat) by
    obtain ⟨_, _, ⟨_, h0⟩ | ⟨bb', off', c1, he, hmc, hB, hc⟩⟩ := hv
    · omega
    · cases he
      exact hk.cell (hc i _ (by rw [bts_get, hy]; rfl)) hS))
  obtain ⟨kd, ra, nl, r, hb⟩ : ∃ kd ra nl r, b = kd :: ra :: nl :: r := by
    match b, hm with
    | [], hm => simp at hm; omega
    | [_], hm => simp at hm; omega
    | [_, _], hm => simp at hm; omega
    | a :: c :: d :: r, _ => exact ⟨a, c, d, r, rfl⟩
  have hrl : r.length + 3 = m := by rw [← hm, hb]; rfl
  have HB := Lib.hid hb
  obtain ⟨n8, hn8⟩ : ∃ n, nl.toNat = n := ⟨_, rfl⟩
  have hnl := nl.toNat_lt
  have HN8 := Lib.hid hn8
  have c2 := HCE.out 2 nl (by rw [hb]; rfl) No w3 HS3.out.kept (not_no _)
  rw [hn8] at c2 hnl
  have z2 : ¬ m = 0 := by omega
  have z3 : (2 : Int) < (m : Int) := by omega
  have z4 : 2 < m := by omega
  clear hv hb h3
  by_cases h32 : 32 < n8
  · have h32' : 32 < (n8 : Int) := by omega
    have HR := Lib.hid (show cdec b = none by rw [HB.out]; exact cdec_name (by omega))
    clear hm hn8
    go_enter Tryz.func40, Tryz.ntmps40
    go_wp2_with (first | (with_reducible refine wpList_load_row rfl 46 _ rfl (w.heap.size + 1) rfl 46 _ (0, 0) _ HS3.out.n Tryz.underlying46 rfl (by kernel_rfl) ?_) | (refine wpList_store_row rfl 46 _ _ rfl w.heap.size zCells9 rfl rfl 46 _ HS3.out.r (by kernel_rfl) rfl zc_all9 ?_))
    refine bodyPost_ret (results40 rfl (setRow_heap _ _ _ _ _ _ HS3.out.r) rfl) rfl ?_
    exact ⟨HS3.out.kept.setRow (fun hh => absurd hh (Nat.lt_irrefl _)) _, .inr ⟨HR.out, _, by decide, rfl⟩⟩
  have h32' : ¬ (32 < (n8 : Int)) := by omega
  obtain ⟨A, hA⟩ : ∃ A, n8 + 12 = A := ⟨_, rfl⟩
  obtain ⟨A0, hA0⟩ : ∃ A0, n8 + 3 = A0 := ⟨_, rfl⟩
  have q3 : IntKind.i64.wrap (3 + (n8 : Int)) = (A0 : Int) := (IntWalk.i64_in _ (by omega)).trans (by omega)
  have q12 : IntKind.i64.wrap ((A0 : Int) + 9) = (A : Int) := (IntWalk.i64_in _ (by omega)).trans (by omega)
  by_cases h12 : m < A
  · have h12' : (m : Int) < (A : Int) := by omega
    have HR := Lib.hid (show cdec b = none by rw [HB.out]; exact cdec_tail (by omega) (by omega))
    clear hm hn8
    go_enter Tryz.func40, Tryz.ntmps40
    go_wp2_with (first | (with_reducible refine wpList_load_row rfl 46 _ rfl (w.heap.size + 1) rfl 46 _ (0, 0) _ HS3.out.n Tryz.underlying46 rfl (by kernel_rfl) ?_) | (refine wpList_store_row rfl 46 _ _ rfl w.heap.size zCells9 rfl rfl 46 _ HS3.out.r (by kernel_rfl) rfl zc_all9 ?_))
    refine bodyPost_ret (results40 rfl (setRow_heap _ _ _ _ _ _ HS3.out.r) rfl) rfl ?_
    exact ⟨HS3.out.kept.setRow (fun hh => absurd hh (Nat.lt_irrefl _)) _, .inr ⟨HR.out, _, by decide, rfl⟩⟩
  have h12' : ¬ ((m : Int) < (A : Int)) := by omega
  have hAm : A ≤ m := by omega
  obtain ⟨vx, hvx, hrx⟩ := slice_from HV.out (n := A0) (by omega)
  obtain ⟨vm, hvm, hrm⟩ := slice_mid HV.out (lo := 3) (hi := A0) (by omega) (by omega) (by omega)
  have hvm : ∀ W, (Instr.sliceAt 51 (.slice (some ⟨bb, off, none⟩) m cap) (some (.int .i64 3)) (some (.int .i64 (A0 : Nat))) none).run Tryz.prog W = .ok vm W := hvm
  obtain ⟨nm, hnm⟩ : ∃ nm, (b.drop 3).take (A0 - 3) = nm := ⟨_, rfl⟩
  rw [hnm] at hrm
  have hnml : A0 - 3 = nm.length := by rw [← hnm, List.length_take, List.length_drop]; omega
  have hnmr : nm = r.take n8 := by rw [← hnm, HB.out, show A0 - 3 = n8 by omega]; rfl
  rw [hnml] at hrm
  obtain ⟨X, hX⟩ : ∃ X, (r.drop n8).take 9 = X := ⟨_, rfl⟩
  have hXd : b.drop A0 = r.drop n8 := by rw [HB.out, ← hA0]; rfl
  have hx : ∃ xb xo cc q, vx = .slice (some ⟨xb, xo, none⟩) q cc ∧ 9 ≤ q ∧ q ≤ cc ∧ xb < w.heap.size ∧ ∀ j, j < 9 → w.cell? ⟨xb, xo + j, none⟩ = some (.int .u8 (X.getD j 0).toNat) := by
    obtain ⟨_, _, ⟨_, h0⟩ | ⟨xb, xo, cc, he, hq, hB, hc⟩⟩ := hrx
    · omega
    · refine ⟨xb, xo, cc, _, he, by omega, hq, hB (by rw [bts_length, List.length_drop]; omega), fun j hj => ?_⟩
      refine hc j _ ?_
      have hlj : j < (r.drop n8).length := by rw [List.length_drop]; omega
      rw [bts_get, hXd, List.getElem?_eq_getElem hlj]
      show some (Value.int .u8 _) = _
      rw [← hX, List.getD_eq_getElem?_getD, List.getElem?_take, if_pos hj, List.getElem?_eq_getElem hlj]
      rfl
  obtain ⟨xb, xo, cc, q, rfl, hq9, hqc, hxb, hxc⟩ := hx
  have hX9 : X.length = 9 := by rw [← hX, List.length_take, List.length_drop]; omega
  obtain ⟨y0, hy0⟩ : ∃ y, (X.getD 0 0).toNat = y := ⟨_, rfl⟩
  have l0 := (X.getD 0 0).toNat_lt
  rw [hy0] at l0
  obtain ⟨y1, hy1⟩ : ∃ y, (X.getD 1 0).toNat = y := ⟨_, rfl⟩
  have l1 := (X.getD 1 0).toNat_lt
  rw [hy1] at l1
  obtain ⟨y2, hy2⟩ : ∃ y, (X.getD 2 0).toNat = y := ⟨_, rfl⟩
  have l2 := (X.getD 2 0).toNat_lt
  rw [hy2] at l2
  obtain ⟨y3, hy3⟩ : ∃ y, (X.getD 3 0).toNat = y := ⟨_, rfl⟩
  have l3 := (X.getD 3 0).toNat_lt
  rw [hy3] at l3
  obtain ⟨y4, hy4⟩ : ∃ y, (X.getD 4 0).toNat = y := ⟨_, rfl⟩
  have l4 := (X.getD 4 0).toNat_lt
  rw [hy4] at l4
  obtain ⟨y5, hy5⟩ : ∃ y, (X.getD 5 0).toNat = y := ⟨_, rfl⟩
  have l5 := (X.getD 5 0).toNat_lt
  rw [hy5] at l5
  obtain ⟨y6, hy6⟩ : ∃ y, (X.getD 6 0).toNat = y := ⟨_, rfl⟩
  have l6 := (X.getD 6 0).toNat_lt
  rw [hy6] at l6
  obtain ⟨y7, hy7⟩ : ∃ y, (X.getD 7 0).toNat = y := ⟨_, rfl⟩
  have l7 := (X.getD 7 0).toNat_lt
  rw [hy7] at l7
  obtain ⟨y8, hy8⟩ : ∃ y, (X.getD 8 0).toNat = y := ⟨_, rfl⟩
  have l8 := (X.getD 8 0).toNat_lt
  rw [hy8] at l8
  obtain ⟨kdv, hkd⟩ : ∃ y, kd.toNat = y := ⟨_, rfl⟩
  obtain ⟨rav, hra⟩ : ∃ y, ra.toNat = y := ⟨_, rfl⟩
  have lk := kd.toNat_lt
  have lr := ra.toNat_lt
  rw [hkd] at lk
  rw [hra] at lr
  have HCM := Lib.hid (fun (l : List Eff) (ts : List Trg) => (show crdM kd ra nm X l ts = ⟨nm, kdv, y0, y1, y2, y3, y4, y5, y6, y7, y8, l, ts, rav⟩ by
    unfold crdM
    rw [hkd, hra, hy0, hy1, hy2, hy3, hy4, hy5, hy6, hy7, hy8]))
  have HXC := Lib.hid (fun (S : Nat → Prop) (W : World) (hk : Kept S w W) (hS : ¬ S xb) => (show (W.cell? ⟨xb, xo, none⟩ = some (.int .u8 y0) ∧ W.cell? ⟨xb, xo + 1, none⟩ = some (.int .u8 y1) ∧ W.cell? ⟨xb, xo + 2, none⟩ = some (.int .u8 y2) ∧ W.cell? ⟨xb, xo + 3, none⟩ = some (.int .u8 y3) ∧ W.cell? ⟨xb, xo + 4, none⟩ = some (.int .u8 y4)) ∧ (W.cell? ⟨xb, xo + 5, none⟩ = some (.int .u8 y5) ∧ W.cell? ⟨xb, xo + 6, none⟩ = some (.int .u8 y6) ∧ W.cell? ⟨xb, xo + 7, none⟩ = some (.int .u8 y7) ∧ W.cell? ⟨xb, xo + 8, none⟩ = some (.int .u8 y8)) from by
    have g := fun j hj => hk.cell (hxc j hj) hS
    have g0 := g 0 (by decide)
    have g1 := g 1 (by decide)
    have g2 := g 2 (by decide)
    have g3 := g 3 (by decide)
    have g4 := g 4 (by decide)
    have g5 := g 5 (by decide)
    have g6 := g 6 (by decide)
    have g7 := g 7 (by decide)
    have g8 := g 8 (by decide)
    rw [hy0] at g0
    rw [hy1] at g1
    rw [hy2] at g2
    rw [hy3] at g3
    rw [hy4] at g4
    rw [hy5] at g5
    rw [hy6] at g6
    rw [hy7] at g7
    rw [hy8] at g8
    exact ⟨⟨g0, g1, g2, g3, g4⟩, g5, g6, g7, g8⟩))
  have HKD := Lib.hid (fun (S : Nat → Prop) (W : World) (hk : Kept S w W) (hS : ¬ S bb) => (show W.cell? ⟨bb, off, none⟩ = some (.int .u8 kdv) ∧ W.cell? ⟨bb, off + 1, none⟩ = some (.int .u8 rav) from ⟨hkd ▸ HCE.out 0 kd (by rw [HB.out]; rfl) S W hk hS, hra ▸ HCE.out 1 ra (by rw [HB.out]; rfl) S W hk hS⟩))
  have HNM := Lib.hid (fun (S : Nat → Prop) (W : World) (hk : Kept S w W) (hS : ∀ k, k < w.heap.size → ¬ S k) => run_string_rd (P := Tryz.prog) Tryz.underlying51 Tryz.underlying5 Tryz.underlying9 (hrm.kept hk fun k hk _ => hS k hk))
  have HND := Lib.hid (show nm.length ≤ 32 by omega)
  have HCF := Lib.hid (show crdF b = endF kd ra nm X (some (b.drop A)) by
    have e : b.drop A = r.drop (n8 + 9) := by rw [HB.out, show A = n8 + 9 + 3 by omega]; rfl
    rw [e, HB.out, cdec_end (by omega) (by omega), HN8.out, hnmr, hX])
  have HXB := Lib.hid hxb
  have x0 : IntKind.i64.wrap (y0 : Int) = (y0 : Int) := IntWalk.i64_in _ (by omega)
  have x1 : IntKind.i64.wrap (y1 : Int) = (y1 : Int) := IntWalk.i64_in _ (by omega)
  have x2 : IntKind.i64.wrap (y2 : Int) = (y2 : Int) := IntWalk.i64_in _ (by omega)
  have x3 : IntKind.i64.wrap (y3 : Int) = (y3 : Int) := IntWalk.i64_in _ (by omega)
  have x4 : IntKind.i64.wrap (y4 : Int) = (y4 : Int) := IntWalk.i64_in _ (by omega)
  have x5 : IntKind.i64.wrap (y5 : Int) = (y5 : Int) := IntWalk.i64_in _ (by omega)
  have x6 : IntKind.i64.wrap (y6 : Int) = (y6 : Int) := IntWalk.i64_in _ (by omega)
  have x7 : IntKind.i64.wrap (y7 : Int) = (y7 : Int) := IntWalk.i64_in _ (by omega)
  have x8 : IntKind.i64.wrap (y8 : Int) = (y8 : Int) := IntWalk.i64_in _ (by omega)
  have xk : IntKind.i64.wrap (kdv : Int) = (kdv : Int) := IntWalk.i64_in _ (by omega)
  have xr : IntKind.i64.wrap (rav : Int) = (rav : Int) := IntWalk.i64_in _ (by omega)
  have za : ¬ q = 0 := by omega
  have zb0 : (0 : Int) < (q : Int) := by omega
  have zc0 : 0 < q := by omega
  have zb1 : (1 : Int) < (q : Int) := by omega
  have zc1 : 1 < q := by omega
  have zb2 : (2 : Int) < (q : Int) := by omega
  have zc2 : 2 < q := by omega
  have zb3 : (3 : Int) < (q : Int) := by omega
  have zc3 : 3 < q := by omega
  have zb4 : (4 : Int) < (q : Int) := by omega
  have zc4 : 4 < q := by omega
  have zb5 : (5 : Int) < (q : Int) := by omega
  have zc5 : 5 < q := by omega
  have zb6 : (6 : Int) < (q : Int) := by omega
  have zc6 : 6 < q := by omega
  have zb7 : (7 : Int) < (q : Int) := by omega
  have zc7 : 7 < q := by omega
  have zb8 : (8 : Int) < (q : Int) := by omega
  have zc8 : 8 < q := by omega
  have zd0 : (0 : Int) < (m : Int) := by omega
  have zd1 : (1 : Int) < (m : Int) := by omega
  have zd2 : 1 < m := by omega
  have HY8 := Lib.hid l8
  clear hm hn8 hrx hnm hnml hnmr hX hXd hxc hX9 hy0 hy1 hy2 hy3 hy4 hy5 hy6 hy7 hy8 hkd hra hrm hq9 hrl hxb hbb hA hA0 h32 h12
  go_enter Tryz.func40, Tryz.ntmps40
  go_upto_region 11 with fail
  refine wp_region_held_drew (S := (fun W2 => Kept (fun k => k = w.heap.size + 2) w3 W2)) (by kernel_rfl) (Kept.refl _ w3).drew (fun hHeld => ?_)
  refine wpAnyH_take (i := 0) (v := .slice (some ⟨bb, off, none⟩) m cap) rfl (by kernel_rfl) (by kernel_rfl) (by kernel_rfl) (fun _ _ _ h => h) (Or.inl ⟨by rfl, ?_⟩) (by assumption) ?_
  · intro W2 hSw; have hkw : Kept (fun k => w.heap.size ≤ k) w W2 := HS3.out.kept.trans hSw (fun _ _ e => e.elim) (fun i hi e => by have e : i = w.heap.size + 2 := e; show w.heap.size ≤ i; omega); obtain ⟨b0, b1⟩ := HKD.out _ W2 hkw (by have := HBB.out; show ¬ w.heap.size ≤ bb; omega); obtain ⟨⟨k0, k1, k2, k3, k4⟩, k5, k6, k7, k8⟩ := HXC.out _ W2 hkw (by have := HXB.out; show ¬ w.heap.size ≤ xb; omega); have hcv := HNM.out _ W2 hkw (fun k hk => by show ¬ w.heap.size ≤ k; omega); go_simp
  simp only [Act.put, List.getElem_toArray, List.getElem_cons_zero, List.getElem_cons_succ, List.setIfInBounds_toArray, List.set_cons_zero, List.set_cons_succ]
  refine wpAnyH_take (i := 1) (v := .int .i64 (A0 : Nat)) rfl (by kernel_rfl) (by kernel_rfl) (by kernel_rfl) (fun _ _ _ h => h) (Or.inl ⟨by rfl, ?_⟩) (by assumption) ?_
  · intro W2 hSw; have hkw : Kept (fun k => w.heap.size ≤ k) w W2 := HS3.out.kept.trans hSw (fun _ _ e => e.elim) (fun i hi e => by have e : i = w.heap.size + 2 := e; show w.heap.size ≤ i; omega); obtain ⟨b0, b1⟩ := HKD.out _ W2 hkw (by have := HBB.out; show ¬ w.heap.size ≤ bb; omega); obtain ⟨⟨k0, k1, k2, k3, k4⟩, k5, k6, k7, k8⟩ := HXC.out _ W2 hkw (by have := HXB.out; show ¬ w.heap.size ≤ xb; omega); have hcv := HNM.out _ W2 hkw (fun k hk => by show ¬ w.heap.size ≤ k; omega); go_simp
  simp only [Act.put, List.getElem_toArray, List.getElem_cons_zero, List.getElem_cons_succ, List.setIfInBounds_toArray, List.set_cons_zero, List.set_cons_succ]
  refine wpAnyH_take (i := 2) (v := vm) rfl (by kernel_rfl) (by kernel_rfl) (by kernel_rfl) (fun _ _ _ h => h) (Or.inl ⟨by rfl, ?_⟩) (by assumption) ?_
  · intro W2 hSw; have hkw : Kept (fun k => w.heap.size ≤ k) w W2 := HS3.out.kept.trans hSw (fun _ _ e => e.elim) (fun i hi e => by have e : i = w.heap.size + 2 := e; show w.heap.size ≤ i; omega); obtain ⟨b0, b1⟩ := HKD.out _ W2 hkw (by have := HBB.out; show ¬ w.heap.size ≤ bb; omega); obtain ⟨⟨k0, k1, k2, k3, k4⟩, k5, k6, k7, k8⟩ := HXC.out _ W2 hkw (by have := HXB.out; show ¬ w.heap.size ≤ xb; omega); have hcv := HNM.out _ W2 hkw (fun k hk => by show ¬ w.heap.size ≤ k; omega); go_simp
  simp only [Act.put, List.getElem_toArray, List.getElem_cons_zero, List.getElem_cons_succ, List.setIfInBounds_toArray, List.set_cons_zero, List.set_cons_succ]
  refine wpAnyH_take (i := 3) (v := .string (strOf nm)) rfl (by kernel_rfl) (by kernel_rfl) (by kernel_rfl) (fun _ _ _ h => h) (Or.inl ⟨by rfl, ?_⟩) (by assumption) ?_
  · intro W2 hSw; have hkw : Kept (fun k => w.heap.size ≤ k) w W2 := HS3.out.kept.trans hSw (fun _ _ e => e.elim) (fun i hi e => by have e : i = w.heap.size + 2 := e; show w.heap.size ≤ i; omega); obtain ⟨b0, b1⟩ := HKD.out _ W2 hkw (by have := HBB.out; show ¬ w.heap.size ≤ bb; omega); obtain ⟨⟨k0, k1, k2, k3, k4⟩, k5, k6, k7, k8⟩ := HXC.out _ W2 hkw (by have := HXB.out; show ¬ w.heap.size ≤ xb; omega); have hcv := HNM.out _ W2 hkw (fun k hk => by show ¬ w.heap.size ≤ k; omega); go_simp
  simp only [Act.put, List.getElem_toArray, List.getElem_cons_zero, List.getElem_cons_succ, List.setIfInBounds_toArray, List.set_cons_zero, List.set_cons_succ]
  refine wpAnyH_take (i := 4) (v := .slice (some ⟨bb, off, none⟩) m cap) rfl (by kernel_rfl) (by kernel_rfl) (by kernel_rfl) (fun _ _ _ h => h) (Or.inl ⟨by rfl, ?_⟩) (by assumption) ?_
  · intro W2 hSw; have hkw : Kept (fun k => w.heap.size ≤ k) w W2 := HS3.out.kept.trans hSw (fun _ _ e => e.elim) (fun i hi e => by have e : i = w.heap.size + 2 := e; show w.heap.size ≤ i; omega); obtain ⟨b0, b1⟩ := HKD.out _ W2 hkw (by have := HBB.out; show ¬ w.heap.size ≤ bb; omega); obtain ⟨⟨k0, k1, k2, k3, k4⟩, k5, k6, k7, k8⟩ := HXC.out _ W2 hkw (by have := HXB.out; show ¬ w.heap.size ≤ xb; omega); have hcv := HNM.out _ W2 hkw (fun k hk => by show ¬ w.heap.size ≤ k; omega); go_simp
  simp only [Act.put, List.getElem_toArray, List.getElem_cons_zero, List.getElem_cons_succ, List.setIfInBounds_toArray, List.set_cons_zero, List.set_cons_succ]
  refine wpAnyH_take (i := 5) (v := .pointer (some ⟨bb, off, none⟩)) rfl (by kernel_rfl) (by kernel_rfl) (by kernel_rfl) (fun _ _ _ h => h) (Or.inl ⟨by rfl, ?_⟩) (by assumption) ?_
  · intro W2 hSw; have hkw : Kept (fun k => w.heap.size ≤ k) w W2 := HS3.out.kept.trans hSw (fun _ _ e => e.elim) (fun i hi e => by have e : i = w.heap.size + 2 := e; show w.heap.size ≤ i; omega); obtain ⟨b0, b1⟩ := HKD.out _ W2 hkw (by have := HBB.out; show ¬ w.heap.size ≤ bb; omega); obtain ⟨⟨k0, k1, k2, k3, k4⟩, k5, k6, k7, k8⟩ := HXC.out _ W2 hkw (by have := HXB.out; show ¬ w.heap.size ≤ xb; omega); have hcv := HNM.out _ W2 hkw (fun k hk => by show ¬ w.heap.size ≤ k; omega); go_simp
  simp only [Act.put, List.getElem_toArray, List.getElem_cons_zero, List.getElem_cons_succ, List.setIfInBounds_toArray, List.set_cons_zero, List.set_cons_succ]
  refine wpAnyH_take (i := 6) (v := .int .u8 kdv) rfl (by kernel_rfl) (by kernel_rfl) (by kernel_rfl) (fun _ _ _ h => h) (Or.inl ⟨by rfl, ?_⟩) (by assumption) ?_
  · intro W2 hSw; have hkw : Kept (fun k => w.heap.size ≤ k) w W2 := HS3.out.kept.trans hSw (fun _ _ e => e.elim) (fun i hi e => by have e : i = w.heap.size + 2 := e; show w.heap.size ≤ i; omega); obtain ⟨b0, b1⟩ := HKD.out _ W2 hkw (by have := HBB.out; show ¬ w.heap.size ≤ bb; omega); obtain ⟨⟨k0, k1, k2, k3, k4⟩, k5, k6, k7, k8⟩ := HXC.out _ W2 hkw (by have := HXB.out; show ¬ w.heap.size ≤ xb; omega); have hcv := HNM.out _ W2 hkw (fun k hk => by show ¬ w.heap.size ≤ k; omega); go_simp
  simp only [Act.put, List.getElem_toArray, List.getElem_cons_zero, List.getElem_cons_succ, List.setIfInBounds_toArray, List.set_cons_zero, List.set_cons_succ]
  refine wpAnyH_take (i := 7) (v := .int .i64 kdv) rfl (by kernel_rfl) (by kernel_rfl) (by kernel_rfl) (fun _ _ _ h => h) (Or.inl ⟨by rfl, ?_⟩) (by assumption) ?_
  · intro W2 hSw; have hkw : Kept (fun k => w.heap.size ≤ k) w W2 := HS3.out.kept.trans hSw (fun _ _ e => e.elim) (fun i hi e => by have e : i = w.heap.size + 2 := e; show w.heap.size ≤ i; omega); obtain ⟨b0, b1⟩ := HKD.out _ W2 hkw (by have := HBB.out; show ¬ w.heap.size ≤ bb; omega); obtain ⟨⟨k0, k1, k2, k3, k4⟩, k5, k6, k7, k8⟩ := HXC.out _ W2 hkw (by have := HXB.out; show ¬ w.heap.size ≤ xb; omega); have hcv := HNM.out _ W2 hkw (fun k hk => by show ¬ w.heap.size ≤ k; omega); go_simp
  simp only [Act.put, List.getElem_toArray, List.getElem_cons_zero, List.getElem_cons_succ, List.setIfInBounds_toArray, List.set_cons_zero, List.set_cons_succ]
  refine wpAnyH_take (i := 8) (v := .slice (some ⟨xb, xo, none⟩) q cc) rfl (by kernel_rfl) (by kernel_rfl) (by kernel_rfl) (fun _ _ _ h => h) (Or.inl ⟨by rfl, ?_⟩) (by assumption) ?_
  · intro W2 hSw; have hkw : Kept (fun k => w.heap.size ≤ k) w W2 := HS3.out.kept.trans hSw (fun _ _ e => e.elim) (fun i hi e => by have e : i = w.heap.size + 2 := e; show w.heap.size ≤ i; omega); obtain ⟨b0, b1⟩ := HKD.out _ W2 hkw (by have := HBB.out; show ¬ w.heap.size ≤ bb; omega); obtain ⟨⟨k0, k1, k2, k3, k4⟩, k5, k6, k7, k8⟩ := HXC.out _ W2 hkw (by have := HXB.out; show ¬ w.heap.size ≤ xb; omega); have hcv := HNM.out _ W2 hkw (fun k hk => by show ¬ w.heap.size ≤ k; omega); go_simp
  simp only [Act.put, List.getElem_toArray, List.getElem_cons_zero, List.getElem_cons_succ, List.setIfInBounds_toArray, List.set_cons_zero, List.set_cons_succ]
  refine wpAnyH_take (i := 9) (v := .pointer (some ⟨xb, xo, none⟩)) rfl (by kernel_rfl) (by kernel_rfl) (by kernel_rfl) (fun _ _ _ h => h) (Or.inl ⟨by rfl, ?_⟩) (by assumption) ?_
  · intro W2 hSw; have hkw : Kept (fun k => w.heap.size ≤ k) w W2 := HS3.out.kept.trans hSw (fun _ _ e => e.elim) (fun i hi e => by have e : i = w.heap.size + 2 := e; show w.heap.size ≤ i; omega); obtain ⟨b0, b1⟩ := HKD.out _ W2 hkw (by have := HBB.out; show ¬ w.heap.size ≤ bb; omega); obtain ⟨⟨k0, k1, k2, k3, k4⟩, k5, k6, k7, k8⟩ := HXC.out _ W2 hkw (by have := HXB.out; show ¬ w.heap.size ≤ xb; omega); have hcv := HNM.out _ W2 hkw (fun k hk => by show ¬ w.heap.size ≤ k; omega); go_simp
  simp only [Act.put, List.getElem_toArray, List.getElem_cons_zero, List.getElem_cons_succ, List.setIfInBounds_toArray, List.set_cons_zero, List.set_cons_succ]
  refine wpAnyH_take (i := 10) (v := .int .u8 y0) rfl (by kernel_rfl) (by kernel_rfl) (by kernel_rfl) (fun _ _ _ h => h) (Or.inl ⟨by rfl, ?_⟩) (by assumption) ?_
  · intro W2 hSw; have hkw : Kept (fun k => w.heap.size ≤ k) w W2 := HS3.out.kept.trans hSw (fun _ _ e => e.elim) (fun i hi e => by have e : i = w.heap.size + 2 := e; show w.heap.size ≤ i; omega); obtain ⟨b0, b1⟩ := HKD.out _ W2 hkw (by have := HBB.out; show ¬ w.heap.size ≤ bb; omega); obtain ⟨⟨k0, k1, k2, k3, k4⟩, k5, k6, k7, k8⟩ := HXC.out _ W2 hkw (by have := HXB.out; show ¬ w.heap.size ≤ xb; omega); have hcv := HNM.out _ W2 hkw (fun k hk => by show ¬ w.heap.size ≤ k; omega); go_simp
  simp only [Act.put, List.getElem_toArray, List.getElem_cons_zero, List.getElem_cons_succ, List.setIfInBounds_toArray, List.set_cons_zero, List.set_cons_succ]
  refine wpAnyH_take (i := 11) (v := .int .i64 y0) rfl (by kernel_rfl) (by kernel_rfl) (by kernel_rfl) (fun _ _ _ h => h) (Or.inl ⟨by rfl, ?_⟩) (by assumption) ?_
  · intro W2 hSw; have hkw : Kept (fun k => w.heap.size ≤ k) w W2 := HS3.out.kept.trans hSw (fun _ _ e => e.elim) (fun i hi e => by have e : i = w.heap.size + 2 := e; show w.heap.size ≤ i; omega); obtain ⟨b0, b1⟩ := HKD.out _ W2 hkw (by have := HBB.out; show ¬ w.heap.size ≤ bb; omega); obtain ⟨⟨k0, k1, k2, k3, k4⟩, k5, k6, k7, k8⟩ := HXC.out _ W2 hkw (by have := HXB.out; show ¬ w.heap.size ≤ xb; omega); have hcv := HNM.out _ W2 hkw (fun k hk => by show ¬ w.heap.size ≤ k; omega); go_simp
  simp only [Act.put, List.getElem_toArray, List.getElem_cons_zero, List.getElem_cons_succ, List.setIfInBounds_toArray, List.set_cons_zero, List.set_cons_succ]
  refine wpAnyH_take (i := 12) (v := .slice (some ⟨xb, xo, none⟩) q cc) rfl (by kernel_rfl) (by kernel_rfl) (by kernel_rfl) (fun _ _ _ h => h) (Or.inl ⟨by rfl, ?_⟩) (by assumption) ?_
  · intro W2 hSw; have hkw : Kept (fun k => w.heap.size ≤ k) w W2 := HS3.out.kept.trans hSw (fun _ _ e => e.elim) (fun i hi e => by have e : i = w.heap.size + 2 := e; show w.heap.size ≤ i; omega); obtain ⟨b0, b1⟩ := HKD.out _ W2 hkw (by have := HBB.out; show ¬ w.heap.size ≤ bb; omega); obtain ⟨⟨k0, k1, k2, k3, k4⟩, k5, k6, k7, k8⟩ := HXC.out _ W2 hkw (by have := HXB.out; show ¬ w.heap.size ≤ xb; omega); have hcv := HNM.out _ W2 hkw (fun k hk => by show ¬ w.heap.size ≤ k; omega); go_simp
  simp only [Act.put, List.getElem_toArray, List.getElem_cons_zero, List.getElem_cons_succ, List.setIfInBounds_toArray, List.set_cons_zero, List.set_cons_succ]
  refine wpAnyH_take (i := 13) (v := .pointer (some ⟨xb, xo + 1, none⟩)) rfl (by kernel_rfl) (by kernel_rfl) (by kernel_rfl) (fun _ _ _ h => h) (Or.inl ⟨by rfl, ?_⟩) (by assumption) ?_
  · intro W2 hSw; have hkw : Kept (fun k => w.heap.size ≤ k) w W2 := HS3.out.kept.trans hSw (fun _ _ e => e.elim) (fun i hi e => by have e : i = w.heap.size + 2 := e; show w.heap.size ≤ i; omega); obtain ⟨b0, b1⟩ := HKD.out _ W2 hkw (by have := HBB.out; show ¬ w.heap.size ≤ bb; omega); obtain ⟨⟨k0, k1, k2, k3, k4⟩, k5, k6, k7, k8⟩ := HXC.out _ W2 hkw (by have := HXB.out; show ¬ w.heap.size ≤ xb; omega); have hcv := HNM.out _ W2 hkw (fun k hk => by show ¬ w.heap.size ≤ k; omega); go_simp
  simp only [Act.put, List.getElem_toArray, List.getElem_cons_zero, List.getElem_cons_succ, List.setIfInBounds_toArray, List.set_cons_zero, List.set_cons_succ]
  refine wpAnyH_take (i := 14) (v := .int .u8 y1) rfl (by kernel_rfl) (by kernel_rfl) (by kernel_rfl) (fun _ _ _ h => h) (Or.inl ⟨by rfl, ?_⟩) (by assumption) ?_
  · intro W2 hSw; have hkw : Kept (fun k => w.heap.size ≤ k) w W2 := HS3.out.kept.trans hSw (fun _ _ e => e.elim) (fun i hi e => by have e : i = w.heap.size + 2 := e; show w.heap.size ≤ i; omega); obtain ⟨b0, b1⟩ := HKD.out _ W2 hkw (by have := HBB.out; show ¬ w.heap.size ≤ bb; omega); obtain ⟨⟨k0, k1, k2, k3, k4⟩, k5, k6, k7, k8⟩ := HXC.out _ W2 hkw (by have := HXB.out; show ¬ w.heap.size ≤ xb; omega); have hcv := HNM.out _ W2 hkw (fun k hk => by show ¬ w.heap.size ≤ k; omega); go_simp
  simp only [Act.put, List.getElem_toArray, List.getElem_cons_zero, List.getElem_cons_succ, List.setIfInBounds_toArray, List.set_cons_zero, List.set_cons_succ]
  refine wpAnyH_take (i := 15) (v := .int .i64 y1) rfl (by kernel_rfl) (by kernel_rfl) (by kernel_rfl) (fun _ _ _ h => h) (Or.inl ⟨by rfl, ?_⟩) (by assumption) ?_
  · intro W2 hSw; have hkw : Kept (fun k => w.heap.size ≤ k) w W2 := HS3.out.kept.trans hSw (fun _ _ e => e.elim) (fun i hi e => by have e : i = w.heap.size + 2 := e; show w.heap.size ≤ i; omega); obtain ⟨b0, b1⟩ := HKD.out _ W2 hkw (by have := HBB.out; show ¬ w.heap.size ≤ bb; omega); obtain ⟨⟨k0, k1, k2, k3, k4⟩, k5, k6, k7, k8⟩ := HXC.out _ W2 hkw (by have := HXB.out; show ¬ w.heap.size ≤ xb; omega); have hcv := HNM.out _ W2 hkw (fun k hk => by show ¬ w.heap.size ≤ k; omega); go_simp
  simp only [Act.put, List.getElem_toArray, List.getElem_cons_zero, List.getElem_cons_succ, List.setIfInBounds_toArray, List.set_cons_zero, List.set_cons_succ]
  refine wpAnyH_take (i := 16) (v := .slice (some ⟨xb, xo, none⟩) q cc) rfl (by kernel_rfl) (by kernel_rfl) (by kernel_rfl) (fun _ _ _ h => h) (Or.inl ⟨by rfl, ?_⟩) (by assumption) ?_
  · intro W2 hSw; have hkw : Kept (fun k => w.heap.size ≤ k) w W2 := HS3.out.kept.trans hSw (fun _ _ e => e.elim) (fun i hi e => by have e : i = w.heap.size + 2 := e; show w.heap.size ≤ i; omega); obtain ⟨b0, b1⟩ := HKD.out _ W2 hkw (by have := HBB.out; show ¬ w.heap.size ≤ bb; omega); obtain ⟨⟨k0, k1, k2, k3, k4⟩, k5, k6, k7, k8⟩ := HXC.out _ W2 hkw (by have := HXB.out; show ¬ w.heap.size ≤ xb; omega); have hcv := HNM.out _ W2 hkw (fun k hk => by show ¬ w.heap.size ≤ k; omega); go_simp
  simp only [Act.put, List.getElem_toArray, List.getElem_cons_zero, List.getElem_cons_succ, List.setIfInBounds_toArray, List.set_cons_zero, List.set_cons_succ]
  refine wpAnyH_take (i := 17) (v := .pointer (some ⟨xb, xo + 2, none⟩)) rfl (by kernel_rfl) (by kernel_rfl) (by kernel_rfl) (fun _ _ _ h => h) (Or.inl ⟨by rfl, ?_⟩) (by assumption) ?_
  · intro W2 hSw; have hkw : Kept (fun k => w.heap.size ≤ k) w W2 := HS3.out.kept.trans hSw (fun _ _ e => e.elim) (fun i hi e => by have e : i = w.heap.size + 2 := e; show w.heap.size ≤ i; omega); obtain ⟨b0, b1⟩ := HKD.out _ W2 hkw (by have := HBB.out; show ¬ w.heap.size ≤ bb; omega); obtain ⟨⟨k0, k1, k2, k3, k4⟩, k5, k6, k7, k8⟩ := HXC.out _ W2 hkw (by have := HXB.out; show ¬ w.heap.size ≤ xb; omega); have hcv := HNM.out _ W2 hkw (fun k hk => by show ¬ w.heap.size ≤ k; omega); go_simp
  simp only [Act.put, List.getElem_toArray, List.getElem_cons_zero, List.getElem_cons_succ, List.setIfInBounds_toArray, List.set_cons_zero, List.set_cons_succ]
  refine wpAnyH_take (i := 18) (v := .int .u8 y2) rfl (by kernel_rfl) (by kernel_rfl) (by kernel_rfl) (fun _ _ _ h => h) (Or.inl ⟨by rfl, ?_⟩) (by assumption) ?_
  · intro W2 hSw; have hkw : Kept (fun k => w.heap.size ≤ k) w W2 := HS3.out.kept.trans hSw (fun _ _ e => e.elim) (fun i hi e => by have e : i = w.heap.size + 2 := e; show w.heap.size ≤ i; omega); obtain ⟨b0, b1⟩ := HKD.out _ W2 hkw (by have := HBB.out; show ¬ w.heap.size ≤ bb; omega); obtain ⟨⟨k0, k1, k2, k3, k4⟩, k5, k6, k7, k8⟩ := HXC.out _ W2 hkw (by have := HXB.out; show ¬ w.heap.size ≤ xb; omega); have hcv := HNM.out _ W2 hkw (fun k hk => by show ¬ w.heap.size ≤ k; omega); go_simp
  simp only [Act.put, List.getElem_toArray, List.getElem_cons_zero, List.getElem_cons_succ, List.setIfInBounds_toArray, List.set_cons_zero, List.set_cons_succ]
  refine wpAnyH_take (i := 19) (v := .int .i64 y2) rfl (by kernel_rfl) (by kernel_rfl) (by kernel_rfl) (fun _ _ _ h => h) (Or.inl ⟨by rfl, ?_⟩) (by assumption) ?_
  · intro W2 hSw; have hkw : Kept (fun k => w.heap.size ≤ k) w W2 := HS3.out.kept.trans hSw (fun _ _ e => e.elim) (fun i hi e => by have e : i = w.heap.size + 2 := e; show w.heap.size ≤ i; omega); obtain ⟨b0, b1⟩ := HKD.out _ W2 hkw (by have := HBB.out; show ¬ w.heap.size ≤ bb; omega); obtain ⟨⟨k0, k1, k2, k3, k4⟩, k5, k6, k7, k8⟩ := HXC.out _ W2 hkw (by have := HXB.out; show ¬ w.heap.size ≤ xb; omega); have hcv := HNM.out _ W2 hkw (fun k hk => by show ¬ w.heap.size ≤ k; omega); go_simp
  simp only [Act.put, List.getElem_toArray, List.getElem_cons_zero, List.getElem_cons_succ, List.setIfInBounds_toArray, List.set_cons_zero, List.set_cons_succ]
  refine wpAnyH_take (i := 20) (v := .slice (some ⟨xb, xo, none⟩) q cc) rfl (by kernel_rfl) (by kernel_rfl) (by kernel_rfl) (fun _ _ _ h => h) (Or.inl ⟨by rfl, ?_⟩) (by assumption) ?_
  · intro W2 hSw; have hkw : Kept (fun k => w.heap.size ≤ k) w W2 := HS3.out.kept.trans hSw (fun _ _ e => e.elim) (fun i hi e => by have e : i = w.heap.size + 2 := e; show w.heap.size ≤ i; omega); obtain ⟨b0, b1⟩ := HKD.out _ W2 hkw (by have := HBB.out; show ¬ w.heap.size ≤ bb; omega); obtain ⟨⟨k0, k1, k2, k3, k4⟩, k5, k6, k7, k8⟩ := HXC.out _ W2 hkw (by have := HXB.out; show ¬ w.heap.size ≤ xb; omega); have hcv := HNM.out _ W2 hkw (fun k hk => by show ¬ w.heap.size ≤ k; omega); go_simp
  simp only [Act.put, List.getElem_toArray, List.getElem_cons_zero, List.getElem_cons_succ, List.setIfInBounds_toArray, List.set_cons_zero, List.set_cons_succ]
  refine wpAnyH_take (i := 21) (v := .pointer (some ⟨xb, xo + 3, none⟩)) rfl (by kernel_rfl) (by kernel_rfl) (by kernel_rfl) (fun _ _ _ h => h) (Or.inl ⟨by rfl, ?_⟩) (by assumption) ?_
  · intro W2 hSw; have hkw : Kept (fun k => w.heap.size ≤ k) w W2 := HS3.out.kept.trans hSw (fun _ _ e => e.elim) (fun i hi e => by have e : i = w.heap.size + 2 := e; show w.heap.size ≤ i; omega); obtain ⟨b0, b1⟩ := HKD.out _ W2 hkw (by have := HBB.out; show ¬ w.heap.size ≤ bb; omega); obtain ⟨⟨k0, k1, k2, k3, k4⟩, k5, k6, k7, k8⟩ := HXC.out _ W2 hkw (by have := HXB.out; show ¬ w.heap.size ≤ xb; omega); have hcv := HNM.out _ W2 hkw (fun k hk => by show ¬ w.heap.size ≤ k; omega); go_simp
  simp only [Act.put, List.getElem_toArray, List.getElem_cons_zero, List.getElem_cons_succ, List.setIfInBounds_toArray, List.set_cons_zero, List.set_cons_succ]
  refine wpAnyH_take (i := 22) (v := .int .u8 y3) rfl (by kernel_rfl) (by kernel_rfl) (by kernel_rfl) (fun _ _ _ h => h) (Or.inl ⟨by rfl, ?_⟩) (by assumption) ?_
  · intro W2 hSw; have hkw : Kept (fun k => w.heap.size ≤ k) w W2 := HS3.out.kept.trans hSw (fun _ _ e => e.elim) (fun i hi e => by have e : i = w.heap.size + 2 := e; show w.heap.size ≤ i; omega); obtain ⟨b0, b1⟩ := HKD.out _ W2 hkw (by have := HBB.out; show ¬ w.heap.size ≤ bb; omega); obtain ⟨⟨k0, k1, k2, k3, k4⟩, k5, k6, k7, k8⟩ := HXC.out _ W2 hkw (by have := HXB.out; show ¬ w.heap.size ≤ xb; omega); have hcv := HNM.out _ W2 hkw (fun k hk => by show ¬ w.heap.size ≤ k; omega); go_simp
  simp only [Act.put, List.getElem_toArray, List.getElem_cons_zero, List.getElem_cons_succ, List.setIfInBounds_toArray, List.set_cons_zero, List.set_cons_succ]
  refine wpAnyH_take (i := 23) (v := .int .i64 y3) rfl (by kernel_rfl) (by kernel_rfl) (by kernel_rfl) (fun _ _ _ h => h) (Or.inl ⟨by rfl, ?_⟩) (by assumption) ?_
  · intro W2 hSw; have hkw : Kept (fun k => w.heap.size ≤ k) w W2 := HS3.out.kept.trans hSw (fun _ _ e => e.elim) (fun i hi e => by have e : i = w.heap.size + 2 := e; show w.heap.size ≤ i; omega); obtain ⟨b0, b1⟩ := HKD.out _ W2 hkw (by have := HBB.out; show ¬ w.heap.size ≤ bb; omega); obtain ⟨⟨k0, k1, k2, k3, k4⟩, k5, k6, k7, k8⟩ := HXC.out _ W2 hkw (by have := HXB.out; show ¬ w.heap.size ≤ xb; omega); have hcv := HNM.out _ W2 hkw (fun k hk => by show ¬ w.heap.size ≤ k; omega); go_simp
  simp only [Act.put, List.getElem_toArray, List.getElem_cons_zero, List.getElem_cons_succ, List.setIfInBounds_toArray, List.set_cons_zero, List.set_cons_succ]
  refine wpAnyH_take (i := 24) (v := .agg #[.int .i64 y0, .int .i64 y1, .int .i64 y2, .int .i64 y3]) rfl (by kernel_rfl) (by kernel_rfl) (by kernel_rfl) (fun _ _ _ h => h) (Or.inl ⟨by rfl, ?_⟩) (by assumption) ?_
  · intro W2 hSw; have hkw : Kept (fun k => w.heap.size ≤ k) w W2 := HS3.out.kept.trans hSw (fun _ _ e => e.elim) (fun i hi e => by have e : i = w.heap.size + 2 := e; show w.heap.size ≤ i; omega); obtain ⟨b0, b1⟩ := HKD.out _ W2 hkw (by have := HBB.out; show ¬ w.heap.size ≤ bb; omega); obtain ⟨⟨k0, k1, k2, k3, k4⟩, k5, k6, k7, k8⟩ := HXC.out _ W2 hkw (by have := HXB.out; show ¬ w.heap.size ≤ xb; omega); have hcv := HNM.out _ W2 hkw (fun k hk => by show ¬ w.heap.size ≤ k; omega); go_simp
  simp only [Act.put, List.getElem_toArray, List.getElem_cons_zero, List.getElem_cons_succ, List.setIfInBounds_toArray, List.set_cons_zero, List.set_cons_succ]
  refine wpAnyH_take (i := 25) (v := .slice (some ⟨xb, xo, none⟩) q cc) rfl (by kernel_rfl) (by kernel_rfl) (by kernel_rfl) (fun _ _ _ h => h) (Or.inl ⟨by rfl, ?_⟩) (by assumption) ?_
  · intro W2 hSw; have hkw : Kept (fun k => w.heap.size ≤ k) w W2 := HS3.out.kept.trans hSw (fun _ _ e => e.elim) (fun i hi e => by have e : i = w.heap.size + 2 := e; show w.heap.size ≤ i; omega); obtain ⟨b0, b1⟩ := HKD.out _ W2 hkw (by have := HBB.out; show ¬ w.heap.size ≤ bb; omega); obtain ⟨⟨k0, k1, k2, k3, k4⟩, k5, k6, k7, k8⟩ := HXC.out _ W2 hkw (by have := HXB.out; show ¬ w.heap.size ≤ xb; omega); have hcv := HNM.out _ W2 hkw (fun k hk => by show ¬ w.heap.size ≤ k; omega); go_simp
  simp only [Act.put, List.getElem_toArray, List.getElem_cons_zero, List.getElem_cons_succ, List.setIfInBounds_toArray, List.set_cons_zero, List.set_cons_succ]
  refine wpAnyH_take (i := 26) (v := .pointer (some ⟨xb, xo + 4, none⟩)) rfl (by kernel_rfl) (by kernel_rfl) (by kernel_rfl) (fun _ _ _ h => h) (Or.inl ⟨by rfl, ?_⟩) (by assumption) ?_
  · intro W2 hSw; have hkw : Kept (fun k => w.heap.size ≤ k) w W2 := HS3.out.kept.trans hSw (fun _ _ e => e.elim) (fun i hi e => by have e : i = w.heap.size + 2 := e; show w.heap.size ≤ i; omega); obtain ⟨b0, b1⟩ := HKD.out _ W2 hkw (by have := HBB.out; show ¬ w.heap.size ≤ bb; omega); obtain ⟨⟨k0, k1, k2, k3, k4⟩, k5, k6, k7, k8⟩ := HXC.out _ W2 hkw (by have := HXB.out; show ¬ w.heap.size ≤ xb; omega); have hcv := HNM.out _ W2 hkw (fun k hk => by show ¬ w.heap.size ≤ k; omega); go_simp
  simp only [Act.put, List.getElem_toArray, List.getElem_cons_zero, List.getElem_cons_succ, List.setIfInBounds_toArray, List.set_cons_zero, List.set_cons_succ]
  refine wpAnyH_take (i := 27) (v := .int .u8 y4) rfl (by kernel_rfl) (by kernel_rfl) (by kernel_rfl) (fun _ _ _ h => h) (Or.inl ⟨by rfl, ?_⟩) (by assumption) ?_
  · intro W2 hSw; have hkw : Kept (fun k => w.heap.size ≤ k) w W2 := HS3.out.kept.trans hSw (fun _ _ e => e.elim) (fun i hi e => by have e : i = w.heap.size + 2 := e; show w.heap.size ≤ i; omega); obtain ⟨b0, b1⟩ := HKD.out _ W2 hkw (by have := HBB.out; show ¬ w.heap.size ≤ bb; omega); obtain ⟨⟨k0, k1, k2, k3, k4⟩, k5, k6, k7, k8⟩ := HXC.out _ W2 hkw (by have := HXB.out; show ¬ w.heap.size ≤ xb; omega); have hcv := HNM.out _ W2 hkw (fun k hk => by show ¬ w.heap.size ≤ k; omega); go_simp
  simp only [Act.put, List.getElem_toArray, List.getElem_cons_zero, List.getElem_cons_succ, List.setIfInBounds_toArray, List.set_cons_zero, List.set_cons_succ]
  refine wpAnyH_take (i := 28) (v := .int .i64 y4) rfl (by kernel_rfl) (by kernel_rfl) (by kernel_rfl) (fun _ _ _ h => h) (Or.inl ⟨by rfl, ?_⟩) (by assumption) ?_
  · intro W2 hSw; have hkw : Kept (fun k => w.heap.size ≤ k) w W2 := HS3.out.kept.trans hSw (fun _ _ e => e.elim) (fun i hi e => by have e : i = w.heap.size + 2 := e; show w.heap.size ≤ i; omega); obtain ⟨b0, b1⟩ := HKD.out _ W2 hkw (by have := HBB.out; show ¬ w.heap.size ≤ bb; omega); obtain ⟨⟨k0, k1, k2, k3, k4⟩, k5, k6, k7, k8⟩ := HXC.out _ W2 hkw (by have := HXB.out; show ¬ w.heap.size ≤ xb; omega); have hcv := HNM.out _ W2 hkw (fun k hk => by show ¬ w.heap.size ≤ k; omega); go_simp
  simp only [Act.put, List.getElem_toArray, List.getElem_cons_zero, List.getElem_cons_succ, List.setIfInBounds_toArray, List.set_cons_zero, List.set_cons_succ]
  refine wpAnyH_take (i := 29) (v := .agg #[.int .i64 y0, .int .i64 y1, .int .i64 y2, .int .i64 y3, .int .i64 y4]) rfl (by kernel_rfl) (by kernel_rfl) (by kernel_rfl) (fun _ _ _ h => h) (Or.inl ⟨by rfl, ?_⟩) (by assumption) ?_
  · intro W2 hSw; have hkw : Kept (fun k => w.heap.size ≤ k) w W2 := HS3.out.kept.trans hSw (fun _ _ e => e.elim) (fun i hi e => by have e : i = w.heap.size + 2 := e; show w.heap.size ≤ i; omega); obtain ⟨b0, b1⟩ := HKD.out _ W2 hkw (by have := HBB.out; show ¬ w.heap.size ≤ bb; omega); obtain ⟨⟨k0, k1, k2, k3, k4⟩, k5, k6, k7, k8⟩ := HXC.out _ W2 hkw (by have := HXB.out; show ¬ w.heap.size ≤ xb; omega); have hcv := HNM.out _ W2 hkw (fun k hk => by show ¬ w.heap.size ≤ k; omega); go_simp
  simp only [Act.put, List.getElem_toArray, List.getElem_cons_zero, List.getElem_cons_succ, List.setIfInBounds_toArray, List.set_cons_zero, List.set_cons_succ]
  refine wpAnyH_take (i := 30) (v := .slice (some ⟨xb, xo, none⟩) q cc) rfl (by kernel_rfl) (by kernel_rfl) (by kernel_rfl) (fun _ _ _ h => h) (Or.inl ⟨by rfl, ?_⟩) (by assumption) ?_
  · intro W2 hSw; have hkw : Kept (fun k => w.heap.size ≤ k) w W2 := HS3.out.kept.trans hSw (fun _ _ e => e.elim) (fun i hi e => by have e : i = w.heap.size + 2 := e; show w.heap.size ≤ i; omega); obtain ⟨b0, b1⟩ := HKD.out _ W2 hkw (by have := HBB.out; show ¬ w.heap.size ≤ bb; omega); obtain ⟨⟨k0, k1, k2, k3, k4⟩, k5, k6, k7, k8⟩ := HXC.out _ W2 hkw (by have := HXB.out; show ¬ w.heap.size ≤ xb; omega); have hcv := HNM.out _ W2 hkw (fun k hk => by show ¬ w.heap.size ≤ k; omega); go_simp
  simp only [Act.put, List.getElem_toArray, List.getElem_cons_zero, List.getElem_cons_succ, List.setIfInBounds_toArray, List.set_cons_zero, List.set_cons_succ]
  refine wpAnyH_take (i := 31) (v := .pointer (some ⟨xb, xo + 5, none⟩)) rfl (by kernel_rfl) (by kernel_rfl) (by kernel_rfl) (fun _ _ _ h => h) (Or.inl ⟨by rfl, ?_⟩) (by assumption) ?_
  · intro W2 hSw; have hkw : Kept (fun k => w.heap.size ≤ k) w W2 := HS3.out.kept.trans hSw (fun _ _ e => e.elim) (fun i hi e => by have e : i = w.heap.size + 2 := e; show w.heap.size ≤ i; omega); obtain ⟨b0, b1⟩ := HKD.out _ W2 hkw (by have := HBB.out; show ¬ w.heap.size ≤ bb; omega); obtain ⟨⟨k0, k1, k2, k3, k4⟩, k5, k6, k7, k8⟩ := HXC.out _ W2 hkw (by have := HXB.out; show ¬ w.heap.size ≤ xb; omega); have hcv := HNM.out _ W2 hkw (fun k hk => by show ¬ w.heap.size ≤ k; omega); go_simp
  simp only [Act.put, List.getElem_toArray, List.getElem_cons_zero, List.getElem_cons_succ, List.setIfInBounds_toArray, List.set_cons_zero, List.set_cons_succ]
  refine wpAnyH_take (i := 32) (v := .int .u8 y5) rfl (by kernel_rfl) (by kernel_rfl) (by kernel_rfl) (fun _ _ _ h => h) (Or.inl ⟨by rfl, ?_⟩) (by assumption) ?_
  · intro W2 hSw; have hkw : Kept (fun k => w.heap.size ≤ k) w W2 := HS3.out.kept.trans hSw (fun _ _ e => e.elim) (fun i hi e => by have e : i = w.heap.size + 2 := e; show w.heap.size ≤ i; omega); obtain ⟨b0, b1⟩ := HKD.out _ W2 hkw (by have := HBB.out; show ¬ w.heap.size ≤ bb; omega); obtain ⟨⟨k0, k1, k2, k3, k4⟩, k5, k6, k7, k8⟩ := HXC.out _ W2 hkw (by have := HXB.out; show ¬ w.heap.size ≤ xb; omega); have hcv := HNM.out _ W2 hkw (fun k hk => by show ¬ w.heap.size ≤ k; omega); go_simp
  simp only [Act.put, List.getElem_toArray, List.getElem_cons_zero, List.getElem_cons_succ, List.setIfInBounds_toArray, List.set_cons_zero, List.set_cons_succ]
  refine wpAnyH_take (i := 33) (v := .int .i64 y5) rfl (by kernel_rfl) (by kernel_rfl) (by kernel_rfl) (fun _ _ _ h => h) (Or.inl ⟨by rfl, ?_⟩) (by assumption) ?_
  · intro W2 hSw; have hkw : Kept (fun k => w.heap.size ≤ k) w W2 := HS3.out.kept.trans hSw (fun _ _ e => e.elim) (fun i hi e => by have e : i = w.heap.size + 2 := e; show w.heap.size ≤ i; omega); obtain ⟨b0, b1⟩ := HKD.out _ W2 hkw (by have := HBB.out; show ¬ w.heap.size ≤ bb; omega); obtain ⟨⟨k0, k1, k2, k3, k4⟩, k5, k6, k7, k8⟩ := HXC.out _ W2 hkw (by have := HXB.out; show ¬ w.heap.size ≤ xb; omega); have hcv := HNM.out _ W2 hkw (fun k hk => by show ¬ w.heap.size ≤ k; omega); go_simp
  simp only [Act.put, List.getElem_toArray, List.getElem_cons_zero, List.getElem_cons_succ, List.setIfInBounds_toArray, List.set_cons_zero, List.set_cons_succ]
  refine wpAnyH_take (i := 34) (v := .slice (some ⟨xb, xo, none⟩) q cc) rfl (by kernel_rfl) (by kernel_rfl) (by kernel_rfl) (fun _ _ _ h => h) (Or.inl ⟨by rfl, ?_⟩) (by assumption) ?_
  · intro W2 hSw; have hkw : Kept (fun k => w.heap.size ≤ k) w W2 := HS3.out.kept.trans hSw (fun _ _ e => e.elim) (fun i hi e => by have e : i = w.heap.size + 2 := e; show w.heap.size ≤ i; omega); obtain ⟨b0, b1⟩ := HKD.out _ W2 hkw (by have := HBB.out; show ¬ w.heap.size ≤ bb; omega); obtain ⟨⟨k0, k1, k2, k3, k4⟩, k5, k6, k7, k8⟩ := HXC.out _ W2 hkw (by have := HXB.out; show ¬ w.heap.size ≤ xb; omega); have hcv := HNM.out _ W2 hkw (fun k hk => by show ¬ w.heap.size ≤ k; omega); go_simp
  simp only [Act.put, List.getElem_toArray, List.getElem_cons_zero, List.getElem_cons_succ, List.setIfInBounds_toArray, List.set_cons_zero, List.set_cons_succ]
  refine wpAnyH_take (i := 35) (v := .pointer (some ⟨xb, xo + 6, none⟩)) rfl (by kernel_rfl) (by kernel_rfl) (by kernel_rfl) (fun _ _ _ h => h) (Or.inl ⟨by rfl, ?_⟩) (by assumption) ?_
  · intro W2 hSw; have hkw : Kept (fun k => w.heap.size ≤ k) w W2 := HS3.out.kept.trans hSw (fun _ _ e => e.elim) (fun i hi e => by have e : i = w.heap.size + 2 := e; show w.heap.size ≤ i; omega); obtain ⟨b0, b1⟩ := HKD.out _ W2 hkw (by have := HBB.out; show ¬ w.heap.size ≤ bb; omega); obtain ⟨⟨k0, k1, k2, k3, k4⟩, k5, k6, k7, k8⟩ := HXC.out _ W2 hkw (by have := HXB.out; show ¬ w.heap.size ≤ xb; omega); have hcv := HNM.out _ W2 hkw (fun k hk => by show ¬ w.heap.size ≤ k; omega); go_simp
  simp only [Act.put, List.getElem_toArray, List.getElem_cons_zero, List.getElem_cons_succ, List.setIfInBounds_toArray, List.set_cons_zero, List.set_cons_succ]
  refine wpAnyH_take (i := 36) (v := .int .u8 y6) rfl (by kernel_rfl) (by kernel_rfl) (by kernel_rfl) (fun _ _ _ h => h) (Or.inl ⟨by rfl, ?_⟩) (by assumption) ?_
  · intro W2 hSw; have hkw : Kept (fun k => w.heap.size ≤ k) w W2 := HS3.out.kept.trans hSw (fun _ _ e => e.elim) (fun i hi e => by have e : i = w.heap.size + 2 := e; show w.heap.size ≤ i; omega); obtain ⟨b0, b1⟩ := HKD.out _ W2 hkw (by have := HBB.out; show ¬ w.heap.size ≤ bb; omega); obtain ⟨⟨k0, k1, k2, k3, k4⟩, k5, k6, k7, k8⟩ := HXC.out _ W2 hkw (by have := HXB.out; show ¬ w.heap.size ≤ xb; omega); have hcv := HNM.out _ W2 hkw (fun k hk => by show ¬ w.heap.size ≤ k; omega); go_simp
  simp only [Act.put, List.getElem_toArray, List.getElem_cons_zero, List.getElem_cons_succ, List.setIfInBounds_toArray, List.set_cons_zero, List.set_cons_succ]
  refine wpAnyH_take (i := 37) (v := .int .i64 y6) rfl (by kernel_rfl) (by kernel_rfl) (by kernel_rfl) (fun _ _ _ h => h) (Or.inl ⟨by rfl, ?_⟩) (by assumption) ?_
  · intro W2 hSw; have hkw : Kept (fun k => w.heap.size ≤ k) w W2 := HS3.out.kept.trans hSw (fun _ _ e => e.elim) (fun i hi e => by have e : i = w.heap.size + 2 := e; show w.heap.size ≤ i; omega); obtain ⟨b0, b1⟩ := HKD.out _ W2 hkw (by have := HBB.out; show ¬ w.heap.size ≤ bb; omega); obtain ⟨⟨k0, k1, k2, k3, k4⟩, k5, k6, k7, k8⟩ := HXC.out _ W2 hkw (by have := HXB.out; show ¬ w.heap.size ≤ xb; omega); have hcv := HNM.out _ W2 hkw (fun k hk => by show ¬ w.heap.size ≤ k; omega); go_simp
  simp only [Act.put, List.getElem_toArray, List.getElem_cons_zero, List.getElem_cons_succ, List.setIfInBounds_toArray, List.set_cons_zero, List.set_cons_succ]
  refine wpAnyH_take (i := 38) (v := .slice (some ⟨xb, xo, none⟩) q cc) rfl (by kernel_rfl) (by kernel_rfl) (by kernel_rfl) (fun _ _ _ h => h) (Or.inl ⟨by rfl, ?_⟩) (by assumption) ?_
  · intro W2 hSw; have hkw : Kept (fun k => w.heap.size ≤ k) w W2 := HS3.out.kept.trans hSw (fun _ _ e => e.elim) (fun i hi e => by have e : i = w.heap.size + 2 := e; show w.heap.size ≤ i; omega); obtain ⟨b0, b1⟩ := HKD.out _ W2 hkw (by have := HBB.out; show ¬ w.heap.size ≤ bb; omega); obtain ⟨⟨k0, k1, k2, k3, k4⟩, k5, k6, k7, k8⟩ := HXC.out _ W2 hkw (by have := HXB.out; show ¬ w.heap.size ≤ xb; omega); have hcv := HNM.out _ W2 hkw (fun k hk => by show ¬ w.heap.size ≤ k; omega); go_simp
  simp only [Act.put, List.getElem_toArray, List.getElem_cons_zero, List.getElem_cons_succ, List.setIfInBounds_toArray, List.set_cons_zero, List.set_cons_succ]
  refine wpAnyH_take (i := 39) (v := .pointer (some ⟨xb, xo + 7, none⟩)) rfl (by kernel_rfl) (by kernel_rfl) (by kernel_rfl) (fun _ _ _ h => h) (Or.inl ⟨by rfl, ?_⟩) (by assumption) ?_
  · intro W2 hSw; have hkw : Kept (fun k => w.heap.size ≤ k) w W2 := HS3.out.kept.trans hSw (fun _ _ e => e.elim) (fun i hi e => by have e : i = w.heap.size + 2 := e; show w.heap.size ≤ i; omega); obtain ⟨b0, b1⟩ := HKD.out _ W2 hkw (by have := HBB.out; show ¬ w.heap.size ≤ bb; omega); obtain ⟨⟨k0, k1, k2, k3, k4⟩, k5, k6, k7, k8⟩ := HXC.out _ W2 hkw (by have := HXB.out; show ¬ w.heap.size ≤ xb; omega); have hcv := HNM.out _ W2 hkw (fun k hk => by show ¬ w.heap.size ≤ k; omega); go_simp
  simp only [Act.put, List.getElem_toArray, List.getElem_cons_zero, List.getElem_cons_succ, List.setIfInBounds_toArray, List.set_cons_zero, List.set_cons_succ]
  refine wpAnyH_take (i := 40) (v := .int .u8 y7) rfl (by kernel_rfl) (by kernel_rfl) (by kernel_rfl) (fun _ _ _ h => h) (Or.inl ⟨by rfl, ?_⟩) (by assumption) ?_
  · intro W2 hSw; have hkw : Kept (fun k => w.heap.size ≤ k) w W2 := HS3.out.kept.trans hSw (fun _ _ e => e.elim) (fun i hi e => by have e : i = w.heap.size + 2 := e; show w.heap.size ≤ i; omega); obtain ⟨b0, b1⟩ := HKD.out _ W2 hkw (by have := HBB.out; show ¬ w.heap.size ≤ bb; omega); obtain ⟨⟨k0, k1, k2, k3, k4⟩, k5, k6, k7, k8⟩ := HXC.out _ W2 hkw (by have := HXB.out; show ¬ w.heap.size ≤ xb; omega); have hcv := HNM.out _ W2 hkw (fun k hk => by show ¬ w.heap.size ≤ k; omega); go_simp
  simp only [Act.put, List.getElem_toArray, List.getElem_cons_zero, List.getElem_cons_succ, List.setIfInBounds_toArray, List.set_cons_zero, List.set_cons_succ]
  refine wpAnyH_take (i := 41) (v := .int .i64 y7) rfl (by kernel_rfl) (by kernel_rfl) (by kernel_rfl) (fun _ _ _ h => h) (Or.inl ⟨by rfl, ?_⟩) (by assumption) ?_
  · intro W2 hSw; have hkw : Kept (fun k => w.heap.size ≤ k) w W2 := HS3.out.kept.trans hSw (fun _ _ e => e.elim) (fun i hi e => by have e : i = w.heap.size + 2 := e; show w.heap.size ≤ i; omega); obtain ⟨b0, b1⟩ := HKD.out _ W2 hkw (by have := HBB.out; show ¬ w.heap.size ≤ bb; omega); obtain ⟨⟨k0, k1, k2, k3, k4⟩, k5, k6, k7, k8⟩ := HXC.out _ W2 hkw (by have := HXB.out; show ¬ w.heap.size ≤ xb; omega); have hcv := HNM.out _ W2 hkw (fun k hk => by show ¬ w.heap.size ≤ k; omega); go_simp
  simp only [Act.put, List.getElem_toArray, List.getElem_cons_zero, List.getElem_cons_succ, List.setIfInBounds_toArray, List.set_cons_zero, List.set_cons_succ]
  refine wpAnyH_take (i := 42) (v := .slice (some ⟨xb, xo, none⟩) q cc) rfl (by kernel_rfl) (by kernel_rfl) (by kernel_rfl) (fun _ _ _ h => h) (Or.inl ⟨by rfl, ?_⟩) (by assumption) ?_
  · intro W2 hSw; have hkw : Kept (fun k => w.heap.size ≤ k) w W2 := HS3.out.kept.trans hSw (fun _ _ e => e.elim) (fun i hi e => by have e : i = w.heap.size + 2 := e; show w.heap.size ≤ i; omega); obtain ⟨b0, b1⟩ := HKD.out _ W2 hkw (by have := HBB.out; show ¬ w.heap.size ≤ bb; omega); obtain ⟨⟨k0, k1, k2, k3, k4⟩, k5, k6, k7, k8⟩ := HXC.out _ W2 hkw (by have := HXB.out; show ¬ w.heap.size ≤ xb; omega); have hcv := HNM.out _ W2 hkw (fun k hk => by show ¬ w.heap.size ≤ k; omega); go_simp
  simp only [Act.put, List.getElem_toArray, List.getElem_cons_zero, List.getElem_cons_succ, List.setIfInBounds_toArray, List.set_cons_zero, List.set_cons_succ]
  refine wpAnyH_take (i := 43) (v := .pointer (some ⟨xb, xo + 8, none⟩)) rfl (by kernel_rfl) (by kernel_rfl) (by kernel_rfl) (fun _ _ _ h => h) (Or.inl ⟨by rfl, ?_⟩) (by assumption) ?_
  · intro W2 hSw; have hkw : Kept (fun k => w.heap.size ≤ k) w W2 := HS3.out.kept.trans hSw (fun _ _ e => e.elim) (fun i hi e => by have e : i = w.heap.size + 2 := e; show w.heap.size ≤ i; omega); obtain ⟨b0, b1⟩ := HKD.out _ W2 hkw (by have := HBB.out; show ¬ w.heap.size ≤ bb; omega); obtain ⟨⟨k0, k1, k2, k3, k4⟩, k5, k6, k7, k8⟩ := HXC.out _ W2 hkw (by have := HXB.out; show ¬ w.heap.size ≤ xb; omega); have hcv := HNM.out _ W2 hkw (fun k hk => by show ¬ w.heap.size ≤ k; omega); go_simp
  simp only [Act.put, List.getElem_toArray, List.getElem_cons_zero, List.getElem_cons_succ, List.setIfInBounds_toArray, List.set_cons_zero, List.set_cons_succ]
  refine wpAnyH_take (i := 44) (v := .int .u8 y8) rfl (by kernel_rfl) (by kernel_rfl) (by kernel_rfl) (fun _ _ _ h => h) (Or.inl ⟨by rfl, ?_⟩) (by assumption) ?_
  · intro W2 hSw; have hkw : Kept (fun k => w.heap.size ≤ k) w W2 := HS3.out.kept.trans hSw (fun _ _ e => e.elim) (fun i hi e => by have e : i = w.heap.size + 2 := e; show w.heap.size ≤ i; omega); obtain ⟨b0, b1⟩ := HKD.out _ W2 hkw (by have := HBB.out; show ¬ w.heap.size ≤ bb; omega); obtain ⟨⟨k0, k1, k2, k3, k4⟩, k5, k6, k7, k8⟩ := HXC.out _ W2 hkw (by have := HXB.out; show ¬ w.heap.size ≤ xb; omega); have hcv := HNM.out _ W2 hkw (fun k hk => by show ¬ w.heap.size ≤ k; omega); go_simp
  simp only [Act.put, List.getElem_toArray, List.getElem_cons_zero, List.getElem_cons_succ, List.setIfInBounds_toArray, List.set_cons_zero, List.set_cons_succ]
  refine wpAnyH_take (i := 45) (v := .int .i64 y8) rfl (by kernel_rfl) (by kernel_rfl) (by kernel_rfl) (fun _ _ _ h => h) (Or.inl ⟨by rfl, ?_⟩) (by assumption) ?_
  · intro W2 hSw; have hkw : Kept (fun k => w.heap.size ≤ k) w W2 := HS3.out.kept.trans hSw (fun _ _ e => e.elim) (fun i hi e => by have e : i = w.heap.size + 2 := e; show w.heap.size ≤ i; omega); obtain ⟨b0, b1⟩ := HKD.out _ W2 hkw (by have := HBB.out; show ¬ w.heap.size ≤ bb; omega); obtain ⟨⟨k0, k1, k2, k3, k4⟩, k5, k6, k7, k8⟩ := HXC.out _ W2 hkw (by have := HXB.out; show ¬ w.heap.size ≤ xb; omega); have hcv := HNM.out _ W2 hkw (fun k hk => by show ¬ w.heap.size ≤ k; omega); go_simp
  simp only [Act.put, List.getElem_toArray, List.getElem_cons_zero, List.getElem_cons_succ, List.setIfInBounds_toArray, List.set_cons_zero, List.set_cons_succ]
  refine wpAnyH_take (i := 46) (v := .slice (some ⟨bb, off, none⟩) m cap) rfl (by kernel_rfl) (by kernel_rfl) (by kernel_rfl) (fun _ _ _ h => h) (Or.inl ⟨by rfl, ?_⟩) (by assumption) ?_
  · intro W2 hSw; have hkw : Kept (fun k => w.heap.size ≤ k) w W2 := HS3.out.kept.trans hSw (fun _ _ e => e.elim) (fun i hi e => by have e : i = w.heap.size + 2 := e; show w.heap.size ≤ i; omega); obtain ⟨b0, b1⟩ := HKD.out _ W2 hkw (by have := HBB.out; show ¬ w.heap.size ≤ bb; omega); obtain ⟨⟨k0, k1, k2, k3, k4⟩, k5, k6, k7, k8⟩ := HXC.out _ W2 hkw (by have := HXB.out; show ¬ w.heap.size ≤ xb; omega); have hcv := HNM.out _ W2 hkw (fun k hk => by show ¬ w.heap.size ≤ k; omega); go_simp
  simp only [Act.put, List.getElem_toArray, List.getElem_cons_zero, List.getElem_cons_succ, List.setIfInBounds_toArray, List.set_cons_zero, List.set_cons_succ]
  refine wpAnyH_take (i := 47) (v := .pointer (some ⟨bb, off + 1, none⟩)) rfl (by kernel_rfl) (by kernel_rfl) (by kernel_rfl) (fun _ _ _ h => h) (Or.inl ⟨by rfl, ?_⟩) (by assumption) ?_
  · intro W2 hSw; have hkw : Kept (fun k => w.heap.size ≤ k) w W2 := HS3.out.kept.trans hSw (fun _ _ e => e.elim) (fun i hi e => by have e : i = w.heap.size + 2 := e; show w.heap.size ≤ i; omega); obtain ⟨b0, b1⟩ := HKD.out _ W2 hkw (by have := HBB.out; show ¬ w.heap.size ≤ bb; omega); obtain ⟨⟨k0, k1, k2, k3, k4⟩, k5, k6, k7, k8⟩ := HXC.out _ W2 hkw (by have := HXB.out; show ¬ w.heap.size ≤ xb; omega); have hcv := HNM.out _ W2 hkw (fun k hk => by show ¬ w.heap.size ≤ k; omega); go_simp
  simp only [Act.put, List.getElem_toArray, List.getElem_cons_zero, List.getElem_cons_succ, List.setIfInBounds_toArray, List.set_cons_zero, List.set_cons_succ]
  refine wpAnyH_take (i := 48) (v := .int .u8 rav) rfl (by kernel_rfl) (by kernel_rfl) (by kernel_rfl) (fun _ _ _ h => h) (Or.inl ⟨by rfl, ?_⟩) (by assumption) ?_
  · intro W2 hSw; have hkw : Kept (fun k => w.heap.size ≤ k) w W2 := HS3.out.kept.trans hSw (fun _ _ e => e.elim) (fun i hi e => by have e : i = w.heap.size + 2 := e; show w.heap.size ≤ i; omega); obtain ⟨b0, b1⟩ := HKD.out _ W2 hkw (by have := HBB.out; show ¬ w.heap.size ≤ bb; omega); obtain ⟨⟨k0, k1, k2, k3, k4⟩, k5, k6, k7, k8⟩ := HXC.out _ W2 hkw (by have := HXB.out; show ¬ w.heap.size ≤ xb; omega); have hcv := HNM.out _ W2 hkw (fun k hk => by show ¬ w.heap.size ≤ k; omega); go_simp
  simp only [Act.put, List.getElem_toArray, List.getElem_cons_zero, List.getElem_cons_succ, List.setIfInBounds_toArray, List.set_cons_zero, List.set_cons_succ]
  refine wpAnyH_take (i := 49) (v := .int .i64 rav) rfl (by kernel_rfl) (by kernel_rfl) (by kernel_rfl) (fun _ _ _ h => h) (Or.inl ⟨by rfl, ?_⟩) (by assumption) ?_
  · intro W2 hSw; have hkw : Kept (fun k => w.heap.size ≤ k) w W2 := HS3.out.kept.trans hSw (fun _ _ e => e.elim) (fun i hi e => by have e : i = w.heap.size + 2 := e; show w.heap.size ≤ i; omega); obtain ⟨b0, b1⟩ := HKD.out _ W2 hkw (by have := HBB.out; show ¬ w.heap.size ≤ bb; omega); obtain ⟨⟨k0, k1, k2, k3, k4⟩, k5, k6, k7, k8⟩ := HXC.out _ W2 hkw (by have := HXB.out; show ¬ w.heap.size ≤ xb; omega); have hcv := HNM.out _ W2 hkw (fun k hk => by show ¬ w.heap.size ≤ k; omega); go_simp
  simp only [Act.put, List.getElem_toArray, List.getElem_cons_zero, List.getElem_cons_succ, List.setIfInBounds_toArray, List.set_cons_zero, List.set_cons_succ]
  refine wpAnyH_take (i := 50) (v := .agg #[.string (strOf nm), .int .i64 kdv, .int .i64 y0, .int .i64 y1, .int .i64 y2, .int .i64 y3, .int .i64 y4, .int .i64 y5, .int .i64 y6, .int .i64 y7, .int .i64 y8, .slice none 0 0, .slice none 0 0, .int .i64 rav]) rfl (by kernel_rfl) (by kernel_rfl) (by kernel_rfl) (fun _ _ _ h => h) (Or.inl ⟨by rfl, ?_⟩) (by assumption) ?_
  · intro W2 hSw; have hkw : Kept (fun k => w.heap.size ≤ k) w W2 := HS3.out.kept.trans hSw (fun _ _ e => e.elim) (fun i hi e => by have e : i = w.heap.size + 2 := e; show w.heap.size ≤ i; omega); obtain ⟨b0, b1⟩ := HKD.out _ W2 hkw (by have := HBB.out; show ¬ w.heap.size ≤ bb; omega); obtain ⟨⟨k0, k1, k2, k3, k4⟩, k5, k6, k7, k8⟩ := HXC.out _ W2 hkw (by have := HXB.out; show ¬ w.heap.size ≤ xb; omega); have hcv := HNM.out _ W2 hkw (fun k hk => by show ¬ w.heap.size ≤ k; omega); go_simp
  simp only [Act.put, List.getElem_toArray, List.getElem_cons_zero, List.getElem_cons_succ, List.setIfInBounds_toArray, List.set_cons_zero, List.set_cons_succ]
  refine wpAnyH_ready (rs := [51]) (by kernel_rfl) (by simp) ?_
  refine AllReadyH.cons rfl (fun K hK => ?_) AllReadyH.nil
  refine step_store_row rfl 46 _ _ rfl (w.heap.size + 2) #[.string (strOf nm), .int .i64 kdv, .int .i64 y0, .int .i64 y1, .int .i64 y2, .int .i64 y3, .int .i64 y4, .int .i64 y5, .int .i64 y6, .int .i64 y7, .int .i64 y8, .slice none 0 0, .slice none 0 0, .int .i64 rav] rfl rfl 46 _ (show w3.drew.heap[w.heap.size + 2]? = _ from HS3.out.bx) (by kernel_rfl) rfl (by kernel_rfl) ?_
  refine hK.out _ _ ((Kept.refl (fun k => k = w.heap.size + 2) w3).drew.setRow (fun _ => rfl) _) (fun _ => ?_)
  clear hK K
  try simp only [Act.put, List.getElem_toArray, List.getElem_cons_zero, List.getElem_cons_succ, List.setIfInBounds_toArray, List.set_cons_zero, List.set_cons_succ]
  refine wpAnyH_done (by kernel_rfl) ?_ _
  obtain ⟨w4, hw4⟩ : ∃ w4, w3.drew.setRow (w.heap.size + 2) #[.string (strOf nm), .int .i64 kdv, .int .i64 y0, .int .i64 y1, .int .i64 y2, .int .i64 y3, .int .i64 y4, .int .i64 y5, .int .i64 y6, .int .i64 y7, .int .i64 y8, .slice none 0 0, .slice none 0 0, .int .i64 rav] = w4 := ⟨_, rfl⟩
  have HS4 := Lib.hid (show RcS (⟨nm, kdv, y0, y1, y2, y3, y4, y5, y6, y7, y8, [], [], rav⟩ : Crd) w (.slice none 0 0) (.slice none 0 0) w4 by
    rw [← hw4]
    exact ⟨(setRow_other w3.drew (w.heap.size + 2) w.heap.size _ (by omega)).trans HS3.out.r, (setRow_other w3.drew (w.heap.size + 2) (w.heap.size + 1) _ (by omega)).trans HS3.out.n, setRow_heap w3.drew _ _ _ _ _ (show w3.drew.heap[w.heap.size + 2]? = _ from HS3.out.bx), World.ownsRow_nil _ _ _ _, ⟨[], World.ownsRow_nil _ _ _ _, rfl⟩, HS3.out.kept.drew.setRow (fun hh => absurd hh (by omega)) _⟩)
  rw [hw4]
  clear hw4 c2

  obtain ⟨vt, hvt, hrt⟩ := slice_from (rd_no HV.out HS4.out.kept) (n := A) hAm
  have HMM := Lib.hid hAm
  have HRD := Lib.hid (redec_any (by rw [List.length_drop, HM.out]; omega) (show Rd w4 _ 1 vt (b.drop A).length (bts (b.drop A)) by rw [List.length_drop, HM.out]; exact hrt))
  have HNX := Lib.hid (fun (h : (crdF b).2 = none) => cdec_of_none h)
  clear hrt za hqc zb0 zb1 zb2 zb3 zb4 zb5 zb6 zb7 zb8 zc0 zc1 zc2 zc3 zc4 zc5 zc6 zc7 zc8 x0 x1 x2 x3 x4 x5 x6 x7 x8 xk xr l0 l1 l2 l3 l4 l5 l6 l7 l8 lk lr hvx hvm zd0 zd1 zd2 h32' h12'
  go_wp2_with fail
  refine HRD.out.mono ?_
  rintro e w5 ⟨hk5, ⟨l, k, v5, hed, rfl, hown⟩ | ⟨hed, z, hz, rfl⟩⟩
  rotate_left
  · have HR := Lib.hid (HNX.out (by rw [HCF.out]; exact end_bad _ _ _ _ hed))
    have HS5 := Lib.hid (HS4.out.no hk5)
    have HZ := Lib.hid hz
    have dz : (z != 0) = true := by simpa using hz
    clear hk5 hed hz
    go_wp2_with (first | (with_reducible refine wpList_load_row rfl 46 _ rfl (w.heap.size + 1) rfl 46 _ (0, 0) _ HS5.out.n Tryz.underlying46 rfl (by kernel_rfl) ?_) | (refine wpList_store_row rfl 46 _ _ rfl w.heap.size zCells9 rfl rfl 46 _ HS5.out.r (by kernel_rfl) rfl zc_all9 ?_))
    refine bodyPost_ret (results40 rfl (setRow_heap _ _ _ _ _ _ HS5.out.r) rfl) rfl ?_
    exact ⟨HS5.out.kept.setRow (fun hh => absurd hh (Nat.lt_irrefl _)) _, .inr ⟨HR.out, z, HZ.out, rfl⟩⟩
  obtain ⟨ade, cape, rfl⟩ := owned_slice hown
  obtain ⟨hk1, hk2, hk3, hk4⟩ := edec_le hed
  rw [List.length_drop, HM.out] at hk1
  have HED := Lib.hid hed
  have HLE4 := Lib.hid hk4
  have hs5 := HS4.out.no hk5
  have HOW := Lib.hid (hown.mono (show w.heap.size + 3 ≤ w4.heap.size by have := obj_lt HS4.out.bx; omega))
  have m11 : w5.cell? ⟨w.heap.size + 2, 11, none⟩ = some (.slice none 0 0) := obj_cell hs5.bx 11
  have f11 : w5.frozen? ⟨w.heap.size + 2, 11, none⟩ = false := obj_free hs5.bx 11
  obtain ⟨w6, hw6⟩ : ∃ w6, w5.setCell ⟨w.heap.size + 2, 11, none⟩ (.slice ade l.length cape) = w6 := ⟨_, rfl⟩
  have hkS6 : Kept (fun k => k = w.heap.size + 2) w5 w6 := by rw [← hw6]; exact (Kept.refl (fun k => k = w.heap.size + 2) w5).setCell (p := ⟨w.heap.size + 2, 11, none⟩) (fun _ => rfl) _
  have HS6 := Lib.hid (show RcS (⟨nm, kdv, y0, y1, y2, y3, y4, y5, y6, y7, y8, l, [], rav⟩ : Crd) w (.slice ade l.length cape) (.slice none 0 0) w6 from
    ⟨hkS6.obj hs5.r (by omega), hkS6.obj hs5.n (by omega), by rw [← hw6]; exact hs5.bx.set11 _, HOW.out.kept hkS6 (.of_obj hs5.bx (by decide)), hs5.trgs.kept hkS6 (.of_obj hs5.bx (by decide)) (.of_obj hs5.bx (by decide)), by rw [← hw6]; exact hs5.kept.setCell (p := ⟨w.heap.size + 2, 11, none⟩) (fun h => absurd h (by show ¬ w.heap.size + 2 < w.heap.size; omega)) _⟩)
  obtain ⟨A2, hA2⟩ : ∃ A2, A + k = A2 := ⟨_, rfl⟩
  have q7 : IntKind.i64.wrap ((A : Int) + (k : Int)) = (A2 : Int) := (IntWalk.i64_in _ (by omega)).trans (by omega)
  have hd2 : (b.drop A).drop k = b.drop A2 := by rw [List.drop_drop, hA2]
  have HD2 := Lib.hid hd2
  have e22 : w.heap.size + 1 + 1 = w.heap.size + 2 := rfl
  clear hk5 hed hown hs5 hkS6 hd2
  by_cases h18 : m ≤ A2
  · have h18' : (m : Int) ≤ (A2 : Int) := by omega
    have HR := Lib.hid (HNX.out (by rw [HCF.out]; exact end_nil _ _ _ _ HED.out (by rw [HD2.out]; exact List.drop_eq_nil_of_le (by rw [HM.out]; exact h18))))
    clear hA2
    go_wp2_with (first | (with_reducible refine wpList_load_row rfl 46 _ rfl (w.heap.size + 1) rfl 46 _ (0, 0) _ HS6.out.n Tryz.underlying46 rfl (by kernel_rfl) ?_) | (refine wpList_store_row rfl 46 _ _ rfl w.heap.size zCells9 rfl rfl 46 _ HS6.out.r (by kernel_rfl) rfl zc_all9 ?_))
    refine bodyPost_ret (results40 rfl (setRow_heap _ _ _ _ _ _ HS6.out.r) rfl) rfl ?_
    exact ⟨HS6.out.kept.setRow (fun hh => absurd hh (Nat.lt_irrefl _)) _, .inr ⟨HR.out, _, by decide, rfl⟩⟩
  have h18' : ¬ ((m : Int) ≤ (A2 : Int)) := by omega
  obtain ⟨y, hyb, hyd⟩ := drop_cons (b := b) (i := A2) (by rw [HM.out]; omega)
  have cy := HCE.out A2 y hyb No w6 HS6.out.kept (not_no _)
  obtain ⟨mn, hmn⟩ : ∃ mn, y.toNat = mn := ⟨_, rfl⟩
  have hyl := y.toNat_lt
  rw [hmn] at cy hyl
  have xm : IntKind.i64.wrap (mn : Int) = (mn : Int) := IntWalk.i64_in _ (by omega)
  obtain ⟨A3, hA3⟩ : ∃ A3, A2 + 1 = A3 := ⟨_, rfl⟩
  have q8 : IntKind.i64.wrap ((A2 : Int) + 1) = (A3 : Int) := (IntWalk.i64_in _ (by omega)).trans (by omega)
  have z5 : (A2 : Int) < (m : Int) := by omega
  have z6 : A2 < m := by omega
  have z7 : (0 : Int) ≤ (A2 : Int) := by omega
  by_cases h2 : 2 < mn
  · have h2' : 2 < (mn : Int) := by omega
    have HR := Lib.hid (HNX.out (by rw [HCF.out]; exact end_many _ _ _ _ HED.out (HD2.out.trans hyd) (by omega)))
    clear hA2 hA3 hyb hyd hmn
    go_wp2_with (first | (with_reducible refine wpList_load_row rfl 46 _ rfl (w.heap.size + 1) rfl 46 _ (0, 0) _ HS6.out.n Tryz.underlying46 rfl (by kernel_rfl) ?_) | (refine wpList_store_row rfl 46 _ _ rfl w.heap.size zCells9 rfl rfl 46 _ HS6.out.r (by kernel_rfl) rfl zc_all9 ?_))
    refine bodyPost_ret (results40 rfl (setRow_heap _ _ _ _ _ _ HS6.out.r) rfl) rfl ?_
    exact ⟨HS6.out.kept.setRow (fun hh => absurd hh (Nat.lt_irrefl _)) _, .inr ⟨HR.out, _, by decide, rfl⟩⟩
  have h2' : ¬ (2 < (mn : Int)) := by omega
  have HCF2 := Lib.hid (show crdF b = (⟨nm, kdv, y0, y1, y2, y3, y4, y5, y6, y7, y8, l, (trgF mn (some (b.drop A3))).1, rav⟩, (trgF mn (some (b.drop A3))).2) by
    rw [HCF.out, end_trgs _ _ _ _ HED.out (HD2.out.trans hyd) (by omega), hmn, hA3, HCM.out])
  have HMN := Lib.hid (show mn ≤ 2 by omega)
  have HA3 := Lib.hid (show A3 ≤ m by omega)
  have HM3 := Lib.hid (show 3 ≤ m ∧ m ≤ 1000000 by omega)
  clear hA2 hA3 hyb hyd hmn hk1 hk2 hk3 hk4
  go_wp2_with fail
  clear h2 h18 cy m11 f11 hw6 q7 q8 z5 z6 z7 h18' h2' xm hyl q12 q3 z2 z3 z4
  go_loopw [8, 14] (fun av iv wr => CtRel b m mn (b.drop A3) (fun ts => ⟨nm, kdv, y0, y1, y2, y3, y4, y5, y6, y7, y8, l, ts, rav⟩) w (.slice ade l.length cape) av iv wr) (fun _ iv _ => mn - (intOf iv).toNat)
  case atStart => exact ⟨0, A3, [], .slice none 0 0, rfl, rfl, Nat.zero_le _, HA3.out, HS6.out, rfl, rfl, (fun t h => by cases h), by rw [Nat.sub_zero]; rfl⟩
  case round =>
    obtain ⟨i, at_, ts, tv, rfl, rfl, hi, hat, hs, _, htl, hte, htf⟩ := hrel
    have HS := Lib.hid hs
    have HTF := Lib.hid htf
    have HTL := Lib.hid htl
    have HTE := Lib.hid hte
    obtain ⟨adt, capt, rfl⟩ : ∃ ad cap, tv = .slice ad ts.length cap := by
      obtain ⟨cs, hr, _⟩ := hs.trgs
      exact owned_slice hr
    by_cases hlt : i < mn
    · have hin : (i : Int) < (mn : Int) := by omega
      obtain ⟨p, hp⟩ : ∃ p, mn - i = p + 1 := ⟨mn - i - 1, by omega⟩
      have hm3 := HM3.out
      have hmn2 := HMN.out
      have htn : ∀ h : (trgF (p + 1) (some (b.drop at_))).2 = none, cdec b = none := fun h => HNX.out (by rw [HCF2.out, HTF.out, hp]; exact h)
      have HTN := Lib.hid htn
      by_cases h27 : m ≤ at_
      · have h27' : (m : Int) ≤ (at_ : Int) := by omega
        have HR := Lib.hid (htn (by rw [List.drop_eq_nil_of_le (by rw [HM.out]; exact h27)]; exact trgF_nil p))
        clear hs htf htn hp htl hte
        go_wp2_with (first | (with_reducible refine wpList_load_row rfl 46 _ rfl (w.heap.size + 1) rfl 46 _ (0, 0) _ HS.out.n Tryz.underlying46 rfl (by kernel_rfl) ?_) | (refine wpList_store_row rfl 46 _ _ rfl w.heap.size zCells9 rfl rfl 46 _ HS.out.r (by kernel_rfl) rfl zc_all9 ?_))
        refine bodyPost_ret (results40 rfl (setRow_heap _ _ _ _ _ _ HS.out.r) rfl) rfl ?_
        exact ⟨HS.out.kept.setRow (fun hh => absurd hh (Nat.lt_irrefl _)) _, .inr ⟨HR.out, _, by decide, rfl⟩⟩
      have h27' : ¬ ((m : Int) ≤ (at_ : Int)) := by omega
      obtain ⟨y', hyb, hyd⟩ := drop_cons (b := b) (i := at_) (by rw [HM.out]; omega)
      have HYB := Lib.hid hyb
      obtain ⟨vt2, hvt2, hrt2⟩ := slice_from (rd_no HV.out hs.kept) (n := at_ + 1) (by omega)
      have HRD2 := Lib.hid (redec_any (by rw [List.length_drop, HM.out]; omega) (show Rd wr _ 1 vt2 (b.drop (at_ + 1)).length (bts (b.drop (at_ + 1))) by rw [List.length_drop, HM.out]; exact hrt2))
      have e1 : ((at_ + 1 : Nat) : Int) = (at_ : Int) + 1 := by omega
      rw [e1] at hvt2
      have q9 : IntKind.i64.wrap ((at_ : Int) + 1) = (at_ : Int) + 1 := IntWalk.i64_in _ (by omega)
      have q4 : IntKind.i64.wrap ((i : Int) + 1) = (i : Int) + 1 := IntWalk.i64_in _ (by omega)
      have HI := Lib.hid (And.intro hlt hp)
      have HYD := Lib.hid hyd
      have HATL := Lib.hid (show at_ < m by omega)
      clear hs htf htn hp htl hte hrt2 hlt hyb hyd
      go_wp2_with fail
      refine HRD2.out.mono ?_
      rintro e w7 ⟨hk7, ⟨l', k', v7, hed, rfl, hown⟩ | ⟨hed, z, hz, rfl⟩⟩
      rotate_left
      · have HR := Lib.hid (HTN.out (by rw [HYD.out]; exact trgF_bad p y' hed))
        have HS7 := Lib.hid (HS.out.no hk7)
        have HZ := Lib.hid hz
        have dz : (z != 0) = true := by simpa using hz
        clear hk7 hed hz
        go_wp2_with (first | (with_reducible refine wpList_load_row rfl 46 _ rfl (w.heap.size + 1) rfl 46 _ (0, 0) _ HS7.out.n Tryz.underlying46 rfl (by kernel_rfl) ?_) | (refine wpList_store_row rfl 46 _ _ rfl w.heap.size zCells9 rfl rfl 46 _ HS7.out.r (by kernel_rfl) rfl zc_all9 ?_))
        refine bodyPost_ret (results40 rfl (setRow_heap _ _ _ _ _ _ HS7.out.r) rfl) rfl ?_
        exact ⟨HS7.out.kept.setRow (fun hh => absurd hh (Nat.lt_irrefl _)) _, .inr ⟨HR.out, z, HZ.out, rfl⟩⟩
      obtain ⟨ad7, cp7, rfl⟩ := owned_slice hown
      obtain ⟨hk1, hk2, hk3, hk4⟩ := edec_le hed
      rw [List.length_drop, HM.out] at hk1
      have HED2 := Lib.hid hed
      have HS7 := Lib.hid (HS.out.no hk7)
      have HOW7 := Lib.hid (hown.mono (show w.heap.size + 3 ≤ wr.heap.size by have := obj_lt HS.out.bx; omega))
      have HSZ7 := Lib.hid (show w.heap.size + 3 ≤ w7.heap.size by have := obj_lt HS7.out.bx; omega)
      have HK4 := Lib.hid hk4
      obtain ⟨yv, hyv⟩ : ∃ yv, y'.toNat = yv := ⟨_, rfl⟩
      have HYC := Lib.hid (fun (S : Nat → Prop) (W : World) (hk : Kept S w W) (hS : ¬ S bb) => hyv ▸ HCE.out at_ y' HYB.out S W hk hS)
      have HYV := Lib.hid hyv
      have lyv : yv < 2 ^ 8 := by rw [← hyv]; exact y'.toNat_lt
      have xy : IntKind.i64.wrap (yv : Int) = (yv : Int) := IntWalk.i64_in _ (by omega)
      obtain ⟨n, hn⟩ : ∃ n, at_ + 1 + k' = n := ⟨_, rfl⟩
      have q10 : IntKind.i64.wrap ((at_ : Int) + 1 + (k' : Int)) = (n : Int) := (IntWalk.i64_in _ (by omega)).trans (by omega)
      have z8 : (at_ : Int) < (m : Int) := by omega
      have z9 : at_ < m := by omega
      have z10 : (0 : Int) ≤ (at_ : Int) := by omega
      have HNN := Lib.hid (show n ≤ m ∧ at_ + 1 + k' = n by omega)
      have hown' := HS7.out.trgs
      obtain ⟨tcs, htr, htc⟩ := hown'
      have HTR := Lib.hid htr
      have HTC := Lib.hid htc
      have dzz : ((0 : Int) != 0) = false := rfl
      clear hk7 hed hown htr htc hyv hn h27 h27'
      go_upto_region 32 with fail
      refine wp_region_held_drew (S := (fun W2 => Kept (fun k => w.heap.size + 2 ≤ k) w7 W2)) (by kernel_rfl) (Kept.refl _ w7).drew (fun hHeld => ?_)
      refine wpAnyH_take (i := 0) (v := .pointer (some ⟨w.heap.size + 2, 12, none⟩)) rfl (by kernel_rfl) (by kernel_rfl) (by kernel_rfl) (fun _ _ _ h => h) (Or.inl ⟨by rfl, ?_⟩) (by assumption) ?_
      · intro W2 hSw; skip; go_simp
      simp only [Act.put, List.getElem_toArray, List.getElem_cons_zero, List.getElem_cons_succ, List.setIfInBounds_toArray, List.set_cons_zero, List.set_cons_succ]
      refine wpAnyH_take (i := 2) (v := .slice (some ⟨bb, off, none⟩) m cap) rfl (by kernel_rfl) (by kernel_rfl) (by kernel_rfl) (fun _ _ _ h => h) (Or.inl ⟨by rfl, ?_⟩) (by assumption) ?_
      · intro W2 hSw; skip; go_simp
      simp only [Act.put, List.getElem_toArray, List.getElem_cons_zero, List.getElem_cons_succ, List.setIfInBounds_toArray, List.set_cons_zero, List.set_cons_succ]
      refine wpAnyH_take (i := 3) (v := .int .i64 (at_ : Nat)) rfl (by kernel_rfl) (by kernel_rfl) (by kernel_rfl) (fun _ _ _ h => h) (Or.inl ⟨by rfl, ?_⟩) (by assumption) ?_
      · intro W2 hSw; skip; go_simp
      simp only [Act.put, List.getElem_toArray, List.getElem_cons_zero, List.getElem_cons_succ, List.setIfInBounds_toArray, List.set_cons_zero, List.set_cons_succ]
      refine wpAnyH_take (i := 4) (v := .pointer (some ⟨bb, off + at_, none⟩)) rfl (by kernel_rfl) (by kernel_rfl) (by kernel_rfl) (fun _ _ _ h => h) (Or.inl ⟨by rfl, ?_⟩) (by assumption) ?_
      · intro W2 hSw; skip; go_simp
      simp only [Act.put, List.getElem_toArray, List.getElem_cons_zero, List.getElem_cons_succ, List.setIfInBounds_toArray, List.set_cons_zero, List.set_cons_succ]
      refine wpAnyH_take (i := 5) (v := .int .u8 yv) rfl (by kernel_rfl) (by kernel_rfl) (by kernel_rfl) (fun _ _ _ h => h) (Or.inl ⟨by rfl, ?_⟩) (by assumption) ?_
      · intro W2 hSw; have hkw : Kept (fun k => w.heap.size + 2 ≤ k) w W2 := HS7.out.kept.trans hSw (fun _ _ e => e.elim) (fun i hi e => e); have k0 := HYC.out _ W2 hkw (by have := HBB.out; show ¬ w.heap.size + 2 ≤ bb; omega); go_simp
      simp only [Act.put, List.getElem_toArray, List.getElem_cons_zero, List.getElem_cons_succ, List.setIfInBounds_toArray, List.set_cons_zero, List.set_cons_succ]
      refine wpAnyH_take (i := 6) (v := .int .i64 yv) rfl (by kernel_rfl) (by kernel_rfl) (by kernel_rfl) (fun _ _ _ h => h) (Or.inl ⟨by rfl, ?_⟩) (by assumption) ?_
      · intro W2 hSw; skip; go_simp
      simp only [Act.put, List.getElem_toArray, List.getElem_cons_zero, List.getElem_cons_succ, List.setIfInBounds_toArray, List.set_cons_zero, List.set_cons_succ]
      refine wpAnyH_take (i := 7) (v := .slice ad7 l'.length cp7) rfl (by kernel_rfl) (by kernel_rfl) (by kernel_rfl) (fun _ _ _ h => h) (Or.inl ⟨by rfl, ?_⟩) (by assumption) ?_
      · intro W2 hSw; skip; go_simp
      simp only [Act.put, List.getElem_toArray, List.getElem_cons_zero, List.getElem_cons_succ, List.setIfInBounds_toArray, List.set_cons_zero, List.set_cons_succ]
      refine wpAnyH_take (i := 8) (v := .agg #[.int .i64 yv, .slice ad7 l'.length cp7]) rfl (by kernel_rfl) (by kernel_rfl) (by kernel_rfl) (fun _ _ _ h => h) (Or.inl ⟨by rfl, ?_⟩) (by assumption) ?_
      · intro W2 hSw; skip; go_simp
      simp only [Act.put, List.getElem_toArray, List.getElem_cons_zero, List.getElem_cons_succ, List.setIfInBounds_toArray, List.set_cons_zero, List.set_cons_succ]
      refine wpAnyH_ready (rs := [1, 9]) (by kernel_rfl) (by simp) ?_
      refine AllReadyH.cons rfl (fun K hK => ?_) (AllReadyH.cons rfl (fun K hK => ?_) AllReadyH.nil)
      · have m12 : w7.drew.cell? ⟨w.heap.size + 2, 12, none⟩ = some (.slice adt ts.length capt) := obj_cell HS7.out.bx 12
        go_simp
        refine hK.out _ _ ((Kept.refl (fun k => w.heap.size + 2 ≤ k) w7).drew) (fun _ => ?_)
        clear hK K m12
        try simp only [Act.put, List.getElem_toArray, List.getElem_cons_zero, List.getElem_cons_succ, List.setIfInBounds_toArray, List.set_cons_zero, List.set_cons_succ]
        refine wpAnyH_ready (rs := [9]) (by kernel_rfl) (by simp) ?_
        refine AllReadyH.cons rfl (fun K hK => ?_) AllReadyH.nil
        go_simp
        refine hK.out _ _ (((Kept.refl (fun k => w.heap.size + 2 ≤ k) w7).alloc _).drew) (fun _ => ?_)
        clear hK K
        try simp only [Act.put, List.getElem_toArray, List.getElem_cons_zero, List.getElem_cons_succ, List.setIfInBounds_toArray, List.set_cons_zero, List.set_cons_succ]
        refine wpAnyH_ready (rs := [10]) (by kernel_rfl) (by simp) ?_
        refine AllReadyH.cons rfl (fun K hK => ?_) AllReadyH.nil
        refine step_append_rdo (xv := .slice (some ⟨w7.heap.size, 0, none⟩) 1 1) rfl rfl rfl rfl eiT (owned_kept HTR.out ((Kept.refl No w7).alloc (.cells #[.int .i64 yv, .slice ad7 l'.length cp7] 71)).drew fun _ _ _ => not_no _) (Rd.drew (rd_new2 w7 (.int .i64 yv) (.slice ad7 l'.length cp7) 71)) (by intro u hu; simp at hu; rcases hu with rfl | rfl <;> rfl) (by have := HTL.out; have := HI.out.1; have := HMN.out; omega) (by have := HSZ7.out; show w.heap.size + 3 ≤ (w7.alloc _).heap.size; simp; omega) ?_
        intro v8 w8 hown8 hg8 _
        obtain ⟨ad8, cp8, hv8⟩ := owned_slice hown8
        subst hv8
        have hkg : Kept (fun k => Value.ownBlock (.slice adt ts.length capt) = some k) w7 w8 := ((Kept.refl (fun k => Value.ownBlock (.slice adt ts.length capt) = some k) w7).alloc (.cells #[.int .i64 yv, .slice ad7 l'.length cp7] 71)).drew.grown hg8 (fun k e _ => e)
        have hblt := fun k e => (HTR.out.lt k e).1
        have hbx8 : CObj w8 (w.heap.size + 2) (⟨nm, kdv, y0, y1, y2, y3, y4, y5, y6, y7, y8, l, ts, rav⟩ : Crd) (.slice ade l.length cape) (.slice adt ts.length capt) := hkg.obj HS7.out.bx (fun e => by have := hblt _ e; omega)
        have HBX8 := Lib.hid hbx8
        have HKG := Lib.hid hkg
        have HOWN8 := Lib.hid hown8
        have HG8 := Lib.hid hg8
        clear hown8 hg8 hkg hbx8
        refine hK.out _ _ (HKG.out.mono fun k hk e => by have := hblt k e; show w.heap.size + 2 ≤ k; omega) (fun _ => ?_)
        clear hK K
        try simp only [Act.put, List.getElem_toArray, List.getElem_cons_zero, List.getElem_cons_succ, List.setIfInBounds_toArray, List.set_cons_zero, List.set_cons_succ]
        clear hblt
        refine wpAnyH_ready (rs := [11]) (by kernel_rfl) (by simp) ?_
        refine AllReadyH.cons rfl (fun K hK => ?_) AllReadyH.nil
        go_simp
        refine hK.out _ _ (HKG.out.mono fun k hk e => by have := (HTR.out.lt k e).1; show w.heap.size + 2 ≤ k; omega) (fun _ => ?_)
        clear hK K
        try simp only [Act.put, List.getElem_toArray, List.getElem_cons_zero, List.getElem_cons_succ, List.setIfInBounds_toArray, List.set_cons_zero, List.set_cons_succ]
        refine wpAnyH_ready (rs := [12]) (by kernel_rfl) (by simp) ?_
        refine AllReadyH.cons rfl (fun K hK => ?_) AllReadyH.nil
        have m12 := obj_cell HBX8.out 12
        have f12 := obj_free HBX8.out 12
        go_simp
        refine hK.out _ _ ((HKG.out.mono fun k hk e => by have := (HTR.out.lt k e).1; show w.heap.size + 2 ≤ k; omega).setCell (p := ⟨w.heap.size + 2, 12, none⟩) (fun _ => Nat.le_refl _) _) (fun _ => ?_)
        clear hK K m12 f12
        try simp only [Act.put, List.getElem_toArray, List.getElem_cons_zero, List.getElem_cons_succ, List.setIfInBounds_toArray, List.set_cons_zero, List.set_cons_succ]
        refine wpAnyH_done (by kernel_rfl) ?_ _
        obtain ⟨w9, hw9⟩ : ∃ w9, w8.setCell ⟨w.heap.size + 2, 12, none⟩ (.slice ad8 (ts.length + 1) cp8) = w9 := ⟨_, rfl⟩
        have HS9 := Lib.hid (show RcS (⟨nm, kdv, y0, y1, y2, y3, y4, y5, y6, y7, y8, l, ts ++ [(⟨yv, l'⟩ : Trg)], rav⟩ : Crd) w (.slice ade l.length cape) (.slice ad8 (ts.length + 1) cp8) w9 by
          have hkS : Kept (fun k => k = w.heap.size + 2) w8 w9 := by rw [← hw9]; exact (Kept.refl (fun k => k = w.heap.size + 2) w8).setCell (p := ⟨w.heap.size + 2, 12, none⟩) (fun _ => rfl) _
          have hbl := fun k e => (HTR.out.lt k e).1
          have nE : NoTag w7 50 (fun k => Value.ownBlock (.slice adt ts.length capt) = some k) := .of_row HTR.out (by decide)
          exact ⟨hkS.obj (HKG.out.obj HS7.out.r (fun e => by have := hbl _ e; omega)) (by omega), hkS.obj (HKG.out.obj HS7.out.n (fun e => by have := hbl _ e; omega)) (by omega), by rw [← hw9]; exact HBX8.out.set12 _, (HS7.out.effs.kept HKG.out nE).kept hkS (.of_obj HBX8.out (by decide)),
            ⟨_, owned_kept (show w8.ownsRow (w.heap.size + 3) 71 2 (.slice ad8 (ts.length + 1) cp8) (ts ++ [(⟨yv, l'⟩ : Trg)]).length _ by rw [List.length_append]; exact HOWN8.out) hkS (fun k hk e h => by have h1 : k = w.heap.size + 2 := h; have := (HOWN8.out.lt k e).1; omega), ((HTC.out.kept HKG.out nE).kept hkS (.of_obj HBX8.out (by decide))).snoc (t := (⟨yv, l'⟩ : Trg)) ((HOW7.out.kept HKG.out nE).kept hkS (.of_obj HBX8.out (by decide)))⟩,
            by rw [← hw9]; exact (HS7.out.kept.trans HKG.out (fun _ _ e => e.elim) (fun k hk e => by have := hbl k e; omega)).setCell (p := ⟨w.heap.size + 2, 12, none⟩) (fun h => absurd h (by show ¬ w.heap.size + 2 < w.heap.size; omega)) _⟩)
        rw [hw9]
        clear hw9
        go_wp2_with fail
        have hI := HI.out
        have HRL := Lib.hid (show CtRel b m mn (b.drop A3) (fun ts => ⟨nm, kdv, y0, y1, y2, y3, y4, y5, y6, y7, y8, l, ts, rav⟩) w (.slice ade l.length cape) (.int .i64 (n : Nat)) (.int .i64 ((i : Int) + 1)) w9 from
          ⟨i + 1, n, ts ++ [(⟨yv, l'⟩ : Trg)], .slice ad8 (ts.length + 1) cp8, by go_num, rfl, by omega, HNN.out.1, HS9.out, rfl, by rw [List.length_append, HTL.out]; rfl, fun t ht => by
            rcases List.mem_append.1 ht with h | h
            · exact HTE.out t h
            · obtain rfl : t = _ := List.mem_singleton.1 h
              exact HK4.out, by
            have e3 : mn - (i + 1) = p := by omega
            have e4 : (b.drop (at_ + 1)).drop k' = b.drop n := by rw [List.drop_drop, HNN.out.2]
            rw [HTF.out, hI.2, e3, HYD.out, trgF_good p y' HED2.out, e4, HYV.out]
            simp⟩)
        first
          | (refine ⟨HRL.out, ?_⟩; simp [intOf]; omega)
          | (go_roundw
             case rel => first | exact HRL.out | ((repeat apply Exists.intro); exact ⟨HRL.out, rfl⟩)
             case measure => simp [intOf]; omega)
      · go_simp
        refine hK.out _ _ (((Kept.refl (fun k => w.heap.size + 2 ≤ k) w7).alloc _).drew) (fun _ => ?_)
        clear hK K
        try simp only [Act.put, List.getElem_toArray, List.getElem_cons_zero, List.getElem_cons_succ, List.setIfInBounds_toArray, List.set_cons_zero, List.set_cons_succ]
        refine wpAnyH_ready (rs := [1]) (by kernel_rfl) (by simp) ?_
        refine AllReadyH.cons rfl (fun K hK => ?_) AllReadyH.nil
        have m12 : (w7.alloc (.cells #[.int .i64 yv, .slice ad7 l'.length cp7] 71)).cell? ⟨w.heap.size + 2, 12, none⟩ = some (.slice adt ts.length capt) := obj_cell (obj_alloc HS7.out.bx _) 12
        go_simp
        refine hK.out _ _ (((Kept.refl (fun k => w.heap.size + 2 ≤ k) w7).alloc _).drew) (fun _ => ?_)
        clear hK K m12
        try simp only [Act.put, List.getElem_toArray, List.getElem_cons_zero, List.getElem_cons_succ, List.setIfInBounds_toArray, List.set_cons_zero, List.set_cons_succ]
        refine wpAnyH_ready (rs := [10]) (by kernel_rfl) (by simp) ?_
        refine AllReadyH.cons rfl (fun K hK => ?_) AllReadyH.nil
        refine step_append_rdo (xv := .slice (some ⟨w7.heap.size, 0, none⟩) 1 1) rfl rfl rfl rfl eiT (owned_kept HTR.out ((Kept.refl No w7).alloc (.cells #[.int .i64 yv, .slice ad7 l'.length cp7] 71)).drew fun _ _ _ => not_no _) (Rd.drew (rd_new2 w7 (.int .i64 yv) (.slice ad7 l'.length cp7) 71)) (by intro u hu; simp at hu; rcases hu with rfl | rfl <;> rfl) (by have := HTL.out; have := HI.out.1; have := HMN.out; omega) (by have := HSZ7.out; show w.heap.size + 3 ≤ (w7.alloc _).heap.size; simp; omega) ?_
        intro v8 w8 hown8 hg8 _
        obtain ⟨ad8, cp8, hv8⟩ := owned_slice hown8
        subst hv8
        have hkg : Kept (fun k => Value.ownBlock (.slice adt ts.length capt) = some k) w7 w8 := ((Kept.refl (fun k => Value.ownBlock (.slice adt ts.length capt) = some k) w7).alloc (.cells #[.int .i64 yv, .slice ad7 l'.length cp7] 71)).drew.grown hg8 (fun k e _ => e)
        have hblt := fun k e => (HTR.out.lt k e).1
        have hbx8 : CObj w8 (w.heap.size + 2) (⟨nm, kdv, y0, y1, y2, y3, y4, y5, y6, y7, y8, l, ts, rav⟩ : Crd) (.slice ade l.length cape) (.slice adt ts.length capt) := hkg.obj HS7.out.bx (fun e => by have := hblt _ e; omega)
        have HBX8 := Lib.hid hbx8
        have HKG := Lib.hid hkg
        have HOWN8 := Lib.hid hown8
        have HG8 := Lib.hid hg8
        clear hown8 hg8 hkg hbx8
        refine hK.out _ _ (HKG.out.mono fun k hk e => by have := hblt k e; show w.heap.size + 2 ≤ k; omega) (fun _ => ?_)
        clear hK K
        try simp only [Act.put, List.getElem_toArray, List.getElem_cons_zero, List.getElem_cons_succ, List.setIfInBounds_toArray, List.set_cons_zero, List.set_cons_succ]
        clear hblt
        refine wpAnyH_ready (rs := [11]) (by kernel_rfl) (by simp) ?_
        refine AllReadyH.cons rfl (fun K hK => ?_) AllReadyH.nil
        go_simp
        refine hK.out _ _ (HKG.out.mono fun k hk e => by have := (HTR.out.lt k e).1; show w.heap.size + 2 ≤ k; omega) (fun _ => ?_)
        clear hK K
        try simp only [Act.put, List.getElem_toArray, List.getElem_cons_zero, List.getElem_cons_succ, List.setIfInBounds_toArray, List.set_cons_zero, List.set_cons_succ]
        refine wpAnyH_ready (rs := [12]) (by kernel_rfl) (by simp) ?_
        refine AllReadyH.cons rfl (fun K hK => ?_) AllReadyH.nil
        have m12 := obj_cell HBX8.out 12
        have f12 := obj_free HBX8.out 12
        go_simp
        refine hK.out _ _ ((HKG.out.mono fun k hk e => by have := (HTR.out.lt k e).1; show w.heap.size + 2 ≤ k; omega).setCell (p := ⟨w.heap.size + 2, 12, none⟩) (fun _ => Nat.le_refl _) _) (fun _ => ?_)
        clear hK K m12 f12
        try simp only [Act.put, List.getElem_toArray, List.getElem_cons_zero, List.getElem_cons_succ, List.setIfInBounds_toArray, List.set_cons_zero, List.set_cons_succ]
        refine wpAnyH_done (by kernel_rfl) ?_ _
        obtain ⟨w9, hw9⟩ : ∃ w9, w8.setCell ⟨w.heap.size + 2, 12, none⟩ (.slice ad8 (ts.length + 1) cp8) = w9 := ⟨_, rfl⟩
        have HS9 := Lib.hid (show RcS (⟨nm, kdv, y0, y1, y2, y3, y4, y5, y6, y7, y8, l, ts ++ [(⟨yv, l'⟩ : Trg)], rav⟩ : Crd) w (.slice ade l.length cape) (.slice ad8 (ts.length + 1) cp8) w9 by
          have hkS : Kept (fun k => k = w.heap.size + 2) w8 w9 := by rw [← hw9]; exact (Kept.refl (fun k => k = w.heap.size + 2) w8).setCell (p := ⟨w.heap.size + 2, 12, none⟩) (fun _ => rfl) _
          have hbl := fun k e => (HTR.out.lt k e).1
          have nE : NoTag w7 50 (fun k => Value.ownBlock (.slice adt ts.length capt) = some k) := .of_row HTR.out (by decide)
          exact ⟨hkS.obj (HKG.out.obj HS7.out.r (fun e => by have := hbl _ e; omega)) (by omega), hkS.obj (HKG.out.obj HS7.out.n (fun e => by have := hbl _ e; omega)) (by omega), by rw [← hw9]; exact HBX8.out.set12 _, (HS7.out.effs.kept HKG.out nE).kept hkS (.of_obj HBX8.out (by decide)),
            ⟨_, owned_kept (show w8.ownsRow (w.heap.size + 3) 71 2 (.slice ad8 (ts.length + 1) cp8) (ts ++ [(⟨yv, l'⟩ : Trg)]).length _ by rw [List.length_append]; exact HOWN8.out) hkS (fun k hk e h => by have h1 : k = w.heap.size + 2 := h; have := (HOWN8.out.lt k e).1; omega), ((HTC.out.kept HKG.out nE).kept hkS (.of_obj HBX8.out (by decide))).snoc (t := (⟨yv, l'⟩ : Trg)) ((HOW7.out.kept HKG.out nE).kept hkS (.of_obj HBX8.out (by decide)))⟩,
            by rw [← hw9]; exact (HS7.out.kept.trans HKG.out (fun _ _ e => e.elim) (fun k hk e => by have := hbl k e; omega)).setCell (p := ⟨w.heap.size + 2, 12, none⟩) (fun h => absurd h (by show ¬ w.heap.size + 2 < w.heap.size; omega)) _⟩)
        rw [hw9]
        clear hw9
        go_wp2_with fail
        have hI := HI.out
        have HRL := Lib.hid (show CtRel b m mn (b.drop A3) (fun ts => ⟨nm, kdv, y0, y1, y2, y3, y4, y5, y6, y7, y8, l, ts, rav⟩) w (.slice ade l.length cape) (.int .i64 (n : Nat)) (.int .i64 ((i : Int) + 1)) w9 from
          ⟨i + 1, n, ts ++ [(⟨yv, l'⟩ : Trg)], .slice ad8 (ts.length + 1) cp8, by go_num, rfl, by omega, HNN.out.1, HS9.out, rfl, by rw [List.length_append, HTL.out]; rfl, fun t ht => by
            rcases List.mem_append.1 ht with h | h
            · exact HTE.out t h
            · obtain rfl : t = _ := List.mem_singleton.1 h
              exact HK4.out, by
            have e3 : mn - (i + 1) = p := by omega
            have e4 : (b.drop (at_ + 1)).drop k' = b.drop n := by rw [List.drop_drop, HNN.out.2]
            rw [HTF.out, hI.2, e3, HYD.out, trgF_good p y' HED2.out, e4, HYV.out]
            simp⟩)
        first
          | (refine ⟨HRL.out, ?_⟩; simp [intOf]; omega)
          | (go_roundw
             case rel => first | exact HRL.out | ((repeat apply Exists.intro); exact ⟨HRL.out, rfl⟩)
             case measure => simp [intOf]; omega)
    · have hin : ¬ ((i : Int) < (mn : Int)) := by omega
      have him : mn - i = 0 := by omega
      have htf2 := HTF.out
      rw [him] at htf2
      have htf3 : trgF mn (some (b.drop A3)) = (ts, some (b.drop at_)) := by rw [htf2]; show (ts ++ [], some (b.drop at_)) = _; rw [List.append_nil]
      have HCD := Lib.hid (show cdec b = if cvalid (⟨nm, kdv, y0, y1, y2, y3, y4, y5, y6, y7, y8, l, ts, rav⟩ : Crd) then some ((⟨nm, kdv, y0, y1, y2, y3, y4, y5, y6, y7, y8, l, ts, rav⟩ : Crd), at_) else none by
        unfold cdec
        rw [HCF2.out, htf3]
        simp only
        rw [List.length_drop, HM.out, show m - (m - at_) = at_ by omega])
      have HSM := Lib.hid (show Sm (⟨nm, kdv, y0, y1, y2, y3, y4, y5, y6, y7, y8, l, ts, rav⟩ : Crd) from ⟨by have := HND.out; show nm.length ≤ _; omega, by have := HLE4.out; show l.length ≤ _; omega, by have := HTL.out; have := HMN.out; show ts.length ≤ _; omega, fun t ht => by have := HTE.out t ht; omega, by have := HY8.out; show _ ≤ (y8 : Int); omega, by have := HY8.out; show (y8 : Int) ≤ _; omega⟩)
      have HVA := Lib.hid (rcvalid_any HSM.out (⟨hs.effs.at, (OwnT.at hs.trgs)⟩ : CrdAt wr _ _ _ _))
      obtain ⟨cv, hcv⟩ : ∃ cv, cvalid (⟨nm, kdv, y0, y1, y2, y3, y4, y5, y6, y7, y8, l, ts, rav⟩ : Crd) = cv := ⟨_, rfl⟩
      rw [hcv] at HVA HCD
      have HOB := Lib.hid (show wr.heap[w.heap.size + 2]? = some (.cells #[.string (strOf nm), .int .i64 kdv, .int .i64 y0, .int .i64 y1, .int .i64 y2, .int .i64 y3, .int .i64 y4, .int .i64 y5, .int .i64 y6, .int .i64 y7, .int .i64 y8, .slice ade l.length cape, .slice adt ts.length capt, .int .i64 rav] 46 (0, 0)) from hs.bx)
      clear hs htf htf2 htf3 him htl hte hcv hlt
      go_wp2_with (with_reducible refine wpList_load_row rfl 46 _ rfl (w.heap.size + 2) rfl 46 _ (0, 0) _ HOB.out Tryz.underlying46 rfl (by kernel_rfl) ?_)
      refine HVA.out.mono ?_
      rintro e w7 ⟨rfl, hk7⟩
      have HS7 := Lib.hid (HS.out.no hk7)
      have HOB7 := Lib.hid (hk7.obj HOB.out (not_no _))
      clear hk7
      cases cv
      · have HR := Lib.hid (show cdec b = none by rw [HCD.out]; rfl)
        go_wp2_with (first | (with_reducible refine wpList_load_row rfl 46 _ rfl (w.heap.size + 1) rfl 46 _ (0, 0) _ HS7.out.n Tryz.underlying46 rfl (by kernel_rfl) ?_) | (refine wpList_store_row rfl 46 _ _ rfl w.heap.size zCells9 rfl rfl 46 _ HS7.out.r (by kernel_rfl) rfl zc_all9 ?_))
        refine bodyPost_ret (results40 rfl (setRow_heap _ _ _ _ _ _ HS7.out.r) rfl) rfl ?_
        exact ⟨HS7.out.kept.setRow (fun hh => absurd hh (Nat.lt_irrefl _)) _, .inr ⟨HR.out, _, by decide, rfl⟩⟩
      · have HR := Lib.hid (show cdec b = some ((⟨nm, kdv, y0, y1, y2, y3, y4, y5, y6, y7, y8, l, ts, rav⟩ : Crd), at_) by rw [HCD.out]; rfl)
        have HALL := Lib.hid (all_oneCell_toArray (crd_one (⟨nm, kdv, y0, y1, y2, y3, y4, y5, y6, y7, y8, l, ts, rav⟩ : Crd) (ev := .slice ade l.length cape) (tv := .slice adt ts.length capt) rfl rfl))
        go_wp2_with (first | (with_reducible refine wpList_load_row rfl 46 _ rfl (w.heap.size + 2) rfl 46 _ (0, 0) _ HOB7.out Tryz.underlying46 rfl (by kernel_rfl) ?_) | (refine wpList_store_row rfl 46 _ _ rfl w.heap.size #[.string (strOf nm), .int .i64 kdv, .int .i64 y0, .int .i64 y1, .int .i64 y2, .int .i64 y3, .int .i64 y4, .int .i64 y5, .int .i64 y6, .int .i64 y7, .int .i64 y8, .slice ade l.length cape, .slice adt ts.length capt, .int .i64 rav] rfl rfl 46 _ HS7.out.r (by kernel_rfl) rfl HALL.out ?_))
        have hkS : Kept (fun k => k = w.heap.size) w7 (w7.setRow w.heap.size #[.string (strOf nm), .int .i64 kdv, .int .i64 y0, .int .i64 y1, .int .i64 y2, .int .i64 y3, .int .i64 y4, .int .i64 y5, .int .i64 y6, .int .i64 y7, .int .i64 y8, .slice ade l.length cape, .slice adt ts.length capt, .int .i64 rav]) := (Kept.refl (fun k => k = w.heap.size) w7).setRow (fun _ => rfl) _
        refine bodyPost_ret (results40 rfl (setRow_heap _ _ _ _ _ _ HS7.out.r) rfl) rfl ?_
        refine ⟨HS7.out.kept.setRow (fun hh => absurd hh (Nat.lt_irrefl _)) _, .inl ⟨_, at_, .slice ade l.length cape, .slice adt ts.length capt, HR.out, rfl, ⟨?_, ?_⟩⟩⟩
        · exact (HS7.out.effs.kept hkS (.of_obj HS7.out.r (by decide))).mono (by omega)
        · exact (HS7.out.trgs.kept hkS (.of_obj HS7.out.r (by decide)) (.of_obj HS7.out.r (by decide))).mono (by omega)
end Go.Proofs.YtclgoilfclmibaaGreatDoor
