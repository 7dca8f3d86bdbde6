/-
  Bracket: a call, made at the code and at the document's model.
-/
import Derived.Test.YtphlpclhmodekaaDoorWalk7
import Derived.Deep.RegionHeld3
set_option linter.unusedVariables false
set_option linter.unusedSimpArgs false
namespace Go.Proofs.YtphlpclhmodekaaDoor
open Go.RowKit Go.Zn
attribute [local go_sem] Oper.semAt_some

/-- behind a call: the bracket that goes on looks like the model -/
def StepPost (k E b g r cap : Nat) (w0 : World) (e : Ending) (w' : World) : Prop :=
  ∃ f b', e = .returned (.tuple #[.pointer (some ⟨b', 0, none⟩), .bool true]) ∧ AS k E f b' g r cap w' ∧ Kept (fun i => i = b ∨ i = r) w0 w' ∧ (b' = b ∨ w0.heap.size ≤ b')
theorem open_champ {k E : Nat} {f : Nat → Nat} (hz : Sz k E) (h : WF k E f) (ho : openL k E f (2 ^ k - 1) = []) : winF k E f (2 ^ k - 2) ≠ -1 := by
  have hp := pow_le' hz.one
  by_cases hc : cntF f (2 ^ k - 1) = 0
  · exact all_won hz h hc _ (by omega)
  · exact (openL_ne hz h hc ho).elim
theorem list_cells4 {l : List Nat} {w0 w : World} {v : Value} (h : Rd w (fun i => w0.heap.size ≤ i) 1 v l.length (ints l)) (h0 : l ≠ []) : ∃ q off cap, v = .slice (some ⟨q, off, none⟩) l.length cap ∧ w0.heap.size ≤ q ∧ ∀ j x, l[j]? = some x → w.cell? ⟨q, off + j, none⟩ = some (.int .i64 (x : Nat)) := by
  obtain ⟨_, hm, h3⟩ := h
  rcases h3 with ⟨_, hn⟩ | ⟨q, off, cap, hv, hc, hb, hx⟩
  · exact (h0 (List.eq_nil_of_length_eq_zero hn)).elim
  · refine ⟨q, off, cap, hv, hb (by rw [ints_len]; exact List.length_pos_iff.mpr h0), fun j x hj => hx j _ ?_⟩
    unfold ints
    rw [List.getElem?_map, hj]
    rfl
set_option maxHeartbeats 4000000 in
theorem step_0 {k E : Nat} {f : Nat → Nat} {b g r cap : Nat} {w : World} (hA : AS k E f b g r cap w) (y z : Int) : Calls Tryd.prog 26 #[.pointer (some ⟨b, 0, none⟩), .pointer (some ⟨g, 0, none⟩), .agg #[.int .i64 0, .int .i64 y, .int .i64 z]] w (StepPost k E b g r cap w) := by
  have hbg := AS.bg hA.bs hA.ms
  have hbr := AS.br hA.bs hA.ms
  have hb := hA.bs.lt
  have hr := hA.ms.rlt
  have hg := hA.ms.glt
  have HB := Lib.hid (fun w (h : BS k E f b w) => rep_b h y z)
  have HM := Lib.hid (fun w (h : MS k E f g r cap w) => rep_m h y z)
  obtain ⟨v, hv⟩ : ∃ v, repV k E f y z = v := ⟨_, rfl⟩
  obtain ⟨f2, hf2⟩ : ∃ f2, repF k E f y z = f2 := ⟨_, rfl⟩
  rw [hv, hf2] at HB HM
  clear hv hf2
  have HA := Lib.hid hA
  obtain ⟨w1, hw1⟩ : ∃ w1, w.alloc (.cells #[.int .i64 0, .int .i64 y, .int .i64 z] 60) = w1 := ⟨_, rfl⟩
  have hh : w1.heap[w.heap.size]? = some (.cells #[.int .i64 0, .int .i64 y, .int .i64 z] 60 (0, 0)) := by rw [← hw1]; exact heap_alloc_new w _
  have hk1 : Kept No w w1 := by rw [← hw1]; exact (Kept.refl No w).alloc _
  have HBB := Lib.hid (hA.no hk1).bs
  have HMM := Lib.hid (hA.no hk1).ms
  have HK1 := Lib.hid (hk1.any (T := fun i => i = b ∨ i = r))
  have c0 : w1.cell? ⟨w.heap.size, 0, none⟩ = some (.int .i64 0) := by rw [obj_cell hh 0]; rfl
  have c1 : w1.cell? ⟨w.heap.size, 1, none⟩ = some (.int .i64 y) := by rw [obj_cell hh 1]; rfl
  have c2 : w1.cell? ⟨w.heap.size, 2, none⟩ = some (.int .i64 z) := by rw [obj_cell hh 2]; rfl
  have HN := Lib.hid (show w.heap.size ≠ b ∧ w.heap.size ≠ r ∧ b ≠ g ∧ b ≠ r ∧ g ≠ r from ⟨by omega, by omega, hbg, hbr, hA.ms.ne⟩)
  clear hA hh hk1 hb hr hg hbg hbr
  go_enter Tryd.func26, Tryd.ntmps26
  go_wp2_with fail
  go_region_held3 (fun w' => w'.cell? ⟨w.heap.size, 1, none⟩ = some (.int .i64 y) ∧ w'.cell? ⟨w.heap.size, 2, none⟩ = some (.int .i64 z)) (first | go_keep | exact ⟨c1, c2⟩)
    (first
      | (go_at_call 13; (with_reducible refine (HB.out _ (by first | exact HBB.out | exact HBB.out.drew)).mono ?_); rintro e9 wz ⟨rfl, hb, hk⟩; have c1 := hk.cell c1 HN.out.1; have c2 := hk.cell c2 HN.out.1; have HBB := Lib.hid hb; have HMM := Lib.hid (by first | exact HMM.out.to hk (fun e => HN.out.2.2.1 e.symm) (fun e => HN.out.2.2.2.1 e.symm) | exact HMM.out.to hk.of_drew (fun e => HN.out.2.2.1 e.symm) (fun e => HN.out.2.2.2.1 e.symm) : MS k E f g r cap wz); have HK1 := Lib.hid (by first | exact HK1.out.and (hk.mono fun i _ e => .inl e) | exact HK1.out.and (hk.of_drew.mono fun i _ e => .inl e) : Kept (fun i => i = b ∨ i = r) w wz); clear hb hk)
      | (go_at_call 24; (with_reducible refine (HM.out _ (by first | exact HMM.out | exact HMM.out.no ((Kept.refl No _).drew))).mono ?_); rintro e9 wz ⟨rfl, hm, hk⟩; have c1 := hk.cell c1 HN.out.2.1; have c2 := hk.cell c2 HN.out.2.1; have HMM := Lib.hid hm; have HBB := Lib.hid (by first | exact HBB.out.to hk (fun e => HN.out.2.2.2.1 e) | exact HBB.out.to hk.of_drew (fun e => HN.out.2.2.2.1 e) : BS k E f2 b wz); have HK1 := Lib.hid (by first | exact HK1.out.and (hk.mono fun i _ e => .inr e) | exact HK1.out.and (hk.of_drew.mono fun i _ e => .inr e) : Kept (fun i => i = b ∨ i = r) w wz); clear hm hk))
  go_wp2_with fail
  go_ret2
  exact ⟨f2, b, rfl, ⟨HBB.out, HMM.out⟩, HK1.out, .inl rfl⟩
set_option maxHeartbeats 4000000 in
theorem step_1 {k E : Nat} {f : Nat → Nat} {b g r cap : Nat} {w : World} (hA : AS k E f b g r cap w) (y z : Int) : Calls Tryd.prog 26 #[.pointer (some ⟨b, 0, none⟩), .pointer (some ⟨g, 0, none⟩), .agg #[.int .i64 1, .int .i64 y, .int .i64 z]] w (StepPost k E b g r cap w) := by
  have hbg := AS.bg hA.bs hA.ms
  have hbr := AS.br hA.bs hA.ms
  have hb := hA.bs.lt
  have hr := hA.ms.rlt
  have hg := hA.ms.glt
  have HB := Lib.hid (fun w (h : BS k E f b w) => un_b h y)
  have HM := Lib.hid (fun w (h : MS k E f g r cap w) => un_m h hA.bs.wf y)
  obtain ⟨v, hv⟩ : ∃ v, unV k E f y = v := ⟨_, rfl⟩
  obtain ⟨f2, hf2⟩ : ∃ f2, unF k E f y = f2 := ⟨_, rfl⟩
  rw [hv, hf2] at HB HM
  clear hv hf2
  have HA := Lib.hid hA
  obtain ⟨w1, hw1⟩ : ∃ w1, w.alloc (.cells #[.int .i64 1, .int .i64 y, .int .i64 z] 60) = w1 := ⟨_, rfl⟩
  have hh : w1.heap[w.heap.size]? = some (.cells #[.int .i64 1, .int .i64 y, .int .i64 z] 60 (0, 0)) := by rw [← hw1]; exact heap_alloc_new w _
  have hk1 : Kept No w w1 := by rw [← hw1]; exact (Kept.refl No w).alloc _
  have HBB := Lib.hid (hA.no hk1).bs
  have HMM := Lib.hid (hA.no hk1).ms
  have HK1 := Lib.hid (hk1.any (T := fun i => i = b ∨ i = r))
  have c0 : w1.cell? ⟨w.heap.size, 0, none⟩ = some (.int .i64 1) := by rw [obj_cell hh 0]; rfl
  have c1 : w1.cell? ⟨w.heap.size, 1, none⟩ = some (.int .i64 y) := by rw [obj_cell hh 1]; rfl
  have c2 : w1.cell? ⟨w.heap.size, 2, none⟩ = some (.int .i64 z) := by rw [obj_cell hh 2]; rfl
  have HN := Lib.hid (show w.heap.size ≠ b ∧ w.heap.size ≠ r ∧ b ≠ g ∧ b ≠ r ∧ g ≠ r from ⟨by omega, by omega, hbg, hbr, hA.ms.ne⟩)
  clear hA hh hk1 hb hr hg hbg hbr
  go_enter Tryd.func26, Tryd.ntmps26
  go_wp2_with fail
  go_region_held3 (fun w' => w'.cell? ⟨w.heap.size, 1, none⟩ = some (.int .i64 y)) (first | go_keep | exact c1)
    (first
      | (go_at_call 14; (with_reducible refine (HB.out _ (by first | exact HBB.out | exact HBB.out.drew)).mono ?_); rintro e9 wz ⟨rfl, hb, hk⟩; have c1 := hk.cell c1 HN.out.1; have HBB := Lib.hid hb; have HMM := Lib.hid (by first | exact HMM.out.to hk (fun e => HN.out.2.2.1 e.symm) (fun e => HN.out.2.2.2.1 e.symm) | exact HMM.out.to hk.of_drew (fun e => HN.out.2.2.1 e.symm) (fun e => HN.out.2.2.2.1 e.symm) : MS k E f g r cap wz); have HK1 := Lib.hid (by first | exact HK1.out.and (hk.mono fun i _ e => .inl e) | exact HK1.out.and (hk.of_drew.mono fun i _ e => .inl e) : Kept (fun i => i = b ∨ i = r) w wz); clear hb hk)
      | (go_at_call 47; (with_reducible refine (HM.out _ (by first | exact HMM.out | exact HMM.out.no ((Kept.refl No _).drew))).mono ?_); rintro e9 wz ⟨rfl, hm, hk⟩; have c1 := hk.cell c1 HN.out.2.1; have HMM := Lib.hid hm; have HBB := Lib.hid (by first | exact HBB.out.to hk (fun e => HN.out.2.2.2.1 e) | exact HBB.out.to hk.of_drew (fun e => HN.out.2.2.2.1 e) : BS k E f2 b wz); have HK1 := Lib.hid (by first | exact HK1.out.and (hk.mono fun i _ e => .inr e) | exact HK1.out.and (hk.of_drew.mono fun i _ e => .inr e) : Kept (fun i => i = b ∨ i = r) w wz); clear hm hk))
  go_wp2_with fail
  go_ret2
  exact ⟨f2, b, rfl, ⟨HBB.out, HMM.out⟩, HK1.out, .inl rfl⟩
set_option maxHeartbeats 4000000 in
theorem step_2n {k E : Nat} {f : Nat → Nat} {b g r cap : Nat} {w : World} (hA : AS k E f b g r cap w) (ho : openL k E f (2 ^ k - 1) = []) (y z : Int) : Calls Tryd.prog 26 #[.pointer (some ⟨b, 0, none⟩), .pointer (some ⟨g, 0, none⟩), .agg #[.int .i64 2, .int .i64 y, .int .i64 z]] w (StepPost k E b g r cap w) := by
  have hbg := AS.bg hA.bs hA.ms
  have hbr := AS.br hA.bs hA.ms
  have hb := hA.bs.lt
  have hr := hA.ms.rlt
  have hg := hA.ms.glt
  have HO := Lib.hid (fun w (h : MS k E f g r cap w) => openlM_any h)
  have HC := Lib.hid (fun w (h : BS k E f b w) => champion_any h)
  rw [ho] at HO
  have hch := open_champ hA.bs.z hA.bs.wf ho
  obtain ⟨v, hv⟩ : ∃ v, winF k E f (2 ^ k - 2) = v := ⟨_, rfl⟩
  rw [hv] at HC hch
  have e1 : (v != -1) = true := by simpa using hch
  clear hv hch ho
  have HA := Lib.hid hA
  obtain ⟨w1, hw1⟩ : ∃ w1, w.alloc (.cells #[.int .i64 2, .int .i64 y, .int .i64 z] 60) = w1 := ⟨_, rfl⟩
  have hh : w1.heap[w.heap.size]? = some (.cells #[.int .i64 2, .int .i64 y, .int .i64 z] 60 (0, 0)) := by rw [← hw1]; exact heap_alloc_new w _
  have hk1 : Kept No w w1 := by rw [← hw1]; exact (Kept.refl No w).alloc _
  have HBB := Lib.hid (hA.no hk1).bs
  have HMM := Lib.hid (hA.no hk1).ms
  have HK1 := Lib.hid (hk1.any (T := fun i => i = b ∨ i = r))
  have c0 : w1.cell? ⟨w.heap.size, 0, none⟩ = some (.int .i64 2) := by rw [obj_cell hh 0]; rfl
  have c1 : w1.cell? ⟨w.heap.size, 1, none⟩ = some (.int .i64 y) := by rw [obj_cell hh 1]; rfl
  have c2 : w1.cell? ⟨w.heap.size, 2, none⟩ = some (.int .i64 z) := by rw [obj_cell hh 2]; rfl
  have HN := Lib.hid (show w.heap.size ≠ b ∧ w.heap.size ≠ r ∧ b ≠ g ∧ b ≠ r ∧ g ≠ r from ⟨by omega, by omega, hbg, hbr, hA.ms.ne⟩)
  clear hA hh hk1 hb hr hg hbg hbr
  go_enter Tryd.func26, Tryd.ntmps26
  go_wp2_with fail
  refine (HO.out _ HMM.out).mono ?_
  rintro e w2 ⟨u, rfl, hrd, hk⟩
  obtain ⟨ad, cap2, rfl⟩ := rd_slice hrd
  have HB2 := Lib.hid (HBB.out.to hk (not_no _))
  have HM2 := Lib.hid (HMM.out.no hk)
  have HK2 := Lib.hid (HK1.out.and hk.any)
  clear hrd hk
  rw [show ([] : List Nat).length = 0 from rfl]
  go_wp2_with fail
  refine (HC.out _ HB2.out).mono ?_
  rintro e w3 ⟨rfl, hk⟩
  have hk := hk.symm
  subst hk
  go_wp2_with fail
  go_ret2
  exact ⟨f, b, rfl, ⟨HB2.out, HM2.out⟩, HK2.out, .inl rfl⟩
set_option maxHeartbeats 4000000 in
theorem step_2 {k E : Nat} {f : Nat → Nat} {b g r cap : Nat} {w : World} (hA : AS k E f b g r cap w) (ho : openL k E f (2 ^ k - 1) ≠ []) (y z : Int) : Calls Tryd.prog 26 #[.pointer (some ⟨b, 0, none⟩), .pointer (some ⟨g, 0, none⟩), .agg #[.int .i64 2, .int .i64 y, .int .i64 z]] w (StepPost k E b g r cap w) := by
  have hbg := AS.bg hA.bs hA.ms
  have hbr := AS.br hA.bs hA.ms
  have hb := hA.bs.lt
  have hr := hA.ms.rlt
  have hg := hA.ms.glt
  have HO := Lib.hid (fun w (h : MS k E f g r cap w) => openlM_any h)
  have HNE := Lib.hid ho
  obtain ⟨L, hL⟩ : ∃ L, (openL k E f (2 ^ k - 1)).length = L := ⟨_, rfl⟩
  have hL0 : 1 ≤ L := by rw [← hL]; exact List.length_pos_iff.mpr ho
  have hL64 : L ≤ 64 := by have := openL_len k E f (2 ^ k - 1); have := hA.bs.z.le; omega
  obtain ⟨U, hU⟩ : ∃ U : Nat, IntKind.u64.wrap y = (U : Int) := by
    have h : 0 ≤ IntKind.u64.wrap y := by rw [IntKind.wrap_u64]; omega
    exact ⟨(IntKind.u64.wrap y).toNat, by omega⟩
  obtain ⟨q, hq⟩ : ∃ q, U % L = q := ⟨_, rfl⟩
  have hqL : q < L := by rw [← hq]; exact Nat.mod_lt _ (by omega)
  obtain ⟨m, hm⟩ : ∃ m, (openL k E f (2 ^ k - 1))[q]? = some m := ⟨_, List.getElem?_eq_getElem (by omega)⟩
  have HLL := Lib.hid hL
  have HMQ := Lib.hid hm
  have e2 : IntKind.u64.wrap (L : Int) = (L : Int) := by rw [IntKind.wrap_u64]; omega
  have e3 : (U : Int) % (L : Int) = (q : Int) := by rw [← hq]; simp
  have e4 : IntKind.i64.wrap (q : Int) = (q : Int) := IntWalk.i64_in _ (by omega)
  have HB := Lib.hid (fun w (h : BS k E f b w) => rep_b h (m : Nat) z)
  have HM := Lib.hid (fun w (h : MS k E f g r cap w) => rep_m h (m : Nat) z)
  obtain ⟨v, hv⟩ : ∃ v, repV k E f (m : Nat) z = v := ⟨_, rfl⟩
  obtain ⟨f2, hf2⟩ : ∃ f2, repF k E f (m : Nat) z = f2 := ⟨_, rfl⟩
  rw [hv, hf2] at HB HM
  clear hv hf2
  have HA := Lib.hid hA
  obtain ⟨w1, hw1⟩ : ∃ w1, w.alloc (.cells #[.int .i64 2, .int .i64 y, .int .i64 z] 60) = w1 := ⟨_, rfl⟩
  have hh : w1.heap[w.heap.size]? = some (.cells #[.int .i64 2, .int .i64 y, .int .i64 z] 60 (0, 0)) := by rw [← hw1]; exact heap_alloc_new w _
  have hk1 : Kept No w w1 := by rw [← hw1]; exact (Kept.refl No w).alloc _
  have HBB := Lib.hid (hA.no hk1).bs
  have HMM := Lib.hid (hA.no hk1).ms
  have HK1 := Lib.hid (hk1.any (T := fun i => i = b ∨ i = r))
  have c0 : w1.cell? ⟨w.heap.size, 0, none⟩ = some (.int .i64 2) := by rw [obj_cell hh 0]; rfl
  have c1 : w1.cell? ⟨w.heap.size, 1, none⟩ = some (.int .i64 y) := by rw [obj_cell hh 1]; rfl
  have c2 : w1.cell? ⟨w.heap.size, 2, none⟩ = some (.int .i64 z) := by rw [obj_cell hh 2]; rfl
  have HN := Lib.hid (show w.heap.size ≠ b ∧ w.heap.size ≠ r ∧ b ≠ g ∧ b ≠ r ∧ g ≠ r from ⟨by omega, by omega, hbg, hbr, hA.ms.ne⟩)
  clear hL hq hm ho
  clear hA hh hk1 hb hr hg hbg hbr
  go_enter Tryd.func26, Tryd.ntmps26
  go_wp2_with fail
  refine (HO.out _ HMM.out).mono ?_
  rintro e w2 ⟨u, rfl, hrd, hk⟩
  obtain ⟨p, off, cap2, rfl, hcell⟩ := list_cells hrd HNE.out
  have c9 := hcell q m HMQ.out
  have HBB := Lib.hid (HBB.out.to hk (not_no _))
  have HMM := Lib.hid (HMM.out.no hk)
  have HK1 := Lib.hid (HK1.out.and hk.any)
  have c1 := hk.cell c1 (not_no _)
  have c2 := hk.cell c2 (not_no _)
  rw [HLL.out]
  clear hrd hk hcell
  go_wp2_with fail
  go_region_held3 (fun w' => w'.cell? ⟨w.heap.size, 2, none⟩ = some (.int .i64 z)) (first | go_keep | exact c2)
    (first
      | (go_at_call 13; (with_reducible refine (HB.out _ (by first | exact HBB.out | exact HBB.out.drew)).mono ?_); rintro e9 wz ⟨rfl, hb, hk⟩; have c2 := hk.cell c2 HN.out.1; have HBB := Lib.hid hb; have HMM := Lib.hid (by first | exact HMM.out.to hk (fun e => HN.out.2.2.1 e.symm) (fun e => HN.out.2.2.2.1 e.symm) | exact HMM.out.to hk.of_drew (fun e => HN.out.2.2.1 e.symm) (fun e => HN.out.2.2.2.1 e.symm) : MS k E f g r cap wz); have HK1 := Lib.hid (by first | exact HK1.out.and (hk.mono fun i _ e => .inl e) | exact HK1.out.and (hk.of_drew.mono fun i _ e => .inl e) : Kept (fun i => i = b ∨ i = r) w wz); clear hb hk)
      | (go_at_call 24; (with_reducible refine (HM.out _ (by first | exact HMM.out | exact HMM.out.no ((Kept.refl No _).drew))).mono ?_); rintro e9 wz ⟨rfl, hm, hk⟩; have c2 := hk.cell c2 HN.out.2.1; have HMM := Lib.hid hm; have HBB := Lib.hid (by first | exact HBB.out.to hk (fun e => HN.out.2.2.2.1 e) | exact HBB.out.to hk.of_drew (fun e => HN.out.2.2.2.1 e) : BS k E f2 b wz); have HK1 := Lib.hid (by first | exact HK1.out.and (hk.mono fun i _ e => .inr e) | exact HK1.out.and (hk.of_drew.mono fun i _ e => .inr e) : Kept (fun i => i = b ∨ i = r) w wz); clear hm hk))
  go_wp2_with fail
  go_ret2
  exact ⟨f2, b, rfl, ⟨HBB.out, HMM.out⟩, HK1.out, .inl rfl⟩
set_option maxHeartbeats 4000000 in
theorem step_3 {k E : Nat} {f : Nat → Nat} {b g r cap : Nat} {w : World} (hA : AS k E f b g r cap w) (hE : Errs w) (y z : Int) : Calls Tryd.prog 26 #[.pointer (some ⟨b, 0, none⟩), .pointer (some ⟨g, 0, none⟩), .agg #[.int .i64 3, .int .i64 y, .int .i64 z]] w (StepPost k E b g r cap w) := by
  have hbg := AS.bg hA.bs hA.ms
  have hbr := AS.br hA.bs hA.ms
  have hb := hA.bs.lt
  have hr := hA.ms.rlt
  have hg := hA.ms.glt
  have hl : (textF k E f).length ≤ 1000 := by
    rw [text_len]
    have := dec_len E (by have := hA.bs.z.e64; omega)
    have := hA.bs.z.le
    omega
  have HT := Lib.hid (fun w (h : BS k E f b w) => text_any h)
  have HP := Lib.hid (fun w (h : Errs w) => (parse_any hl h).mono (R' := fun e w' => Kept No w w' ∧ ∃ b', w.heap.size ≤ b' ∧ BS k E f b' w' ∧ e = .returned (.tuple #[.pointer (some ⟨b', 0, none⟩), .int .i64 0])) fun e w' ⟨hk, h⟩ => ⟨hk, by
    rcases h with ⟨j, D, f9, b', ht2, hb, hB, he⟩ | ⟨_, hno⟩
    · obtain ⟨rfl, rfl, rfl⟩ := text_inj hA.bs.z hA.bs.wf hB.z hB.wf ht2
      exact ⟨b', hb, hB, he⟩
    · exact (hno k E f hA.bs.z hA.bs.wf rfl).elim⟩)
  have HE := Lib.hid (fun w1 (h : Kept No w w1) => hE.no h)
  have HK0 := Lib.hid (Kept.refl No w)
  obtain ⟨s, hs⟩ : ∃ s, strOf (textF k E f) = s := ⟨_, rfl⟩
  rw [hs] at HT HP
  clear hl hE hs
  have HA := Lib.hid hA
  obtain ⟨w1, hw1⟩ : ∃ w1, w.alloc (.cells #[.int .i64 3, .int .i64 y, .int .i64 z] 60) = w1 := ⟨_, rfl⟩
  have hh : w1.heap[w.heap.size]? = some (.cells #[.int .i64 3, .int .i64 y, .int .i64 z] 60 (0, 0)) := by rw [← hw1]; exact heap_alloc_new w _
  have hk1 : Kept No w w1 := by rw [← hw1]; exact (Kept.refl No w).alloc _
  have HBB := Lib.hid (hA.no hk1).bs
  have HMM := Lib.hid (hA.no hk1).ms
  have HK1 := Lib.hid (hk1.any (T := fun i => i = b ∨ i = r))
  have c0 : w1.cell? ⟨w.heap.size, 0, none⟩ = some (.int .i64 3) := by rw [obj_cell hh 0]; rfl
  have c1 : w1.cell? ⟨w.heap.size, 1, none⟩ = some (.int .i64 y) := by rw [obj_cell hh 1]; rfl
  have c2 : w1.cell? ⟨w.heap.size, 2, none⟩ = some (.int .i64 z) := by rw [obj_cell hh 2]; rfl
  have HN := Lib.hid (show w.heap.size ≠ b ∧ w.heap.size ≠ r ∧ b ≠ g ∧ b ≠ r ∧ g ≠ r from ⟨by omega, by omega, hbg, hbr, hA.ms.ne⟩)
  have HKN := Lib.hid hk1
  clear hA hh hk1 hb hr hg hbg hbr
  go_enter Tryd.func26, Tryd.ntmps26
  go_wp2_with fail
  refine (HT.out _ HBB.out).mono ?_
  rintro e w2 ⟨rfl, hk⟩
  have HM2 := Lib.hid (HMM.out.no hk)
  have HK2 := Lib.hid (HKN.out.and hk)
  clear hk
  go_wp2_with fail
  refine (HP.out _ (HE.out _ HK2.out)).mono ?_
  rintro e w3 ⟨hk, b', hb', hB, rfl⟩
  have HM3 := Lib.hid (HM2.out.no hk)
  have HK3 := Lib.hid (HK2.out.and hk)
  have HB3 := Lib.hid hB
  have HW3 := Lib.hid (show w.heap.size ≤ b' by have := HK2.out.size; omega)
  clear hk hb' hB
  go_wp2_with fail
  go_ret2
  exact ⟨f, b', rfl, ⟨HB3.out, HM3.out⟩, HK3.out.any, .inr HW3.out⟩
def CRel (k E b c g r cap L : Nat) (f : Nat → Nat) (q off : Nat) (l : List Nat) (w0 : World) (iv : Value) (wr : World) : Prop :=
  ∃ (i : Nat) (f2 : Nat → Nat), iv = .int .i64 (i : Nat) ∧ i ≤ L ∧ BS k E f2 b wr ∧ BS k E f c wr ∧ MS k E f g r cap wr ∧ Kept (fun i => i = b ∨ i = r) w0 wr ∧ ∀ j x, l[j]? = some x → wr.cell? ⟨q, off + j, none⟩ = some (.int .i64 (x : Nat))
set_option maxHeartbeats 4000000 in
theorem step_4 {k E : Nat} {f : Nat → Nat} {b g r cap : Nat} {w : World} (hA : AS k E f b g r cap w) {x : Int} (x0 : x ≠ 0) (x1 : x ≠ 1) (x2 : x ≠ 2) (x3 : x ≠ 3) (y z : Int) : Calls Tryd.prog 26 #[.pointer (some ⟨b, 0, none⟩), .pointer (some ⟨g, 0, none⟩), .agg #[.int .i64 x, .int .i64 y, .int .i64 z]] w (StepPost k E b g r cap w) := by
  have hbg := AS.bg hA.bs hA.ms
  have hbr := AS.br hA.bs hA.ms
  have hb := hA.bs.lt
  have hr := hA.ms.rlt
  have hg := hA.ms.glt
  have HCP := Lib.hid (fun w (h : BS k E f b w) => copy_any h)
  have HO := Lib.hid (fun w (h : BS k E f b w) => openl_any h)
  have e0 : (x == 0) = false := by simpa using x0
  have e1 : (x == 1) = false := by simpa using x1
  have e2 : (x == 2) = false := by simpa using x2
  have e3 : (x == 3) = false := by simpa using x3
  obtain ⟨l, hll⟩ : ∃ l, openL k E f (2 ^ k - 1) = l := ⟨_, rfl⟩
  have hL64 : l.length ≤ 64 := by rw [← hll]; have := openL_len k E f (2 ^ k - 1); have := hA.bs.z.le; omega
  rw [hll] at HO
  clear x0 x1 x2 x3 hll
  have HA := Lib.hid hA
  obtain ⟨w1, hw1⟩ : ∃ w1, w.alloc (.cells #[.int .i64 x, .int .i64 y, .int .i64 z] 60) = w1 := ⟨_, rfl⟩
  have hh : w1.heap[w.heap.size]? = some (.cells #[.int .i64 x, .int .i64 y, .int .i64 z] 60 (0, 0)) := by rw [← hw1]; exact heap_alloc_new w _
  have hk1 : Kept No w w1 := by rw [← hw1]; exact (Kept.refl No w).alloc _
  have HBB := Lib.hid (hA.no hk1).bs
  have HMM := Lib.hid (hA.no hk1).ms
  have HK1 := Lib.hid (hk1.any (T := fun i => i = b ∨ i = r))
  have c0 : w1.cell? ⟨w.heap.size, 0, none⟩ = some (.int .i64 x) := by rw [obj_cell hh 0]; rfl
  have c1 : w1.cell? ⟨w.heap.size, 1, none⟩ = some (.int .i64 y) := by rw [obj_cell hh 1]; rfl
  have c2 : w1.cell? ⟨w.heap.size, 2, none⟩ = some (.int .i64 z) := by rw [obj_cell hh 2]; rfl
  have HN := Lib.hid (show w.heap.size ≠ b ∧ w.heap.size ≠ r ∧ b ≠ g ∧ b ≠ r ∧ g ≠ r from ⟨by omega, by omega, hbg, hbr, hA.ms.ne⟩)
  clear hA hh hk1 hb hr hg hbg hbr
  go_enter Tryd.func26, Tryd.ntmps26
  go_wp2_with fail
  refine (HCP.out _ HBB.out).mono ?_
  rintro e w2 ⟨c, rfl, hc, hB, hk⟩
  have HB2 := Lib.hid (HBB.out.to hk (not_no _))
  have HC2 := Lib.hid hB
  have HM2 := Lib.hid (HMM.out.no hk)
  have HK2 := Lib.hid (HK1.out.and hk.any)
  have HBC := Lib.hid (show b ≠ c by have := HBB.out.lt; omega)
  have HWC := Lib.hid (show w.heap.size ≤ c by have := HK1.out.size; omega)
  clear hk hB hc
  go_wp2_with fail
  refine (HO.out _ HB2.out).mono ?_
  rintro e w3 ⟨u, rfl, hrd, hk⟩
  have HB3 := Lib.hid (HB2.out.to hk (not_no _))
  have HC3 := Lib.hid (HC2.out.to hk (not_no _))
  have HM3 := Lib.hid (HM2.out.no hk)
  have HK3 := Lib.hid (HK2.out.and hk.any)
  by_cases hn : l = []
  · subst hn
    obtain ⟨ad, cap2, rfl⟩ := rd_slice hrd
    clear hrd hk
    rw [show ([] : List Nat).length = 0 from rfl]
    go_wp2_with fail
    go_loopw [14] (fun iv wr => iv = .int .i64 0 ∧ wr = w3) (fun iv _ => 0)
    case atStart => exact ⟨rfl, rfl⟩
    case round =>
      obtain ⟨rfl, rfl⟩ := hrel
      go_wp2_with fail
      go_ret2
      exact ⟨f, c, rfl, ⟨HC3.out, HM3.out⟩, HK3.out, .inr HWC.out⟩
  · obtain ⟨q, off, cap2, rfl, hwq, hcell⟩ := list_cells4 hrd hn
    obtain ⟨L, hL⟩ : ∃ L, l.length = L := ⟨_, rfl⟩
    have hL1 : 1 ≤ L := by rw [← hL]; exact List.length_pos_iff.mpr hn
    rw [hL] at hL64 hrd ⊢
    have HQ := Lib.hid (show q ≠ b by have h1 := HB2.out.lt; omega)
    have HCE := Lib.hid hcell
    have HLL := Lib.hid hL
    clear hrd hk hcell hn hL hwq
    go_wp2_with fail
    go_loopw [14] (fun iv wr => CRel k E b c g r cap L f q off l w iv wr) (fun iv _ => L - (intOf iv).toNat)
    case atStart => exact ⟨0, f, rfl, Nat.zero_le _, HB3.out, HC3.out, HM3.out, HK3.out, HCE.out⟩
    case round =>
      obtain ⟨i, f2, rfl, hi, hb, hc, hm, hk, hcl⟩ := hrel
      have HBR := Lib.hid hb
      have HCR := Lib.hid hc
      have HMR := Lib.hid hm
      have HKR := Lib.hid hk
      have HCL := Lib.hid hcl
      by_cases hlt : i < L
      · obtain ⟨m, hm⟩ : ∃ m, l[i]? = some m := ⟨_, List.getElem?_eq_getElem (by rw [HLL.out]; exact hlt)⟩
        have c9 := hcl i m hm
        have d1 : decide (i < L) = true := decide_eq_true hlt
        have d1' : decide ((i : Int) < (L : Int)) = true := decide_eq_true (by omega)
        have q4 : IntKind.i64.wrap ((i : Int) + 1) = (i : Int) + 1 := IntWalk.i64_in _ (by omega)
        have HR := Lib.hid (rep_b hb (m : Nat) 1)
        have HI := Lib.hid hlt
        clear hb hc hm hk hcl hlt
        go_wp2_with fail
        refine HR.out.mono ?_
        rintro e w4 ⟨rfl, hb, hk⟩
        have HREL := Lib.hid (show CRel k E b c g r cap L f q off l w (.int .i64 ((i : Int) + 1)) w4 from ⟨i + 1, _, by go_num, by have := HI.out; omega, hb, HCR.out.to hk (fun e => HBC.out e.symm), HMR.out.to hk (fun e => HN.out.2.2.1 e.symm) (fun e => HN.out.2.2.2.1 e.symm), HKR.out.and (hk.mono fun i _ e => .inl e), fun j x hx => hk.cell (HCL.out j x hx) HQ.out⟩)
        clear hb hk
        go_wp2_with fail
        have hI := HI.out
        exact ⟨HREL.out, by simp [intOf]; omega⟩
      · have d1 : decide (i < L) = false := decide_eq_false hlt
        have d1' : decide ((i : Int) < (L : Int)) = false := decide_eq_false (by omega)
        clear hb hc hm hk hcl hlt
        go_wp2_with fail
        go_ret2
        exact ⟨f, c, rfl, ⟨HCR.out, HMR.out⟩, HKR.out, .inr HWC.out⟩
theorem step_any {k E : Nat} {f : Nat → Nat} {b g r cap : Nat} {w : World} (hA : AS k E f b g r cap w) (hE : Errs w) (x y z : Int) : Calls Tryd.prog 26 #[.pointer (some ⟨b, 0, none⟩), .pointer (some ⟨g, 0, none⟩), .agg #[.int .i64 x, .int .i64 y, .int .i64 z]] w (StepPost k E b g r cap w) := by
  by_cases h0 : x = 0
  · subst h0; exact step_0 hA y z
  by_cases h1 : x = 1
  · subst h1; exact step_1 hA y z
  by_cases h2 : x = 2
  · subst h2
    by_cases ho : openL k E f (2 ^ k - 1) = []
    · exact step_2n hA ho y z
    · exact step_2 hA ho y z
  by_cases h3 : x = 3
  · subst h3; exact step_3 hA hE y z
  exact step_4 hA h0 h1 h2 h3 y z
end Go.Proofs.YtphlpclhmodekaaDoor
