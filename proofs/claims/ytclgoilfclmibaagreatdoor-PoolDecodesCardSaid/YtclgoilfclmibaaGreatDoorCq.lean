/-
  Pool: card.Copy.
-/
import Derived.Test.YtclgoilfclmibaaGreatDoorCp
set_option linter.unusedVariables false
set_option linter.unusedSimpArgs false
namespace Go.Proofs.YtclgoilfclmibaaGreatDoor
open Go.RowKit Go.Zn
attribute [local go_sem] Oper.semAt_some

theorem NoTag.of_obj {w : World} {g : Nat} {cs : Array Value} {t t' : TypeId} {fz : Nat × Nat} (h : w.heap[g]? = some (.cells cs t fz)) (hne : t ≠ t') : NoTag w t' (fun k => k = g) := by
  rintro k _ rfl ⟨cs', h'⟩
  rw [h] at h'
  cases h'
  exact hne rfl
/-- a cell of an owned row is written -/
theorem owned_set {w : World} {base e size : Nat} {n g cap : Nat} {xs : List Value} (h : w.ownsRow base e size (.slice (some ⟨g, 0, none⟩) n cap) n xs) {j : Nat} (hj : j < xs.length) (u : Value) : (w.setCell ⟨g, j, none⟩ u).ownsRow base e size (.slice (some ⟨g, 0, none⟩) n cap) n (xs.set j u) := by
  obtain ⟨h1, h2⟩ := h
  refine ⟨by rw [List.length_set]; exact h1, ?_⟩
  rcases h2 with ⟨hv, _⟩ | ⟨g', cap', cur, hv, hg, hh, hnc, hcm, hcs, hx⟩
  · cases hv
  · cases hv
    refine .inr ⟨g, cap, cur.setIfInBounds j u, rfl, hg, obj_store hh j u, hnc, hcm, by simpa using hcs, ?_⟩
    have hjl : j < n * size := by rw [← hx, List.length_take] at hj; omega
    rw [Array.toList_setIfInBounds, List.take_set, hx]
theorem CObj.set11 {w : World} {g : Nat} {c : Crd} {ev tv : Value} (h : CObj w g c ev tv) (u : Value) : CObj (w.setCell ⟨g, 11, none⟩ u) g c u tv := obj_store h 11 u
theorem CObj.set12 {w : World} {g : Nat} {c : Crd} {ev tv : Value} (h : CObj w g c ev tv) (u : Value) : CObj (w.setCell ⟨g, 12, none⟩ u) g c ev u := obj_store h 12 u
/-- a block that holds a card of some kind -/
def CRow (w : World) (g : Nat) : Prop := ∃ cs, w.heap[g]? = some (.cells cs 46 (0, 0)) ∧ cs.size = 14
structure CpL (c : Crd) (B : Nat → Prop) (w : World) (i : Nat) (ev : Value) (adt : Option Addr) (capt : Nat) (W : World) : Prop where
  obj : CObj W w.heap.size c ev (.slice adt c.trgs.length capt)
  res : CRow W (w.heap.size + 1)
  effs : OwnE W (w.heap.size + 2) ev c.effs
  row : ∃ a b, W.ownsRow (w.heap.size + 2) 71 2 (.slice adt c.trgs.length capt) c.trgs.length (a ++ b) ∧ a.length = i * 2 ∧ OwnTC W (w.heap.size + 2) (c.trgs.take i) a ∧ TrgsC W B (c.trgs.drop i) b
  kept : Kept No w W
theorem CRow.kept {S : Nat → Prop} {w w' : World} {g : Nat} (h : CRow w g) (hk : Kept S w w') (hg : ¬ S g) : CRow w' g := by
  obtain ⟨cs, h1, h2⟩ := h
  exact ⟨cs, hk.obj h1 hg, h2⟩
/-- behind the first region -/
theorem cp_start {c : Crd} {B : Nat → Prop} {w W : World} {ev0 tv0 ev : Value} {adt : Option Addr} {capt : Nat} {cs : List Value} (hB : ∀ b, B b → b < w.heap.size) (h0 : CObj W w.heap.size c ev0 tv0) (hr : CRow W (w.heap.size + 1))
    (he : OwnE W (w.heap.size + 2) ev c.effs) (ht : W.ownsRow (w.heap.size + 2) 71 2 (.slice adt c.trgs.length capt) c.trgs.length cs) (htc : TrgsC W B c.trgs cs) (hk : Kept No w W) :
    CpL c B w 0 ev adt capt ((W.setCell ⟨w.heap.size, 11, none⟩ ev).setCell ⟨w.heap.size, 12, none⟩ (.slice adt c.trgs.length capt)) ∧ CpL c B w 0 ev adt capt ((W.setCell ⟨w.heap.size, 12, none⟩ (.slice adt c.trgs.length capt)).setCell ⟨w.heap.size, 11, none⟩ ev) := by
  have gen : ∀ W', CObj W' w.heap.size c ev (.slice adt c.trgs.length capt) → Kept (fun k => k = w.heap.size) W W' → Kept No w W' → CpL c B w 0 ev adt capt W' := by
    intro W' ho hk' hk2
    have nE : NoTag W 50 (fun k => k = w.heap.size) := .of_obj h0 (by decide)
    have nT : NoTag W 71 (fun k => k = w.heap.size) := .of_obj h0 (by decide)
    exact ⟨ho, hr.kept hk' (by omega), he.kept hk' nE, ⟨[], cs, owned_notag ht hk' nT, rfl, rfl, htc.kept hk' fun b _ hb e => by have := hB b hb; omega⟩, hk2⟩
  have hn : ∀ (h : w.heap.size < w.heap.size), No w.heap.size := fun h => by omega
  exact ⟨gen _ ((h0.set11 _).set12 _) (((Kept.refl (fun k => k = w.heap.size) W).setCell (p := ⟨w.heap.size, 11, none⟩) (fun _ => rfl) _).setCell (p := ⟨w.heap.size, 12, none⟩) (fun _ => rfl) _) ((hk.setCell (p := ⟨w.heap.size, 11, none⟩) hn _).setCell (p := ⟨w.heap.size, 12, none⟩) hn _),
    gen _ ((h0.set12 _).set11 _) (((Kept.refl (fun k => k = w.heap.size) W).setCell (p := ⟨w.heap.size, 12, none⟩) (fun _ => rfl) _).setCell (p := ⟨w.heap.size, 11, none⟩) (fun _ => rfl) _) ((hk.setCell (p := ⟨w.heap.size, 12, none⟩) hn _).setCell (p := ⟨w.heap.size, 11, none⟩) hn _)⟩
theorem OwnTC.snoc {w : World} {base : Nat} : ∀ {l : List Trg} {cs : List Value}, OwnTC w base l cs → ∀ {t : Trg} {v : Value}, OwnE w base v t.effs → OwnTC w base (l ++ [t]) (cs ++ [.int .i64 t.when, v])
  | [], _, h, t, v, hv => by
    rw [show _ = [] from h]
    exact ⟨v, [], rfl, hv, rfl⟩
  | x :: l, _, ⟨v', r, h1, h2, h3⟩, t, v, hv => by
    rw [h1]
    exact ⟨v', r ++ [.int .i64 t.when, v], rfl, h2, h3.snoc hv⟩
/-- what the round reads -/
theorem CpL.at {c : Crd} {B : Nat → Prop} {w W : World} {i : Nat} {ev : Value} {adt : Option Addr} {capt : Nat} (h : CpL c B w i ev adt capt W) {t : Trg} (ht : c.trgs[i]? = some t) : ∃ g ov cur, adt = some ⟨g, 0, none⟩ ∧ c.trgs.length ≤ capt ∧ W.heap[g]? = some (.cells cur 71 (0, 0)) ∧ W.cell? ⟨g, i * 2, none⟩ = some (.int .i64 t.when) ∧ W.cell? ⟨g, i * 2 + 1, none⟩ = some ov ∧ EffsAt W B ov t.effs := by
  obtain ⟨a, b, h1, h2, h3, h4⟩ := h.row
  have hlt := (List.getElem?_eq_some_iff.1 ht).1
  have hd : c.trgs.drop i = t :: c.trgs.drop (i + 1) := by
    rw [List.drop_eq_getElem_cons hlt]
    congr 1
    rw [List.getElem?_eq_getElem hlt] at ht
    exact Option.some.inj ht
  rw [hd] at h4
  obtain ⟨ov, r, q1, q2, q3⟩ := h4
  have hr := rd_owned h1
  obtain ⟨_, ⟨hv, hn⟩ | ⟨g, cap, cur, hv, hg, hh, hnc, _⟩⟩ := h1
  · omega
  · cases hv
    obtain ⟨_, _, ⟨_, hz⟩ | ⟨b', off, cap', hv', _, _, hc⟩⟩ := hr
    · omega
    cases hv'
    refine ⟨_, ov, cur, rfl, hnc, hh, ?_, ?_, q2⟩
    · have := hc (i * 2) (.int .i64 t.when) (by rw [List.getElem?_append_right (by omega), h2, Nat.sub_self, q1]; rfl)
      rwa [Nat.zero_add] at this
    · have := hc (i * 2 + 1) ov (by rw [List.getElem?_append_right (by omega), h2, show i * 2 + 1 - i * 2 = 1 by omega, q1]; rfl)
      rwa [Nat.zero_add] at this
theorem cp_round {c : Crd} {B : Nat → Prop} {w W W' : World} {i : Nat} {ev : Value} {g capt : Nat} (h : CpL c B w i ev (some ⟨g, 0, none⟩) capt W) (hB : ∀ b, B b → b < w.heap.size) {t : Trg} (ht : c.trgs[i]? = some t) {base : Nat} (hb : w.heap.size + 2 ≤ base) {v : Value} (hv : OwnE W' base v t.effs) (hk : Kept No W W') :
    CpL c B w (i + 1) ev (some ⟨g, 0, none⟩) capt (W'.setCell ⟨g, i * 2 + 1, none⟩ v) := by
  obtain ⟨a, b, h1, h2, h3, h4⟩ := h.row
  have hlt := (List.getElem?_eq_some_iff.1 ht).1
  have hd : c.trgs.drop i = t :: c.trgs.drop (i + 1) := by
    rw [List.drop_eq_getElem_cons hlt]
    congr 1
    rw [List.getElem?_eq_getElem hlt] at ht
    exact Option.some.inj ht
  rw [hd] at h4
  obtain ⟨ov, r, q1, q2, q3⟩ := h4
  have h1' := owned_kept h1 hk fun _ _ _ => not_no _
  have hgb := h1'.lt g rfl
  have hset := owned_set h1' (j := i * 2 + 1) (by rw [List.length_append, q1, h2]; simp) v
  have hl : (a ++ b).set (i * 2 + 1) v = (a ++ [.int .i64 t.when, v]) ++ r := by
    rw [q1, List.set_append_right _ _ (by omega), h2, show i * 2 + 1 - i * 2 = 1 by omega]
    simp
  rw [hl] at hset
  have hkS : Kept (fun k => k = g) W' (W'.setCell ⟨g, i * 2 + 1, none⟩ v) := (Kept.refl (fun k => k = g) W').setCell (p := ⟨g, i * 2 + 1, none⟩) (fun _ => rfl) _
  have hkS2 : Kept (fun k => k = g) W (W'.setCell ⟨g, i * 2 + 1, none⟩ v) := (hk.any (T := fun k => k = g)).setCell (p := ⟨g, i * 2 + 1, none⟩) (fun _ => rfl) _
  obtain ⟨cur, htag⟩ := owned_tag h1 (k := g) rfl
  obtain ⟨cur', htag'⟩ := owned_tag h1' (k := g) rfl
  refine ⟨hkS2.obj h.obj (by omega), h.res.kept hkS2 (by omega), h.effs.kept hkS2 (.of_obj htag (by decide)), ⟨a ++ [.int .i64 t.when, v], r, hset, by rw [List.length_append, h2]; simp; omega, ?_, ?_⟩, (h.kept.and hk).setCell (p := ⟨g, i * 2 + 1, none⟩) (fun (hh : g < w.heap.size) => by omega) _⟩
  · rw [List.take_add_one, ht]
    exact (h3.kept hkS2 (.of_obj htag (by decide))).snoc ((hv.mono hb).kept hkS (.of_obj htag' (by decide)))
  · exact q3.kept hkS2 fun b _ hb e => by have := hB b hb; omega
structure CpT (B : Nat → Prop) (base : Nat) (l : List Trg) (cs : List Value) (v : Value) (W : World) : Prop where
  row : W.ownsRow base 71 2 v l.length cs
  trgs : TrgsC W B l cs
theorem CpT.no {B : Nat → Prop} {base : Nat} {l : List Trg} {cs : List Value} {v : Value} {W W' : World} (h : CpT B base l cs v W) (hk : Kept No W W') : CpT B base l cs v W' := ⟨owned_kept h.row hk fun _ _ _ => not_no _, h.trgs.no hk⟩
def CqRel (c : Crd) (w : World) (ev : Value) (adt : Option Addr) (capt : Nat) (iv : Value) (wr : World) : Prop := ∃ i : Nat, iv = .int .i64 (i : Nat) ∧ i ≤ c.trgs.length ∧ CpL c (fun b => b < w.heap.size) w i ev adt capt wr
def CopyPost (c : Crd) (w : World) (e : Ending) (w' : World) : Prop := ∃ ev tv, e = .returned (crdV c ev tv) ∧ OwnC w' w.heap.size c ev tv ∧ Kept No w w'
theorem results26 {W : World} {tmps : Array Value} {g : Nat} {cs : Array Value} (ht : tmps.getD 2 undef = .pointer (some ⟨g, 0, none⟩)) (hh : W.heap[g]? = some (.cells cs 46 (0, 0))) (hs : cs.size = 14) :
    (results Tryz.f28 tmps).run Tryz.prog W = .ok (.agg cs) W :=
  results_cell_row (P := Tryz.prog) (p := 2) (ty := 46) rfl tmps W g 46 cs (0, 0) _ ht hh Tryz.underlying46 rfl (by rw [hs]; kernel_rfl)
theorem crd_one (c : Crd) {ev tv : Value} (h1 : ev.oneCell' = true) (h2 : tv.oneCell' = true) : ∀ u ∈ crdCs c ev tv, u.oneCell' = true := by
  intro u hu
  simp only [crdCs, List.mem_cons, List.not_mem_nil, or_false] at hu
  rcases hu with rfl | rfl | rfl | rfl | rfl | rfl | rfl | rfl | rfl | rfl | rfl | rfl | rfl | rfl <;> first | rfl | assumption
set_option maxRecDepth 100000 in
set_option maxHeartbeats 4000000 in
theorem copy_any {c : Crd} (hs : Sm c) {w : World} {B : Nat → Prop} {ev tv : Value} (h : CrdAt w B c ev tv) : Calls Tryz.prog 28 #[crdV c ev tv] w (CopyPost c w) := by
  have h := h.mono (C := fun b => b < w.heap.size) fun b hb _ => hb
  obtain ⟨adt, capt, rfl⟩ := h.trgs.slice
  obtain ⟨ade, cape, rfl⟩ := rd_slice h.effs
  have HCE := Lib.hid (fun w' (hk : Kept No w w') => cloneE_any hs.effs (h.effs.no hk))
  have HCT := Lib.hid (fun w' (hk : Kept No w w') => cloneT_any hs.trgs (h.trgs.no hk))
  have HCL := Lib.hid (fun (t : Trg) (ht : t ∈ c.trgs) v W (hv : EffsAt W (fun b => b < w.heap.size) v t.effs) => cloneE_any (hs.tre t ht) hv)
  obtain ⟨w2, hw2⟩ : ∃ w2, (w.alloc (.cells #[.string (strOf c.name), .int .i64 c.kind, .int .i64 c.o0, .int .i64 c.o1, .int .i64 c.o2, .int .i64 c.o3, .int .i64 c.any, .int .i64 c.makes, .int .i64 c.power, .int .i64 c.tough, .int .i64 c.keys, .slice ade c.effs.length cape, .slice adt c.trgs.length capt, .int .i64 c.rarity] 46)).alloc (.cells #[.string { data := #[] }, .int .i64 0, .int .i64 0, .int .i64 0, .int .i64 0, .int .i64 0, .int .i64 0, .int .i64 0, .int .i64 0, .int .i64 0, .int .i64 0, .slice none 0 0, .slice none 0 0, .int .i64 0] 46) = w2 := ⟨_, rfl⟩
  have ho : CObj w2 w.heap.size c (.slice ade c.effs.length cape) (.slice adt c.trgs.length capt) := by rw [← hw2]; exact obj_alloc (heap_alloc_new w _) _
  have hr : CRow w2 (w.heap.size + 1) := ⟨_, by rw [← hw2]; exact heap_alloc2_new w _ _, rfl⟩
  have hk2 : Kept No w w2 := by rw [← hw2]; exact ((Kept.refl No w).alloc _).alloc _
  have hsz : w2.heap.size = w.heap.size + 2 := by rw [← hw2]; simp
  obtain ⟨m0, m1, m2, m3, m4, m5, m6, m7, m8, m9, m10, m11, m12, m13⟩ := ho.cells
  have f11 : w2.frozen? ⟨w.heap.size, 11, none⟩ = false := obj_free ho 11
  have f12 : w2.frozen? ⟨w.heap.size, 12, none⟩ = false := obj_free ho 12
  have HO := Lib.hid ho
  have HR := Lib.hid hr
  have HK := Lib.hid hk2
  have HSZ := Lib.hid hsz
  have HK2 := Lib.hid (Kept.refl No w2)
  have HCS := Lib.hid hs
  clear ho hr hk2 hsz h m0 m1 m2 m3 m4 m5 m6 m7 m8 m9 m10 m13 hs
  go_enter Tryz.func28, Tryz.ntmps28
  go_wp2_with fail
  go_cut [] from 5 to 12 (fun wx => ∃ ev adt capt, CpL c (fun b => b < w.heap.size) w 0 ev adt capt wx)
  case first =>
    go_region_with (first | (go_at_call 58; (with_reducible refine (HCE.out _ (by first | exact HK.out.and HK2.out | exact (HK.out.and HK2.out).drew)).mono ?_); rintro e9 wz ⟨v9, rfl, hown9, hk9⟩; obtain ⟨ad9, cp9, rfl⟩ := owned_slice hown9; have HEL := Lib.hid (OwnE.mono hown9 (by have := HK2.out.size; have := HSZ.out; simp; omega) : OwnE wz (w.heap.size + 2) _ c.effs); (try (have HTL := Lib.hid (HTL.out.no hk9))); have HK2 := Lib.hid (by first | exact HK2.out.and hk9 | exact HK2.out.and hk9.of_drew : Kept No w2 wz); have m11 : wz.cell? ⟨w.heap.size, 11, none⟩ = some (.slice ade c.effs.length cape) := obj_cell (HO.out.no HK2.out) 11; have m12 : wz.cell? ⟨w.heap.size, 12, none⟩ = some (.slice adt c.trgs.length capt) := obj_cell (HO.out.no HK2.out) 12; have f11 : wz.frozen? ⟨w.heap.size, 11, none⟩ = false := obj_free (HO.out.no HK2.out) 11; have f12 : wz.frozen? ⟨w.heap.size, 12, none⟩ = false := obj_free (HO.out.no HK2.out) 12; clear hown9 hk9) | (go_at_call 59; (with_reducible refine (HCT.out _ (by first | exact HK.out.and HK2.out | exact (HK.out.and HK2.out).drew)).mono ?_); rintro e9 wz ⟨v8, cs8, rfl, hown9, htc9, hk9⟩; obtain ⟨ad8, cp8, rfl⟩ := owned_slice hown9; have HTL := Lib.hid (⟨owned_mono hown9 (by have := HK2.out.size; have := HSZ.out; simp; omega), htc9⟩ : CpT (fun b => b < w.heap.size) (w.heap.size + 2) c.trgs cs8 _ wz); (try (have HEL := Lib.hid (HEL.out.no hk9))); have HK2 := Lib.hid (by first | exact HK2.out.and hk9 | exact HK2.out.and hk9.of_drew : Kept No w2 wz); have m11 : wz.cell? ⟨w.heap.size, 11, none⟩ = some (.slice ade c.effs.length cape) := obj_cell (HO.out.no HK2.out) 11; have m12 : wz.cell? ⟨w.heap.size, 12, none⟩ = some (.slice adt c.trgs.length capt) := obj_cell (HO.out.no HK2.out) 12; have f11 : wz.frozen? ⟨w.heap.size, 11, none⟩ = false := obj_free (HO.out.no HK2.out) 11; have f12 : wz.frozen? ⟨w.heap.size, 12, none⟩ = false := obj_free (HO.out.no HK2.out) 12; clear htc9 hown9 hk9))
    all_goals
      go_wp2_with fail
      go_meet
      first
        | exact ⟨_, _, _, (cp_start (fun b hb => hb) (HO.out.no HK2.out) (HR.out.kept HK2.out (not_no _)) HEL.out HTL.out.row HTL.out.trgs (HK.out.and HK2.out)).1⟩
        | exact ⟨_, _, _, (cp_start (fun b hb => hb) (HO.out.no HK2.out) (HR.out.kept HK2.out (not_no _)) HEL.out HTL.out.row HTL.out.trgs (HK.out.and HK2.out)).2⟩
  case rest =>
    obtain ⟨ev3, adt3, capt3, hcp⟩ := hcut
    obtain ⟨ad3, cp3, rfl⟩ := owned_slice hcp.effs
    have m12 : wc.cell? ⟨w.heap.size, 12, none⟩ = some (.slice adt3 c.trgs.length capt3) := obj_cell hcp.obj 12
    have HP := Lib.hid hcp
    clear hcp HO HR HK HSZ HK2 HCE HCT f11 f12 m11
    obtain ⟨n, hn⟩ : ∃ n, c.trgs.length = n := ⟨_, rfl⟩
    rw [hn] at m12
    have HN := Lib.hid hn
    have hnl : n ≤ 1000000 := by rw [← hn]; exact HCS.out.trgs
    clear hn
    go_wp2_with fail
    go_loopw [16] (fun iv wr => CqRel c w (.slice ad3 c.effs.length cp3) adt3 capt3 iv wr) (fun iv _ => n - (intOf iv).toNat)
    case atStart => exact ⟨0, rfl, Nat.zero_le _, HP.out⟩
    case round =>
      obtain ⟨i, rfl, hi, hp⟩ := hrel
      rw [HN.out] at hi
      clear m12
      by_cases hlt : i < n
      · have hil : i < c.trgs.length := by rw [HN.out]; exact hlt
        obtain ⟨t, ht⟩ : ∃ t, c.trgs[i]? = some t := ⟨_, List.getElem?_eq_getElem hil⟩
        obtain ⟨g, ov, cur, rfl, hcap, hgh, e0, e1, hE⟩ := hp.at ht
        obtain ⟨ado, cpo, rfl⟩ := rd_slice hE
        have m12 : wr.cell? ⟨w.heap.size, 12, none⟩ = some (.slice (some ⟨g, 0, none⟩) n capt3) := by rw [← HN.out]; exact obj_cell hp.obj 12
        have HCE := Lib.hid (fun W (hk : Kept No wr W) => HCL.out t (List.mem_of_getElem? ht) _ W (hE.no hk))
        have HGH := Lib.hid hgh
        have HCR := Lib.hid (fun W' (v : Value) (hv : OwnE W' (w.heap.size + 2) v t.effs) (hk : Kept No wr W') => cp_round hp (fun b hb => hb) ht (Nat.le_refl _) hv hk)
        have HM12 := Lib.hid m12
        have HE1 := Lib.hid e1
        have HSZ := Lib.hid (show w.heap.size + 2 ≤ wr.heap.size by have := block_lt_of_cell e0; have h2 := hp.res; obtain ⟨_, h2, _⟩ := h2; have := obj_lt h2; omega)
        rw [HN.out] at hcap
        have d1 : decide (i < n) = true := decide_eq_true hlt
        have hi0 : (0 : Int) ≤ (i : Int) := by omega
        have hin : (i : Int) < (n : Int) := by omega
        have q4 : IntKind.i64.wrap ((i : Int) + 1) = (i : Int) + 1 := IntWalk.i64_in _ (by omega)
        have HI := Lib.hid hlt
        have hz0 : w.heap.size < wr.heap.size := by have := HSZ.out; omega
        have hz1 : g < wr.heap.size := obj_lt hgh
        clear hp hlt hil ht hE hgh hcap
        go_wp2_with fail
        go_region_with (first | (go_at_call 58; (with_reducible refine (HCE.out _ (by first | exact (Kept.refl No wr).alloc _ | exact ((Kept.refl No wr).alloc _).drew)).mono ?_); rintro e9 wz ⟨v9, rfl, hown9, hk9⟩; obtain ⟨ad9, cp9, rfl⟩ := owned_slice hown9; have HK9 := Lib.hid (by first | exact ((Kept.refl No wr).alloc _).and hk9 | exact ((Kept.refl No wr).alloc _).and hk9.of_drew : Kept No wr wz); have HEL := Lib.hid (OwnE.mono hown9 (by have := HSZ.out; simp; omega) : OwnE wz (w.heap.size + 2) _ t.effs); have m12 := HK9.out.cell HM12.out (not_no _); have e1 := HK9.out.cell HE1.out (not_no _); have f1 : wz.frozen? ⟨g, i * 2 + 1, none⟩ = false := obj_free (HK9.out.obj HGH.out (not_no _)) (i * 2 + 1); clear hown9 hk9))
        all_goals
          go_wp2_with fail
          have hI := HI.out
          exact ⟨⟨i + 1, by go_num, by rw [HN.out]; omega, HCR.out _ _ HEL.out HK9.out⟩, by simp [intOf]; omega⟩
      · have d1 : decide (i < n) = false := decide_eq_false hlt
        have hin : i = n := by omega
        obtain ⟨rs, hrs, hr14⟩ := hp.res
        have HOB : wr.heap[w.heap.size]? = some (.cells #[.string (strOf c.name), .int .i64 c.kind, .int .i64 c.o0, .int .i64 c.o1, .int .i64 c.o2, .int .i64 c.o3, .int .i64 c.any, .int .i64 c.makes, .int .i64 c.power, .int .i64 c.tough, .int .i64 c.keys, .slice ad3 c.effs.length cp3, .slice adt3 c.trgs.length capt3, .int .i64 c.rarity] 46 (0, 0)) := hp.obj
        have HALL := Lib.hid (all_oneCell_toArray (crd_one c (ev := .slice ad3 c.effs.length cp3) (tv := .slice adt3 c.trgs.length capt3) rfl rfl))
        have HP2 := Lib.hid hp
        have HRS := Lib.hid hrs
        have HOB2 := Lib.hid HOB
        have H14 := Lib.hid hr14
        have HIN := Lib.hid hin
        clear hp hlt hin hrs HOB hr14
        go_wp2_with (first | (with_reducible refine wpList_load_row rfl 46 _ rfl w.heap.size rfl 46 _ (0, 0) _ HOB2.out Tryz.underlying46 rfl (by kernel_rfl) ?_) | (refine wpList_store_row rfl 46 _ _ rfl (w.heap.size + 1) #[.string (strOf c.name), .int .i64 c.kind, .int .i64 c.o0, .int .i64 c.o1, .int .i64 c.o2, .int .i64 c.o3, .int .i64 c.any, .int .i64 c.makes, .int .i64 c.power, .int .i64 c.tough, .int .i64 c.keys, .slice ad3 c.effs.length cp3, .slice adt3 c.trgs.length capt3, .int .i64 c.rarity] rfl rfl 46 _ HRS.out (by kernel_rfl) H14.out HALL.out ?_))
        have hS : Kept (fun k => k = w.heap.size + 1) wr (wr.setRow (w.heap.size + 1) #[.string (strOf c.name), .int .i64 c.kind, .int .i64 c.o0, .int .i64 c.o1, .int .i64 c.o2, .int .i64 c.o3, .int .i64 c.any, .int .i64 c.makes, .int .i64 c.power, .int .i64 c.tough, .int .i64 c.keys, .slice ad3 c.effs.length cp3, .slice adt3 c.trgs.length capt3, .int .i64 c.rarity]) := (Kept.refl (fun k => k = w.heap.size + 1) wr).setRow (fun _ => rfl) _
        refine bodyPost_ret (results26 rfl (setRow_heap wr _ _ _ _ _ HRS.out) rfl) rfl ⟨.slice ad3 c.effs.length cp3, .slice adt3 c.trgs.length capt3, rfl, ⟨?_, ?_⟩, ?_⟩
        · exact (HP2.out.effs.mono (by omega)).kept hS (.of_obj HRS.out (by decide))
        · obtain ⟨a, b, q1, q2, q3, q4⟩ := HP2.out.row
          rw [HIN.out, ← HN.out, List.drop_length] at q4
          rw [show b = [] from q4, List.append_nil] at q1
          rw [HIN.out, ← HN.out, List.take_length] at q3
          exact OwnT.kept (OwnT.mono ⟨a, q1, q3⟩ (by omega)) hS (.of_obj HRS.out (by decide)) (.of_obj HRS.out (by decide))
        · exact HP2.out.kept.setRow (fun hh => by omega) _
end Go.Proofs.YtclgoilfclmibaaGreatDoor
