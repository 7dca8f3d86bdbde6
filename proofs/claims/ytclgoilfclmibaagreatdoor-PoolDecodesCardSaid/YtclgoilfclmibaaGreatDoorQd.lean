/-
  Pool: pools are made.
-/
import Derived.Test.YtclgoilfclmibaaGreatDoorPe
import Derived.Test.YtclgoilfclmibaaGreatDoorLibR
import Derived.Test.YtclgoilfclmibaaGreatDoorDd
import Derived.Deep.RegionLaw
import Derived.BigQuiet
set_option linter.unusedVariables false
set_option linter.unusedSimpArgs false
namespace Go.Proofs.YtclgoilfclmibaaGreatDoor
open Go Go.RowKit Go.Zn
attribute [local go_sem] Oper.semAt_some

theorem wrong_5 {l : List Crd} (h : 400 < l.length) : wrongF l = 5 := by unfold wrongF; rw [if_pos h]
theorem wrong_2 {l : List Crd} (h : ¬ 400 < l.length) {c : Crd} (hc : c ∈ l) (hv : cvalid c = false) : wrongF l = 2 := by
  unfold wrongF
  rw [if_neg h]
  have : l.all cvalid = false := by
    rw [List.all_eq_false]
    exact ⟨c, hc, by simp [hv]⟩
  rw [this]
  rfl
theorem wrong_11 {l : List Crd} (h : ¬ 400 < l.length) (hv : ∀ c ∈ l, cvalid c = true) (hn : ¬ (names l).Nodup) : wrongF l = 11 := by
  unfold wrongF
  rw [if_neg h, show l.all cvalid = true by simpa using hv]
  simp [hn]
theorem wrong_0 {l : List Crd} (h : ¬ 400 < l.length) (hv : ∀ c ∈ l, cvalid c = true) (hn : (names l).Nodup) : wrongF l = 0 := by
  unfold wrongF
  rw [if_neg h, show l.all cvalid = true by simpa using hv]
  simp [hn]
theorem names_snoc (l : List Crd) (c : Crd) : names (l ++ [c]) = names l ++ [c.name] := by simp [names]
theorem nodup_snoc {l : List (List UInt8)} {x : List UInt8} (h : l.Nodup) (hx : x ∉ l) : (l ++ [x]).Nodup := by
  rw [List.nodup_append]
  exact ⟨h, by simp, fun a ha b hb => by simp at hb; subst hb; intro e; exact hx (e ▸ ha)⟩
theorem nodup_take {l : List Crd} (i : Nat) (h : (names l).Nodup) : (names (l.take i)).Nodup := by
  unfold names at *
  rw [List.map_take]
  exact h.sublist (List.take_sublist _ _)
def NewPost (l : List Crd) (w : World) (e : Ending) (w' : World) : Prop := Kept No w w' ∧
  ((wrongF l = 0 ∧ ∃ p, e = .returned (.tuple #[p, .int .i64 0]) ∧ PoolAt w' (fun b => w.heap.size ≤ b) p l) ∨ (wrongF l ≠ 0 ∧ e = .returned (.tuple #[.pointer none, .int .i64 (wrongF l)])))
/-- where a pool stands that grows -/
structure NwS (l : List Crd) (w : World) (m i : Nat) (wr : World) : Prop where
  row : ∃ v, wr.heap[m + 1]? = some (.cells #[v, .map (some m)] 76 (0, 0)) ∧ OwnCs wr (m + 2) v (l.take i)
  nm : ∃ D, NM wr m i D ∧ NSays D (l.take i)
  nd : (names (l.take i)).Nodup
  kept : Kept No w wr
  hm : w.heap.size ≤ m
  sz : m + 2 ≤ wr.heap.size
theorem NwS.no {l : List Crd} {w wr wr' : World} {m i : Nat} (h : NwS l w m i wr) (hk : Kept No wr wr') : NwS l w m i wr' := by
  obtain ⟨v, h1, h2⟩ := h.row
  obtain ⟨D, h3, h4⟩ := h.nm
  exact ⟨⟨v, hk.obj h1 (not_no _), h2.no hk⟩, ⟨D, h3.kept hk (not_no _), h4⟩, h.nd, h.kept.and hk, h.hm, Nat.le_trans h.sz hk.size⟩
theorem nm_notag {w : World} {b n : Nat} {D : DataW Unit} (h : NM w b n D) : NoTag w 50 (fun k => k = b) ∧ NoTag w 71 (fun k => k = b) ∧ NoTag w 46 (fun k => k = b) := by
  obtain ⟨es, clock, h1, _⟩ := h
  refine ⟨?_, ?_, ?_⟩ <;> (rintro k _ rfl ⟨cs, h2⟩; rw [h1] at h2; cases h2)
theorem nw_up {l : List Crd} {w W0 w3 w4 w5 : World} {m i : Nat} {c : Crd} {D : DataW Unit} {adv ad5 : Option Addr} {capv cap5 : Nat} {cs : List Value} {o : Obj} {ev2 tv2 : Value} (hnd : (names (l.take (i + 1))).Nodup) (hsay : NSays D (l.take (i + 1))) (hs1 : NwS l w m i W0)
    (hk3 : Kept (fun k => k = m) W0.drew.drew w3) (hnm3 : NM w3 m (i + 1) D) (hob3 : w3.heap[m + 1]? = some (.cells #[.slice adv i capv, .map (some m)] 76 (0, 0))) (hrow : w3.ownsRow (m + 2) 46 14 (.slice adv i capv) i cs) (hcc : OwnCC w3 (m + 2) (l.take i) cs)
    (hil : (l.take i).length = i) (htk : l.take (i + 1) = l.take i ++ [c]) (hk4 : Kept No w3.drew w4) (how4 : OwnC w4 w3.drew.heap.size c ev2 tv2) (hown5 : w5.ownsRow (m + 2) 46 14 (.slice ad5 (i + 1) cap5) (i + 1) (cs ++ crdCs c ev2 tv2)) (hg5 : (w4.alloc o).grownBy w5 (Value.ownBlock (.slice adv i capv))) :
    NwS l w m (i + 1) (w5.setCell ⟨m + 1, 0, none⟩ (.slice ad5 (i + 1) cap5)) := by
  have hsz : m + 2 ≤ w3.heap.size := by have h1 := hk3.size; have h2 := hs1.sz; simp at h1; omega
  have hk34 := (Kept.refl No w3).drew.and hk4
  have hkg : Kept (fun k => Value.ownBlock (.slice adv i capv) = some k) w3 w5 := (hk34.alloc o).any.grown hg5 (fun k e _ => e)
  have hob5 := hkg.obj hob3 (fun e => by have := (hrow.lt _ e).1; omega)
  have hcs5 : OwnCs w5 (m + 2) (.slice ad5 (i + 1) cap5) (l.take (i + 1)) := by
    rw [htk]
    exact OwnCs.app (by rw [hil]; exact hrow) hcc hk34 (how4.mono (by simpa using hsz)) (by rw [hil]; exact hown5) hg5
  have hk5 : Kept (fun k => k = m + 1) w5 (w5.setCell ⟨m + 1, 0, none⟩ (.slice ad5 (i + 1) cap5)) := (Kept.refl (fun k => k = m + 1) w5).setCell (p := ⟨m + 1, 0, none⟩) (fun _ => rfl) _
  have hm := hs1.hm
  refine ⟨⟨_, obj_store hob5 0 _, hcs5.kept hk5 (.of_obj hob5 (by decide)) (.of_obj hob5 (by decide)) (.of_obj hob5 (by decide))⟩,
    ⟨D, (hnm3.kept hkg (fun e => by have := (hrow.lt _ e).1; omega)).kept hk5 (by omega), hsay⟩, hnd, ?_, hm, by have := hkg.size; simp; omega⟩
  have k1 : Kept No w w3 := hs1.kept.drew.drew.trans hk3 (fun _ _ e => e) (fun j hj e => by omega)
  have k2 : Kept No w w5 := k1.trans hkg (fun _ _ e => e) (fun j hj e => by have := (hrow.lt _ e).1; omega)
  exact k2.trans hk5 (fun _ _ e => e) (fun j hj e => by omega)
def VlRel (l : List Crd) (w : World) (iv : Value) (wr : World) : Prop := ∃ i : Nat, iv = .int .i64 (i : Nat) ∧ i ≤ l.length ∧ (∀ c ∈ l.take i, cvalid c = true) ∧ Kept No w wr
def NwRel (l : List Crd) (w : World) (m : Nat) (iv : Value) (wr : World) : Prop := ∃ i : Nat, iv = .int .i64 (i : Nat) ∧ i ≤ l.length ∧ NwS l w m i wr
set_option maxRecDepth 100000 in
set_option maxHeartbeats 8000000 in
theorem pnew_any {l : List Crd} (hl : l.length ≤ 1000000) (hsm : ∀ c ∈ l, Sm c) {w : World} {B : Nat → Prop} {v : Value} (h : CrdsAt w B v l) : Calls Tryz.prog 10 #[v] w (NewPost l w) := by
  replace h := h.mono (C := fun b => b < w.heap.size) fun b hb _ => hb
  obtain ⟨ad, cap, rfl⟩ := h.slice
  have HP := Lib.hid h
  have HSM := Lib.hid hsm
  obtain ⟨n, hn⟩ : ∃ n, l.length = n := ⟨_, rfl⟩
  have HN := Lib.hid hn
  rw [hn] at hl HP ⊢
  have HL := Lib.hid hl
  by_cases h400 : 400 < n
  · have hi4 : (400 : Int) < (n : Int) := by omega
    have HR := Lib.hid (wrong_5 (l := l) (by rw [hn]; exact h400))
    clear h hsm hn hl h400
    go_enter Tryz.func10, Tryz.ntmps10
    go_wp2_with fail
    go_ret2
    exact ⟨Kept.refl No w, .inr ⟨by rw [HR.out]; decide, by rw [HR.out]; rfl⟩⟩
  have hi4 : ¬ ((400 : Int) < (n : Int)) := by omega
  have H400 := Lib.hid (show ¬ 400 < l.length by rw [hn]; exact h400)
  clear h hsm hn hl h400
  go_enter Tryz.func10, Tryz.ntmps10
  go_wp2_with fail
  go_loopw [16] (fun iv wr => VlRel l w iv wr) (fun iv _ => n - (intOf iv).toNat)
  case atStart => exact ⟨0, rfl, Nat.zero_le _, by simp, Kept.refl No w⟩
  case round =>
    obtain ⟨i, rfl, hi, hvl, hk⟩ := hrel
    rw [HN.out] at hi
    have HVL := Lib.hid hvl
    have HK := Lib.hid hk
    by_cases hlt : i < n
    · skip
      have hil : i < l.length := by rw [HN.out]; exact hlt
      obtain ⟨c, hc⟩ : ∃ c, l[i]? = some c := ⟨_, List.getElem?_eq_getElem hil⟩
      obtain ⟨b, off, cap1, ev, tv, hs, hcap, hrg, hca⟩ := (HP.out.no hk).at hc
      obtain ⟨ade, cape, rfl⟩ := rd_slice hca.effs
      obtain ⟨adt, capt, rfl⟩ := hca.trgs.slice
      rw [HN.out] at hs
      cases hs
      have hmem := List.mem_of_getElem? hc
      have HRG := Lib.hid (show wr.rangeAt b (off + i * 14) [.string (strOf c.name), .int .i64 c.kind, .int .i64 c.o0, .int .i64 c.o1, .int .i64 c.o2, .int .i64 c.o3, .int .i64 c.any, .int .i64 c.makes, .int .i64 c.power, .int .i64 c.tough, .int .i64 c.keys, .slice ade c.effs.length cape, .slice adt c.trgs.length capt, .int .i64 c.rarity] from hrg)
      have HOB := Lib.hid (show (wr.alloc (.cells #[.string (strOf c.name), .int .i64 c.kind, .int .i64 c.o0, .int .i64 c.o1, .int .i64 c.o2, .int .i64 c.o3, .int .i64 c.any, .int .i64 c.makes, .int .i64 c.power, .int .i64 c.tough, .int .i64 c.keys, .slice ade c.effs.length cape, .slice adt c.trgs.length capt, .int .i64 c.rarity] 46)).heap[wr.heap.size]? = some (.cells #[.string (strOf c.name), .int .i64 c.kind, .int .i64 c.o0, .int .i64 c.o1, .int .i64 c.o2, .int .i64 c.o3, .int .i64 c.any, .int .i64 c.makes, .int .i64 c.power, .int .i64 c.tough, .int .i64 c.keys, .slice ade c.effs.length cape, .slice adt c.trgs.length capt, .int .i64 c.rarity] 46 (0, 0)) from heap_alloc_new wr _)
      have hca2 := hca.no ((Kept.refl No wr).alloc (.cells #[.string (strOf c.name), .int .i64 c.kind, .int .i64 c.o0, .int .i64 c.o1, .int .i64 c.o2, .int .i64 c.o3, .int .i64 c.any, .int .i64 c.makes, .int .i64 c.power, .int .i64 c.tough, .int .i64 c.keys, .slice ade c.effs.length cape, .slice adt c.trgs.length capt, .int .i64 c.rarity] 46))
      have htk : l.take (i + 1) = l.take i ++ [c] := by rw [List.take_add_one, hc]; rfl
      have d1 : decide (i < n) = true := decide_eq_true hlt
      have hi0 : (0 : Int) ≤ (i : Int) := by omega
      have hin : (i : Int) < (n : Int) := by omega
      have q4 : IntKind.i64.wrap ((i : Int) + 1) = (i : Int) + 1 := IntWalk.i64_in _ (by have := HL.out; omega)
      have HI := Lib.hid hlt
      have HCV := Lib.hid (cvalid_any (HSM.out c hmem) hca2)
      have HME := Lib.hid hmem
      have HTK := Lib.hid htk
      cases hcv : cvalid c
      · have HR := Lib.hid (wrong_2 H400.out hmem hcv)
        rw [hcv] at HCV
        clear hi4 hk hvl hlt hil hc hrg hca hca2 hcap hmem htk hcv
        go_wp2_with (first | (with_reducible refine wpList_load_mid rfl 46 _ rfl b (off + i * 14) rfl [.string (strOf c.name), .int .i64 c.kind, .int .i64 c.o0, .int .i64 c.o1, .int .i64 c.o2, .int .i64 c.o3, .int .i64 c.any, .int .i64 c.makes, .int .i64 c.power, .int .i64 c.tough, .int .i64 c.keys, .slice ade c.effs.length cape, .slice adt c.trgs.length capt, .int .i64 c.rarity] _ HRG.out Tryz.underlying46 rfl (by kernel_rfl) ?_) | (with_reducible refine wpList_load_row rfl 46 _ rfl wr.heap.size rfl 46 _ (0, 0) _ HOB.out Tryz.underlying46 rfl (by kernel_rfl) ?_))
        refine HCV.out.mono ?_
        rintro e w2 ⟨rfl, hk2⟩
        have HK2 := Lib.hid ((HK.out.alloc (.cells #[.string (strOf c.name), .int .i64 c.kind, .int .i64 c.o0, .int .i64 c.o1, .int .i64 c.o2, .int .i64 c.o3, .int .i64 c.any, .int .i64 c.makes, .int .i64 c.power, .int .i64 c.tough, .int .i64 c.keys, .slice ade c.effs.length cape, .slice adt c.trgs.length capt, .int .i64 c.rarity] 46)).and hk2)
        clear hk2
        go_wp2_with fail
        go_ret2
        exact ⟨HK2.out, .inr ⟨by rw [HR.out]; decide, by rw [HR.out]; rfl⟩⟩
      · have HC1 := Lib.hid hcv
        rw [hcv] at HCV
        clear hi4 hk hvl hlt hil hc hrg hca hca2 hcap hmem htk hcv
        go_wp2_with (first | (with_reducible refine wpList_load_mid rfl 46 _ rfl b (off + i * 14) rfl [.string (strOf c.name), .int .i64 c.kind, .int .i64 c.o0, .int .i64 c.o1, .int .i64 c.o2, .int .i64 c.o3, .int .i64 c.any, .int .i64 c.makes, .int .i64 c.power, .int .i64 c.tough, .int .i64 c.keys, .slice ade c.effs.length cape, .slice adt c.trgs.length capt, .int .i64 c.rarity] _ HRG.out Tryz.underlying46 rfl (by kernel_rfl) ?_) | (with_reducible refine wpList_load_row rfl 46 _ rfl wr.heap.size rfl 46 _ (0, 0) _ HOB.out Tryz.underlying46 rfl (by kernel_rfl) ?_))
        refine HCV.out.mono ?_
        rintro e w2 ⟨rfl, hk2⟩
        have HK2 := Lib.hid ((HK.out.alloc (.cells #[.string (strOf c.name), .int .i64 c.kind, .int .i64 c.o0, .int .i64 c.o1, .int .i64 c.o2, .int .i64 c.o3, .int .i64 c.any, .int .i64 c.makes, .int .i64 c.power, .int .i64 c.tough, .int .i64 c.keys, .slice ade c.effs.length cape, .slice adt c.trgs.length capt, .int .i64 c.rarity] 46)).and hk2)
        clear hk2
        go_wp2_with fail
        have hI := HI.out
        refine ⟨⟨i + 1, by go_num, by rw [HN.out]; omega, fun x hx => ?_, HK2.out⟩, by simp [intOf]; omega⟩
        rw [HTK.out] at hx
        rcases List.mem_append.1 hx with hx | hx
        · exact HVL.out x hx
        · simp at hx; subst hx; exact HC1.out
    · have d1 : decide (i < n) = false := decide_eq_false hlt
      have HVA := Lib.hid (show ∀ c ∈ l, cvalid c = true by have := HVL.out; rwa [List.take_of_length_le (by rw [HN.out]; omega)] at this)
      have HS0 := Lib.hid (show NwS l w wr.heap.size 0 ((wr.alloc (.map #[] 0)).alloc (.cells #[.slice none 0 0, .map (some wr.heap.size)] 76)) from
        ⟨⟨.slice none 0 0, by have := heap_alloc_new (wr.alloc (.map #[] 0)) (.cells #[.slice none 0 0, .map (some wr.heap.size)] 76 (0, 0)); simpa using this, ⟨[], by rw [List.take_zero]; exact World.ownsRow_nil _ _ _ _, by rw [List.take_zero]; rfl⟩⟩,
          ⟨.map [], NM.kept (World.ownsMap_made wr _ _ _) ((Kept.refl No _).alloc _) (not_no _), by rw [List.take_zero]; exact nsays_nil⟩, by rw [List.take_zero]; simp [names], (hk.alloc _).alloc _, hk.size, by simp⟩)
      obtain ⟨m, hm⟩ : ∃ m, wr.heap.size = m := ⟨_, rfl⟩
      rw [hm] at HS0
      have HMM := Lib.hid hm
      clear hlt hk hvl hm hi4
      have hmm : ∀ (t : TypeId) (W : World), (Instr.makeMap t none).run Tryz.prog W = .ok (.map (some W.heap.size)) (W.alloc (.map #[] 0)) := fun _ _ => rfl
      go_wp2_with fail
      rw [HMM.out]
      go_loopw [29] (fun iv wr => NwRel l w m iv wr) (fun iv _ => n - (intOf iv).toNat)
      case atStart => exact ⟨0, rfl, Nat.zero_le _, HS0.out⟩
      case round =>
        clear hmm HS0
        obtain ⟨i, rfl, hi, hs0⟩ := hrel
        rw [HN.out] at hi
        have HS := Lib.hid hs0
        by_cases hlt : i < n
        · skip
          have hil : i < l.length := by rw [HN.out]; exact hlt
          obtain ⟨c, hc⟩ : ∃ c, l[i]? = some c := ⟨_, List.getElem?_eq_getElem hil⟩
          obtain ⟨b, off, cap1, ev, tv, hs, hcap, hrg, hca⟩ := (HP.out.no hs0.kept).at hc
          obtain ⟨ade, cape, rfl⟩ := rd_slice hca.effs
          obtain ⟨adt, capt, rfl⟩ := hca.trgs.slice
          rw [HN.out] at hs
          cases hs
          have hmem := List.mem_of_getElem? hc
          have HRG := Lib.hid (show wr.rangeAt b (off + i * 14) [.string (strOf c.name), .int .i64 c.kind, .int .i64 c.o0, .int .i64 c.o1, .int .i64 c.o2, .int .i64 c.o3, .int .i64 c.any, .int .i64 c.makes, .int .i64 c.power, .int .i64 c.tough, .int .i64 c.keys, .slice ade c.effs.length cape, .slice adt c.trgs.length capt, .int .i64 c.rarity] from hrg)
          have HOB := Lib.hid (show (wr.alloc (.cells #[.string (strOf c.name), .int .i64 c.kind, .int .i64 c.o0, .int .i64 c.o1, .int .i64 c.o2, .int .i64 c.o3, .int .i64 c.any, .int .i64 c.makes, .int .i64 c.power, .int .i64 c.tough, .int .i64 c.keys, .slice ade c.effs.length cape, .slice adt c.trgs.length capt, .int .i64 c.rarity] 46)).heap[wr.heap.size]? = some (.cells #[.string (strOf c.name), .int .i64 c.kind, .int .i64 c.o0, .int .i64 c.o1, .int .i64 c.o2, .int .i64 c.o3, .int .i64 c.any, .int .i64 c.makes, .int .i64 c.power, .int .i64 c.tough, .int .i64 c.keys, .slice ade c.effs.length cape, .slice adt c.trgs.length capt, .int .i64 c.rarity] 46 (0, 0)) from heap_alloc_new wr _)
          have hca2 := hca.no ((Kept.refl No wr).alloc (.cells #[.string (strOf c.name), .int .i64 c.kind, .int .i64 c.o0, .int .i64 c.o1, .int .i64 c.o2, .int .i64 c.o3, .int .i64 c.any, .int .i64 c.makes, .int .i64 c.power, .int .i64 c.tough, .int .i64 c.keys, .slice ade c.effs.length cape, .slice adt c.trgs.length capt, .int .i64 c.rarity] 46))
          have htk : l.take (i + 1) = l.take i ++ [c] := by rw [List.take_add_one, hc]; rfl
          have d1 : decide (i < n) = true := decide_eq_true hlt
          have hi0 : (0 : Int) ≤ (i : Int) := by omega
          have hin : (i : Int) < (n : Int) := by omega
          have q4 : IntKind.i64.wrap ((i : Int) + 1) = (i : Int) + 1 := IntWalk.i64_in _ (by have := HL.out; omega)
          have HI := Lib.hid hlt
          have HCA := Lib.hid hca
          have hcn : c.name.length ≤ 1000000 := by have := (cvalid_in (HVA.out c hmem)).name; omega
          have HTK := Lib.hid htk
          have HND := Lib.hid (nodup_take (l := l) (i + 1))
          have HMEM := Lib.hid hmem
          have hs1 := hs0.no (((Kept.refl No wr).alloc (.cells #[.string (strOf c.name), .int .i64 c.kind, .int .i64 c.o0, .int .i64 c.o1, .int .i64 c.o2, .int .i64 c.o3, .int .i64 c.any, .int .i64 c.makes, .int .i64 c.power, .int .i64 c.tough, .int .i64 c.keys, .slice ade c.effs.length cape, .slice adt c.trgs.length capt, .int .i64 c.rarity] 46)))
          obtain ⟨v, hob0, hcs0⟩ := hs0.row
          have HBLT := Lib.hid (show ∀ k, v.ownBlock = some k → k < wr.heap.size from fun k e => by obtain ⟨_, h1, _⟩ := hcs0; exact (h1.lt k e).2)
          have hob := obj_alloc hob0 (.cells #[.string (strOf c.name), .int .i64 c.kind, .int .i64 c.o0, .int .i64 c.o1, .int .i64 c.o2, .int .i64 c.o3, .int .i64 c.any, .int .i64 c.makes, .int .i64 c.power, .int .i64 c.tough, .int .i64 c.keys, .slice ade c.effs.length cape, .slice adt c.trgs.length capt, .int .i64 c.rarity] 46)
          have hcs := hcs0.no ((Kept.refl No wr).alloc (.cells #[.string (strOf c.name), .int .i64 c.kind, .int .i64 c.o0, .int .i64 c.o1, .int .i64 c.o2, .int .i64 c.o3, .int .i64 c.any, .int .i64 c.makes, .int .i64 c.power, .int .i64 c.tough, .int .i64 c.keys, .slice ade c.effs.length cape, .slice adt c.trgs.length capt, .int .i64 c.rarity] 46))
          clear hob0 hcs0
          obtain ⟨D, hnm0, hsay⟩ := hs0.nm
          have hnm := hnm0.kept ((Kept.refl No wr).alloc (.cells #[.string (strOf c.name), .int .i64 c.kind, .int .i64 c.o0, .int .i64 c.o1, .int .i64 c.o2, .int .i64 c.o3, .int .i64 c.any, .int .i64 c.makes, .int .i64 c.power, .int .i64 c.tough, .int .i64 c.keys, .slice ade c.effs.length cape, .slice adt c.trgs.length capt, .int .i64 c.rarity] 46)) (not_no _)
          have HMLT := Lib.hid hnm0.lt
          clear hnm0
          have HHM := Lib.hid hs0.hm
          have HBM := Lib.hid hs0.sz
          have hbo : (wr.alloc (.cells #[.string (strOf c.name), .int .i64 c.kind, .int .i64 c.o0, .int .i64 c.o1, .int .i64 c.o2, .int .i64 c.o3, .int .i64 c.any, .int .i64 c.makes, .int .i64 c.power, .int .i64 c.tough, .int .i64 c.keys, .slice ade c.effs.length cape, .slice adt c.trgs.length capt, .int .i64 c.rarity] 46)).heap[wr.heap.size]? = some (.cells #[.string (strOf c.name), .int .i64 c.kind, .int .i64 c.o0, .int .i64 c.o1, .int .i64 c.o2, .int .i64 c.o3, .int .i64 c.any, .int .i64 c.makes, .int .i64 c.power, .int .i64 c.tough, .int .i64 c.keys, .slice ade c.effs.length cape, .slice adt c.trgs.length capt, .int .i64 c.rarity] 46 (0, 0)) := heap_alloc_new wr _
          have HBO := Lib.hid hbo
          have x1 : (wr.alloc (.cells #[.string (strOf c.name), .int .i64 c.kind, .int .i64 c.o0, .int .i64 c.o1, .int .i64 c.o2, .int .i64 c.o3, .int .i64 c.any, .int .i64 c.makes, .int .i64 c.power, .int .i64 c.tough, .int .i64 c.keys, .slice ade c.effs.length cape, .slice adt c.trgs.length capt, .int .i64 c.rarity] 46)).drew.cell? ⟨m + 1, 1, none⟩ = some (.map (some m)) := obj_cell hob 1
          have x2 : (wr.alloc (.cells #[.string (strOf c.name), .int .i64 c.kind, .int .i64 c.o0, .int .i64 c.o1, .int .i64 c.o2, .int .i64 c.o3, .int .i64 c.any, .int .i64 c.makes, .int .i64 c.power, .int .i64 c.tough, .int .i64 c.keys, .slice ade c.effs.length cape, .slice adt c.trgs.length capt, .int .i64 c.rarity] 46)).drew.cell? ⟨wr.heap.size, 0, none⟩ = some (.string (strOf c.name)) := obj_cell hbo 0
          have HNMD := Lib.hid hnm
          have HSAY := Lib.hid hsay
          have HOB1 := Lib.hid hob
          have HCS1 := Lib.hid hcs
          have HS1 := Lib.hid hs1
          rcases (hnm.kept ((Kept.refl No _).drew) (not_no _)).look hsay hcn with ⟨k, hk1, hlk⟩ | ⟨hk1, x, hlk⟩
          · have HR := Lib.hid (wrong_11 H400.out HVA.out (fun hnd => by
              have h1 := nodup_take (i + 1) hnd
              rw [htk, names_snoc, List.nodup_append] at h1
              have h2 : c.name ∈ names (l.take i) := Classical.byContradiction fun h => by rw [nmAt_none.2 h] at hk1; cases hk1
              exact h1.2.2 _ h2 _ (by simp) rfl))
            clear hlt hil hc hrg hca hca2 hcap hmem htk hcn hs0 hs1 hob hbo hcs hnm hsay hk1
            go_wp2_with (first | (with_reducible refine wpList_load_mid rfl 46 _ rfl b (off + i * 14) rfl [.string (strOf c.name), .int .i64 c.kind, .int .i64 c.o0, .int .i64 c.o1, .int .i64 c.o2, .int .i64 c.o3, .int .i64 c.any, .int .i64 c.makes, .int .i64 c.power, .int .i64 c.tough, .int .i64 c.keys, .slice ade c.effs.length cape, .slice adt c.trgs.length capt, .int .i64 c.rarity] _ HRG.out Tryz.underlying46 rfl (by kernel_rfl) ?_) | (with_reducible refine wpList_load_row rfl 46 _ rfl wr.heap.size rfl 46 _ (0, 0) _ HOB.out Tryz.underlying46 rfl (by kernel_rfl) ?_))
            refine wp_region_held_drew (S := (fun W' => W' = (wr.alloc (.cells #[.string (strOf c.name), .int .i64 c.kind, .int .i64 c.o0, .int .i64 c.o1, .int .i64 c.o2, .int .i64 c.o3, .int .i64 c.any, .int .i64 c.makes, .int .i64 c.power, .int .i64 c.tough, .int .i64 c.keys, .slice ade c.effs.length cape, .slice adt c.trgs.length capt, .int .i64 c.rarity] 46)).drew)) (by kernel_rfl) rfl (fun hHeld => ?_)
            refine wpAnyH_take (i := 0) (v := .pointer (some ⟨m + 1, 0, none⟩)) rfl (by kernel_rfl) (by kernel_rfl) (by kernel_rfl) (fun _ _ _ h => h) (Or.inl ⟨by rfl, ?_⟩) (by assumption) ?_
            · intro W2 hSw; subst hSw; go_simp
            simp only [Act.put, List.getElem_toArray, List.getElem_cons_zero, List.getElem_cons_succ, List.setIfInBounds_toArray, List.set_cons_zero, List.set_cons_succ]
            refine wpAnyH_take (i := 1) (v := .pointer (some ⟨m + 1, 0, none⟩)) rfl (by kernel_rfl) (by kernel_rfl) (by kernel_rfl) (fun _ _ _ h => h) (Or.inl ⟨by rfl, ?_⟩) (by assumption) ?_
            · intro W2 hSw; subst hSw; go_simp
            simp only [Act.put, List.getElem_toArray, List.getElem_cons_zero, List.getElem_cons_succ, List.setIfInBounds_toArray, List.set_cons_zero, List.set_cons_succ]
            refine wpAnyH_take (i := 2) (v := .pointer (some ⟨m + 1, 1, none⟩)) rfl (by kernel_rfl) (by kernel_rfl) (by kernel_rfl) (fun _ _ _ h => h) (Or.inl ⟨by rfl, ?_⟩) (by assumption) ?_
            · intro W2 hSw; subst hSw; go_simp
            simp only [Act.put, List.getElem_toArray, List.getElem_cons_zero, List.getElem_cons_succ, List.setIfInBounds_toArray, List.set_cons_zero, List.set_cons_succ]
            refine wpAnyH_take (i := 3) (v := .map (some m)) rfl (by kernel_rfl) (by kernel_rfl) (by kernel_rfl) (fun _ _ _ h => h) (Or.inl ⟨by rfl, ?_⟩) (by assumption) ?_
            · intro W2 hSw; subst hSw; go_simp
            simp only [Act.put, List.getElem_toArray, List.getElem_cons_zero, List.getElem_cons_succ, List.setIfInBounds_toArray, List.set_cons_zero, List.set_cons_succ]
            refine wpAnyH_take (i := 4) (v := .pointer (some ⟨wr.heap.size, 0, none⟩)) rfl (by kernel_rfl) (by kernel_rfl) (by kernel_rfl) (fun _ _ _ h => h) (Or.inl ⟨by rfl, ?_⟩) (by assumption) ?_
            · intro W2 hSw; subst hSw; go_simp
            simp only [Act.put, List.getElem_toArray, List.getElem_cons_zero, List.getElem_cons_succ, List.setIfInBounds_toArray, List.set_cons_zero, List.set_cons_succ]
            refine wpAnyH_take (i := 5) (v := .string (strOf c.name)) rfl (by kernel_rfl) (by kernel_rfl) (by kernel_rfl) (fun _ _ _ h => h) (Or.inl ⟨by rfl, ?_⟩) (by assumption) ?_
            · intro W2 hSw; subst hSw; go_simp
            simp only [Act.put, List.getElem_toArray, List.getElem_cons_zero, List.getElem_cons_succ, List.setIfInBounds_toArray, List.set_cons_zero, List.set_cons_succ]
            refine wpAnyH_take (i := 6) (v := .tuple #[.int .i64 (k : Nat), .bool true]) rfl (by kernel_rfl) (by kernel_rfl) (by kernel_rfl) (fun _ _ _ h => h) (Or.inl ⟨by rfl, ?_⟩) (by assumption) ?_
            · intro W2 hSw; subst hSw; go_simp
            simp only [Act.put, List.getElem_toArray, List.getElem_cons_zero, List.getElem_cons_succ, List.setIfInBounds_toArray, List.set_cons_zero, List.set_cons_succ]
            refine wpAnyH_take (i := 7) (v := .tuple #[.int .i64 (k : Nat), .bool true]) rfl (by kernel_rfl) (by kernel_rfl) (by kernel_rfl) (fun _ _ _ h => h) (Or.inl ⟨by rfl, ?_⟩) (by assumption) ?_
            · intro W2 hSw; subst hSw; go_simp
            simp only [Act.put, List.getElem_toArray, List.getElem_cons_zero, List.getElem_cons_succ, List.setIfInBounds_toArray, List.set_cons_zero, List.set_cons_succ]
            refine wpAnyH_take (i := 8) (v := .int .i64 (k : Nat)) rfl (by kernel_rfl) (by kernel_rfl) (by kernel_rfl) (fun _ _ _ h => h) (Or.inl ⟨by rfl, ?_⟩) (by assumption) ?_
            · intro W2 hSw; subst hSw; go_simp
            simp only [Act.put, List.getElem_toArray, List.getElem_cons_zero, List.getElem_cons_succ, List.setIfInBounds_toArray, List.set_cons_zero, List.set_cons_succ]
            refine wpAnyH_take (i := 9) (v := .bool true) rfl (by kernel_rfl) (by kernel_rfl) (by kernel_rfl) (fun _ _ _ h => h) (Or.inl ⟨by rfl, ?_⟩) (by assumption) ?_
            · intro W2 hSw; subst hSw; go_simp
            simp only [Act.put, List.getElem_toArray, List.getElem_cons_zero, List.getElem_cons_succ, List.setIfInBounds_toArray, List.set_cons_zero, List.set_cons_succ]
            refine wpAnyH_take (i := 10) (v := .int .i64 (k : Nat)) rfl (by kernel_rfl) (by kernel_rfl) (by kernel_rfl) (fun _ _ _ h => h) (Or.inl ⟨by rfl, ?_⟩) (by assumption) ?_
            · intro W2 hSw; subst hSw; go_simp
            simp only [Act.put, List.getElem_toArray, List.getElem_cons_zero, List.getElem_cons_succ, List.setIfInBounds_toArray, List.set_cons_zero, List.set_cons_succ]
            refine wpAnyH_take (i := 11) (v := .bool true) rfl (by kernel_rfl) (by kernel_rfl) (by kernel_rfl) (fun _ _ _ h => h) (Or.inl ⟨by rfl, ?_⟩) (by assumption) ?_
            · intro W2 hSw; subst hSw; go_simp
            simp only [Act.put, List.getElem_toArray, List.getElem_cons_zero, List.getElem_cons_succ, List.setIfInBounds_toArray, List.set_cons_zero, List.set_cons_succ]
            refine wpAnyH_done (by kernel_rfl) ?_ _
            go_wp2_with fail
            go_ret2
            exact ⟨HS1.out.kept.drew, .inr ⟨by rw [HR.out]; decide, by rw [HR.out]; rfl⟩⟩
          · have hnn : c.name ∉ names (l.take i) := nmAt_none.1 hk1
            have HNN := Lib.hid hnn
            have hsay2 := hsay.put hk1
            rw [show (l.take i).length = i by rw [List.length_take]; omega, ← htk] at hsay2
            have HSAY2 := Lib.hid hsay2
            have HND2 := Lib.hid (show (names (l.take (i + 1))).Nodup by rw [htk, names_snoc]; exact nodup_snoc hs0.nd hnn)
            obtain ⟨w3, hset, hnm3, hk3⟩ := NM.set (hnm.kept (((Kept.refl No _).drew).drew) (not_no _)) (by have := HL.out; unfold maxLen; omega) hcn (i := i) (by have := HL.out; omega)
            have HSET := Lib.hid hset
            have HNO := Lib.hid (show NoTag (wr.alloc (.cells #[.string (strOf c.name), .int .i64 c.kind, .int .i64 c.o0, .int .i64 c.o1, .int .i64 c.o2, .int .i64 c.o3, .int .i64 c.any, .int .i64 c.makes, .int .i64 c.power, .int .i64 c.tough, .int .i64 c.keys, .slice ade c.effs.length cape, .slice adt c.trgs.length capt, .int .i64 c.rarity] 46)).drew.drew 50 (fun k => k = m) ∧ NoTag (wr.alloc (.cells #[.string (strOf c.name), .int .i64 c.kind, .int .i64 c.o0, .int .i64 c.o1, .int .i64 c.o2, .int .i64 c.o3, .int .i64 c.any, .int .i64 c.makes, .int .i64 c.power, .int .i64 c.tough, .int .i64 c.keys, .slice ade c.effs.length cape, .slice adt c.trgs.length capt, .int .i64 c.rarity] 46)).drew.drew 71 (fun k => k = m) ∧ NoTag (wr.alloc (.cells #[.string (strOf c.name), .int .i64 c.kind, .int .i64 c.o0, .int .i64 c.o1, .int .i64 c.o2, .int .i64 c.o3, .int .i64 c.any, .int .i64 c.makes, .int .i64 c.power, .int .i64 c.tough, .int .i64 c.keys, .slice ade c.effs.length cape, .slice adt c.trgs.length capt, .int .i64 c.rarity] 46)).drew.drew 46 (fun k => k = m) from nm_notag (hnm.kept (((Kept.refl No _).drew).drew) (not_no _)))
            have HNM3 := Lib.hid hnm3
            have HK3 := Lib.hid hk3
            clear hlt hil hc hrg hca hca2 hcap hmem htk hcn hs0 hs1 hob hbo hcs hnm hsay hk1 hset hnm3 hk3 hsay2 hnn
            go_wp2_with (first | (with_reducible refine wpList_load_mid rfl 46 _ rfl b (off + i * 14) rfl [.string (strOf c.name), .int .i64 c.kind, .int .i64 c.o0, .int .i64 c.o1, .int .i64 c.o2, .int .i64 c.o3, .int .i64 c.any, .int .i64 c.makes, .int .i64 c.power, .int .i64 c.tough, .int .i64 c.keys, .slice ade c.effs.length cape, .slice adt c.trgs.length capt, .int .i64 c.rarity] _ HRG.out Tryz.underlying46 rfl (by kernel_rfl) ?_) | (with_reducible refine wpList_load_row rfl 46 _ rfl wr.heap.size rfl 46 _ (0, 0) _ HOB.out Tryz.underlying46 rfl (by kernel_rfl) ?_))
            refine wp_region_held_drew (S := (fun W' => W' = (wr.alloc (.cells #[.string (strOf c.name), .int .i64 c.kind, .int .i64 c.o0, .int .i64 c.o1, .int .i64 c.o2, .int .i64 c.o3, .int .i64 c.any, .int .i64 c.makes, .int .i64 c.power, .int .i64 c.tough, .int .i64 c.keys, .slice ade c.effs.length cape, .slice adt c.trgs.length capt, .int .i64 c.rarity] 46)).drew)) (by kernel_rfl) rfl (fun hHeld => ?_)
            refine wpAnyH_take (i := 0) (v := .pointer (some ⟨m + 1, 0, none⟩)) rfl (by kernel_rfl) (by kernel_rfl) (by kernel_rfl) (fun _ _ _ h => h) (Or.inl ⟨by rfl, ?_⟩) (by assumption) ?_
            · intro W2 hSw; subst hSw; go_simp
            simp only [Act.put, List.getElem_toArray, List.getElem_cons_zero, List.getElem_cons_succ, List.setIfInBounds_toArray, List.set_cons_zero, List.set_cons_succ]
            refine wpAnyH_take (i := 1) (v := .pointer (some ⟨m + 1, 0, none⟩)) rfl (by kernel_rfl) (by kernel_rfl) (by kernel_rfl) (fun _ _ _ h => h) (Or.inl ⟨by rfl, ?_⟩) (by assumption) ?_
            · intro W2 hSw; subst hSw; go_simp
            simp only [Act.put, List.getElem_toArray, List.getElem_cons_zero, List.getElem_cons_succ, List.setIfInBounds_toArray, List.set_cons_zero, List.set_cons_succ]
            refine wpAnyH_take (i := 2) (v := .pointer (some ⟨m + 1, 1, none⟩)) rfl (by kernel_rfl) (by kernel_rfl) (by kernel_rfl) (fun _ _ _ h => h) (Or.inl ⟨by rfl, ?_⟩) (by assumption) ?_
            · intro W2 hSw; subst hSw; go_simp
            simp only [Act.put, List.getElem_toArray, List.getElem_cons_zero, List.getElem_cons_succ, List.setIfInBounds_toArray, List.set_cons_zero, List.set_cons_succ]
            refine wpAnyH_take (i := 3) (v := .map (some m)) rfl (by kernel_rfl) (by kernel_rfl) (by kernel_rfl) (fun _ _ _ h => h) (Or.inl ⟨by rfl, ?_⟩) (by assumption) ?_
            · intro W2 hSw; subst hSw; go_simp
            simp only [Act.put, List.getElem_toArray, List.getElem_cons_zero, List.getElem_cons_succ, List.setIfInBounds_toArray, List.set_cons_zero, List.set_cons_succ]
            refine wpAnyH_take (i := 4) (v := .pointer (some ⟨wr.heap.size, 0, none⟩)) rfl (by kernel_rfl) (by kernel_rfl) (by kernel_rfl) (fun _ _ _ h => h) (Or.inl ⟨by rfl, ?_⟩) (by assumption) ?_
            · intro W2 hSw; subst hSw; go_simp
            simp only [Act.put, List.getElem_toArray, List.getElem_cons_zero, List.getElem_cons_succ, List.setIfInBounds_toArray, List.set_cons_zero, List.set_cons_succ]
            refine wpAnyH_take (i := 5) (v := .string (strOf c.name)) rfl (by kernel_rfl) (by kernel_rfl) (by kernel_rfl) (fun _ _ _ h => h) (Or.inl ⟨by rfl, ?_⟩) (by assumption) ?_
            · intro W2 hSw; subst hSw; go_simp
            simp only [Act.put, List.getElem_toArray, List.getElem_cons_zero, List.getElem_cons_succ, List.setIfInBounds_toArray, List.set_cons_zero, List.set_cons_succ]
            refine wpAnyH_take (i := 6) (v := .tuple #[.int .i64 x, .bool false]) rfl (by kernel_rfl) (by kernel_rfl) (by kernel_rfl) (fun _ _ _ h => h) (Or.inl ⟨by rfl, ?_⟩) (by assumption) ?_
            · intro W2 hSw; subst hSw; go_simp
            simp only [Act.put, List.getElem_toArray, List.getElem_cons_zero, List.getElem_cons_succ, List.setIfInBounds_toArray, List.set_cons_zero, List.set_cons_succ]
            refine wpAnyH_take (i := 7) (v := .tuple #[.int .i64 x, .bool false]) rfl (by kernel_rfl) (by kernel_rfl) (by kernel_rfl) (fun _ _ _ h => h) (Or.inl ⟨by rfl, ?_⟩) (by assumption) ?_
            · intro W2 hSw; subst hSw; go_simp
            simp only [Act.put, List.getElem_toArray, List.getElem_cons_zero, List.getElem_cons_succ, List.setIfInBounds_toArray, List.set_cons_zero, List.set_cons_succ]
            refine wpAnyH_take (i := 8) (v := .int .i64 x) rfl (by kernel_rfl) (by kernel_rfl) (by kernel_rfl) (fun _ _ _ h => h) (Or.inl ⟨by rfl, ?_⟩) (by assumption) ?_
            · intro W2 hSw; subst hSw; go_simp
            simp only [Act.put, List.getElem_toArray, List.getElem_cons_zero, List.getElem_cons_succ, List.setIfInBounds_toArray, List.set_cons_zero, List.set_cons_succ]
            refine wpAnyH_take (i := 9) (v := .bool false) rfl (by kernel_rfl) (by kernel_rfl) (by kernel_rfl) (fun _ _ _ h => h) (Or.inl ⟨by rfl, ?_⟩) (by assumption) ?_
            · intro W2 hSw; subst hSw; go_simp
            simp only [Act.put, List.getElem_toArray, List.getElem_cons_zero, List.getElem_cons_succ, List.setIfInBounds_toArray, List.set_cons_zero, List.set_cons_succ]
            refine wpAnyH_take (i := 10) (v := .int .i64 x) rfl (by kernel_rfl) (by kernel_rfl) (by kernel_rfl) (fun _ _ _ h => h) (Or.inl ⟨by rfl, ?_⟩) (by assumption) ?_
            · intro W2 hSw; subst hSw; go_simp
            simp only [Act.put, List.getElem_toArray, List.getElem_cons_zero, List.getElem_cons_succ, List.setIfInBounds_toArray, List.set_cons_zero, List.set_cons_succ]
            refine wpAnyH_take (i := 11) (v := .bool false) rfl (by kernel_rfl) (by kernel_rfl) (by kernel_rfl) (fun _ _ _ h => h) (Or.inl ⟨by rfl, ?_⟩) (by assumption) ?_
            · intro W2 hSw; subst hSw; go_simp
            simp only [Act.put, List.getElem_toArray, List.getElem_cons_zero, List.getElem_cons_succ, List.setIfInBounds_toArray, List.set_cons_zero, List.set_cons_succ]
            refine wpAnyH_done (by kernel_rfl) ?_ _
            go_wp2_with fail
            refine wp_region_held_drew (S := (fun W' => W'.heap[m + 1]? = some (.cells #[v, .map (some m)] 76 (0, 0)) ∧ W'.heap[wr.heap.size]? = some (.cells #[.string (strOf c.name), .int .i64 c.kind, .int .i64 c.o0, .int .i64 c.o1, .int .i64 c.o2, .int .i64 c.o3, .int .i64 c.any, .int .i64 c.makes, .int .i64 c.power, .int .i64 c.tough, .int .i64 c.keys, .slice ade c.effs.length cape, .slice adt c.trgs.length capt, .int .i64 c.rarity] 46 (0, 0)))) (by kernel_rfl) ⟨HOB1.out, HBO.out⟩ (fun hHeld => ?_)
            refine wpAnyH_take (i := 0) (v := .pointer (some ⟨m + 1, 0, none⟩)) rfl (by kernel_rfl) (by kernel_rfl) (by kernel_rfl) (fun _ _ _ h => h) (Or.inl ⟨by rfl, ?_⟩) (by assumption) ?_
            · intro W2 hSw; have y1 := obj_cell hSw.1 1; have y2 := obj_cell hSw.2 0; go_simp
            simp only [Act.put, List.getElem_toArray, List.getElem_cons_zero, List.getElem_cons_succ, List.setIfInBounds_toArray, List.set_cons_zero, List.set_cons_succ]
            refine wpAnyH_take (i := 1) (v := .pointer (some ⟨m + 1, 0, none⟩)) rfl (by kernel_rfl) (by kernel_rfl) (by kernel_rfl) (fun _ _ _ h => h) (Or.inl ⟨by rfl, ?_⟩) (by assumption) ?_
            · intro W2 hSw; have y1 := obj_cell hSw.1 1; have y2 := obj_cell hSw.2 0; go_simp
            simp only [Act.put, List.getElem_toArray, List.getElem_cons_zero, List.getElem_cons_succ, List.setIfInBounds_toArray, List.set_cons_zero, List.set_cons_succ]
            refine wpAnyH_take (i := 2) (v := .pointer (some ⟨m + 1, 1, none⟩)) rfl (by kernel_rfl) (by kernel_rfl) (by kernel_rfl) (fun _ _ _ h => h) (Or.inl ⟨by rfl, ?_⟩) (by assumption) ?_
            · intro W2 hSw; have y1 := obj_cell hSw.1 1; have y2 := obj_cell hSw.2 0; go_simp
            simp only [Act.put, List.getElem_toArray, List.getElem_cons_zero, List.getElem_cons_succ, List.setIfInBounds_toArray, List.set_cons_zero, List.set_cons_succ]
            refine wpAnyH_take (i := 3) (v := .map (some m)) rfl (by kernel_rfl) (by kernel_rfl) (by kernel_rfl) (fun _ _ _ h => h) (Or.inl ⟨by rfl, ?_⟩) (by assumption) ?_
            · intro W2 hSw; have y1 := obj_cell hSw.1 1; have y2 := obj_cell hSw.2 0; go_simp
            simp only [Act.put, List.getElem_toArray, List.getElem_cons_zero, List.getElem_cons_succ, List.setIfInBounds_toArray, List.set_cons_zero, List.set_cons_succ]
            refine wpAnyH_take (i := 4) (v := .pointer (some ⟨wr.heap.size, 0, none⟩)) rfl (by kernel_rfl) (by kernel_rfl) (by kernel_rfl) (fun _ _ _ h => h) (Or.inl ⟨by rfl, ?_⟩) (by assumption) ?_
            · intro W2 hSw; have y1 := obj_cell hSw.1 1; have y2 := obj_cell hSw.2 0; go_simp
            simp only [Act.put, List.getElem_toArray, List.getElem_cons_zero, List.getElem_cons_succ, List.setIfInBounds_toArray, List.set_cons_zero, List.set_cons_succ]
            refine wpAnyH_take (i := 5) (v := .string (strOf c.name)) rfl (by kernel_rfl) (by kernel_rfl) (by kernel_rfl) (fun _ _ _ h => h) (Or.inl ⟨by rfl, ?_⟩) (by assumption) ?_
            · intro W2 hSw; have y1 := obj_cell hSw.1 1; have y2 := obj_cell hSw.2 0; go_simp
            simp only [Act.put, List.getElem_toArray, List.getElem_cons_zero, List.getElem_cons_succ, List.setIfInBounds_toArray, List.set_cons_zero, List.set_cons_succ]
            refine wpAnyH_take (i := 6) (v := .int .i64 (i : Nat)) rfl (by kernel_rfl) (by kernel_rfl) (by kernel_rfl) (fun _ _ _ h => h) (Or.inl ⟨by rfl, ?_⟩) (by assumption) ?_
            · intro W2 hSw; have y1 := obj_cell hSw.1 1; have y2 := obj_cell hSw.2 0; go_simp
            simp only [Act.put, List.getElem_toArray, List.getElem_cons_zero, List.getElem_cons_succ, List.setIfInBounds_toArray, List.set_cons_zero, List.set_cons_succ]
            refine wpAnyH_ready (rs := [7]) (by kernel_rfl) (by simp) ?_
            refine AllReadyH.cons rfl (fun K hK => ?_) AllReadyH.nil
            have hset := HSET.out
            go_simp
            have hOB3 : w3.heap[m + 1]? = some (.cells #[v, .map (some m)] 76 (0, 0)) := HK3.out.obj HOB1.out (by omega)
            have hBO3 : w3.heap[wr.heap.size]? = some (.cells #[.string (strOf c.name), .int .i64 c.kind, .int .i64 c.o0, .int .i64 c.o1, .int .i64 c.o2, .int .i64 c.o3, .int .i64 c.any, .int .i64 c.makes, .int .i64 c.power, .int .i64 c.tough, .int .i64 c.keys, .slice ade c.effs.length cape, .slice adt c.trgs.length capt, .int .i64 c.rarity] 46 (0, 0)) := HK3.out.obj HBO.out (by have := HBM.out; omega)
            refine hK.out _ _ ⟨hOB3, hBO3⟩ (fun _ => ?_)
            clear hK K hset
            refine wpAnyH_done (by kernel_rfl) ?_ _
            have HOB3 := Lib.hid hOB3
            have HBO3 := Lib.hid hBO3
            have hcs3 : OwnCs w3 (m + 2) v (l.take i) := (HCS1.out.no ((Kept.refl No _).drew.drew)).kept HK3.out HNO.out.1 HNO.out.2.1 HNO.out.2.2
            have HCS3 := Lib.hid hcs3
            obtain ⟨adv, capv, rfl⟩ := hcs3.at.slice
            have hil2 : (l.take i).length = i := by rw [List.length_take]; have := HI.out; have := HN.out; omega
            rw [hil2] at HOB3 HCS3 hOB3 HBLT
            have HIL := Lib.hid hil2
            clear hOB3 hBO3 hcs3 hil2
            go_wp2_with fail
            have HCA3 := Lib.hid (((HCA.out.no (((Kept.refl No wr).alloc (.cells #[.string (strOf c.name), .int .i64 c.kind, .int .i64 c.o0, .int .i64 c.o1, .int .i64 c.o2, .int .i64 c.o3, .int .i64 c.any, .int .i64 c.makes, .int .i64 c.power, .int .i64 c.tough, .int .i64 c.keys, .slice ade c.effs.length cape, .slice adt c.trgs.length capt, .int .i64 c.rarity] 46)).drew.drew)).kept HK3.out (fun b _ hb e => by have := HHM.out; have hb2 : b < w.heap.size := hb; omega)).no (Kept.refl No w3).drew)
            have HALL := Lib.hid (fun ad1 cp1 ad2 cp2 => crd_one c (ev := .slice ad1 c.effs.length cp1) (tv := .slice ad2 c.trgs.length cp2) rfl rfl)
            have HLB := Lib.hid (show (i + 1) * 152 ≤ 140737488355328 by have := HI.out; have := HL.out; omega)
            have hcs4 := HCS3.out
            obtain ⟨cs, hrow, hcc⟩ := hcs4
            rw [HIL.out] at hrow
            have HROW := Lib.hid hrow
            have HCC := Lib.hid hcc
            have HS3 := Lib.hid (show m + 2 ≤ w3.heap.size by have h1 := HK3.out.size; have h2 := HBM.out; simp at h1; omega)
            have HBX3 := Lib.hid (show wr.heap.size < w3.heap.size from obj_lt HBO3.out)
            clear hrow hcc
            refine wp_region_held_drew (S := (fun W' => CObj W' wr.heap.size c (.slice ade c.effs.length cape) (.slice adt c.trgs.length capt))) (by kernel_rfl) HBO3.out (fun hHeld => ?_)
            refine wpAnyH_take (i := 0) (v := .pointer (some ⟨m + 1, 0, none⟩)) rfl (by kernel_rfl) (by kernel_rfl) (by kernel_rfl) (fun _ _ _ h => h) (Or.inl ⟨by rfl, ?_⟩) (by assumption) ?_
            · intro W2 hSw; skip; go_simp
            simp only [Act.put, List.getElem_toArray, List.getElem_cons_zero, List.getElem_cons_succ, List.setIfInBounds_toArray, List.set_cons_zero, List.set_cons_succ]
            refine wpAnyH_take (i := 1) (v := .pointer (some ⟨m + 1, 0, none⟩)) rfl (by kernel_rfl) (by kernel_rfl) (by kernel_rfl) (fun _ _ _ h => h) (Or.inl ⟨by rfl, ?_⟩) (by assumption) ?_
            · intro W2 hSw; skip; go_simp
            simp only [Act.put, List.getElem_toArray, List.getElem_cons_zero, List.getElem_cons_succ, List.setIfInBounds_toArray, List.set_cons_zero, List.set_cons_succ]
            refine wpAnyH_take (i := 2) (v := .pointer (some ⟨m + 1, 0, none⟩)) rfl (by kernel_rfl) (by kernel_rfl) (by kernel_rfl) (fun _ _ _ h => h) (Or.inl ⟨by rfl, ?_⟩) (by assumption) ?_
            · intro W2 hSw; skip; go_simp
            simp only [Act.put, List.getElem_toArray, List.getElem_cons_zero, List.getElem_cons_succ, List.setIfInBounds_toArray, List.set_cons_zero, List.set_cons_succ]
            refine wpAnyH_take (i := 3) (v := .pointer (some ⟨m + 1, 0, none⟩)) rfl (by kernel_rfl) (by kernel_rfl) (by kernel_rfl) (fun _ _ _ h => h) (Or.inl ⟨by rfl, ?_⟩) (by assumption) ?_
            · intro W2 hSw; skip; go_simp
            simp only [Act.put, List.getElem_toArray, List.getElem_cons_zero, List.getElem_cons_succ, List.setIfInBounds_toArray, List.set_cons_zero, List.set_cons_succ]
            refine wpAnyH_take (i := 5) (v := .agg #[.string (strOf c.name), .int .i64 c.kind, .int .i64 c.o0, .int .i64 c.o1, .int .i64 c.o2, .int .i64 c.o3, .int .i64 c.any, .int .i64 c.makes, .int .i64 c.power, .int .i64 c.tough, .int .i64 c.keys, .slice ade c.effs.length cape, .slice adt c.trgs.length capt, .int .i64 c.rarity]) rfl (by kernel_rfl) (by kernel_rfl) (by kernel_rfl) (fun _ _ _ h => h) (yieldsIf_load_mid (by rfl) 46 (.tmp 8) rfl wr.heap.size 0 rfl (crdCs c (.slice ade c.effs.length cape) (.slice adt c.trgs.length capt)) _ (fun W2 hSw => row_range hSw) Tryz.underlying46 rfl (by kernel_rfl)) (by assumption) ?_
            simp only [Act.put, List.getElem_toArray, List.getElem_cons_zero, List.getElem_cons_succ, List.setIfInBounds_toArray, List.set_cons_zero, List.set_cons_succ]
            refine wpAnyH_ready (rs := [4, 6]) (by kernel_rfl) (by simp) ?_
            refine AllReadyH.cons rfl (fun K hK => ?_) (AllReadyH.cons rfl (fun K hK => ?_) AllReadyH.nil)
            · have y1 := (show w3.drew.cell? ⟨m + 1, 0, none⟩ = some (.slice adv i capv) from obj_cell HOB3.out 0)
              go_simp
              refine hK.out _ _ HBO3.out (fun _ => ?_)
              clear hK K
              try simp only [Act.put, List.getElem_toArray, List.getElem_cons_zero, List.getElem_cons_succ, List.setIfInBounds_toArray, List.set_cons_zero, List.set_cons_succ]
              refine wpAnyH_ready (rs := [6]) (by kernel_rfl) (by simp) ?_
              refine AllReadyH.cons rfl (fun K hK => ?_) AllReadyH.nil
              go_simp
              go_at_call 28
              refine (copy_any (HSM.out c HMEM.out) HCA3.out).mono ?_
              rintro e4 w4 ⟨ev2, tv2, rfl, hown4, hk4⟩
              obtain ⟨ade2, cape2, rfl⟩ := owned_slice hown4.effs
              obtain ⟨adt2, capt2, rfl⟩ := hown4.trgs.slice
              have HOW4 := Lib.hid hown4
              have HK4 := Lib.hid hk4
              have hOB4 := hk4.obj HOB3.out (not_no _)
              have hBO4 := hk4.obj HBO3.out (not_no _)
              have HOB4 := Lib.hid hOB4
              have HBO4 := Lib.hid hBO4
              clear hown4 hk4 hOB4 hBO4
              refine hK.out _ _ HBO4.out (fun _ => ?_)
              clear hK K
              try simp only [Act.put, List.getElem_toArray, List.getElem_cons_zero, List.getElem_cons_succ, List.setIfInBounds_toArray, List.set_cons_zero, List.set_cons_succ]
              refine wpAnyH_ready (rs := [7]) (by kernel_rfl) (by simp) ?_
              refine AllReadyH.cons rfl (fun K hK => ?_) AllReadyH.nil
              go_simp
              refine hK.out _ _ (obj_alloc HBO4.out _) (fun _ => ?_)
              clear hK K
              try simp only [Act.put, List.getElem_toArray, List.getElem_cons_zero, List.getElem_cons_succ, List.setIfInBounds_toArray, List.set_cons_zero, List.set_cons_succ]
              refine wpAnyH_ready (rs := [8]) (by kernel_rfl) (by simp) ?_
              refine AllReadyH.cons rfl (fun K hK => ?_) AllReadyH.nil
              refine step_append_rdo (xv := .slice (some ⟨w4.heap.size, 0, none⟩) 1 1) rfl rfl rfl rfl eiC (owned_kept HROW.out (((Kept.refl No w3).drew.and HK4.out).alloc (.cells #[.string (strOf c.name), .int .i64 c.kind, .int .i64 c.o0, .int .i64 c.o1, .int .i64 c.o2, .int .i64 c.o3, .int .i64 c.any, .int .i64 c.makes, .int .i64 c.power, .int .i64 c.tough, .int .i64 c.keys, .slice ade2 c.effs.length cape2, .slice adt2 c.trgs.length capt2, .int .i64 c.rarity] 46)) fun _ _ _ => not_no _) (rd_newC w4 c (.slice ade2 c.effs.length cape2) (.slice adt2 c.trgs.length capt2)) (HALL.out _ _ _ _) HLB.out (by have h1 := HS3.out; have h2 := HK4.out.size; simp at h2; simp; omega) ?_
              intro v5 w5 hown5 hg5 _
              obtain ⟨ad5, cap5, rfl⟩ := owned_slice hown5
              have hkg : Kept (fun k => Value.ownBlock (.slice adv i capv) = some k) w3 w5 := (((Kept.refl No w3).drew.and HK4.out).alloc (.cells #[.string (strOf c.name), .int .i64 c.kind, .int .i64 c.o0, .int .i64 c.o1, .int .i64 c.o2, .int .i64 c.o3, .int .i64 c.any, .int .i64 c.makes, .int .i64 c.power, .int .i64 c.tough, .int .i64 c.keys, .slice ade2 c.effs.length cape2, .slice adt2 c.trgs.length capt2, .int .i64 c.rarity] 46)).any.grown hg5 (fun k e _ => e)
              have hlt5 := fun k e => HROW.out.lt k e
              have hOB5 := hkg.obj HOB3.out (fun e => by have := (hlt5 _ e).1; omega)
              have hBO5 := hkg.obj HBO3.out (fun e => by have := HBLT.out _ e; omega)
              have HOB5 := Lib.hid hOB5
              have HBO5 := Lib.hid hBO5
              have HOWN5 := Lib.hid hown5
              have HG5 := Lib.hid hg5
              have HKG := Lib.hid hkg
              clear hown5 hg5 hkg hOB5 hBO5 hlt5
              refine hK.out _ _ HBO5.out (fun _ => ?_)
              clear hK K
              try simp only [Act.put, List.getElem_toArray, List.getElem_cons_zero, List.getElem_cons_succ, List.setIfInBounds_toArray, List.set_cons_zero, List.set_cons_succ]
              refine wpAnyH_ready (rs := [9]) (by kernel_rfl) (by simp) ?_
              refine AllReadyH.cons rfl (fun K hK => ?_) AllReadyH.nil
              go_simp
              refine hK.out _ _ HBO5.out (fun _ => ?_)
              clear hK K
              try simp only [Act.put, List.getElem_toArray, List.getElem_cons_zero, List.getElem_cons_succ, List.setIfInBounds_toArray, List.set_cons_zero, List.set_cons_succ]
              refine wpAnyH_ready (rs := [10]) (by kernel_rfl) (by simp) ?_
              refine AllReadyH.cons rfl (fun K hK => ?_) AllReadyH.nil
              go_simp
              refine hK.out _ _ HBO5.out (fun _ => ?_)
              clear hK K
              try simp only [Act.put, List.getElem_toArray, List.getElem_cons_zero, List.getElem_cons_succ, List.setIfInBounds_toArray, List.set_cons_zero, List.set_cons_succ]
              refine wpAnyH_ready (rs := [11]) (by kernel_rfl) (by simp) ?_
              refine AllReadyH.cons rfl (fun K hK => ?_) AllReadyH.nil
              have z0 := obj_cell HOB5.out 0
              have f0 := obj_free HOB5.out 0
              go_simp
              refine hK.out _ _ (obj_setCell HBO5.out _ (by have := HBM.out; show wr.heap.size ≠ m + 1; omega)) (fun _ => ?_)
              clear hK K z0 f0
              refine wpAnyH_done (by kernel_rfl) ?_ _
              have HFIN := Lib.hid (nw_up HND2.out HSAY2.out HS1.out HK3.out HNM3.out HOB3.out HROW.out HCC.out HIL.out HTK.out HK4.out HOW4.out HOWN5.out HG5.out)
              go_wp2_with fail
              have hI := HI.out
              exact ⟨⟨i + 1, by go_num, by rw [HN.out]; omega, HFIN.out⟩, by simp [intOf]; omega⟩
            · go_simp
              go_at_call 28
              refine (copy_any (HSM.out c HMEM.out) HCA3.out).mono ?_
              rintro e4 w4 ⟨ev2, tv2, rfl, hown4, hk4⟩
              obtain ⟨ade2, cape2, rfl⟩ := owned_slice hown4.effs
              obtain ⟨adt2, capt2, rfl⟩ := hown4.trgs.slice
              have HOW4 := Lib.hid hown4
              have HK4 := Lib.hid hk4
              have hOB4 := hk4.obj HOB3.out (not_no _)
              have hBO4 := hk4.obj HBO3.out (not_no _)
              have HOB4 := Lib.hid hOB4
              have HBO4 := Lib.hid hBO4
              clear hown4 hk4 hOB4 hBO4
              refine hK.out _ _ HBO4.out (fun _ => ?_)
              clear hK K
              try simp only [Act.put, List.getElem_toArray, List.getElem_cons_zero, List.getElem_cons_succ, List.setIfInBounds_toArray, List.set_cons_zero, List.set_cons_succ]
              refine wpAnyH_ready (rs := [4, 7]) (by kernel_rfl) (by simp) ?_
              refine AllReadyH.cons rfl (fun K hK => ?_) (AllReadyH.cons rfl (fun K hK => ?_) AllReadyH.nil)
              · have y1 := (show w4.cell? ⟨m + 1, 0, none⟩ = some (.slice adv i capv) from obj_cell HOB4.out 0)
                go_simp
                refine hK.out _ _ HBO4.out (fun _ => ?_)
                clear hK K
                try simp only [Act.put, List.getElem_toArray, List.getElem_cons_zero, List.getElem_cons_succ, List.setIfInBounds_toArray, List.set_cons_zero, List.set_cons_succ]
                refine wpAnyH_ready (rs := [7]) (by kernel_rfl) (by simp) ?_
                refine AllReadyH.cons rfl (fun K hK => ?_) AllReadyH.nil
                go_simp
                refine hK.out _ _ (obj_alloc HBO4.out _) (fun _ => ?_)
                clear hK K
                try simp only [Act.put, List.getElem_toArray, List.getElem_cons_zero, List.getElem_cons_succ, List.setIfInBounds_toArray, List.set_cons_zero, List.set_cons_succ]
                refine wpAnyH_ready (rs := [8]) (by kernel_rfl) (by simp) ?_
                refine AllReadyH.cons rfl (fun K hK => ?_) AllReadyH.nil
                refine step_append_rdo (xv := .slice (some ⟨w4.heap.size, 0, none⟩) 1 1) rfl rfl rfl rfl eiC (owned_kept HROW.out (((Kept.refl No w3).drew.and HK4.out).alloc (.cells #[.string (strOf c.name), .int .i64 c.kind, .int .i64 c.o0, .int .i64 c.o1, .int .i64 c.o2, .int .i64 c.o3, .int .i64 c.any, .int .i64 c.makes, .int .i64 c.power, .int .i64 c.tough, .int .i64 c.keys, .slice ade2 c.effs.length cape2, .slice adt2 c.trgs.length capt2, .int .i64 c.rarity] 46)) fun _ _ _ => not_no _) (rd_newC w4 c (.slice ade2 c.effs.length cape2) (.slice adt2 c.trgs.length capt2)) (HALL.out _ _ _ _) HLB.out (by have h1 := HS3.out; have h2 := HK4.out.size; simp at h2; simp; omega) ?_
                intro v5 w5 hown5 hg5 _
                obtain ⟨ad5, cap5, rfl⟩ := owned_slice hown5
                have hkg : Kept (fun k => Value.ownBlock (.slice adv i capv) = some k) w3 w5 := (((Kept.refl No w3).drew.and HK4.out).alloc (.cells #[.string (strOf c.name), .int .i64 c.kind, .int .i64 c.o0, .int .i64 c.o1, .int .i64 c.o2, .int .i64 c.o3, .int .i64 c.any, .int .i64 c.makes, .int .i64 c.power, .int .i64 c.tough, .int .i64 c.keys, .slice ade2 c.effs.length cape2, .slice adt2 c.trgs.length capt2, .int .i64 c.rarity] 46)).any.grown hg5 (fun k e _ => e)
                have hlt5 := fun k e => HROW.out.lt k e
                have hOB5 := hkg.obj HOB3.out (fun e => by have := (hlt5 _ e).1; omega)
                have hBO5 := hkg.obj HBO3.out (fun e => by have := HBLT.out _ e; omega)
                have HOB5 := Lib.hid hOB5
                have HBO5 := Lib.hid hBO5
                have HOWN5 := Lib.hid hown5
                have HG5 := Lib.hid hg5
                have HKG := Lib.hid hkg
                clear hown5 hg5 hkg hOB5 hBO5 hlt5
                refine hK.out _ _ HBO5.out (fun _ => ?_)
                clear hK K
                try simp only [Act.put, List.getElem_toArray, List.getElem_cons_zero, List.getElem_cons_succ, List.setIfInBounds_toArray, List.set_cons_zero, List.set_cons_succ]
                refine wpAnyH_ready (rs := [9]) (by kernel_rfl) (by simp) ?_
                refine AllReadyH.cons rfl (fun K hK => ?_) AllReadyH.nil
                go_simp
                refine hK.out _ _ HBO5.out (fun _ => ?_)
                clear hK K
                try simp only [Act.put, List.getElem_toArray, List.getElem_cons_zero, List.getElem_cons_succ, List.setIfInBounds_toArray, List.set_cons_zero, List.set_cons_succ]
                refine wpAnyH_ready (rs := [10]) (by kernel_rfl) (by simp) ?_
                refine AllReadyH.cons rfl (fun K hK => ?_) AllReadyH.nil
                go_simp
                refine hK.out _ _ HBO5.out (fun _ => ?_)
                clear hK K
                try simp only [Act.put, List.getElem_toArray, List.getElem_cons_zero, List.getElem_cons_succ, List.setIfInBounds_toArray, List.set_cons_zero, List.set_cons_succ]
                refine wpAnyH_ready (rs := [11]) (by kernel_rfl) (by simp) ?_
                refine AllReadyH.cons rfl (fun K hK => ?_) AllReadyH.nil
                have z0 := obj_cell HOB5.out 0
                have f0 := obj_free HOB5.out 0
                go_simp
                refine hK.out _ _ (obj_setCell HBO5.out _ (by have := HBM.out; show wr.heap.size ≠ m + 1; omega)) (fun _ => ?_)
                clear hK K z0 f0
                refine wpAnyH_done (by kernel_rfl) ?_ _
                have HFIN := Lib.hid (nw_up HND2.out HSAY2.out HS1.out HK3.out HNM3.out HOB3.out HROW.out HCC.out HIL.out HTK.out HK4.out HOW4.out HOWN5.out HG5.out)
                go_wp2_with fail
                have hI := HI.out
                exact ⟨⟨i + 1, by go_num, by rw [HN.out]; omega, HFIN.out⟩, by simp [intOf]; omega⟩
              · go_simp
                refine hK.out _ _ (obj_alloc HBO4.out _) (fun _ => ?_)
                clear hK K
                try simp only [Act.put, List.getElem_toArray, List.getElem_cons_zero, List.getElem_cons_succ, List.setIfInBounds_toArray, List.set_cons_zero, List.set_cons_succ]
                refine wpAnyH_ready (rs := [4]) (by kernel_rfl) (by simp) ?_
                refine AllReadyH.cons rfl (fun K hK => ?_) AllReadyH.nil
                have y1 := (show (w4.alloc (.cells #[.string (strOf c.name), .int .i64 c.kind, .int .i64 c.o0, .int .i64 c.o1, .int .i64 c.o2, .int .i64 c.o3, .int .i64 c.any, .int .i64 c.makes, .int .i64 c.power, .int .i64 c.tough, .int .i64 c.keys, .slice ade2 c.effs.length cape2, .slice adt2 c.trgs.length capt2, .int .i64 c.rarity] 46)).cell? ⟨m + 1, 0, none⟩ = some (.slice adv i capv) from obj_cell (obj_alloc HOB4.out _) 0)
                go_simp
                refine hK.out _ _ (obj_alloc HBO4.out _) (fun _ => ?_)
                clear hK K
                try simp only [Act.put, List.getElem_toArray, List.getElem_cons_zero, List.getElem_cons_succ, List.setIfInBounds_toArray, List.set_cons_zero, List.set_cons_succ]
                refine wpAnyH_ready (rs := [8]) (by kernel_rfl) (by simp) ?_
                refine AllReadyH.cons rfl (fun K hK => ?_) AllReadyH.nil
                refine step_append_rdo (xv := .slice (some ⟨w4.heap.size, 0, none⟩) 1 1) rfl rfl rfl rfl eiC (owned_kept HROW.out (((Kept.refl No w3).drew.and HK4.out).alloc (.cells #[.string (strOf c.name), .int .i64 c.kind, .int .i64 c.o0, .int .i64 c.o1, .int .i64 c.o2, .int .i64 c.o3, .int .i64 c.any, .int .i64 c.makes, .int .i64 c.power, .int .i64 c.tough, .int .i64 c.keys, .slice ade2 c.effs.length cape2, .slice adt2 c.trgs.length capt2, .int .i64 c.rarity] 46)) fun _ _ _ => not_no _) (rd_newC w4 c (.slice ade2 c.effs.length cape2) (.slice adt2 c.trgs.length capt2)) (HALL.out _ _ _ _) HLB.out (by have h1 := HS3.out; have h2 := HK4.out.size; simp at h2; simp; omega) ?_
                intro v5 w5 hown5 hg5 _
                obtain ⟨ad5, cap5, rfl⟩ := owned_slice hown5
                have hkg : Kept (fun k => Value.ownBlock (.slice adv i capv) = some k) w3 w5 := (((Kept.refl No w3).drew.and HK4.out).alloc (.cells #[.string (strOf c.name), .int .i64 c.kind, .int .i64 c.o0, .int .i64 c.o1, .int .i64 c.o2, .int .i64 c.o3, .int .i64 c.any, .int .i64 c.makes, .int .i64 c.power, .int .i64 c.tough, .int .i64 c.keys, .slice ade2 c.effs.length cape2, .slice adt2 c.trgs.length capt2, .int .i64 c.rarity] 46)).any.grown hg5 (fun k e _ => e)
                have hlt5 := fun k e => HROW.out.lt k e
                have hOB5 := hkg.obj HOB3.out (fun e => by have := (hlt5 _ e).1; omega)
                have hBO5 := hkg.obj HBO3.out (fun e => by have := HBLT.out _ e; omega)
                have HOB5 := Lib.hid hOB5
                have HBO5 := Lib.hid hBO5
                have HOWN5 := Lib.hid hown5
                have HG5 := Lib.hid hg5
                have HKG := Lib.hid hkg
                clear hown5 hg5 hkg hOB5 hBO5 hlt5
                refine hK.out _ _ HBO5.out (fun _ => ?_)
                clear hK K
                try simp only [Act.put, List.getElem_toArray, List.getElem_cons_zero, List.getElem_cons_succ, List.setIfInBounds_toArray, List.set_cons_zero, List.set_cons_succ]
                refine wpAnyH_ready (rs := [9]) (by kernel_rfl) (by simp) ?_
                refine AllReadyH.cons rfl (fun K hK => ?_) AllReadyH.nil
                go_simp
                refine hK.out _ _ HBO5.out (fun _ => ?_)
                clear hK K
                try simp only [Act.put, List.getElem_toArray, List.getElem_cons_zero, List.getElem_cons_succ, List.setIfInBounds_toArray, List.set_cons_zero, List.set_cons_succ]
                refine wpAnyH_ready (rs := [10]) (by kernel_rfl) (by simp) ?_
                refine AllReadyH.cons rfl (fun K hK => ?_) AllReadyH.nil
                go_simp
                refine hK.out _ _ HBO5.out (fun _ => ?_)
                clear hK K
                try simp only [Act.put, List.getElem_toArray, List.getElem_cons_zero, List.getElem_cons_succ, List.setIfInBounds_toArray, List.set_cons_zero, List.set_cons_succ]
                refine wpAnyH_ready (rs := [11]) (by kernel_rfl) (by simp) ?_
                refine AllReadyH.cons rfl (fun K hK => ?_) AllReadyH.nil
                have z0 := obj_cell HOB5.out 0
                have f0 := obj_free HOB5.out 0
                go_simp
                refine hK.out _ _ (obj_setCell HBO5.out _ (by have := HBM.out; show wr.heap.size ≠ m + 1; omega)) (fun _ => ?_)
                clear hK K z0 f0
                refine wpAnyH_done (by kernel_rfl) ?_ _
                have HFIN := Lib.hid (nw_up HND2.out HSAY2.out HS1.out HK3.out HNM3.out HOB3.out HROW.out HCC.out HIL.out HTK.out HK4.out HOW4.out HOWN5.out HG5.out)
                go_wp2_with fail
                have hI := HI.out
                exact ⟨⟨i + 1, by go_num, by rw [HN.out]; omega, HFIN.out⟩, by simp [intOf]; omega⟩
        · have d1 : decide (i < n) = false := decide_eq_false hlt
          have hall : l.take i = l := List.take_of_length_le (by rw [HN.out]; omega)
          have HR := Lib.hid (wrong_0 H400.out HVA.out (by have := hs0.nd; rwa [hall] at this))
          have HAL := Lib.hid hall
          clear hlt hs0 hall
          go_wp2_with fail
          go_ret2
          refine ⟨HS.out.kept, .inl ⟨HR.out, _, rfl, ?_⟩⟩
          have hs := HS.out
          obtain ⟨v, h1, h2⟩ := hs.row
          obtain ⟨D, h3, h4⟩ := hs.nm
          rw [HAL.out] at h2 h4
          have hhm := hs.hm
          exact ⟨m + 1, m, v, rfl, ⟨h1, h2.at.mono (fun b _ h => by omega), ⟨_, D, h3, h4⟩, by show w.heap.size ≤ m + 1; omega, hhm⟩⟩
end Go.Proofs.YtclgoilfclmibaaGreatDoor
