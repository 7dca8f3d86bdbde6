/-
  Pool: a pool as bytes.
-/
import Derived.Test.YtclgoilfclmibaaDoorQb
import Derived.Test.YtclgoilfclmibaaDoorEc
set_option linter.unusedVariables false
set_option linter.unusedSimpArgs false
namespace Go.Proofs.YtclgoilfclmibaaDoor
open Go Go.RowKit Go.Zn
attribute [local go_sem] Oper.semAt_some

theorem cenc_len {c : Crd} (hc : cvalid c = true) : (cenc c).length ≤ 1000 := by
  have h := cvalid_in hc
  have h1 := h.name
  have h2 := (allE_out h.effs).1
  have h3 := h.many
  have h5 := tB_len (l := c.trgs) fun x hx => h.trgs x hx
  unfold cenc
  simp only [List.length_append, List.length_cons, eenc_len, cB1, cB2, List.length_nil]
  omega
theorem cencs_len : ∀ {l : List Crd}, (∀ c ∈ l, cvalid c = true) → (l.flatMap cenc).length ≤ 1000 * l.length
  | [], _ => by simp
  | c :: l, h => by
    have h1 := cenc_len (h c (by simp))
    have h2 := cencs_len (l := l) fun x hx => h x (List.mem_cons_of_mem _ hx)
    rw [List.flatMap_cons, List.length_append, List.length_cons]
    omega
def PeRel (l : List Crd) (w : World) (ov iv : Value) (wr : World) : Prop := ∃ i : Nat, iv = .int .i64 (i : Nat) ∧ i ≤ l.length ∧ BRow wr w.heap.size ov (be2 l.length ++ (l.take i).flatMap cenc) ∧ Kept No w wr
set_option maxRecDepth 100000 in
set_option maxHeartbeats 4000000 in
theorem pencode_any {w : World} {B : Nat → Prop} {p : Value} {l : List Crd} (h : PoolAt w B p l) (hv : wrongF l = 0) : Calls Tryd.prog 13 #[p] w (BytesPost (penc l) w) := by
  obtain ⟨h400, hval, _⟩ := wrong_out hv
  obtain ⟨g, m, v, rfl, h⟩ := h
  obtain ⟨ad, cap, rfl⟩ := h.cards.slice
  have HZ := Lib.hid (zero_no h)
  have c0 : w.cell? ⟨g, 0, none⟩ = some (.slice ad l.length cap) := obj_cell h.obj 0
  have HP := Lib.hid h
  have HVAL := Lib.hid hval
  obtain ⟨n, hn⟩ : ∃ n, l.length = n := ⟨_, rfl⟩
  have HN := Lib.hid hn
  have HB0 := Lib.hid (show (body l).length ≤ 500000 by
    have := cencs_len hval
    unfold body
    rw [List.length_append, be2_len]; omega)
  have HPUT := Lib.hid (put2_any (n := n) (by omega) w)
  rw [hn] at c0 h400 HP
  have HL := Lib.hid h400
  have q0 : (n : Int) % 4294967296 = (n : Int) := by omega
  clear h hn hval hv h400
  go_enter Tryd.func13, Tryd.ntmps13
  go_wp2_with fail
  refine HZ.out.mono ?_
  rintro e w' ⟨rfl, rfl⟩
  go_wp2_with fail
  refine HPUT.out.mono ?_
  rintro e w1 ⟨⟨v, rfl, hb⟩, hk⟩
  have c1 : w1.cell? ⟨g, 0, none⟩ = some (.slice ad n cap) := obj_cell (hk.obj HP.out.obj (not_no _)) 0
  have HB := Lib.hid hb
  have HK1 := Lib.hid hk
  obtain ⟨adb, capb, rfl⟩ := owned_slice hb
  clear hb hk c0 q0
  go_wp2_with fail
  go_loopw [4, 23] (fun ov iv wr => PeRel l w ov iv wr) (fun _ iv _ => n - (intOf iv).toNat)
  case atStart =>
    refine ⟨0, rfl, Nat.zero_le _, ?_, HK1.out⟩
    rw [HN.out, List.take_zero, List.flatMap_nil, List.append_nil]
    exact HB.out
  case round =>
    obtain ⟨i, rfl, hi, ho, hk⟩ := hrel
    rw [HN.out] at hi
    obtain ⟨ado, cpo, rfl⟩ := owned_slice ho
    have HK := Lib.hid hk
    by_cases hlt : i < n
    · have hil : i < l.length := by rw [HN.out]; exact hlt
      obtain ⟨c, hc⟩ : ∃ c, l[i]? = some c := ⟨_, List.getElem?_eq_getElem hil⟩
      obtain ⟨b, off, cap1, ev, tv, hs, hcap, hrg, hca⟩ := (HP.out.no hk).cards.at hc
      obtain ⟨ade, cape, rfl⟩ := rd_slice hca.effs
      obtain ⟨adt, capt, rfl⟩ := hca.trgs.slice
      rw [HN.out] at hs
      cases hs
      have hcv := HVAL.out c (List.mem_of_getElem? hc)
      have HRG := Lib.hid (show wr.rangeAt b (off + i * 14) [.string (strOf c.name), .int .i64 c.kind, .int .i64 c.o0, .int .i64 c.o1, .int .i64 c.o2, .int .i64 c.o3, .int .i64 c.any, .int .i64 c.makes, .int .i64 c.power, .int .i64 c.tough, .int .i64 c.keys, .slice ade c.effs.length cape, .slice adt c.trgs.length capt, .int .i64 c.rarity] from hrg)
      have HOB := Lib.hid (show (wr.alloc (.cells #[.string (strOf c.name), .int .i64 c.kind, .int .i64 c.o0, .int .i64 c.o1, .int .i64 c.o2, .int .i64 c.o3, .int .i64 c.any, .int .i64 c.makes, .int .i64 c.power, .int .i64 c.tough, .int .i64 c.keys, .slice ade c.effs.length cape, .slice adt c.trgs.length capt, .int .i64 c.rarity] 35)).heap[wr.heap.size]? = some (.cells #[.string (strOf c.name), .int .i64 c.kind, .int .i64 c.o0, .int .i64 c.o1, .int .i64 c.o2, .int .i64 c.o3, .int .i64 c.any, .int .i64 c.makes, .int .i64 c.power, .int .i64 c.tough, .int .i64 c.keys, .slice ade c.effs.length cape, .slice adt c.trgs.length capt, .int .i64 c.rarity] 35 (0, 0)) from heap_alloc_new wr _)
      have HCE := Lib.hid (cencode_any (sm_of_valid hcv) hcv (hca.no ((Kept.refl No wr).alloc (.cells #[.string (strOf c.name), .int .i64 c.kind, .int .i64 c.o0, .int .i64 c.o1, .int .i64 c.o2, .int .i64 c.o3, .int .i64 c.any, .int .i64 c.makes, .int .i64 c.power, .int .i64 c.tough, .int .i64 c.keys, .slice ade c.effs.length cape, .slice adt c.trgs.length capt, .int .i64 c.rarity] 35))))
      have hcl := cenc_len hcv
      have htl := cencs_len (l := l.take i) (fun x hx => HVAL.out x (List.mem_of_mem_take hx))
      rw [List.length_take] at htl
      have HTK := Lib.hid (show (l.take (i + 1)).flatMap cenc = (l.take i).flatMap cenc ++ cenc c by rw [List.take_add_one, hc]; simp)
      obtain ⟨bs, hbs⟩ : ∃ bs, be2 l.length ++ (l.take i).flatMap cenc = bs := ⟨_, rfl⟩
      have hbl : bs.length ≤ 2 + 1000 * n := by
        rw [← hbs, List.length_append, be2_len]; omega
      rw [hbs] at ho ⊢
      obtain ⟨mb, hmb⟩ : ∃ mb, bs.length = mb := ⟨_, rfl⟩
      obtain ⟨mc, hmc⟩ : ∃ mc, (cenc c).length = mc := ⟨_, rfl⟩
      have HMC := Lib.hid hmc
      have HMB := Lib.hid hmb
      have HBS := Lib.hid hbs
      have ho2 : wr.ownsRow w.heap.size 5 1 (.slice ado bs.length cpo) bs.length (bts bs) := ho
      rw [hmb] at ho2 hbl ⊢
      rw [hmc] at hcl
      have HO := Lib.hid ho2
      have HLE := Lib.hid (show (mb + mc) * 1 ≤ 140737488355328 by have := HL.out; omega)
      have d1 : decide (i < n) = true := decide_eq_true hlt
      have hi0 : (0 : Int) ≤ (i : Int) := by omega
      have hin : (i : Int) < (n : Int) := by omega
      have q4 : IntKind.i64.wrap ((i : Int) + 1) = (i : Int) + 1 := IntWalk.i64_in _ (by have := HL.out; omega)
      have HI := Lib.hid hlt
      clear ho ho2 hk hlt hil hc hrg hca htl hcap hcv hcl hbs hmb hmc hbl
      go_wp2_with (first | (with_reducible refine wpList_load_mid rfl 35 _ rfl b (off + i * 14) rfl [.string (strOf c.name), .int .i64 c.kind, .int .i64 c.o0, .int .i64 c.o1, .int .i64 c.o2, .int .i64 c.o3, .int .i64 c.any, .int .i64 c.makes, .int .i64 c.power, .int .i64 c.tough, .int .i64 c.keys, .slice ade c.effs.length cape, .slice adt c.trgs.length capt, .int .i64 c.rarity] _ HRG.out Tryd.underlying35 rfl (by kernel_rfl) ?_) | (with_reducible refine wpList_load_row rfl 35 _ rfl wr.heap.size rfl 35 _ (0, 0) _ HOB.out Tryd.underlying35 rfl (by kernel_rfl) ?_))
      refine HCE.out.mono ?_
      rintro e w2 ⟨vc, rfl, hc2, hk2⟩
      obtain ⟨adc, cpc, rfl⟩ := owned_slice hc2
      have hc3 : w2.ownsRow (wr.alloc (.cells #[.string (strOf c.name), .int .i64 c.kind, .int .i64 c.o0, .int .i64 c.o1, .int .i64 c.o2, .int .i64 c.o3, .int .i64 c.any, .int .i64 c.makes, .int .i64 c.power, .int .i64 c.tough, .int .i64 c.keys, .slice ade c.effs.length cape, .slice adt c.trgs.length capt, .int .i64 c.rarity] 35)).heap.size 5 1 (.slice adc (cenc c).length cpc) (cenc c).length (bts (cenc c)) := hc2
      rw [HMC.out] at hc3 ⊢
      have HC2 := Lib.hid (rd_owned hc3)
      have HK2 := Lib.hid ((HK.out.alloc _).and hk2)
      have HO2 := Lib.hid (owned_kept HO.out (((Kept.refl No wr).alloc _).and hk2) fun _ _ _ => not_no _)
      have HSZ := Lib.hid (HK2.out.size)
      clear hk2 hc2 hc3
      go_wp2_with (at_builtin; refine wpList_append_rd rfl rfl rfl rfl ei8 HO2.out HC2.out (bts_one _) HLE.out HSZ.out ?_; intro v5 w5 hown5 hg5 _)
      have hI := HI.out
      refine ⟨⟨i + 1, by go_num, by rw [HN.out]; omega, ?_, ?_⟩, by simp [intOf]; omega⟩
      · rw [HTK.out, ← List.append_assoc, HBS.out]
        show w5.ownsRow _ _ _ _ (bs ++ cenc c).length (bts (bs ++ cenc c))
        rw [List.length_append, HMB.out, HMC.out, bts_app]
        exact hown5
      · exact HK2.out.grown hg5 (fun k e h => absurd (HO2.out.lt k e).1 (by omega))
    · have d1 : decide (i < n) = false := decide_eq_false hlt
      have hR : be2 l.length ++ (l.take i).flatMap cenc = body l := by rw [List.take_of_length_le (by rw [HN.out]; omega)]; rfl
      rw [hR] at ho ⊢
      have HO := Lib.hid ho
      have HS := Lib.hid (psum_any (by have := HB0.out; omega) (rd_owned ho))
      have HPT := Lib.hid (fun w' => put4_any (sumF_lt (body l)) w')
      obtain ⟨mb, hmb⟩ : ∃ mb, (body l).length = mb := ⟨_, rfl⟩
      have HMB := Lib.hid hmb
      obtain ⟨s, hs⟩ : ∃ s, sumF (body l) = s := ⟨_, rfl⟩
      have HSS := Lib.hid hs
      rw [hmb] at HS ⊢
      rw [hs] at HS HPT
      clear hlt hk ho hmb hs hR
      go_wp2_with fail
      refine HS.out.mono ?_
      rintro e w2 ⟨rfl, rfl⟩
      go_wp2_with fail
      refine (HPT.out _).mono ?_
      rintro e w3 ⟨⟨v4, rfl, hb4⟩, hk4⟩
      obtain ⟨ad4, cap4, rfl⟩ := owned_slice hb4
      have HB4 := Lib.hid hb4
      have HK4 := Lib.hid hk4
      clear hb4 hk4
      go_wp2_with fail
      have hsz3 : w.heap.size ≤ w3.heap.size := by have := HK.out.size; have := HK4.out.size; omega
      have HK3 := Lib.hid ((HK.out.and HK4.out).alloc (.cells #[Value.slice ado mb cpo, Value.slice ad4 (be4 s).length cap4] 24))
      have hbody : Rd (w3.alloc (.cells #[Value.slice ado mb cpo, Value.slice ad4 (be4 s).length cap4] 24)) (fun _ => True) 1 (.slice ado mb cpo) (body l).length (bts (body l)) := by
        have := ((rd_owned HO.out).kept HK4.out (fun _ _ _ => not_no _)).alloc (.cells #[Value.slice ado mb cpo, Value.slice ad4 (be4 s).length cap4] 24)
        rw [HMB.out] at this ⊢
        exact this.mono fun _ _ _ => trivial
      have htail := ((rd_owned HB4.out).alloc (.cells #[Value.slice ado mb cpo, Value.slice ad4 (be4 s).length cap4] 24)).mono (C := fun _ => True) fun _ _ _ => trivial
      refine (concat_any (by rw [be4_len]; decide) (by have := HB0.out; rw [be4_len]; omega) hbody htail (heap_alloc_new w3 _)).mono ?_
      rintro e w5 ⟨⟨v5, rfl, hb5⟩, hk5⟩
      have HB5 := Lib.hid hb5
      have HK5 := Lib.hid hk5
      have HS3 := Lib.hid hsz3
      obtain ⟨ad5, cap5, rfl⟩ := owned_slice hb5
      clear hb5 hk5 hbody htail hsz3
      go_wp2_with fail
      go_ret2
      refine ⟨_, rfl, ?_, HK3.out.and HK5.out⟩
      have hp : penc l = body l ++ be4 s := by unfold penc; rw [HSS.out]
      rw [hp]
      have hb := HB5.out
      unfold BRow at hb
      rw [List.length_append] at hb
      show w5.ownsRow _ _ _ (.slice ad5 ((body l).length + (be4 s).length) cap5) (body l ++ be4 s).length _
      rw [List.length_append]
      exact owned_mono hb (by have := HS3.out; simp; omega)
end Go.Proofs.YtclgoilfclmibaaDoor
