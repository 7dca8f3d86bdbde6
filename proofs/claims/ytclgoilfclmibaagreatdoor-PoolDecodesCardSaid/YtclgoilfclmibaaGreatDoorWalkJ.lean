/-
  Pool: which triggers are valid.
-/
import Derived.Test.YtclgoilfclmibaaGreatDoorWalkI
set_option linter.unusedVariables false
set_option linter.unusedSimpArgs false
namespace Go.Proofs.YtclgoilfclmibaaGreatDoor
open Go.RowKit Go.Zn
attribute [local go_sem] Oper.semAt_some

theorem same_when (t : Trg) (ev : Value) (g : Nat) (y : Int) {w : World} (hg : w.cell? ⟨g, 0, none⟩ = some (.int .i64 y)) : Calls Tryz.prog 78 #[.agg #[.int .i64 t.when, ev], .pointer (some ⟨g, 0, none⟩)] w fun x w' => x = .returned (.bool (t.when == y)) ∧ Kept No w w' := by
  have HK0 := Lib.hid (Kept.refl No w)
  have hlt := block_lt_of_cell hg
  have hg' : ∀ o, (w.alloc o).cell? ⟨g, 0, none⟩ = some (.int .i64 y) := fun o => ((Kept.refl No w).alloc o).cell hg (not_no _)
  go_enter Tryz.func78, Tryz.ntmps78
  go_wp2_with fail
  go_ret
  exact ⟨rfl, HK0.out.alloc _⟩
def idxT (p : Trg → Bool) (l : List Trg) : Int := if l.any p then (l.findIdx p : Nat) else -1
theorem idxT_at {p : Trg → Bool} {l : List Trg} {i : Nat} {e : Trg} (hi : l[i]? = some e) (h : (l.take i).any p = false) (he : p e = true) : idxT p l = i := by
  obtain ⟨hil, hie⟩ := List.getElem?_eq_some_iff.1 hi
  have ha : l.any p = true := List.any_eq_true.2 ⟨e, by rw [← hie]; exact List.getElem_mem _, he⟩
  unfold idxT
  rw [if_pos ha]
  congr 1
  refine (List.findIdx_eq hil).2 ⟨by rw [hie]; exact he, fun j hj => ?_⟩
  have := List.any_eq_false.1 h (l[j]'(by omega)) (by
    rw [List.mem_iff_getElem]
    exact ⟨j, by rw [List.length_take]; omega, by rw [List.getElem_take]⟩)
  simpa using this
theorem idxT_no {p : Trg → Bool} {l : List Trg} (h : l.any p = false) : idxT p l = -1 := by unfold idxT; rw [h]; rfl
theorem idxT_ge (p : Trg → Bool) (l : List Trg) : decide (0 ≤ idxT p l) = l.any p := by
  cases h : l.any p
  · rw [idxT_no h]; decide
  · unfold idxT; rw [if_pos h]; exact decide_eq_true (by omega)
def IxtRel (p : Trg → Bool) (l : List Trg) (w0 : World) (iv : Value) (wr : World) : Prop := ∃ i : Nat, iv = .int .i64 (i : Nat) ∧ i ≤ l.length ∧ (l.take i).any p = false ∧ Kept No w0 wr
theorem eg_same (args : Array Value) (w : World) : (callFunc 78 args).run Tryz.prog w = .ok (.enter 78 args) w := by kernel_rfl
set_option maxRecDepth 100000 in
theorem ixt_any (g : Nat) (y : Int) {l : List Trg} (hl : l.length ≤ 1000000) {w : World} {B : Nat → Prop} {v : Value} (hv : TrgsAt w B v l) (hg : w.cell? ⟨g, 0, none⟩ = some (.int .i64 y)) : Calls Tryz.prog 94 #[v, .func (.func 78) #[] #[.pointer (some ⟨g, 0, none⟩)]] w fun x w' => x = .returned (.int .i64 (idxT (fun t => t.when == y) l)) ∧ Kept No w w' := by
  obtain ⟨ad, cap, rfl⟩ := hv.slice
  obtain ⟨p, hp⟩ : ∃ p : Trg → Bool, (fun t => t.when == y) = p := ⟨_, rfl⟩
  have HP := Lib.hid (fun (t : Trg) (ev : Value) w' (hk : Kept No w w') => (show Calls Tryz.prog 78 #[.agg #[.int .i64 t.when, ev], .pointer (some ⟨g, 0, none⟩)] w' fun x w2 => x = .returned (.bool (p t)) ∧ Kept No w' w2 from hp ▸ same_when t ev g y (hk.cell hg (not_no _))))
  have EG := Lib.hid eg_same
  obtain ⟨n, hn⟩ : ∃ n, l.length = n := ⟨_, rfl⟩
  have HN := Lib.hid hn
  have HV := Lib.hid hv
  rw [hp]
  rw [hn] at hl ⊢
  rw [hn] at HV
  clear hv hn hp hg
  go_enter Tryz.func94, Tryz.ntmps94
  go_wp2_with fail
  go_loopw [8] (fun iv wr => IxtRel p l w iv wr) (fun iv _ => n - (intOf iv).toNat)
  case atStart => exact ⟨0, rfl, Nat.zero_le _, rfl, Kept.refl No w⟩
  case round =>
    obtain ⟨i, rfl, hi, hf, hk⟩ := hrel
    rw [HN.out] at hi
    have HF := Lib.hid hf
    have HK := Lib.hid hk
    by_cases hlt : i < n
    · have hil : i < l.length := by rw [HN.out]; exact hlt
      obtain ⟨e, he⟩ : ∃ e, l[i]? = some e := ⟨_, List.getElem?_eq_getElem hil⟩
      obtain ⟨b, off, c1, ev, hs, _, g0, g1, _⟩ := (HV.out.no hk).at he
      have HT := Lib.hid (show l.take (i + 1) = l.take i ++ [e] by rw [List.take_add_one, he]; rfl)
      have HY := Lib.hid (fun hx => idxT_at (p := p) he HF.out hx)
      rw [HN.out] at hs
      cases hs
      have HC := Lib.hid (HP.out e ev wr hk)
      obtain ⟨q, hq⟩ : ∃ q, p e = q := ⟨_, rfl⟩
      rw [hq] at HC HY
      have HQ := Lib.hid hq
      have d1 : decide (i < n) = true := decide_eq_true hlt
      have hi0 : (0 : Int) ≤ (i : Int) := by omega
      have hin : (i : Int) < (n : Int) := by omega
      have q4 : IntKind.i64.wrap ((i : Int) + 1) = (i : Int) + 1 := IntWalk.i64_in _ (by omega)
      have HI := Lib.hid hlt
      clear hf hk hlt hil he hq
      cases q
      · have HR := Lib.hid (show (l.take (i + 1)).any p = false by rw [HT.out, List.any_append, HF.out]; simp [HQ.out])
        go_wp2_with fail
        refine HC.out.mono ?_
        rintro x w1 ⟨rfl, hk⟩
        have HK1 := Lib.hid (HK.out.and hk)
        clear hk
        go_wp2_with fail
        have hI := HI.out
        exact ⟨⟨i + 1, by go_num, by rw [HN.out]; omega, HR.out, HK1.out⟩, by simp [intOf]; omega⟩
      · have HR := Lib.hid (HY.out rfl)
        go_wp2_with fail
        refine HC.out.mono ?_
        rintro x w1 ⟨rfl, hk⟩
        have HK1 := Lib.hid (HK.out.and hk)
        clear hk
        go_wp2_with fail
        go_ret
        exact ⟨by rw [HR.out]; rfl, HK1.out⟩
    · have d1 : decide (i < n) = false := decide_eq_false hlt
      have HR := Lib.hid (show idxT p l = -1 by
        have := HF.out
        rw [List.take_of_length_le (by rw [HN.out]; omega)] at this
        exact idxT_no this)
      clear hf hlt hk
      go_wp2_with fail
      go_ret
      exact ⟨by rw [HR.out]; rfl, HK.out⟩
theorem hast_any (g : Nat) (y : Int) {l : List Trg} (hl : l.length ≤ 1000000) {w : World} {B : Nat → Prop} {v : Value} (hv : TrgsAt w B v l) (hg : w.cell? ⟨g, 0, none⟩ = some (.int .i64 y)) : Calls Tryz.prog 77 #[v, .func (.func 78) #[] #[.pointer (some ⟨g, 0, none⟩)]] w fun x w' => x = .returned (.bool (l.any fun t => t.when == y)) ∧ Kept No w w' := by
  have HC := Lib.hid (ixt_any g y hl hv hg)
  have HR := Lib.hid (idxT_ge (fun t => t.when == y) l)
  clear hv hl hg
  go_enter Tryz.func77, Tryz.ntmps77
  go_wp2_with fail
  refine HC.out.mono ?_
  rintro e w1 ⟨rfl, hk⟩
  have HK := Lib.hid hk
  clear hk
  go_wp2_with fail
  go_ret
  exact ⟨by rw [← HR.out]; rfl, HK.out⟩
/-- the first triggers of some -/
theorem TrgsC.take {w : World} {B : Nat → Prop} : ∀ {l : List Trg} {cs : List Value}, TrgsC w B l cs → ∀ i, TrgsC w B (l.take i) (cs.take (i * 2))
  | [], _, h, i => by rw [show _ = [] from h]; simp; exact rfl
  | x :: l, _, ⟨v, r, h1, h2, h3⟩, 0 => by simp; exact rfl
  | x :: l, _, ⟨v, r, h1, h2, h3⟩, i + 1 => by
    refine ⟨v, r.take (i * 2), ?_, h2, h3.take i⟩
    rw [h1, show (i + 1) * 2 = i * 2 + 1 + 1 by omega]
    rfl
theorem TrgsAt.take {w : World} {B : Nat → Prop} {ad : Addr} {n cap : Nat} {l : List Trg} (h : TrgsAt w B (.slice (some ad) n cap) l) {i : Nat} (hi : i ≤ l.length) : TrgsAt w B (.slice (some ad) i cap) (l.take i) := by
  obtain ⟨cs, ⟨h1, h2, h3⟩, ht⟩ := h
  refine ⟨cs.take (i * 2), ?_, ht.take i⟩
  have hlen : (l.take i).length = i := by rw [List.length_take]; omega
  rw [hlen]
  refine ⟨by rw [List.length_take]; omega, by omega, ?_⟩
  rcases h3 with ⟨hv | ⟨a, hv⟩, hn⟩ | ⟨b, off, c, hv, hc, hb, hx⟩
  · cases hv
  · cases hv
    obtain rfl : i = 0 := by omega
    exact .inl ⟨.inr ⟨_, rfl⟩, rfl⟩
  · cases hv
    refine .inr ⟨b, off, _, rfl, by omega, fun hp => hb (by rw [List.length_take] at hp; omega), fun j u hj => ?_⟩
    rw [List.getElem?_take] at hj
    split at hj
    · exact hx j u hj
    · cases hj
end Go.Proofs.YtclgoilfclmibaaGreatDoor
