/-
  Runes: what fits by the document.
-/
import Derived.Test.YtoahnfmbmpllaaaDoorWalkJ
set_option linter.unusedVariables false
set_option linter.unusedSimpArgs false
namespace Go.Proofs.YtoahnfmbmpllaaaDoor
open Go.RowKit Go.Zn
attribute [local go_sem] Oper.semAt_some

theorem ei25 : SliceOf Tryd.prog 25 21 1 4 (.int .i32 0) := ⟨Tryd.underlying25, info_parts (by kernel_rfl), rfl, by decide, by decide⟩
theorem bytes_go : ∀ (M : List Nat), (∀ c ∈ M, Scal c) → ∀ l : List UInt8, (M.map fun (c : Nat) => (c : Int)).foldl (fun r n => r ++ Utf8.encode n) (strOf l) = strOf (l ++ enc M)
  | [], _, l => by simp [enc]
  | c :: M, h, l => by
    rw [List.map_cons, List.foldl_cons, conv_enc (h c (by simp)), strOf_app, bytes_go M (fun x hx => h x (by simp [hx])), enc_cons c M, enc_one, List.append_assoc]
theorem runesBytes_eq {M : List Nat} (h : ∀ c ∈ M, Scal c) : runesBytes (M.map fun (c : Nat) => (c : Int)) = strOf (enc M) := bytes_go M h []
theorem conv_row {w : World} {B : Nat → Prop} {q off n cap : Nat} {M : List Nat} (h : ∀ c ∈ M, Scal c) (hr : Rd w B 1 (.slice (some ⟨q, off, none⟩) n cap) n (i32s M)) : (convert 25 9 (.slice (some ⟨q, off, none⟩) n cap)).run Tryd.prog w = .ok (.string (strOf (enc M))) w := by
  have hn : M.length = n := by have := hr.1; rw [i32s_len] at this; omega
  have hcell : ∀ j, j < M.length → w.cell? ⟨q, off + j, none⟩ = some (.int .i32 ((M.getD j 0 : Nat) : Int)) := by
    intro j hj
    by_cases h0 : M = []
    · subst h0; simp at hj
    · obtain ⟨q2, off2, cap2, hv, hc⟩ := rune_cells hr h0
      injection hv with e1 e2 e3
      injection e1 with e1
      injection e1 with e4 e5
      subst e4 e5
      rw [hc j (M.getD j 0) (by rw [List.getD_eq_getElem?_getD, List.getElem?_eq_getElem hj]; rfl)]
  have := run_convert_runes (P := Tryd.prog) w 25 9 21 ⟨q, off, none⟩ n cap (M.map fun (c : Nat) => (c : Int)) (by rw [List.length_map]; omega) Tryd.underlying25 Tryd.underlying21 Tryd.underlying9 (fun j hj => by
    rw [List.length_map] at hj
    rw [Addr.add_lit, hcell j hj]
    congr 2
    rw [List.getD_eq_getElem?_getD, List.getD_eq_getElem?_getD, List.getElem?_map, List.getElem?_eq_getElem hj]
    rfl)
  rw [this, List.take_of_length_le (by rw [List.length_map]; omega), runesBytes_eq h]
/-- ahead of the spaces -/
def preR (L : List Nat) (k : Nat) : List Nat := if k < colsL L then cutR (k - 1) 0 L ++ [8230] else L
theorem fit_pre {L : List Nat} {k : Nat} (h : ¬ (k < colsL L ∧ k = 0)) : fitR L k = preR L k ++ List.replicate (k - colsL (preR L k)) 32 ∧ colsL (preR L k) ≤ k := by
  unfold fitR preR
  by_cases hk : k < colsL L
  · rw [if_pos hk, if_neg (fun e => h ⟨hk, e⟩), if_pos hk, colsL_app]
    have e : colsL [8230] = 1 := by decide
    have := cutR_le (k - 1) L 0 (by omega)
    rw [e]
    exact ⟨rfl, by omega⟩
  · rw [if_neg hk, if_neg hk]
    exact ⟨rfl, by omega⟩
theorem preR_scal {L : List Nat} (hL : ∀ c ∈ L, Scal c) (k : Nat) : ∀ c ∈ preR L k, Scal c := by
  intro c hc
  unfold preR at hc
  split at hc
  · rcases List.mem_append.mp hc with hc | hc
    · rw [cutR_take] at hc; exact hL c (List.mem_of_mem_take hc)
    · rw [List.mem_singleton] at hc; subst hc; decide
  · exact hL c hc
theorem preR_len {L : List Nat} (k : Nat) : (preR L k).length ≤ L.length + 1 := by
  unfold preR
  split
  · have := cutR_len_le (k - 1) L 0
    simp
    omega
  · omega
def FiRel (L : List Nat) (k base : Nat) (w0 : World) (v : Value) (wr : World) : Prop :=
  ∃ (j q cap n : Nat), v = .slice (some ⟨q, 0, none⟩) n cap ∧ n = (preR L k ++ List.replicate j 32).length ∧ colsL (preR L k) + j ≤ k ∧ wr.ownsRow base 21 1 v n (i32s (preR L k ++ List.replicate j 32)) ∧ Kept No w0 wr
theorem app_first {w w1 w6 : World} {m : Nat} {xs : List Value} {v6 : Value} (hk : Kept No w w1) (h : w6.ownsRow w.heap.size 21 1 v6 (0 + m) ([] ++ xs)) (hg : w1.grownBy w6 none) :
    ∃ ad cap, v6 = .slice ad m cap ∧ w6.ownsRow w.heap.size 21 1 (.slice ad m cap) m xs ∧ Kept No w w6 := by
  rw [Nat.zero_add, List.nil_append] at h
  obtain ⟨ad, cap, rfl⟩ := owned_slice h
  exact ⟨ad, cap, rfl, h, hk.grown hg (fun k e hlt => by cases e)⟩
def sliceN : Value → Nat
  | .slice _ n _ => n
  | _ => 0
def CtRel (L : List Nat) (k : Nat) (w0 : World) (iv : Value) (wr : World) : Prop := ∃ m : Nat, iv = .int .i64 (m : Nat) ∧ m ≤ (cutR (k - 1) 0 L).length ∧ wr = w0
theorem owned_some {w : World} {base e size : Nat} {v : Value} {n : Nat} {xs : List Value} (h : w.ownsRow base e size v n xs) (hn : 1 ≤ n) : ∃ q cap, v = .slice (some ⟨q, 0, none⟩) n cap := by
  rcases h.2 with ⟨_, h⟩ | ⟨g, cap, cur, hv, _⟩
  · omega
  · exact ⟨g, cap, hv⟩
theorem cut_lt {L : List Nat} {k : Nat} (h : k < colsL L) (h0 : k ≠ 0) : (cutR (k - 1) 0 L).length < L.length := by
  have h1 := cutR_len_le (k - 1) L 0
  by_cases e : (cutR (k - 1) 0 L).length = L.length
  · have h2 := cutR_take (k - 1) L 0
    rw [e, List.take_length] at h2
    have h3 := cutR_le (k - 1) L 0 (by omega)
    rw [h2] at h3
    omega
  · omega
set_option maxRecDepth 100000 in
set_option maxHeartbeats 8000000 in
theorem rfit_any {l : List UInt8} (hl : l.length ≤ 1000) {k : Nat} (hk : k ≤ 200) (w : World) : Calls Tryd.prog 9 #[.string (strOf l), .int .i64 (k : Nat)] w fun e w' => e = .returned (.string (strOf (fitS l k))) ∧ Kept No w w' := by
  obtain ⟨cap, w1, hcv, hown, hkw⟩ := runes_row l (by omega) w
  have hsc := rns_scal l
  have hrl := rns_len l
  have hfit : fitS l k = enc (fitR (rns l) k) := rfl
  obtain ⟨L, hL⟩ : ∃ L, rns l = L := ⟨_, rfl⟩
  rw [hL] at hcv hown hsc hrl hfit
  have hle : ∀ c ∈ L, c ≤ 1114111 := fun c hc => (hsc c hc).le
  obtain ⟨n, hn⟩ : ∃ n, L.length = n := ⟨_, rfl⟩
  rw [hn] at hcv hown hrl
  have hsz := strOf_size l
  have hcols : colsL L ≤ 2000 := by have := colsL_le L; omega
  have HW := Lib.hid (fun w (v : Value) (M : List Nat) (n : Nat) (B : Nat → Prop) (h1 : M.length ≤ 2000) (h2 : ∀ c ∈ M, c ≤ 1114111) (h : Rd w B 1 v n (i32s M)) => rwidth_any (show M.length ≤ 100000 by omega) h2 h)
  have HO := Lib.hid hown
  have HK := Lib.hid hkw
  have HSC := Lib.hid hsc
  have HLE := Lib.hid hle
  have HN := Lib.hid hn
  have HF := Lib.hid hfit
  have HW1 := Lib.hid (HW.out w1 _ L n _ (by omega) hle (rd_owned hown))
  have HHS := Lib.hid hkw.size
  by_cases hgt : k < colsL L
  · by_cases h0 : k = 0
    · subst h0
      have HR := Lib.hid (show fitS l 0 = [] by rw [hfit]; unfold fitR; rw [if_pos hgt]; rfl)
      obtain ⟨W, hW⟩ : ∃ W, colsL L = W := ⟨_, rfl⟩
      rw [hW] at HW1 hgt
      have t1 : decide ((0 : Int) < (W : Int)) = true := decide_eq_true (by omega)
      have t1' : decide (0 < W) = true := decide_eq_true hgt
      clear hown hkw hsc hle hn hfit hgt hcols hW
      go_enter Tryd.func9, Tryd.ntmps9
      go_wp2_with fail
      refine HW1.out.mono ?_
      rintro e w2 ⟨rfl, hk⟩
      have hk := hk.symm
      subst hk
      go_wp2_with fail
      go_ret
      exact ⟨by rw [HR.out]; rfl, HK.out⟩
    · have t2 : ((k : Int) == 0) = false := by simp; omega
      have HCL := Lib.hid (cut_lt hgt h0)
      have HCN := Lib.hid (fun m => cutR_next (k - 1) L 0 m (by omega) (by omega))
      have hpre : preR L k = cutR (k - 1) 0 L ++ [8230] := by unfold preR; rw [if_pos hgt]
      obtain ⟨hfp, hpc⟩ := fit_pre (L := L) (k := k) (fun h => h0 h.2)
      have HPRE := Lib.hid hpre
      have HFP := Lib.hid (And.intro hfp hpc)
      have HCT := Lib.hid (cutR_take (k - 1) L 0)
      obtain ⟨W, hW⟩ : ∃ W, colsL L = W := ⟨_, rfl⟩
      rw [hW] at HW1 hgt
      have t1 : decide ((k : Int) < (W : Int)) = true := decide_eq_true (by omega)
      have t1' : decide (k < W) = true := decide_eq_true hgt
      have q1 : IntKind.i64.wrap ((k : Int) - 1) = ((k - 1 : Nat) : Int) := (IntWalk.i64_in _ (by omega)).trans (by omega)
      have HKK := Lib.hid h0
      clear hown hkw hsc hle hn hfit hgt hcols hW hpre hfp hpc h0
      go_enter Tryd.func9, Tryd.ntmps9
      go_wp2_with fail
      refine HW1.out.mono ?_
      rintro e w2 ⟨rfl, hk⟩
      have hk := hk.symm
      subst hk
      go_wp2_with fail
      obtain ⟨C, hC⟩ : ∃ C, (cutR (k - 1) 0 L).length = C := ⟨_, rfl⟩
      rw [hC] at HCL
      have HCC := Lib.hid hC
      clear hC
      have HCAP := Lib.hid (show n ≤ cap from by
        obtain ⟨_, h⟩ := HO.out
        rcases h with ⟨h, _⟩ | ⟨g, c, cur, hv, _, _, h, _⟩
        · cases h
        · injection hv with _ _ h3; rw [h3]; exact h)
      go_loopw [6] (fun iv wr => CtRel L k w1 iv wr) (fun iv _ => C - (intOf iv).toNat)
      case atStart => exact ⟨0, rfl, Nat.zero_le _, rfl⟩
      case round =>
        clear HW1
        obtain ⟨m, rfl, hm, rfl⟩ := hrel
        rw [HCC.out] at hm
        have hCL := HCL.out
        rw [HN.out] at hCL
        have hcap := HCAP.out
        have hm1 : m + 1 ≤ n := by omega
        have q2 : IntKind.i64.wrap ((m : Int) + 1) = (m : Int) + 1 := IntWalk.i64_in _ (by omega)
        have hc0 : (0 : Int) ≤ (m : Int) + 1 := by omega
        have hc1 : (m : Int) + 1 ≤ (cap : Int) := by omega
        have hc2 : (m : Int) + 1 ≤ (n : Int) := by omega
        have HWM := Lib.hid (HW.out wr _ (L.take (m + 1)) (m + 1) _ (by rw [List.length_take]; omega) (fun c hc => HLE.out c (List.mem_of_mem_take hc)) (rd_take (rd_owned HO.out) hm1))
        have hnext := HCN.out m
        rw [HCC.out] at hnext
        obtain ⟨X, hX⟩ : ∃ X, colsL (L.take (m + 1)) = X := ⟨_, rfl⟩
        rw [hX] at HWM hnext
        by_cases hlt : m < C
        · have d1 : decide (X ≤ k - 1) = true := decide_eq_true (by omega)
          have d1' : decide ((X : Int) ≤ ((k - 1 : Nat) : Int)) = true := decide_eq_true (by omega)
          have HI := Lib.hid (And.intro hlt HCC.out)
          have HRL := Lib.hid (show CtRel L k wr (.int .i64 ((m : Int) + 1)) wr from ⟨m + 1, by go_num, by rw [HCC.out]; omega, rfl⟩)
          clear hlt hm hnext hX hCL
          go_wp2_with fail
          refine HWM.out.mono ?_
          rintro e w3 ⟨rfl, hk⟩
          have hk := hk.symm
          subst hk
          go_wp2_with fail
          have hI := HI.out.1
          exact ⟨HRL.out, by simp [intOf]; omega⟩
        · obtain rfl : m = C := by omega
          have d1 : decide (X ≤ k - 1) = false := decide_eq_false (by omega)
          have d1' : decide ((X : Int) ≤ ((k - 1 : Nat) : Int)) = false := decide_eq_false (by omega)
          have hc3 : (0 : Int) ≤ (m : Int) := by omega
          have hc4 : (m : Int) ≤ (cap : Int) := by omega
          have hc5 : (m : Int) ≤ (n : Int) := by omega
          have HRD := Lib.hid (rd_take (rd_owned HO.out) (show m ≤ n by omega))
          have HNIL := Lib.hid (World.ownsRow_nil wr w.heap.size 21 1)
          have HB1 := Lib.hid (show (0 + m) * 4 ≤ 140737488355328 by omega)
          have HS1 := Lib.hid (show w.heap.size ≤ wr.heap.size from HHS.out)
          have HB2 := Lib.hid (show (m + 1) * 4 ≤ 140737488355328 by omega)
          have HPL := Lib.hid (show (preR L k).length ≤ 1001 by have := preR_len (L := L) k; have := HN.out; omega)
          have HTK := Lib.hid (show i32s (L.take m) ++ [Value.int .i32 8230] = i32s (preR L k) ∧ (preR L k).length = m + 1 by
            rw [HPRE.out]
            have h1 := HCT.out
            rw [HCC.out] at h1
            refine ⟨by rw [i32s_app, h1]; rfl, ?_⟩
            rw [List.length_append, HCC.out]; rfl)
          have HPC := Lib.hid HFP.out.2
          clear hm hnext hX hCL hm1
          go_wp2_with fail
          refine HWM.out.mono ?_
          rintro e w3 ⟨rfl, hk⟩
          have hk := hk.symm
          subst hk
          go_wp2_with (first
            | (at_builtin; refine wpList_append_rd rfl rfl rfl rfl ei25 HNIL.out HRD.out (i32s_one _) HB1.out HS1.out ?_; intro v6 w6 hown6 hg6 _; obtain ⟨ad6, cap6, rfl, ho6, hk6⟩ := app_first HK.out hown6 hg6; have HK6 := Lib.hid hk6; have HA6 := Lib.hid (ho6.alloc (.cells #[.int .i32 8230] 21)); have HS6 := Lib.hid (show w.heap.size ≤ (w6.alloc (.cells #[.int .i32 8230] 21)).heap.size by have := HK6.out.size; simp; omega); clear hown6 hg6 ho6 hk6)
            | (at_builtin; refine wpList_append_rd rfl rfl rfl rfl ei25 HA6.out (rd_new1 w6 (.int .i32 8230) 21) (by intro u hu; simp at hu; rw [hu]; rfl) HB2.out HS6.out ?_; intro v7 w7 hown7 hg7 _; obtain ⟨q7, cap7, rfl⟩ := owned_some hown7 (by omega); have HO7 := Lib.hid hown7; have HK7 := Lib.hid (show Kept No w w7 from (HK6.out.alloc _).grown hg7 (fun k e hlt => by have := (HA6.out.lt k e).1; omega)); clear hown7 hg7))
          have HST := Lib.hid (show FiRel L k w.heap.size w (.slice (some ⟨q7, 0, none⟩) (m + 1) cap7) w7 from ⟨0, q7, cap7, m + 1, rfl, by simp [HTK.out.2], by have := HPC.out; omega, by
            have h := HO7.out
            rw [HTK.out.1] at h
            simpa using h, HK7.out⟩)
          go_loopw [5] (fun v wr => FiRel L k w.heap.size w v wr) (fun v _ => 2000 - sliceN v)
          case atStart => exact HST.out
          case round =>
            clear HST
            obtain ⟨j, q, cap3, n3, rfl, hn3, hj, hown3, hk3⟩ := hrel
            have hpl := HPL.out
            have hMs : ∀ c ∈ preR L k ++ List.replicate j 32, Scal c := fun c hc => by
              rcases List.mem_append.mp hc with hc | hc
              · exact preR_scal HSC.out k c hc
              · rw [(List.mem_replicate.mp hc).2]; decide
            have hM : (preR L k ++ List.replicate j 32).length = (preR L k).length + j := by simp
            have hcm : colsL (preR L k ++ List.replicate j 32) = colsL (preR L k) + j := by rw [colsL_app, cols_spaces]
            have HW3 := Lib.hid (HW.out wr _ (preR L k ++ List.replicate j 32) n3 _ (by omega) (fun c hc => (hMs c hc).le) (rd_owned hown3))
            have HCV := Lib.hid (conv_row hMs (rd_owned hown3))
            have hO3 := hown3
            have HK3 := Lib.hid hk3
            rw [hcm] at HW3
            have hn400 : n3 ≤ 1300 := by omega
            obtain ⟨P, hP⟩ : ∃ P, colsL (preR L k) = P := ⟨_, rfl⟩
            rw [hP] at HW3 hj
            by_cases hlt : P + j < k
            · have d1 : decide (P + j < k) = true := decide_eq_true hlt
              have d1' : decide ((P : Int) + (j : Int) < (k : Int)) = true := decide_eq_true (by omega)
              have d1'' : decide (((P + j : Nat) : Int) < (k : Int)) = true := decide_eq_true (by omega)
              have HO3 := Lib.hid (hO3.alloc (.cells #[.int .i32 32] 21))
              have HB3 := Lib.hid (show (n3 + 1) * 4 ≤ 140737488355328 by omega)
              have HS3 := Lib.hid (show w.heap.size ≤ (wr.alloc (.cells #[.int .i32 32] 21)).heap.size by have := HK3.out.size; simp; omega)
              have HX3 := Lib.hid (And.intro hn3 (And.intro hM (And.intro hP hlt)))
              clear hown3 hO3 hk3 hMs hcm hM hj hlt hn3 hP HCV
              go_wp2_with fail
              refine HW3.out.mono ?_
              rintro e w5 ⟨rfl, hk⟩
              have hk := hk.symm
              subst hk
              go_wp2_with (at_builtin; refine wpList_append_rd rfl rfl rfl rfl ei25 HO3.out (rd_new1 wr (.int .i32 32) 21) (by intro u hu; simp at hu; rw [hu]; rfl) HB3.out HS3.out ?_; intro v6 w6 hown6 hg6 _; obtain ⟨q6, cap6, rfl⟩ := owned_some hown6 (by omega); have HO6 := Lib.hid hown6; have HK6 := Lib.hid (show Kept No w w6 from (HK3.out.alloc _).grown hg6 (fun k e hlt => by have := (HO3.out.lt k e).1; omega)); clear hown6 hg6)
              obtain ⟨e1, e2, e3, e4⟩ := HX3.out
              have hsp : preR L k ++ List.replicate (j + 1) 32 = preR L k ++ List.replicate j 32 ++ [32] := by rw [List.replicate_succ', List.append_assoc]
              have hrel2 : FiRel L k w.heap.size w (.slice (some ⟨q6, 0, none⟩) (n3 + 1) cap6) w6 := ⟨j + 1, q6, cap6, n3 + 1, rfl, by rw [hsp, List.length_append, ← e1]; rfl, by omega, by rw [hsp, i32s_app]; exact HO6.out, HK6.out⟩
              exact ⟨hrel2, by simp [sliceN]; omega⟩
            · have d1 : decide (P + j < k) = false := decide_eq_false hlt
              have d1' : decide ((P : Int) + (j : Int) < (k : Int)) = false := decide_eq_false (by omega)
              have d1'' : decide (((P + j : Nat) : Int) < (k : Int)) = false := decide_eq_false (by omega)
              have hcv2 := HCV.out
              have HR := Lib.hid (show strOf (fitS l k) = strOf (enc (preR L k ++ List.replicate j 32)) by
                rw [HF.out, HFP.out.1, hP, show k - P = j by have := HFP.out.2; omega])
              clear hown3 hO3 hk3 hMs hcm hM hj hlt hn3 hP HCV
              go_wp2_with fail
              refine HW3.out.mono ?_
              rintro e w5 ⟨rfl, hk⟩
              have hk := hk.symm
              subst hk
              go_wp2_with fail
              go_ret
              exact ⟨by rw [HR.out]; rfl, HK3.out⟩
  · obtain ⟨hfp, hpc⟩ := fit_pre (L := L) (k := k) (fun h => hgt h.1)
    have hpre : preR L k = L := by unfold preR; rw [if_neg hgt]
    have HFP := Lib.hid (And.intro hfp hpc)
    have HPL := Lib.hid (show (preR L k).length ≤ 1001 by rw [hpre]; omega)
    have HST := Lib.hid (show FiRel L k w.heap.size w (.slice (some ⟨w.heap.size, 0, none⟩) n cap) w1 from ⟨0, _, _, n, rfl, by rw [hpre]; simp [hn], by omega, by rw [hpre]; simpa using hown, hkw⟩)
    obtain ⟨W, hW⟩ : ∃ W, colsL L = W := ⟨_, rfl⟩
    rw [hW] at HW1 hgt
    have t1 : decide ((k : Int) < (W : Int)) = false := decide_eq_false (by omega)
    have t1' : decide (k < W) = false := decide_eq_false hgt
    clear hown hkw hsc hle hn hfit hgt hcols hW hpre hfp hpc
    go_enter Tryd.func9, Tryd.ntmps9
    go_wp2_with fail
    refine HW1.out.mono ?_
    rintro e w2 ⟨rfl, hk⟩
    have hk := hk.symm
    subst hk
    go_wp2_with fail
    go_loopw [5] (fun v wr => FiRel L k w.heap.size w v wr) (fun v _ => 2000 - sliceN v)
    case atStart => exact HST.out
    case round =>
      clear HST
      obtain ⟨j, q, cap3, n3, rfl, hn3, hj, hown3, hk3⟩ := hrel
      have hpl := HPL.out
      have hMs : ∀ c ∈ preR L k ++ List.replicate j 32, Scal c := fun c hc => by
        rcases List.mem_append.mp hc with hc | hc
        · exact preR_scal HSC.out k c hc
        · rw [(List.mem_replicate.mp hc).2]; decide
      have hM : (preR L k ++ List.replicate j 32).length = (preR L k).length + j := by simp
      have hcm : colsL (preR L k ++ List.replicate j 32) = colsL (preR L k) + j := by rw [colsL_app, cols_spaces]
      have HW3 := Lib.hid (HW.out wr _ (preR L k ++ List.replicate j 32) n3 _ (by omega) (fun c hc => (hMs c hc).le) (rd_owned hown3))
      have HCV := Lib.hid (conv_row hMs (rd_owned hown3))
      have hO3 := hown3
      have HK3 := Lib.hid hk3
      rw [hcm] at HW3
      have hn400 : n3 ≤ 1300 := by omega
      obtain ⟨P, hP⟩ : ∃ P, colsL (preR L k) = P := ⟨_, rfl⟩
      rw [hP] at HW3 hj
      by_cases hlt : P + j < k
      · have d1 : decide (P + j < k) = true := decide_eq_true hlt
        have d1' : decide ((P : Int) + (j : Int) < (k : Int)) = true := decide_eq_true (by omega)
        have d1'' : decide (((P + j : Nat) : Int) < (k : Int)) = true := decide_eq_true (by omega)
        have HO3 := Lib.hid (hO3.alloc (.cells #[.int .i32 32] 21))
        have HB3 := Lib.hid (show (n3 + 1) * 4 ≤ 140737488355328 by omega)
        have HS3 := Lib.hid (show w.heap.size ≤ (wr.alloc (.cells #[.int .i32 32] 21)).heap.size by have := HK3.out.size; simp; omega)
        have HX3 := Lib.hid (And.intro hn3 (And.intro hM (And.intro hP hlt)))
        clear hown3 hO3 hk3 hMs hcm hM hj hlt hn3 hP HCV
        go_wp2_with fail
        refine HW3.out.mono ?_
        rintro e w5 ⟨rfl, hk⟩
        have hk := hk.symm
        subst hk
        go_wp2_with (at_builtin; refine wpList_append_rd rfl rfl rfl rfl ei25 HO3.out (rd_new1 wr (.int .i32 32) 21) (by intro u hu; simp at hu; rw [hu]; rfl) HB3.out HS3.out ?_; intro v6 w6 hown6 hg6 _; obtain ⟨q6, cap6, rfl⟩ := owned_some hown6 (by omega); have HO6 := Lib.hid hown6; have HK6 := Lib.hid (show Kept No w w6 from (HK3.out.alloc _).grown hg6 (fun k e hlt => by have := (HO3.out.lt k e).1; omega)); clear hown6 hg6)
        obtain ⟨e1, e2, e3, e4⟩ := HX3.out
        have hsp : preR L k ++ List.replicate (j + 1) 32 = preR L k ++ List.replicate j 32 ++ [32] := by rw [List.replicate_succ', List.append_assoc]
        have hrel2 : FiRel L k w.heap.size w (.slice (some ⟨q6, 0, none⟩) (n3 + 1) cap6) w6 := ⟨j + 1, q6, cap6, n3 + 1, rfl, by rw [hsp, List.length_append, ← e1]; rfl, by omega, by rw [hsp, i32s_app]; exact HO6.out, HK6.out⟩
        exact ⟨hrel2, by simp [sliceN]; omega⟩
      · have d1 : decide (P + j < k) = false := decide_eq_false hlt
        have d1' : decide ((P : Int) + (j : Int) < (k : Int)) = false := decide_eq_false (by omega)
        have d1'' : decide (((P + j : Nat) : Int) < (k : Int)) = false := decide_eq_false (by omega)
        have hcv2 := HCV.out
        have HR := Lib.hid (show strOf (fitS l k) = strOf (enc (preR L k ++ List.replicate j 32)) by
          rw [HF.out, HFP.out.1, hP, show k - P = j by have := HFP.out.2; omega])
        clear hown3 hO3 hk3 hMs hcm hM hj hlt hn3 hP HCV
        go_wp2_with fail
        refine HW3.out.mono ?_
        rintro e w5 ⟨rfl, hk⟩
        have hk := hk.symm
        subst hk
        go_wp2_with fail
        go_ret
        exact ⟨by rw [HR.out]; rfl, HK3.out⟩
end Go.Proofs.YtoahnfmbmpllaaaDoor
