/-
  Bracket: the plain model: which texts are those of brackets; what the program and the law read of a text.
-/
import Derived.Test.YtphlpclhmodekaaDoorLp
import Derived.Lib.AtoiAll
import Derived.Lib.IndexMore
set_option linter.unusedVariables false
set_option linter.unusedSimpArgs false
namespace Go.Proofs.YtphlpclhmodekaaDoor

/-- a character of a text -/
def chAt (l : List UInt8) (i : Nat) : UInt8 := l.getD i 0
/-- the first n characters are reported -/
def rdN (k E : Nat) (t : Nat → UInt8) : Nat → (Nat → Nat)
  | 0 => freshF k E
  | n + 1 => readC k E (rdN k E t n) n (t n)
theorem rdN_wf {k E : Nat} (hz : Sz k E) (t : Nat → UInt8) : ∀ n, n + 1 ≤ 2 ^ k → WF k E (rdN k E t n)
  | 0, _ => WF.fresh hz
  | n + 1, h => (rdN_wf hz t n (by omega)).readC hz (by omega) _
theorem rdN_mix {k E : Nat} {f : Nat → Nat} (hz : Sz k E) (h : WF k E f) {t : Nat → UInt8} : ∀ n, n + 1 ≤ 2 ^ k → (∀ j, j < n → t j = chF k E f j) → rdN k E t n = mixF k E f n
  | 0, _, _ => by funext i; unfold rdN mixF; rw [if_neg (by omega)]
  | n + 1, hn, ht => by
    unfold rdN
    rw [rdN_mix hz h n (by omega) (fun j hj => ht j (by omega)), ht n (by omega), mix_step hz h (by omega)]
theorem mix_all {k E : Nat} {f : Nat → Nat} (hz : Sz k E) (h : WF k E f) : mixF k E f (2 ^ k - 1) = f := by
  funext i
  unfold mixF
  by_cases hi : i < 2 ^ k - 1
  · rw [if_pos hi]
  · rw [if_neg hi, h.out i (by omega), (WF.fresh hz).out i (by omega)]
theorem rdN_all {k E : Nat} {f : Nat → Nat} (hz : Sz k E) (h : WF k E f) {t : Nat → UInt8} (ht : ∀ j, j < 2 ^ k - 1 → t j = chF k E f j) : rdN k E t (2 ^ k - 1) = f := by
  have := Nat.one_le_two_pow (n := k)
  rw [rdN_mix hz h _ (by omega) ht, mix_all hz h]

theorem dig_cases {E : Nat} (h : E ≤ 64) : (E < 10 ∧ Lib.decDigits E = [UInt8.ofNat (48 + E)]) ∨ (10 ≤ E ∧ Lib.decDigits E = [UInt8.ofNat (48 + E / 10), UInt8.ofNat (48 + E % 10)]) := by
  by_cases h1 : E < 10
  · exact .inl ⟨h1, Lib.decDigits_one h1⟩
  · exact .inr ⟨by omega, Lib.decDigits_two h1 (by omega)⟩
def okV (x : Lib.NumEnd Int) (E : Nat) : Bool := match x with | .ok v => v == (E : Int) | _ => false
theorem okV_eq {x : Lib.NumEnd Int} {E : Nat} (h : okV x E = true) : x = .ok (E : Int) := by
  cases x <;> simp [okV] at h
  rw [h]
theorem dig_one : ∀ E : Fin 10, okV (Lib.atoiAll [UInt8.ofNat (48 + E.val)]) E.val = true := by decide
theorem dig_two : ∀ E : Fin 65, okV (Lib.atoiAll [UInt8.ofNat (48 + E.val / 10), UInt8.ofNat (48 + E.val % 10)]) E.val = true := by decide
theorem atoi_dec {E : Nat} (h : E ≤ 64) : Lib.atoiAll (Lib.decDigits E) = .ok (E : Int) := by
  rcases dig_cases h with ⟨h1, e⟩ | ⟨h1, e⟩
  · rw [e]; exact okV_eq (dig_one ⟨E, h1⟩)
  · rw [e]; exact okV_eq (dig_two ⟨E, by omega⟩)
theorem dig_val {x : Nat} (h : x < 10) : (UInt8.ofNat (48 + x)).toNat = 48 + x := by rw [UInt8.toNat_ofNat']; omega
theorem dig_not {x : Nat} (h : x < 10) : ((58 : UInt8) == UInt8.ofNat (48 + x)) = false := by
  rw [beq_eq_false_iff_ne]
  intro e
  have := congrArg UInt8.toNat e
  rw [dig_val h] at this
  have h58 : (58 : UInt8).toNat = 58 := rfl
  omega
theorem index_one {x : UInt8} (h : ((58 : UInt8) == x) = false) (r : List UInt8) : Lib.index ([x] ++ [58] ++ r) [58] = 1 := by
  have h' : ¬ 58 = x := by simpa using h
  simp [Lib.index, List.isPrefixOf, h']
theorem index_two {x y : UInt8} (h : ((58 : UInt8) == x) = false) (g : ((58 : UInt8) == y) = false) (r : List UInt8) : Lib.index ([x, y] ++ [58] ++ r) [58] = 2 := by
  have h' : ¬ 58 = x := by simpa using h
  have g' : ¬ 58 = y := by simpa using g
  simp [Lib.index, List.isPrefixOf, h', g']
theorem cut_dec {E : Nat} (h : E ≤ 64) (r : List UInt8) : Lib.cut (Lib.decDigits E ++ [58] ++ r) [58] = (Lib.decDigits E, r, true) := by
  rcases dig_cases h with ⟨h1, e⟩ | ⟨h1, e⟩
  · rw [e]
    have := index_one (dig_not h1) r
    unfold Lib.cut
    rw [this]
    simp
  · rw [e]
    have := index_two (dig_not (show E / 10 < 10 by omega)) (dig_not (show E % 10 < 10 by omega)) r
    unfold Lib.cut
    rw [this]
    simp
/-- the number that Parse reads -/
def pN (l : List UInt8) : Int := match Lib.atoiAll (Lib.cut l [58]).1 with | .ok v => v | .«syntax» => 0 | .range => Lib.atoiSat (Lib.cut l [58]).1
def pT (l : List UInt8) : List UInt8 := (Lib.cut l [58]).2.1
theorem pN_text {k E : Nat} (f : Nat → Nat) (h : E ≤ 64) : pN (textF k E f) = (E : Nat) := by
  unfold pN textF
  rw [cut_dec h, atoi_dec h]
theorem pT_text {k E : Nat} (f : Nat → Nat) (h : E ≤ 64) : pT (textF k E f) = chsF k E f (2 ^ k - 1) := by
  unfold pT textF
  rw [cut_dec h]
theorem cut_len (l : List UInt8) : (Lib.cut l [58]).1.length ≤ l.length ∧ (pT l).length ≤ l.length := by
  unfold pT Lib.cut
  split
  · simp; omega
  · simp
theorem chsF_at {k E : Nat} (f : Nat → Nat) {j n : Nat} (h : j < n) : chAt (chsF k E f n) j = chF k E f j := by
  unfold chAt
  rw [List.getD_eq_getElem?_getD]
  simp [chsF, h]
theorem Sz.e64 {k E : Nat} (h : Sz k E) : 2 ≤ E ∧ E ≤ 64 := by
  have := h.hi
  have := h.lo
  obtain ⟨H, hH, h1, h2, _⟩ := h.pow
  omega
theorem sz_uniq {j k E : Nat} (h : Sz j E) (g : Sz k E) : j = k := by
  have a1 := h.lo
  have a2 := h.hi
  have b1 := g.lo
  have b2 := g.hi
  by_cases e : j = k
  · exact e
  · by_cases l : j < k
    · have : 2 ^ (j + 1) ≤ 2 ^ k := Nat.pow_le_pow_right (by decide) (by omega)
      have e : 2 ^ (j + 1) = 2 * 2 ^ j := by omega
      omega
    · have : 2 ^ (k + 1) ≤ 2 ^ j := Nat.pow_le_pow_right (by decide) (by omega)
      have e : 2 ^ (k + 1) = 2 * 2 ^ k := by omega
      omega
/-- what the program has read is a bracket's own decisions, if the text is a bracket's -/
theorem prog_read {j k E : Nat} {f : Nat → Nat} {l : List UInt8} {n : Nat} (hz : Sz k E) (h : WF k E f) (ht : textF k E f = l) (hj : Sz j n) (hn : pN l = (n : Nat)) : n = E ∧ j = k ∧ (pT l).length = 2 ^ k - 1 ∧ rdN k E (chAt (pT l)) (2 ^ k - 1) = f := by
  subst ht
  rw [pN_text f hz.e64.2] at hn
  obtain rfl : n = E := by omega
  obtain rfl := sz_uniq hj hz
  rw [pT_text f hz.e64.2]
  exact ⟨rfl, rfl, chsF_len _ _ _ _, rdN_all hz h fun i hi => chsF_at f hi⟩
/-- a text is that of one bracket alone -/
theorem text_inj {j k D E : Nat} {f g : Nat → Nat} (hj : Sz j D) (hg : WF j D g) (hz : Sz k E) (h : WF k E f) (ht : textF k E f = textF j D g) : D = E ∧ j = k ∧ g = f := by
  obtain ⟨rfl, rfl, _, hr⟩ := prog_read hz h ht hj (pN_text g hj.e64.2)
  obtain ⟨_, _, _, hs⟩ := prog_read hj hg rfl hj (pN_text g hj.e64.2)
  exact ⟨rfl, rfl, hs.symm.trans hr⟩

/-- the law's own reading of the head -/
def isD (c : UInt8) : Bool := decide (48 ≤ c) && decide (c ≤ 57)
def hdV (l : List UInt8) : Nat → Nat
  | 0 => 0
  | i + 1 => 10 * hdV l i + ((chAt l i).toNat - 48)
structure Hd (l : List UInt8) (i : Nat) : Prop where
  three : i ≤ 3
  len : i ≤ l.length
  dig : ∀ j, j < i → isD (chAt l j) = true
def HdEnd (l : List UInt8) (i : Nat) : Prop := i = l.length ∨ i = 3 ∨ isD (chAt l i) = false
theorem isD_iff (c : UInt8) : isD c = true ↔ 48 ≤ c.toNat ∧ c.toNat ≤ 57 := by
  unfold isD
  simp only [Bool.and_eq_true, decide_eq_true_eq, UInt8.le_iff_toNat_le]
  exact Iff.rfl
theorem Hd.lt {l : List UInt8} : ∀ {i : Nat}, Hd l i → hdV l i < 10 ^ i
  | 0, _ => by simp [hdV]
  | i + 1, h => by
    have ih := Hd.lt (l := l) (i := i) ⟨by have := h.three; omega, by have := h.len; omega, fun j hj => h.dig j (by omega)⟩
    have hd := (isD_iff _).mp (h.dig i (by omega))
    unfold hdV
    rw [Nat.pow_succ]
    omega
theorem Hd.up {l : List UInt8} {i : Nat} (h : Hd l i) (h1 : i < l.length) (h2 : i < 3) (h3 : isD (chAt l i) = true) : Hd l (i + 1) :=
  ⟨by omega, by omega, fun j hj => if e : j = i then e ▸ h3 else h.dig j (by omega)⟩
theorem hd_text {k E : Nat} (f : Nat → Nat) (hE : E ≤ 64) {i : Nat} (h : Hd (textF k E f) i) (he : HdEnd (textF k E f) i) : hdV (textF k E f) i = E ∧ i = (Lib.decDigits E).length := by
  rcases dig_cases hE with ⟨h1, e⟩ | ⟨h1, e⟩
  · have ht : textF k E f = UInt8.ofNat (48 + E) :: 58 :: chsF k E f (2 ^ k - 1) := by unfold textF; rw [e]; rfl
    rw [e]
    rw [ht] at h he ⊢
    have c0 : chAt (UInt8.ofNat (48 + E) :: 58 :: chsF k E f (2 ^ k - 1)) 0 = UInt8.ofNat (48 + E) := rfl
    have c1 : chAt (UInt8.ofNat (48 + E) :: 58 :: chsF k E f (2 ^ k - 1)) 1 = 58 := rfl
    have d0 : isD (UInt8.ofNat (48 + E)) = true := (isD_iff _).mpr (by rw [dig_val h1]; omega)
    have d1 : isD 58 = false := by decide
    obtain rfl | rfl | h2 : i = 0 ∨ i = 1 ∨ 2 ≤ i := by omega
    · rcases he with he | he | he
      · simp at he
      · omega
      · rw [c0, d0] at he; cases he
    · refine ⟨?_, rfl⟩
      unfold hdV hdV
      rw [c0, dig_val h1]
      omega
    · have := h.dig 1 (by omega)
      rw [c1, d1] at this
      cases this
  · have ht : textF k E f = UInt8.ofNat (48 + E / 10) :: UInt8.ofNat (48 + E % 10) :: 58 :: chsF k E f (2 ^ k - 1) := by unfold textF; rw [e]; rfl
    rw [e]
    rw [ht] at h he ⊢
    have c0 : chAt (UInt8.ofNat (48 + E / 10) :: UInt8.ofNat (48 + E % 10) :: 58 :: chsF k E f (2 ^ k - 1)) 0 = UInt8.ofNat (48 + E / 10) := rfl
    have c1 : chAt (UInt8.ofNat (48 + E / 10) :: UInt8.ofNat (48 + E % 10) :: 58 :: chsF k E f (2 ^ k - 1)) 1 = UInt8.ofNat (48 + E % 10) := rfl
    have c2 : chAt (UInt8.ofNat (48 + E / 10) :: UInt8.ofNat (48 + E % 10) :: 58 :: chsF k E f (2 ^ k - 1)) 2 = 58 := rfl
    have d0 : isD (UInt8.ofNat (48 + E / 10)) = true := (isD_iff _).mpr (by rw [dig_val (by omega)]; omega)
    have d1 : isD (UInt8.ofNat (48 + E % 10)) = true := (isD_iff _).mpr (by rw [dig_val (by omega)]; omega)
    have d2 : isD 58 = false := by decide
    obtain rfl | rfl | rfl | h2 : i = 0 ∨ i = 1 ∨ i = 2 ∨ 3 ≤ i := by omega
    · rcases he with he | he | he
      · simp at he
      · omega
      · rw [c0, d0] at he; cases he
    · rcases he with he | he | he
      · simp at he
      · omega
      · rw [c1, d1] at he; cases he
    · refine ⟨?_, rfl⟩
      unfold hdV hdV hdV
      rw [c0, c1, dig_val (by omega), dig_val (by omega)]
      omega
    · have := h.dig 2 (by omega)
      rw [c2, d2] at this
      cases this
theorem text_at {k E : Nat} (f : Nat → Nat) {j : Nat} (h : j < 2 ^ k - 1) : chAt (textF k E f) ((Lib.decDigits E).length + 1 + j) = chF k E f j := by
  rw [← chsF_at (n := 2 ^ k - 1) f h]
  unfold chAt textF
  rw [List.getD_eq_getElem?_getD, List.getD_eq_getElem?_getD, List.getElem?_append_right (by simp)]
  congr 2
  simp
theorem text_len (k E : Nat) (f : Nat → Nat) : (textF k E f).length = (Lib.decDigits E).length + 1 + (2 ^ k - 1) := by
  unfold textF
  simp [chsF_len]
  omega
/-- what the law has read is a bracket's own decisions, if the text is a bracket's -/
theorem law_read {j k E : Nat} {f : Nat → Nat} {l : List UInt8} {i n m : Nat} (hz : Sz k E) (h : WF k E f) (ht : textF k E f = l) (hd : Hd l i) (he : HdEnd l i) (hj : Sz j n) (hn : hdV l i = n) (hm : m + 1 ≤ 2 ^ j) (hm2 : m + 1 = 2 ^ j ∨ l.length ≤ i + 1 + m) : n = E ∧ j = k ∧ rdN j n (fun x => chAt l (i + 1 + x)) m = f := by
  subst ht
  obtain ⟨h1, h2⟩ := hd_text f hz.e64.2 hd he
  obtain rfl : n = E := by omega
  obtain rfl := sz_uniq hj hz
  rw [text_len] at hm2
  obtain rfl : m = 2 ^ j - 1 := by omega
  exact ⟨rfl, rfl, rdN_all hz h fun x hx => by rw [h2]; exact text_at f hx⟩
end Go.Proofs.YtphlpclhmodekaaDoor
