/- Known bits of words: what operators make of them. Conditions: those each theorem names. -/
import Derived.Test.YtdmondofdlkopaaGreatDoorVb
namespace Go.Vb
set_option linter.unusedSimpArgs false
/-! ### Known bits of words: what operators make of them -/
/-- The word x has the bits that are known. -/
def Kh (K O x : B) : Prop := ∀ i, K.getLsbD i = true → x.getLsbD i = O.getLsbD i
/-- Ones are known. -/
def Kok (K O : B) : Prop := ∀ i, O.getLsbD i = true → K.getLsbD i = true
def Lm (n : Nat) : B := BitVec.ofNat 32 (2 ^ n - 1)
theorem Lm_bit {n i : Nat} : (Lm n).getLsbD i = (decide (i < n) && decide (i < 32)) := by
  unfold Lm
  rw [BitVec.getLsbD_ofNat, Nat.testBit_two_pow_sub_one, Bool.and_comm]
def rnF (m : B) : Nat → Nat → Nat
  | 0, i => i
  | f + 1, i => if m.getLsbD i = true then rnF m f (i + 1) else i
/-- How many lowest bits are 1. -/
def rn (m : B) : Nat := rnF m 32 0
theorem rnF_spec (m : B) : ∀ f i, i ≤ rnF m f i ∧ rnF m f i ≤ i + f ∧ (∀ j, i ≤ j → j < rnF m f i → m.getLsbD j = true) ∧ (rnF m f i < i + f → m.getLsbD (rnF m f i) = false)
  | 0, i => ⟨Nat.le_refl _, Nat.le_refl _, fun j h1 h2 => by simp only [rnF] at h2; omega, fun h => by simp only [rnF] at h; omega⟩
  | f + 1, i => by
    rw [rnF]
    by_cases c : m.getLsbD i = true
    · rw [if_pos c]
      obtain ⟨a, b, d, e⟩ := rnF_spec m f (i + 1)
      refine ⟨by omega, by omega, fun j h1 h2 => ?_, fun h => e (by omega)⟩
      by_cases k : j = i
      · rw [k]; exact c
      · exact d j (by omega) h2
    · rw [if_neg c]
      exact ⟨Nat.le_refl _, by omega, fun j h1 h2 => by omega, fun _ => by simpa using c⟩
theorem rn_le (m : B) : rn m ≤ 32 := by have := (rnF_spec m 32 0).2.1; unfold rn; omega
theorem rn_one {m : B} {i : Nat} (h : i < rn m) : m.getLsbD i = true := (rnF_spec m 32 0).2.2.1 i (Nat.zero_le _) h
theorem rn_end (m : B) : m.getLsbD (rn m) = false := by
  by_cases c : rn m < 32
  · exact (rnF_spec m 32 0).2.2.2 (by unfold rn at c; omega)
  · rw [BitVec.getLsbD_of_ge _ _ (by omega)]
theorem rn_eq {m : B} {n : Nat} (h : ∀ i, i < n → m.getLsbD i = true) (e : m.getLsbD n = false) : rn m = n := by
  rcases Nat.lt_trichotomy (rn m) n with c | c | c
  · have := h _ c; rw [rn_end] at this; cases this
  · exact c
  · have := rn_one c; rw [e] at this; cases this
theorem kh_all {O x : B} : Kh (BitVec.allOnes 32) O x ↔ x = O := by
  constructor
  · intro h
    exact BitVec.eq_of_getLsbD_eq fun i hi => h i (ones_bit hi)
  · rintro rfl
    exact fun i _ => rfl
theorem kok_bit {K O : B} (h : Kok K O) (i : Nat) (k : K.getLsbD i = false) : O.getLsbD i = false := by
  cases c : O.getLsbD i with
  | false => rfl
  | true => rw [h i c] at k; cases k
theorem kh_and {K O L M x y : B} (h : Kh K O x) (g : Kh L M y) : Kh (((K &&& L) ||| (K &&& ~~~O)) ||| (L &&& ~~~M)) (O &&& M) (x &&& y) := fun i => by
  have a := h i
  have b := g i
  simp only [BitVec.getLsbD_and, BitVec.getLsbD_or, BitVec.getLsbD_not]
  revert a b
  cases K.getLsbD i <;> cases O.getLsbD i <;> cases L.getLsbD i <;> cases M.getLsbD i <;> cases x.getLsbD i <;> cases y.getLsbD i <;> simp
theorem kok_and {K O L M : B} (h : Kok K O) (g : Kok L M) : Kok (((K &&& L) ||| (K &&& ~~~O)) ||| (L &&& ~~~M)) (O &&& M) := fun i => by
  have a := h i
  have b := g i
  simp only [BitVec.getLsbD_and, BitVec.getLsbD_or, BitVec.getLsbD_not]
  revert a b
  cases K.getLsbD i <;> cases O.getLsbD i <;> cases L.getLsbD i <;> cases M.getLsbD i <;> simp
theorem kh_or {K O L M x y : B} (hk : Kok K O) (gk : Kok L M) (h : Kh K O x) (g : Kh L M y) : Kh (((K &&& L) ||| O) ||| M) (O ||| M) (x ||| y) := fun i => by
  have a := h i
  have b := g i
  have c := hk i
  have d := gk i
  simp only [BitVec.getLsbD_and, BitVec.getLsbD_or, BitVec.getLsbD_not]
  revert a b c d
  cases K.getLsbD i <;> cases O.getLsbD i <;> cases L.getLsbD i <;> cases M.getLsbD i <;> cases x.getLsbD i <;> cases y.getLsbD i <;> simp
theorem kok_or {K O L M : B} : Kok (((K &&& L) ||| O) ||| M) (O ||| M) := fun i => by
  simp only [BitVec.getLsbD_and, BitVec.getLsbD_or, BitVec.getLsbD_not]
  cases K.getLsbD i <;> cases O.getLsbD i <;> cases L.getLsbD i <;> cases M.getLsbD i <;> simp
theorem kok_meet {K z : B} : Kok K (z &&& K) := fun i => by
  simp only [BitVec.getLsbD_and]
  cases K.getLsbD i <;> cases z.getLsbD i <;> simp
theorem kh_xor {K O L M x y : B} (h : Kh K O x) (g : Kh L M y) : Kh (K &&& L) ((O ^^^ M) &&& (K &&& L)) (x ^^^ y) := fun i => by
  have a := h i
  have b := g i
  simp only [BitVec.getLsbD_and, BitVec.getLsbD_xor]
  revert a b
  cases K.getLsbD i <;> cases O.getLsbD i <;> cases L.getLsbD i <;> cases M.getLsbD i <;> cases x.getLsbD i <;> cases y.getLsbD i <;> simp
theorem kh_not {K O x : B} (h : Kh K O x) : Kh K (K &&& ~~~O) (~~~x) := fun i k => by
  have a := h i k
  have l := lt32 k
  simp only [BitVec.getLsbD_and, BitVec.getLsbD_not, k, a, l, decide_true, Bool.true_and]
theorem kok_not {K O : B} : Kok K (K &&& ~~~O) := fun i => by
  simp only [BitVec.getLsbD_and, BitVec.getLsbD_not]
  cases K.getLsbD i <;> simp
theorem kh_low {n : Nat} {u v : B} (h : BitVec.setWidth n u = BitVec.setWidth n v) : Kh (Lm n) (v &&& Lm n) u := fun i k => by
  rw [Lm_bit] at k
  have k2 : i < n ∧ i < 32 := by simpa using k
  have e := congrArg (fun z => z.getLsbD i) h
  simp only [BitVec.getLsbD_setWidth, k2.1, decide_true, Bool.true_and] at e
  simp only [BitVec.getLsbD_and, Lm_bit, k2.1, k2.2, decide_true, Bool.and_true, e]
theorem low_same {K O x : B} {n : Nat} (h : Kh K O x) (hn : ∀ i, i < n → K.getLsbD i = true) : BitVec.setWidth n x = BitVec.setWidth n O := by
  refine BitVec.eq_of_getLsbD_eq fun i hi => ?_
  simp only [BitVec.getLsbD_setWidth, hi, decide_true, Bool.true_and]
  exact h i (hn i hi)
theorem both_run {K L : B} {i : Nat} (h : i < rn (K &&& L)) : K.getLsbD i = true ∧ L.getLsbD i = true := by
  have := rn_one h
  simpa using this
theorem kh_add {K O L M x y : B} (h : Kh K O x) (g : Kh L M y) : Kh (Lm (rn (K &&& L))) ((O + M) &&& Lm (rn (K &&& L))) (x + y) := by
  apply kh_low
  rw [BitVec.setWidth_add _ _ (rn_le _), BitVec.setWidth_add _ _ (rn_le _), low_same h fun i hi => (both_run hi).1, low_same g fun i hi => (both_run hi).2]
theorem kh_sub {K O L M x y : B} (h : Kh K O x) (g : Kh L M y) : Kh (Lm (rn (K &&& L))) ((O - M) &&& Lm (rn (K &&& L))) (x - y) := by
  apply kh_low
  rw [BitVec.sub_eq_add_neg, BitVec.sub_eq_add_neg, BitVec.setWidth_add _ _ (rn_le _), BitVec.setWidth_add _ _ (rn_le _), BitVec.setWidth_neg_of_le (rn_le _), BitVec.setWidth_neg_of_le (rn_le _), low_same h fun i hi => (both_run hi).1, low_same g fun i hi => (both_run hi).2]
/-- Lowest bits that are 0: a multiple. -/
theorem zeros_dvd {x : B} {n : Nat} (h : ∀ i, i < n → x.getLsbD i = false) : 2 ^ n ∣ x.toNat := by
  apply Nat.dvd_of_mod_eq_zero
  apply Nat.eq_of_testBit_eq
  intro i
  rw [Nat.testBit_mod_two_pow, Nat.zero_testBit]
  by_cases c : i < n
  · have := h i c
    rw [BitVec.getLsbD] at this
    rw [this, Bool.and_false]
  · rw [decide_eq_false c, Bool.false_and]
theorem dvd_zeros {z n i : Nat} (h : 2 ^ n ∣ z) (hi : i < n) : z.testBit i = false := by
  obtain ⟨c, rfl⟩ := h
  rw [Nat.testBit_two_pow_mul]
  simp
  omega
/-- Lowest bits that are known to be 0. -/
def nz (K O : B) : Nat := rn (K &&& ~~~O)
theorem nz_zero {K O x : B} (h : Kh K O x) {i : Nat} (hi : i < nz K O) : x.getLsbD i = false := by
  have k := rn_one hi
  have k2 : K.getLsbD i = true ∧ i < 32 ∧ O.getLsbD i = false := by
    simp only [BitVec.getLsbD_and, BitVec.getLsbD_not, Bool.and_eq_true, decide_eq_true_eq] at k
    exact ⟨k.1, k.2.1, by simpa using k.2.2⟩
  rw [h i k2.1, k2.2.2]
theorem kh_mul {K O L M x y : B} (h : Kh K O x) (g : Kh L M y) : Kh (Lm (min (nz K O + nz L M) 32)) 0 (x * y) := fun i k => by
  rw [Lm_bit] at k
  have k2 : i < min (nz K O + nz L M) 32 ∧ i < 32 := by simpa using k
  have d1 := zeros_dvd (x := x) (n := nz K O) fun i hi => nz_zero h hi
  have d2 := zeros_dvd (x := y) (n := nz L M) fun i hi => nz_zero g hi
  have d3 : 2 ^ (nz K O + nz L M) ∣ x.toNat * y.toNat := by
    rw [Nat.pow_add]
    exact Nat.mul_dvd_mul d1 d2
  have z := dvd_zeros d3 (i := i) (by omega)
  rw [BitVec.getLsbD, BitVec.toNat_mul, Nat.testBit_mod_two_pow, z, Bool.and_false]
  simp
theorem kok_zero {K : B} : Kok K 0 := fun i h => by simp at h
theorem one_less {M : B} {j : Nat} (hj : j < 32) (h : M.toNat = 2 ^ j) : M - 1 = Lm j := by
  apply BitVec.eq_of_toNat_eq
  unfold Lm
  have p : (2 : Nat) ^ j < 2 ^ 32 := Nat.pow_lt_pow_right (by decide) hj
  have q : 0 < (2 : Nat) ^ j := Nat.two_pow_pos j
  rw [BitVec.toNat_ofNat, Nat.mod_eq_of_lt (by omega), BitVec.toNat_sub, h]
  show (2 ^ 32 - 1 + 2 ^ j) % 2 ^ 32 = _
  omega
theorem kh_rem {K O M x : B} {j : Nat} (hj : j < 32) (hM : M.toNat = 2 ^ j) (h : Kh K O x) : Kh ((K &&& (M - 1)) ||| ~~~(M - 1)) (O &&& (M - 1)) (x % M) := fun i k => by
  rw [one_less hj hM] at k ⊢
  have e : (x % M).getLsbD i = (decide (i < j) && x.getLsbD i) := by
    rw [BitVec.getLsbD, BitVec.toNat_umod, hM, Nat.testBit_mod_two_pow]
    rfl
  rw [e, BitVec.getLsbD_and, Lm_bit]
  simp only [BitVec.getLsbD_or, BitVec.getLsbD_and, BitVec.getLsbD_not, Lm_bit] at k
  have a := h i
  by_cases c : i < j
  · have c2 : i < 32 := by omega
    simp only [c, c2, decide_true, Bool.true_and, Bool.and_true, Bool.not_true, Bool.and_false, Bool.or_false] at k ⊢
    exact a k
  · simp [c]
theorem kok_rem {K O m : B} (h : Kok K O) : Kok ((K &&& m) ||| ~~~m) (O &&& m) := fun i => by
  have a := h i
  simp only [BitVec.getLsbD_or, BitVec.getLsbD_and, BitVec.getLsbD_not]
  revert a
  cases K.getLsbD i <;> cases O.getLsbD i <;> cases m.getLsbD i <;> simp
theorem kh_shl {K O x : B} (n : Nat) (h : Kh K O x) : Kh ((K <<< n) ||| Lm (min n 32)) ((O <<< n) &&& ((K <<< n) ||| Lm (min n 32))) (x <<< n) := fun i k => by
  rw [BitVec.getLsbD_and, k, Bool.and_true]
  rw [BitVec.getLsbD_or, BitVec.getLsbD_shiftLeft, Lm_bit] at k
  rw [BitVec.getLsbD_shiftLeft, BitVec.getLsbD_shiftLeft]
  by_cases c : i < n
  · simp [c]
  · by_cases d : i < 32
    · simp only [c, d, decide_true, decide_false, Bool.not_false, Bool.true_and] at k ⊢
      have e : ¬ i < min n 32 := by omega
      simp only [e, decide_false, Bool.false_and, Bool.or_false] at k
      exact h _ k
    · simp [d]
theorem kh_shr {K O x : B} (n : Nat) (h : Kh K O x) : Kh ((K >>> n) ||| ~~~(BitVec.allOnes 32 >>> n)) ((O >>> n) &&& ((K >>> n) ||| ~~~(BitVec.allOnes 32 >>> n))) (x >>> n) := fun i k => by
  rw [BitVec.getLsbD_and, k, Bool.and_true]
  rw [BitVec.getLsbD_or, BitVec.getLsbD_not, BitVec.getLsbD_ushiftRight, BitVec.getLsbD_ushiftRight, BitVec.getLsbD_allOnes] at k
  rw [BitVec.getLsbD_ushiftRight, BitVec.getLsbD_ushiftRight]
  by_cases c : n + i < 32
  · simp only [c, decide_true, Bool.not_true, Bool.and_false, Bool.or_false] at k
    exact h _ k
  · rw [BitVec.getLsbD_of_ge _ _ (by omega), BitVec.getLsbD_of_ge _ _ (by omega)]
theorem kh_sar {K O x : B} (n : Nat) (h : Kh K O x) : Kh (K.sshiftRight n) ((O.sshiftRight n) &&& (K.sshiftRight n)) (x.sshiftRight n) := fun i k => by
  rw [BitVec.getLsbD_and, k, Bool.and_true]
  rw [BitVec.getLsbD_sshiftRight] at k ⊢
  rw [BitVec.getLsbD_sshiftRight]
  by_cases c : 32 ≤ i
  · simp [c]
  · simp only [c, decide_false, Bool.not_false, Bool.true_and] at k ⊢
    by_cases d : n + i < 32
    · rw [if_pos d] at k ⊢
      rw [if_pos d]
      exact h _ k
    · rw [if_neg d] at k ⊢
      rw [if_neg d]
      rw [BitVec.msb_eq_getLsbD_last] at k ⊢
      rw [BitVec.msb_eq_getLsbD_last]
      exact h _ k
theorem kh_flag {x : B} (h : x = 0 ∨ x = 1) : Kh (BitVec.allOnes 32 &&& ~~~1) 0 x := fun i k => by
  rcases h with rfl | rfl
  · rfl
  · have e : i ≠ 0 := by
      rintro rfl
      revert k
      decide
    show (1#32).getLsbD i = (0#32).getLsbD i
    rw [BitVec.getLsbD_one, BitVec.getLsbD_zero]
    simp
    omega
theorem meet_ne {K O L M x y : B} (h : Kh K O x) (g : Kh L M y) (hm : (O ^^^ M) &&& K &&& L ≠ 0) : x ≠ y := by
  rintro rfl
  apply hm
  refine bitx fun i => ?_
  have a := h i
  have b := g i
  simp only [BitVec.getLsbD_and, BitVec.getLsbD_xor, BitVec.getLsbD_zero]
  revert a b
  cases K.getLsbD i <;> cases O.getLsbD i <;> cases L.getLsbD i <;> cases M.getLsbD i <;> cases x.getLsbD i <;> simp
theorem kh_cut {K O x m : B} (h : Kh K O x) : Kh (K ||| ~~~m) (O &&& m) (x &&& m) := fun i => by
  have a := h i
  simp only [BitVec.getLsbD_or, BitVec.getLsbD_and, BitVec.getLsbD_not]
  revert a
  cases K.getLsbD i <;> cases O.getLsbD i <;> cases m.getLsbD i <;> cases x.getLsbD i <;> simp
theorem kok_cut {K O m : B} (h : Kok K O) : Kok (K ||| ~~~m) (O &&& m) := fun i => by
  have a := h i
  simp only [BitVec.getLsbD_or, BitVec.getLsbD_and, BitVec.getLsbD_not]
  revert a
  cases K.getLsbD i <;> cases O.getLsbD i <;> cases m.getLsbD i <;> simp
end Go.Vb
