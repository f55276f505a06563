/- Plain facts on the functions that tell the program's: words, fitting, ranges of one word. Conditions: those each theorem names. -/
import Derived.Test.YtdmondofdlkopaaGreatDoorVCore
import Derived.Test.YtdmondofdlkopaaGreatDoorVb
namespace Go.Proofs.YtdmondofdlkopaaGreatDoor.V
open Go Go.RowKit Go.Proofs.YtdmondofdlkopaaGreatDoor.X Go.Vb
theorem br_t {R : Type} {x y : Option R} : br true x y = x := rfl
theorem br_f {R : Type} {x y : Option R} : br false x y = y := rfl
theorem br_if {R : Type} {c : Bool} {x y : Option R} : br c x y = if c = true then x else y := rfl
theorem w_and (x y : B) : bitw .and .u32 (x.toNat : Int) (y.toNat : Int) = ((x &&& y).toNat : Int) := (bitw_eq ..).trans (b_and x y)
theorem w_or (x y : B) : bitw .or .u32 (x.toNat : Int) (y.toNat : Int) = ((x ||| y).toNat : Int) := (bitw_eq ..).trans (b_or x y)
theorem w_xor (x y : B) : bitw .xor .u32 (x.toNat : Int) (y.toNat : Int) = ((x ^^^ y).toNat : Int) := (bitw_eq ..).trans (b_xor x y)
theorem w_andNot (x y : B) : bitw .andNot .u32 (x.toNat : Int) (y.toNat : Int) = ((x &&& ~~~y).toNat : Int) := (bitw_eq ..).trans (b_andNot x y)
theorem w_not (x : B) : bitw .xor .u32 IntKind.u32.max (x.toNat : Int) = ((~~~x).toNat : Int) := (bitw_eq ..).trans (b_not x)
theorem eqI_b (x y : B) : eqI (x.toNat : Int) (y.toNat : Int) = decide (x = y) := by
  unfold eqI
  rw [Bool.eq_iff_iff]
  simp [b_inj]
theorem eqI_0 (x : B) : eqI (x.toNat : Int) 0 = decide (x = 0) := eqI_b x 0
theorem eqI_iff {a b : Int} : eqI a b = decide (a = b) := by
  unfold eqI
  rw [Bool.eq_iff_iff]
  simp
theorem shr32 (x n : Nat) (h : n ≤ 32) : X.shr .u32 (x : Int) (n : Int) = ((x / 2 ^ n : Nat) : Int) := by
  unfold X.shr
  have e : min (n : Int).toNat IntKind.u32.bits = n := by
    show min n 32 = n
    omega
  rw [e, Int.fdiv_eq_ediv_of_nonneg _ (Int.le_of_lt (Int.pow_pos (by decide)))]
  simp
/-- Bits of a number. -/
def L (n : Nat) : Nat := if n = 0 then 0 else n.log2 + 1
theorem L_up {x : Nat} (k : Nat) (h : 2 ^ k ≤ x) : L x = k + L (x / 2 ^ k) := by
  have p : 0 < 2 ^ k := Nat.two_pow_pos k
  have d : x / 2 ^ k ≠ 0 := by
    have := (Nat.le_div_iff_mul_le p).2 (by simpa using h : 1 * 2 ^ k ≤ x)
    omega
  have x0 : x ≠ 0 := by omega
  unfold L
  rw [if_neg d, if_neg x0]
  have e : x.log2 = k + (x / 2 ^ k).log2 := by
    apply Nat.le_antisymm
    · have := (Nat.log2_lt (n := x) (k := k + (x / 2 ^ k).log2 + 1) x0).2 (by
        have z := (Nat.log2_lt (n := x / 2 ^ k) (k := (x / 2 ^ k).log2 + 1) d).1 (by omega)
        rw [Nat.div_lt_iff_lt_mul p] at z
        rw [show k + (x / 2 ^ k).log2 + 1 = ((x / 2 ^ k).log2 + 1) + k by omega, Nat.pow_add]
        exact z)
      omega
    · rw [Nat.le_log2 x0]
      have z := Nat.log2_self_le d
      rw [Nat.le_div_iff_mul_le p] at z
      rw [Nat.pow_add, Nat.mul_comm]
      exact z
  omega
theorem tab8 {n : Nat} (h : n < 256) : byteAt bits_Len32.S1 (n : Int) = (L n : Int) := by
  have h : ∀ n : Nat, n < 256 → byteAt bits_Len32.S1 (n : Int) = (L n : Int) := by decide +kernel
  exact h n (by assumption)
theorem u8n {n : Nat} (h : n < 256) : IntKind.u8.wrap (n : Int) = n := by rw [IntKind.wrap_u8']; omega
theorem i64n {n : Nat} (h : n < 1000) : IntKind.i64.wrap (n : Int) = n := by rw [IntKind.wrap_i64]; omega
theorem L_le {n k : Nat} (h : n < 2 ^ k) : L n ≤ k := by
  unfold L
  by_cases c : n = 0
  · rw [if_pos c]; omega
  · rw [if_neg c]
    have := (Nat.log2_lt c).2 h
    omega
theorem inI_n {i n : Nat} (h : i < n) : inI (i : Int) (n : Int) = true := by
  unfold inI
  rw [decide_eq_true_eq]
  omega
theorem leI_n {a b : Nat} : leI (a : Int) (b : Int) = decide (a ≤ b) := by
  unfold leI
  rw [Bool.eq_iff_iff]
  simp
theorem ltI_n {a b : Nat} : ltI (a : Int) (b : Int) = decide (a < b) := by
  unfold ltI
  rw [Bool.eq_iff_iff]
  simp
theorem len_is (x : B) : bits_Len32.f (x.toNat : Int) = some (len x : Int) := by
  have hx := x.isLt
  have hl : len x = L x.toNat := rfl
  rw [hl]
  unfold bits_Len32.f
  generalize x.toNat = n at *
  have s16 : X.shr .u32 (n : Int) 16 = ((n / 65536 : Nat) : Int) := shr32 n 16 (by decide)
  have s8 : ∀ m : Nat, X.shr .u32 (m : Int) 8 = ((m / 256 : Nat) : Int) := fun m => shr32 m 8 (by decide)
  rw [s16, s8, s8]
  by_cases c1 : 65536 ≤ n
  · rw [show leI 65536 (n : Int) = true from (leI_n (a := 65536)).trans (decide_eq_true c1), br_t]
    by_cases c2 : 256 ≤ n / 65536
    · rw [show leI 256 ((n / 65536 : Nat) : Int) = true from (leI_n (a := 256)).trans (decide_eq_true c2), br_t]
      rw [u8n (show n / 65536 / 256 < 256 by omega), show inI ((n / 65536 / 256 : Nat) : Int) 256 = true from inI_n (n := 256) (by omega), br_t, tab8 (by omega)]
      have e := L_up 24 (show 2 ^ 24 ≤ n by omega)
      have e2 : n / 65536 / 256 = n / 2 ^ 24 := by omega
      have b := L_le (n := n / 2 ^ 24) (k := 8) (by omega)
      rw [e2, i64n (by omega), show (24 : Int) + ((L (n / 2 ^ 24) : Nat) : Int) = ((24 + L (n / 2 ^ 24) : Nat) : Int) by omega, i64n (by omega), e]
    · rw [show leI 256 ((n / 65536 : Nat) : Int) = false from (leI_n (a := 256)).trans (decide_eq_false c2), br_f]
      rw [u8n (show n / 65536 < 256 by omega), show inI ((n / 65536 : Nat) : Int) 256 = true from inI_n (n := 256) (by omega), br_t, tab8 (by omega)]
      have e := L_up 16 (show 2 ^ 16 ≤ n by omega)
      have e2 : n / 65536 = n / 2 ^ 16 := by omega
      have b := L_le (n := n / 2 ^ 16) (k := 8) (by omega)
      rw [e2, i64n (by omega), show (16 : Int) + ((L (n / 2 ^ 16) : Nat) : Int) = ((16 + L (n / 2 ^ 16) : Nat) : Int) by omega, i64n (by omega), e]
  · rw [show leI 65536 (n : Int) = false from (leI_n (a := 65536)).trans (decide_eq_false c1), br_f]
    by_cases c2 : 256 ≤ n
    · rw [show leI 256 (n : Int) = true from (leI_n (a := 256)).trans (decide_eq_true c2), br_t]
      rw [u8n (show n / 256 < 256 by omega), show inI ((n / 256 : Nat) : Int) 256 = true from inI_n (n := 256) (by omega), br_t, tab8 (by omega)]
      have e := L_up 8 (show 2 ^ 8 ≤ n by omega)
      have e2 : n / 256 = n / 2 ^ 8 := by omega
      have b := L_le (n := n / 2 ^ 8) (k := 8) (by omega)
      rw [e2, i64n (by omega), show (8 : Int) + ((L (n / 2 ^ 8) : Nat) : Int) = ((8 + L (n / 2 ^ 8) : Nat) : Int) by omega, i64n (by omega), e]
    · rw [show leI 256 (n : Int) = false from (leI_n (a := 256)).trans (decide_eq_false c2), br_f]
      rw [u8n (show n < 256 by omega), show inI (n : Int) 256 = true from inI_n (n := 256) (by omega), br_t, tab8 (by omega)]
      have b := L_le (n := n) (k := 8) (by omega)
      rw [i64n (by omega), Int.zero_add, i64n (by omega)]
/-! ### Fitting -/
def fitO : Nat → S → Option (Option S)
  | 0, _ => none
  | n + 1, s => match Vb.step s with
    | none => some none
    | some t => if t = s then some (some s) else fitO n t
theorem fitO_ends : ∀ (d : Nat) (s : S), s.Ok → 32 - pc s.K ≤ d → ∀ n, 2 * d + 2 ≤ n → fitO n s = some (fitN n s) := by
  intro d
  induction d with
  | zero =>
    intro s hs hd n hn
    obtain ⟨m, rfl⟩ : ∃ m, n = m + 1 + 1 := ⟨n - 2, by omega⟩
    rw [fitO, fitN]
    cases h : Vb.step s with
    | none => rfl
    | some t =>
      simp only
      by_cases e : t = s
      · rw [if_pos e, if_pos e]
      · rw [if_neg e, if_neg e]
        obtain ⟨w, ok, _⟩ := step_in hs h
        by_cases k : t.K = s.K
        · have z := (step_last hs h k).2
          rw [fitO, fitN, z]
          simp
        · have := pc_lt (x := s.K) (y := t.K) (fun i hi => (w.2.2 i hi).1) (fun e => k e.symm)
          have := pc_le (x := t.K)
          omega
  | succ d ih =>
    intro s hs hd n hn
    obtain ⟨m, rfl⟩ : ∃ m, n = m + 1 + 1 := ⟨n - 2, by omega⟩
    rw [fitO, fitN]
    cases h : Vb.step s with
    | none => rfl
    | some t =>
      simp only
      by_cases e : t = s
      · rw [if_pos e, if_pos e]
      · rw [if_neg e, if_neg e]
        obtain ⟨w, ok, _⟩ := step_in hs h
        by_cases k : t.K = s.K
        · have z := (step_last hs h k).2
          rw [fitO, fitN, z]
          simp
        · have := pc_lt (x := s.K) (y := t.K) (fun i hi => (w.2.2 i hi).1) (fun e => k e.symm)
          exact ih t ok (by omega) (m + 1) (by omega)
theorem fitO_is {s : S} (hs : s.Ok) {n : Nat} (h : 70 ≤ n) : fitO n s = some (fit s) := by
  rw [fitO_ends 32 s hs (by omega) n (by omega), fitN_fit hs h]
/-- A value as the code has it. -/
def enc (r : Option S) : Int × Int × Int × Int × Bool := match r with
  | some t => (t.lo.toNat, t.hi.toNat, t.K.toNat, t.O.toNat, true)
  | none => (0, 0, 0, 0, false)
theorem meet_is (K O m M : B) (h1 : O &&& ~~~K = 0) (h2 : M &&& ~~~m = 0) : known_Meet.f K.toNat O.toNat m.toNat M.toNat = some (if (O ^^^ M) &&& K &&& m = 0 then (((K ||| m).toNat : Int), ((O ||| M).toNat : Int), true) else (0, 0, false)) := by
  unfold known_Meet.f
  simp only [w_and, w_or, w_xor, w_andNot, h1, h2, eqI_0]
  by_cases c : (O ^^^ M) &&& K &&& m = 0
  · rw [decide_eq_true c, if_pos c]
    rfl
  · rw [decide_eq_false c, if_neg c]
    rfl
theorem mask_is {n : Nat} (h : n ≤ 32) : bitw .xor .u32 IntKind.u32.max (IntKind.u32.wrap (IntKind.u64.wrap ((X.shl .u64 1 (n : Int)) - 1))) = ((P n).toNat : Int) := by
  have p : (2 : Nat) ^ n ≤ 2 ^ 32 := Nat.pow_le_pow_right (by decide) h
  have q : 0 < (2 : Nat) ^ n := Nat.two_pow_pos n
  have e : IntKind.u32.wrap (IntKind.u64.wrap ((X.shl .u64 1 (n : Int)) - 1)) = ((BitVec.ofNat 32 (2 ^ n - 1)).toNat : Int) := by
    unfold X.shl
    have e1 : min (n : Int).toNat IntKind.u64.bits = n := by
      show min n 64 = n
      omega
    rw [e1, IntKind.wrap_u64, IntKind.wrap_u64, IntKind.wrap_u32', BitVec.toNat_ofNat]
    have e2 : (1 : Int) * 2 ^ n = ((2 ^ n : Nat) : Int) := by simp
    rw [e2]
    generalize 2 ^ n = z at *
    omega
  rw [e, w_not]
  rfl
theorem bmax_int (x y : B) : (if (y.toNat : Int) > (x.toNat : Int) then (y.toNat : Int) else (x.toNat : Int)) = ((bmax x y).toNat : Int) := by
  unfold bmax
  by_cases c : x.toNat < y.toNat
  · rw [if_pos (by omega), if_pos c]
  · rw [if_neg (by omega), if_neg c]
theorem bmin_int (x y : B) : (if (y.toNat : Int) < (x.toNat : Int) then (y.toNat : Int) else (x.toNat : Int)) = ((bmin x y).toNat : Int) := by
  unfold bmin
  by_cases c : y.toNat < x.toNat
  · rw [if_pos (by omega), if_pos c]
  · rw [if_neg (by omega), if_neg c]
theorem ok_and {s : S} (h : s.Ok) : s.O &&& ~~~s.K = 0 := by
  refine bitx fun i => ?_
  have := h i
  simp only [BitVec.getLsbD_and, BitVec.getLsbD_not]
  revert this
  cases s.O.getLsbD i <;> cases s.K.getLsbD i <;> simp
theorem andm (x m : B) : (x &&& m) &&& ~~~m = 0 := by
  refine bitx fun i => ?_
  simp only [BitVec.getLsbD_and, BitVec.getLsbD_not]
  cases x.getLsbD i <;> cases m.getLsbD i <;> simp
theorem s_eq {s t : S} : ((((t.lo.toNat : Int) == s.lo.toNat) && ((t.hi.toNat : Int) == s.hi.toNat)) && (((t.K.toNat : Int) == s.K.toNat) && ((t.O.toNat : Int) == s.O.toNat))) = decide (t = s) := by
  obtain ⟨a, b, c, d⟩ := s
  obtain ⟨a', b', c', d'⟩ := t
  rw [Bool.eq_iff_iff]
  simp [b_inj, and_assoc]
theorem loop_is (k : Nat) (a b c d : Int) (t1 : Int × Int × Int × Int) : ∀ (n : Nat) (s : S), s.Ok → value_Fit.l10 k a b c d t1 n s.lo.toNat s.hi.toNat s.K.toNat s.O.toNat = (fitO n s).map enc
  | 0, _, _ => rfl
  | n + 1, s, hs => by
    rw [value_Fit.l10, fitO]
    unfold value_Fit.b_l10
    simp only [w_not, w_or, bmax_int, bmin_int, w_xor, len_is, Option.bind_some, mask_is len_le, w_and, meet_is _ _ _ _ (ok_and hs) (andm _ _)]
    rw [show ltI ((len (bmax s.lo s.O ^^^ bmin s.hi (s.O ||| ~~~s.K)) : Nat) : Int) 0 = false from (ltI_n (b := 0)).trans (by simp), br_f, ltI_n]
    unfold Vb.step
    simp only
    by_cases c1 : (bmin s.hi (s.O ||| ~~~s.K)).toNat < (bmax s.lo s.O).toNat
    · rw [decide_eq_true c1, br_t, if_pos c1]
      rfl
    · rw [decide_eq_false c1, br_f, if_neg c1]
      by_cases c2 : (s.O ^^^ (bmax s.lo s.O &&& P (len (bmax s.lo s.O ^^^ bmin s.hi (s.O ||| ~~~s.K))))) &&& s.K &&& P (len (bmax s.lo s.O ^^^ bmin s.hi (s.O ||| ~~~s.K))) = 0
      · rw [if_pos c2, if_pos c2]
        simp only [Bool.not_true, br_f]
        have q := s_eq (s := s) (t := ⟨bmax s.lo s.O, bmin s.hi (s.O ||| ~~~s.K), s.K ||| P (len (bmax s.lo s.O ^^^ bmin s.hi (s.O ||| ~~~s.K))), s.O ||| (bmax s.lo s.O &&& P (len (bmax s.lo s.O ^^^ bmin s.hi (s.O ||| ~~~s.K))))⟩)
        simp only at q
        rw [q]
        split
        · rename_i e
          rw [decide_eq_true e, br_t]
          exact congrArg (fun s => some (enc (some s))) e
        · rename_i e
          rw [decide_eq_false e, br_f]
          refine loop_is k a b c d t1 n ⟨_, _, _, _⟩ ?_
          refine (step_in hs (t := ⟨bmax s.lo s.O, bmin s.hi (s.O ||| ~~~s.K), s.K ||| P (len (bmax s.lo s.O ^^^ bmin s.hi (s.O ||| ~~~s.K))), s.O ||| (bmax s.lo s.O &&& P (len (bmax s.lo s.O ^^^ bmin s.hi (s.O ||| ~~~s.K))))⟩) ?_).2.1
          unfold Vb.step
          simp only
          rw [if_neg c1, if_pos c2]
      · rw [if_neg c2, if_neg c2]
        simp only [Bool.not_false, br_t]
        rfl
/-- What Fit finds; a value whose parts are not such at all is none. -/
def fitV (s : S) : Option S := if s.hi.toNat < s.lo.toNat then none else if s.O &&& ~~~s.K = 0 then fit s else none
theorem ok_of {s : S} (h : s.O &&& ~~~s.K = 0) : s.Ok := fun i hi => by
  have z := congrArg (fun x : B => x.getLsbD i) h
  have l := lt32 hi
  simp only [BitVec.getLsbD_and, BitVec.getLsbD_not, hi] at z
  revert z
  cases s.K.getLsbD i <;> simp [l]
theorem Fit_is {k : Nat} (hk : 70 ≤ k) (s : S) : value_Fit.f k s.lo.toNat s.hi.toNat s.K.toNat s.O.toNat = some (enc (fitV s)) := by
  unfold value_Fit.f value_Fit.g value_of.f fitV
  simp only [Option.bind_some, ltI_n, w_andNot, eqI_0]
  by_cases c1 : s.hi.toNat < s.lo.toNat
  · rw [decide_eq_true c1, br_t, if_pos c1]
    rfl
  · rw [decide_eq_false c1, br_f, if_neg c1]
    by_cases c2 : s.O &&& ~~~s.K = 0
    · rw [decide_eq_true c2, if_pos c2]
      show value_Fit.l10 _ _ _ _ _ _ _ _ _ _ _ = _
      rw [loop_is _ _ _ _ _ _ _ _ (ok_of c2), fitO_is (ok_of c2) hk]
      rfl
    · rw [decide_eq_false c2, if_neg c2]
      rfl
theorem fitV_fx {s : S} : fitV s = some s ↔ s.Fx := by
  unfold fitV
  constructor
  · intro h
    split at h
    · cases h
    · split at h
      · rename_i c
        have f := fit_found (ok_of c)
        rw [h] at f
        exact f.1
      · cases h
  · intro h
    rw [if_neg (by have := h.le; omega), if_pos (ok_and h.ok)]
    exact fit_fx h
/-- Check: zero where the parts fit. -/
theorem Check_is {k : Nat} (hk : 70 ≤ k) (s : S) : ∃ e : Int, value_Check.f k s.lo.toNat s.hi.toNat s.K.toNat s.O.toNat = some e ∧ (e = 0 ↔ s.Fx) := by
  unfold value_Check.f
  rw [Fit_is hk, Option.bind_some, ← fitV_fx]
  cases h : fitV s with
  | none => exact ⟨2, rfl, by simp⟩
  | some t =>
    simp only [enc, Bool.not_true, br_f, s_eq]
    by_cases e : t = s
    · rw [decide_eq_true e]
      exact ⟨0, rfl, by simp [e]⟩
    · rw [decide_eq_false e]
      exact ⟨2, rfl, by simp [e]⟩
/-! ### One -/
theorem all_n : (4294967295 : Int) = ((BitVec.allOnes 32).toNat : Int) := by decide
theorem One_is (x : B) : value_One.f x.toNat = some (((one x).lo.toNat : Int), ((one x).hi.toNat : Int), ((one x).K.toNat : Int), ((one x).O.toNat : Int)) := rfl
theorem and_all (x : B) : x &&& BitVec.allOnes 32 = x := BitVec.and_allOnes
theorem ok_one (x : B) : x &&& ~~~(BitVec.allOnes 32) = 0 := by simp
theorem fit_one {s : S} {w : B} (h1 : s.lo.toNat ≤ w.toNat) (h2 : w.toNat ≤ s.hi.toNat) (hK : s.K = BitVec.allOnes 32) (hO : s.O = w) : fitV s = some (one w) := by
  have z : s.O &&& ~~~s.K = 0 := by rw [hK]; exact ok_one _
  unfold fitV
  rw [if_neg (by omega), if_pos z]
  have hs := ok_of z
  obtain ⟨t, e, fx, w1, w2, e1, e2⟩ := fit_some hs (one_fx w) ⟨h1, h2, fun i hi => ⟨ones_bit (lt32 hi), by rw [hO]; rfl⟩⟩
  rw [e]
  have k : ∀ i, i < 32 → t.K.getLsbD i = true ∧ t.O.getLsbD i = w.getLsbD i := fun i hi => by
    have := w2.2.2 i (by rw [hK]; exact ones_bit hi)
    rw [hO] at this
    exact this
  have tK : t.K = BitVec.allOnes 32 := BitVec.eq_of_getLsbD_eq fun i hi => by rw [(k i hi).1, ones_bit hi]
  have tO : t.O = w := BitVec.eq_of_getLsbD_eq fun i hi => (k i hi).2
  have tl : t.lo = w := by
    rw [e1, tO]
    apply BitVec.eq_of_toNat_eq
    unfold bmax
    split <;> omega
  have th : t.hi = w := by
    rw [e2, tO, tK]
    apply BitVec.eq_of_toNat_eq
    simp only [BitVec.not_allOnes, BitVec.or_zero]
    unfold bmin
    split <;> omega
  obtain ⟨a, b, c, d⟩ := t
  simp only at tK tO tl th
  rw [tK, tO, tl, th]
  rfl
/-- Within One: One itself. -/
theorem within_one {k : Nat} (hk : 70 ≤ k) (a : S) (x : B) : ∃ b, value_Within.f k a.lo.toNat a.hi.toNat a.K.toNat a.O.toNat (one x).lo.toNat (one x).hi.toNat (one x).K.toNat (one x).O.toNat = some b ∧ (b = true → a = one x) := by
  unfold value_Within.f value_of.f
  obtain ⟨e1, h1, f1⟩ := Check_is hk a
  obtain ⟨e2, h2, f2⟩ := Check_is hk (one x)
  simp only [Option.bind_some, h1, h2]
  cases c1 : eqI e1 0 with
  | false => exact ⟨false, rfl, by simp⟩
  | true =>
    cases c2 : eqI e2 0 with
    | false => exact ⟨false, rfl, by simp⟩
    | true =>
      have fx : a.Fx := f1.1 (by simpa [eqI] using c1)
      simp only [Bool.not_true, br_f]
      unfold interval_Within.f
      have le := fx.le
      simp only [ltI_n, leI_n, one]
      rw [decide_eq_false (by omega : ¬ a.hi.toNat < a.lo.toNat), decide_eq_false (by omega : ¬ x.toNat < x.toNat), br_f, br_f]
      by_cases c3 : x.toNat ≤ a.lo.toNat
      · rw [decide_eq_true c3, br_t, Option.bind_some]
        by_cases c4 : a.hi.toNat ≤ x.toNat
        · rw [decide_eq_true c4, br_t]
          unfold known_Within.f
          simp only [w_andNot, w_and, eqI_0, eqI_b, ok_and fx.ok, ok_one]
          simp only [decide_true, Bool.not_true, br_f]
          by_cases c5 : BitVec.allOnes 32 &&& ~~~a.K = 0
          · rw [decide_eq_true c5, br_t, Option.bind_some]
            refine ⟨_, rfl, fun h => ?_⟩
            have h := of_decide_eq_true h
            rw [and_all] at h
            have hk : a.K = BitVec.allOnes 32 := by
              rw [BitVec.allOnes_and] at c5
              have := congrArg (fun z => ~~~z) c5
              simpa using this
            obtain ⟨lo, hi, K, O⟩ := a
            simp only at *
            have e1 : lo = x := BitVec.eq_of_toNat_eq (by omega)
            have e2 : hi = x := BitVec.eq_of_toNat_eq (by omega)
            rw [hk, h, e1, e2]
          · rw [decide_eq_false c5, br_f]
            exact ⟨false, rfl, by simp⟩
        · rw [decide_eq_false c4, br_f]
          exact ⟨false, rfl, by simp⟩
      · rw [decide_eq_false c3, br_f]
        exact ⟨false, rfl, by simp⟩
theorem Check_one {k : Nat} (hk : 70 ≤ k) (x : B) : value_Check.f k x.toNat x.toNat 4294967295 x.toNat = some 0 := by
  obtain ⟨e, h, f⟩ := Check_is hk (one x)
  rw [f.2 (one_fx x)] at h
  exact h
/-! ### Operators on single words -/
theorem eq_t {a b : Int} (h : a = b) : eqI a b = true := by rw [eqI_iff]; exact decide_eq_true h
theorem eq_f {a b : Int} (h : a ≠ b) : eqI a b = false := by rw [eqI_iff]; exact decide_eq_false h
theorem lt_t {a b : Int} (h : a < b) : ltI a b = true := decide_eq_true h
theorem lt_f {a b : Int} (h : ¬ a < b) : ltI a b = false := decide_eq_false h
theorem le_t {a b : Int} (h : a ≤ b) : leI a b = true := decide_eq_true h
theorem le_f {a b : Int} (h : ¬ a ≤ b) : leI a b = false := decide_eq_false h
/-- A word, as a whole number. -/
def U (x : Int) : Prop := 0 ≤ x ∧ x ≤ 4294967295
theorem u_b (x : B) : U (x.toNat : Int) := by
  unfold U
  have := x.isLt
  omega
/-- The number that a word's bits are, with its sign. -/
def sg (x : Int) : Int := if x < 2147483648 then x else x - 4294967296
theorem sg_i32 {x : Int} (h : U x) : IntKind.i32.wrap x = sg x := by
  unfold U at h
  unfold sg
  rw [IntKind.wrap_i32]
  split <;> omega
theorem ref_signed {x : Int} (h : U x) : lamplighterref01_Signed.f x = some (sg x) := by
  unfold U at h
  unfold lamplighterref01_Signed.f sg
  by_cases c : 2147483648 ≤ x
  · rw [le_t c, br_t, IntKind.wrap_i64, IntKind.wrap_i64]
    rw [if_neg (by omega)]
    congr 1
    omega
  · rw [le_f c, br_f, IntKind.wrap_i64, if_pos (by omega)]
    congr 1
    omega
theorem word_sg {x : Int} (h : U x) : word_Signed.f x = some (sg x) := by
  unfold word_Signed.f
  rw [sg_i32 h, IntKind.wrap_i64]
  unfold U at h
  unfold sg
  congr 1
  split <;> omega
theorem sg_0 {x : Int} (h : U x) : sg x = 0 ↔ x = 0 := by
  unfold U at h
  unfold sg
  split <;> omega
theorem u_i32 (z : Int) : IntKind.u32.wrap (IntKind.i32.wrap z) = IntKind.u32.wrap z := by
  rw [IntKind.wrap_u32', IntKind.wrap_u32', IntKind.wrap_i32]
  omega
theorem u_i64 (z : Int) : IntKind.u32.wrap (IntKind.i64.wrap z) = IntKind.u32.wrap z := by
  rw [IntKind.wrap_u32', IntKind.wrap_u32', IntKind.wrap_i64]
  omega
theorem u_wrap (z : Int) : U (IntKind.u32.wrap z) := by
  unfold U
  rw [IntKind.wrap_u32']
  omega
theorem yes_is (b : Bool) : lamplighterref01_yes.f b = some (if b = true then 1 else 0) := by cases b <;> rfl
theorem ref_1 {x y : Int} (hx : U x) (hy : U y) : lamplighterref01_Do.f 1 x y = some (IntKind.u32.wrap (x + y), 0) := by
  unfold lamplighterref01_Do.f
  rw [ref_signed hx, Option.bind_some, ref_signed hy, Option.bind_some]
  kernel_rfl
theorem word_1 (x y : Int) : word_Do.f 1 x y = some (IntKind.u32.wrap (x + y), 0) := by kernel_rfl
theorem ref_2 {x y : Int} (hx : U x) (hy : U y) : lamplighterref01_Do.f 2 x y = some (IntKind.u32.wrap (x - y), 0) := by
  unfold lamplighterref01_Do.f
  rw [ref_signed hx, Option.bind_some, ref_signed hy, Option.bind_some]
  kernel_rfl
theorem word_2 (x y : Int) : word_Do.f 2 x y = some (IntKind.u32.wrap (x - y), 0) := by kernel_rfl
theorem ref_3 {x y : Int} (hx : U x) (hy : U y) : lamplighterref01_Do.f 3 x y = some (IntKind.u32.wrap (x * y), 0) := by
  unfold lamplighterref01_Do.f
  rw [ref_signed hx, Option.bind_some, ref_signed hy, Option.bind_some]
  kernel_rfl
theorem word_3 (x y : Int) : word_Do.f 3 x y = some (IntKind.u32.wrap (x * y), 0) := by kernel_rfl
theorem ref_4 {x y : Int} (hx : U x) (hy : U y) : lamplighterref01_Do.f 4 x y = br (eqI y 0) (some (0, 12)) (br (eqI y 0) none (some (IntKind.u32.wrap (Int.tdiv x y), 0))) := by
  unfold lamplighterref01_Do.f
  rw [ref_signed hx, Option.bind_some, ref_signed hy, Option.bind_some]
  kernel_rfl
theorem word_4 (x y : Int) : word_Do.f 4 x y = br (eqI y 0) (some (0, 12)) (br (eqI y 0) none (some (IntKind.u32.wrap (Int.tdiv x y), 0))) := by kernel_rfl
theorem ref_5 {x y : Int} (hx : U x) (hy : U y) : lamplighterref01_Do.f 5 x y = br (eqI y 0) (some (0, 12)) (br (eqI y 0) none (some (Int.tmod x y, 0))) := by
  unfold lamplighterref01_Do.f
  rw [ref_signed hx, Option.bind_some, ref_signed hy, Option.bind_some]
  kernel_rfl
theorem word_5 (x y : Int) : word_Do.f 5 x y = br (eqI y 0) (some (0, 12)) (br (eqI y 0) none (some (Int.tmod x y, 0))) := by kernel_rfl
theorem ref_6 {x y : Int} (hx : U x) (hy : U y) : lamplighterref01_Do.f 6 x y = br (eqI y 0) (some (0, 12)) (br (eqI (sg y) 0) none (some (IntKind.u32.wrap (IntKind.i64.wrap (Int.tdiv (sg x) (sg y))), 0))) := by
  unfold lamplighterref01_Do.f
  rw [ref_signed hx, Option.bind_some, ref_signed hy, Option.bind_some]
  kernel_rfl
theorem word_6 (x y : Int) : word_Do.f 6 x y = br (eqI y 0) (some (0, 12)) (br (eqI (IntKind.i32.wrap y) 0) none (some (IntKind.u32.wrap (IntKind.i32.wrap (Int.tdiv (IntKind.i32.wrap x) (IntKind.i32.wrap y))), 0))) := by kernel_rfl
theorem ref_7 {x y : Int} (hx : U x) (hy : U y) : lamplighterref01_Do.f 7 x y = br (eqI y 0) (some (0, 12)) (br (eqI (sg y) 0) none (some (IntKind.u32.wrap (Int.tmod (sg x) (sg y)), 0))) := by
  unfold lamplighterref01_Do.f
  rw [ref_signed hx, Option.bind_some, ref_signed hy, Option.bind_some]
  kernel_rfl
theorem word_7 (x y : Int) : word_Do.f 7 x y = br (eqI y 0) (some (0, 12)) (br (eqI (IntKind.i32.wrap y) 0) none (some (IntKind.u32.wrap (Int.tmod (IntKind.i32.wrap x) (IntKind.i32.wrap y)), 0))) := by kernel_rfl
theorem ref_8 {x y : Int} (hx : U x) (hy : U y) : lamplighterref01_Do.f 8 x y = some (bitw .and .u32 x y, 0) := by
  unfold lamplighterref01_Do.f
  rw [ref_signed hx, Option.bind_some, ref_signed hy, Option.bind_some]
  kernel_rfl
theorem word_8 (x y : Int) : word_Do.f 8 x y = some (bitw .and .u32 x y, 0) := by kernel_rfl
theorem ref_9 {x y : Int} (hx : U x) (hy : U y) : lamplighterref01_Do.f 9 x y = some (bitw .or .u32 x y, 0) := by
  unfold lamplighterref01_Do.f
  rw [ref_signed hx, Option.bind_some, ref_signed hy, Option.bind_some]
  kernel_rfl
theorem word_9 (x y : Int) : word_Do.f 9 x y = some (bitw .or .u32 x y, 0) := by kernel_rfl
theorem ref_10 {x y : Int} (hx : U x) (hy : U y) : lamplighterref01_Do.f 10 x y = some (bitw .xor .u32 x y, 0) := by
  unfold lamplighterref01_Do.f
  rw [ref_signed hx, Option.bind_some, ref_signed hy, Option.bind_some]
  kernel_rfl
theorem word_10 (x y : Int) : word_Do.f 10 x y = some (bitw .xor .u32 x y, 0) := by kernel_rfl
theorem ref_11 {x y : Int} (hx : U x) (hy : U y) : lamplighterref01_Do.f 11 x y = br (ltI 31 y) (some (0, 0)) (br (ltI y 0) none (some (X.shl .u32 x y, 0))) := by
  unfold lamplighterref01_Do.f
  rw [ref_signed hx, Option.bind_some, ref_signed hy, Option.bind_some]
  kernel_rfl
theorem word_11 (x y : Int) : word_Do.f 11 x y = br (ltI y 0) none (some (X.shl .u32 x y, 0)) := by kernel_rfl
theorem ref_12 {x y : Int} (hx : U x) (hy : U y) : lamplighterref01_Do.f 12 x y = br (ltI 31 y) (some (0, 0)) (br (ltI y 0) none (some (X.shr .u32 x y, 0))) := by
  unfold lamplighterref01_Do.f
  rw [ref_signed hx, Option.bind_some, ref_signed hy, Option.bind_some]
  kernel_rfl
theorem word_12 (x y : Int) : word_Do.f 12 x y = br (ltI y 0) none (some (X.shr .u32 x y, 0)) := by kernel_rfl
theorem ref_13 {x y : Int} (hx : U x) (hy : U y) : lamplighterref01_Do.f 13 x y = br (ltI (if 32 < y then 32 else y) 0) none (some (IntKind.u32.wrap (X.shr .i64 (sg x) (if 32 < y then 32 else y)), 0)) := by
  unfold lamplighterref01_Do.f
  rw [ref_signed hx, Option.bind_some, ref_signed hy, Option.bind_some]
  kernel_rfl
theorem word_13 (x y : Int) : word_Do.f 13 x y = br (ltI y 0) none (some (IntKind.u32.wrap (X.shr .i32 (IntKind.i32.wrap x) y), 0)) := by kernel_rfl
theorem ref_14 {x y : Int} (hx : U x) (hy : U y) : lamplighterref01_Do.f 14 x y = (lamplighterref01_yes.f (eqI x y)).bind fun t => some (t, 0) := by
  unfold lamplighterref01_Do.f
  rw [ref_signed hx, Option.bind_some, ref_signed hy, Option.bind_some]
  kernel_rfl
theorem word_14 (x y : Int) : word_Do.f 14 x y = br (eqI x y) (some (1, 0)) (some (0, 0)) := by kernel_rfl
theorem ref_15 {x y : Int} (hx : U x) (hy : U y) : lamplighterref01_Do.f 15 x y = (lamplighterref01_yes.f (!eqI x y)).bind fun t => some (t, 0) := by
  unfold lamplighterref01_Do.f
  rw [ref_signed hx, Option.bind_some, ref_signed hy, Option.bind_some]
  kernel_rfl
theorem word_15 (x y : Int) : word_Do.f 15 x y = br (!eqI x y) (some (1, 0)) (some (0, 0)) := by kernel_rfl
theorem ref_16 {x y : Int} (hx : U x) (hy : U y) : lamplighterref01_Do.f 16 x y = (lamplighterref01_yes.f (ltI x y)).bind fun t => some (t, 0) := by
  unfold lamplighterref01_Do.f
  rw [ref_signed hx, Option.bind_some, ref_signed hy, Option.bind_some]
  kernel_rfl
theorem word_16 (x y : Int) : word_Do.f 16 x y = br (ltI x y) (some (1, 0)) (some (0, 0)) := by kernel_rfl
theorem ref_17 {x y : Int} (hx : U x) (hy : U y) : lamplighterref01_Do.f 17 x y = (lamplighterref01_yes.f (leI x y)).bind fun t => some (t, 0) := by
  unfold lamplighterref01_Do.f
  rw [ref_signed hx, Option.bind_some, ref_signed hy, Option.bind_some]
  kernel_rfl
theorem word_17 (x y : Int) : word_Do.f 17 x y = br (leI x y) (some (1, 0)) (some (0, 0)) := by kernel_rfl
theorem ref_18 {x y : Int} (hx : U x) (hy : U y) : lamplighterref01_Do.f 18 x y = (lamplighterref01_yes.f (ltI (sg x) (sg y))).bind fun t => some (t, 0) := by
  unfold lamplighterref01_Do.f
  rw [ref_signed hx, Option.bind_some, ref_signed hy, Option.bind_some]
  kernel_rfl
theorem word_18 (x y : Int) : word_Do.f 18 x y = br (ltI (IntKind.i32.wrap x) (IntKind.i32.wrap y)) (some (1, 0)) (some (0, 0)) := by kernel_rfl
theorem ref_19 {x y : Int} (hx : U x) (hy : U y) : lamplighterref01_Do.f 19 x y = (lamplighterref01_yes.f (leI (sg x) (sg y))).bind fun t => some (t, 0) := by
  unfold lamplighterref01_Do.f
  rw [ref_signed hx, Option.bind_some, ref_signed hy, Option.bind_some]
  kernel_rfl
theorem word_19 (x y : Int) : word_Do.f 19 x y = br (leI (IntKind.i32.wrap x) (IntKind.i32.wrap y)) (some (1, 0)) (some (0, 0)) := by kernel_rfl
theorem int_1 (x y : Int) : interval_Do.f 1 x x y y = ((bits_Add32.f x y 0).bind fun t1 => ((bits_Add32.f x y 0).bind fun t2 => (br (!eqI t1.2 t2.2) ((interval_All.f).bind fun t3 => some (t3.1, t3.2, true, 0)) (some (t1.1, t2.1, true, 0))))) := by
  have e : interval_Do.f 1 x x y y = br (ltI x x) (some (0, 0, false, 2)) (br (ltI y y) (some (0, 0, false, 2)) ((bits_Add32.f x y 0).bind fun t1 => ((bits_Add32.f x y 0).bind fun t2 => (br (!eqI t1.2 t2.2) ((interval_All.f).bind fun t3 => some (t3.1, t3.2, true, 0)) (some (t1.1, t2.1, true, 0)))))) := by kernel_rfl
  rw [e, lt_f (Int.lt_irrefl x), lt_f (Int.lt_irrefl y), br_f, br_f]
theorem int_2 (x y : Int) : interval_Do.f 2 x x y y = ((bits_Sub32.f x y 0).bind fun t4 => ((bits_Sub32.f x y 0).bind fun t5 => (br (!eqI t4.2 t5.2) ((interval_All.f).bind fun t6 => some (t6.1, t6.2, true, 0)) (some (t4.1, t5.1, true, 0))))) := by
  have e : interval_Do.f 2 x x y y = br (ltI x x) (some (0, 0, false, 2)) (br (ltI y y) (some (0, 0, false, 2)) ((bits_Sub32.f x y 0).bind fun t4 => ((bits_Sub32.f x y 0).bind fun t5 => (br (!eqI t4.2 t5.2) ((interval_All.f).bind fun t6 => some (t6.1, t6.2, true, 0)) (some (t4.1, t5.1, true, 0)))))) := by kernel_rfl
  rw [e, lt_f (Int.lt_irrefl x), lt_f (Int.lt_irrefl y), br_f, br_f]
theorem int_3 (x y : Int) : interval_Do.f 3 x x y y = ((bits_Mul32.f x y).bind fun t7 => (br (!eqI t7.1 0) ((interval_All.f).bind fun t8 => some (t8.1, t8.2, true, 0)) (some ((IntKind.u32.wrap (x * y)), (IntKind.u32.wrap (x * y)), true, 0)))) := by
  have e : interval_Do.f 3 x x y y = br (ltI x x) (some (0, 0, false, 2)) (br (ltI y y) (some (0, 0, false, 2)) ((bits_Mul32.f x y).bind fun t7 => (br (!eqI t7.1 0) ((interval_All.f).bind fun t8 => some (t8.1, t8.2, true, 0)) (some ((IntKind.u32.wrap (x * y)), (IntKind.u32.wrap (x * y)), true, 0))))) := by kernel_rfl
  rw [e, lt_f (Int.lt_irrefl x), lt_f (Int.lt_irrefl y), br_f, br_f]
theorem int_4 (x y : Int) : interval_Do.f 4 x x y y = ((interval_noZero.f y y).bind fun t9 => (br (!t9.2.2) (some (0, 0, false, 0)) (br (eqI t9.2.1 0) none (br (eqI t9.1 0) none (some ((IntKind.u32.wrap (Int.tdiv x t9.2.1)), (IntKind.u32.wrap (Int.tdiv x t9.1)), true, 0)))))) := by
  have e : interval_Do.f 4 x x y y = br (ltI x x) (some (0, 0, false, 2)) (br (ltI y y) (some (0, 0, false, 2)) ((interval_noZero.f y y).bind fun t9 => (br (!t9.2.2) (some (0, 0, false, 0)) (br (eqI t9.2.1 0) none (br (eqI t9.1 0) none (some ((IntKind.u32.wrap (Int.tdiv x t9.2.1)), (IntKind.u32.wrap (Int.tdiv x t9.1)), true, 0))))))) := by kernel_rfl
  rw [e, lt_f (Int.lt_irrefl x), lt_f (Int.lt_irrefl y), br_f, br_f]
theorem int_5 (x y : Int) : interval_Do.f 5 x x y y = ((interval_noZero.f y y).bind fun t10 => (br (!t10.2.2) (some (0, 0, false, 0)) (br (ltI x t10.1) (some (x, x, true, 0)) (some (0, (if (IntKind.u32.wrap (t10.2.1 - 1)) < x then (IntKind.u32.wrap (t10.2.1 - 1)) else x), true, 0))))) := by
  have e : interval_Do.f 5 x x y y = br (ltI x x) (some (0, 0, false, 2)) (br (ltI y y) (some (0, 0, false, 2)) ((interval_noZero.f y y).bind fun t10 => (br (!t10.2.2) (some (0, 0, false, 0)) (br (ltI x t10.1) (some (x, x, true, 0)) (some (0, (if (IntKind.u32.wrap (t10.2.1 - 1)) < x then (IntKind.u32.wrap (t10.2.1 - 1)) else x), true, 0)))))) := by kernel_rfl
  rw [e, lt_f (Int.lt_irrefl x), lt_f (Int.lt_irrefl y), br_f, br_f]
theorem int_6 (x y : Int) : interval_Do.f 6 x x y y = (br (eqI y 0) (some (0, 0, false, 0)) (br (leI 2147483648 x) ((interval_All.f).bind fun t11 => some (t11.1, t11.2, true, 0)) (br (leI 2147483648 y) ((interval_All.f).bind fun t12 => some (t12.1, t12.2, true, 0)) ((interval_noZero.f y y).bind fun t13 => (br (!t13.2.2) (some (0, 0, false, 0)) (br (eqI t13.2.1 0) none (br (eqI t13.1 0) none (some ((IntKind.u32.wrap (Int.tdiv x t13.2.1)), (IntKind.u32.wrap (Int.tdiv x t13.1)), true, 0))))))))) := by
  have e : interval_Do.f 6 x x y y = br (ltI x x) (some (0, 0, false, 2)) (br (ltI y y) (some (0, 0, false, 2)) (br (eqI y 0) (some (0, 0, false, 0)) (br (leI 2147483648 x) ((interval_All.f).bind fun t11 => some (t11.1, t11.2, true, 0)) (br (leI 2147483648 y) ((interval_All.f).bind fun t12 => some (t12.1, t12.2, true, 0)) ((interval_noZero.f y y).bind fun t13 => (br (!t13.2.2) (some (0, 0, false, 0)) (br (eqI t13.2.1 0) none (br (eqI t13.1 0) none (some ((IntKind.u32.wrap (Int.tdiv x t13.2.1)), (IntKind.u32.wrap (Int.tdiv x t13.1)), true, 0)))))))))) := by kernel_rfl
  rw [e, lt_f (Int.lt_irrefl x), lt_f (Int.lt_irrefl y), br_f, br_f]
theorem int_7 (x y : Int) : interval_Do.f 7 x x y y = (br (eqI y 0) (some (0, 0, false, 0)) (br (leI 2147483648 x) ((interval_All.f).bind fun t14 => some (t14.1, t14.2, true, 0)) (br (leI 2147483648 y) ((interval_All.f).bind fun t15 => some (t15.1, t15.2, true, 0)) ((interval_noZero.f y y).bind fun t16 => (br (!t16.2.2) (some (0, 0, false, 0)) (br (ltI x t16.1) (some (x, x, true, 0)) (some (0, (if (IntKind.u32.wrap (t16.2.1 - 1)) < x then (IntKind.u32.wrap (t16.2.1 - 1)) else x), true, 0)))))))) := by
  have e : interval_Do.f 7 x x y y = br (ltI x x) (some (0, 0, false, 2)) (br (ltI y y) (some (0, 0, false, 2)) (br (eqI y 0) (some (0, 0, false, 0)) (br (leI 2147483648 x) ((interval_All.f).bind fun t14 => some (t14.1, t14.2, true, 0)) (br (leI 2147483648 y) ((interval_All.f).bind fun t15 => some (t15.1, t15.2, true, 0)) ((interval_noZero.f y y).bind fun t16 => (br (!t16.2.2) (some (0, 0, false, 0)) (br (ltI x t16.1) (some (x, x, true, 0)) (some (0, (if (IntKind.u32.wrap (t16.2.1 - 1)) < x then (IntKind.u32.wrap (t16.2.1 - 1)) else x), true, 0))))))))) := by kernel_rfl
  rw [e, lt_f (Int.lt_irrefl x), lt_f (Int.lt_irrefl y), br_f, br_f]
theorem int_8 (x y : Int) : interval_Do.f 8 x x y y = (some (0, (if y < x then y else x), true, 0)) := by
  have e : interval_Do.f 8 x x y y = br (ltI x x) (some (0, 0, false, 2)) (br (ltI y y) (some (0, 0, false, 2)) (some (0, (if y < x then y else x), true, 0))) := by kernel_rfl
  rw [e, lt_f (Int.lt_irrefl x), lt_f (Int.lt_irrefl y), br_f, br_f]
theorem int_9 (x y : Int) : interval_Do.f 9 x x y y = ((interval_upto.f (if y > x then y else x)).bind fun t17 => some ((if y > x then y else x), t17, true, 0)) := by
  have e : interval_Do.f 9 x x y y = br (ltI x x) (some (0, 0, false, 2)) (br (ltI y y) (some (0, 0, false, 2)) ((interval_upto.f (if y > x then y else x)).bind fun t17 => some ((if y > x then y else x), t17, true, 0))) := by kernel_rfl
  rw [e, lt_f (Int.lt_irrefl x), lt_f (Int.lt_irrefl y), br_f, br_f]
theorem int_10 (x y : Int) : interval_Do.f 10 x x y y = ((interval_upto.f (if y > x then y else x)).bind fun t18 => some (0, t18, true, 0)) := by
  have e : interval_Do.f 10 x x y y = br (ltI x x) (some (0, 0, false, 2)) (br (ltI y y) (some (0, 0, false, 2)) ((interval_upto.f (if y > x then y else x)).bind fun t18 => some (0, t18, true, 0))) := by kernel_rfl
  rw [e, lt_f (Int.lt_irrefl x), lt_f (Int.lt_irrefl y), br_f, br_f]
theorem int_11 (x y : Int) : interval_Do.f 11 x x y y = (br (leI 32 y) ((interval_One.f 0).bind fun t19 => some (t19.1, t19.2, true, 0)) (br (!eqI y y) ((interval_All.f).bind fun t20 => some (t20.1, t20.2, true, 0)) (br (ltI y 0) none (br (ltI 4294967295 (X.shl .u64 (IntKind.u64.wrap x) y)) ((interval_All.f).bind fun t21 => some (t21.1, t21.2, true, 0)) (br (ltI y 0) none (br (ltI y 0) none (some ((X.shl .u32 x y), (X.shl .u32 x y), true, 0)))))))) := by
  have e : interval_Do.f 11 x x y y = br (ltI x x) (some (0, 0, false, 2)) (br (ltI y y) (some (0, 0, false, 2)) (br (leI 32 y) ((interval_One.f 0).bind fun t19 => some (t19.1, t19.2, true, 0)) (br (!eqI y y) ((interval_All.f).bind fun t20 => some (t20.1, t20.2, true, 0)) (br (ltI y 0) none (br (ltI 4294967295 (X.shl .u64 (IntKind.u64.wrap x) y)) ((interval_All.f).bind fun t21 => some (t21.1, t21.2, true, 0)) (br (ltI y 0) none (br (ltI y 0) none (some ((X.shl .u32 x y), (X.shl .u32 x y), true, 0))))))))) := by kernel_rfl
  rw [e, lt_f (Int.lt_irrefl x), lt_f (Int.lt_irrefl y), br_f, br_f]
theorem int_12 (x y : Int) : interval_Do.f 12 x x y y = (br (ltI y 0) none (br (ltI y 0) none (some ((X.shr .u32 x y), (X.shr .u32 x y), true, 0)))) := by
  have e : interval_Do.f 12 x x y y = br (ltI x x) (some (0, 0, false, 2)) (br (ltI y y) (some (0, 0, false, 2)) (br (ltI y 0) none (br (ltI y 0) none (some ((X.shr .u32 x y), (X.shr .u32 x y), true, 0))))) := by kernel_rfl
  rw [e, lt_f (Int.lt_irrefl x), lt_f (Int.lt_irrefl y), br_f, br_f]
theorem int_13 (x y : Int) : interval_Do.f 13 x x y y = (br (leI 2147483648 x) ((interval_All.f).bind fun t22 => some (t22.1, t22.2, true, 0)) (br (ltI y 0) none (br (ltI y 0) none (some ((X.shr .u32 x y), (X.shr .u32 x y), true, 0))))) := by
  have e : interval_Do.f 13 x x y y = br (ltI x x) (some (0, 0, false, 2)) (br (ltI y y) (some (0, 0, false, 2)) (br (leI 2147483648 x) ((interval_All.f).bind fun t22 => some (t22.1, t22.2, true, 0)) (br (ltI y 0) none (br (ltI y 0) none (some ((X.shr .u32 x y), (X.shr .u32 x y), true, 0)))))) := by kernel_rfl
  rw [e, lt_f (Int.lt_irrefl x), lt_f (Int.lt_irrefl y), br_f, br_f]
theorem int_14 (x y : Int) : interval_Do.f 14 x x y y = ((interval_Meet.f x x y y).bind fun t23 => (br ((x == y) && (x == y)) ((interval_yes.f (eqI x x) (!t23.2.2)).bind fun t24 => some (t24.1, t24.2, true, 0)) ((interval_yes.f false (!t23.2.2)).bind fun t25 => some (t25.1, t25.2, true, 0)))) := by
  have e : interval_Do.f 14 x x y y = br (ltI x x) (some (0, 0, false, 2)) (br (ltI y y) (some (0, 0, false, 2)) ((interval_Meet.f x x y y).bind fun t23 => (br ((x == y) && (x == y)) ((interval_yes.f (eqI x x) (!t23.2.2)).bind fun t24 => some (t24.1, t24.2, true, 0)) ((interval_yes.f false (!t23.2.2)).bind fun t25 => some (t25.1, t25.2, true, 0))))) := by kernel_rfl
  rw [e, lt_f (Int.lt_irrefl x), lt_f (Int.lt_irrefl y), br_f, br_f]
theorem int_15 (x y : Int) : interval_Do.f 15 x x y y = ((interval_Meet.f x x y y).bind fun t26 => (br ((x == y) && (x == y)) ((interval_yes.f (!t26.2.2) (eqI x x)).bind fun t27 => some (t27.1, t27.2, true, 0)) ((interval_yes.f (!t26.2.2) false).bind fun t28 => some (t28.1, t28.2, true, 0)))) := by
  have e : interval_Do.f 15 x x y y = br (ltI x x) (some (0, 0, false, 2)) (br (ltI y y) (some (0, 0, false, 2)) ((interval_Meet.f x x y y).bind fun t26 => (br ((x == y) && (x == y)) ((interval_yes.f (!t26.2.2) (eqI x x)).bind fun t27 => some (t27.1, t27.2, true, 0)) ((interval_yes.f (!t26.2.2) false).bind fun t28 => some (t28.1, t28.2, true, 0))))) := by kernel_rfl
  rw [e, lt_f (Int.lt_irrefl x), lt_f (Int.lt_irrefl y), br_f, br_f]
theorem int_16 (x y : Int) : interval_Do.f 16 x x y y = ((interval_yes.f (ltI x y) (leI y x)).bind fun t29 => some (t29.1, t29.2, true, 0)) := by
  have e : interval_Do.f 16 x x y y = br (ltI x x) (some (0, 0, false, 2)) (br (ltI y y) (some (0, 0, false, 2)) ((interval_yes.f (ltI x y) (leI y x)).bind fun t29 => some (t29.1, t29.2, true, 0))) := by kernel_rfl
  rw [e, lt_f (Int.lt_irrefl x), lt_f (Int.lt_irrefl y), br_f, br_f]
theorem int_17 (x y : Int) : interval_Do.f 17 x x y y = ((interval_yes.f (leI x y) (ltI y x)).bind fun t30 => some (t30.1, t30.2, true, 0)) := by
  have e : interval_Do.f 17 x x y y = br (ltI x x) (some (0, 0, false, 2)) (br (ltI y y) (some (0, 0, false, 2)) ((interval_yes.f (leI x y) (ltI y x)).bind fun t30 => some (t30.1, t30.2, true, 0))) := by kernel_rfl
  rw [e, lt_f (Int.lt_irrefl x), lt_f (Int.lt_irrefl y), br_f, br_f]
theorem int_18 (x y : Int) : interval_Do.f 18 x x y y = ((interval_signed.f x x).bind fun t31 => ((interval_signed.f y y).bind fun t32 => ((interval_yes.f (ltI t31.2 t32.1) (leI t32.2 t31.1)).bind fun t33 => some (t33.1, t33.2, true, 0)))) := by
  have e : interval_Do.f 18 x x y y = br (ltI x x) (some (0, 0, false, 2)) (br (ltI y y) (some (0, 0, false, 2)) ((interval_signed.f x x).bind fun t31 => ((interval_signed.f y y).bind fun t32 => ((interval_yes.f (ltI t31.2 t32.1) (leI t32.2 t31.1)).bind fun t33 => some (t33.1, t33.2, true, 0))))) := by kernel_rfl
  rw [e, lt_f (Int.lt_irrefl x), lt_f (Int.lt_irrefl y), br_f, br_f]
theorem int_19 (x y : Int) : interval_Do.f 19 x x y y = ((interval_signed.f x x).bind fun t34 => ((interval_signed.f y y).bind fun t35 => ((interval_yes.f (leI t34.2 t35.1) (ltI t35.2 t34.1)).bind fun t36 => some (t36.1, t36.2, true, 0)))) := by
  have e : interval_Do.f 19 x x y y = br (ltI x x) (some (0, 0, false, 2)) (br (ltI y y) (some (0, 0, false, 2)) ((interval_signed.f x x).bind fun t34 => ((interval_signed.f y y).bind fun t35 => ((interval_yes.f (leI t34.2 t35.1) (ltI t35.2 t34.1)).bind fun t36 => some (t36.1, t36.2, true, 0))))) := by kernel_rfl
  rw [e, lt_f (Int.lt_irrefl x), lt_f (Int.lt_irrefl y), br_f, br_f]
/-- What an operator makes of two single words, in the range's part. -/
def In1 (op x y : Int) : Prop := ∃ v f : Int, lamplighterref01_Do.f op x y = some (v, f) ∧ word_Do.f op x y = some (v, f) ∧ U v ∧ ((f = 12 ∧ y = 0 ∧ 4 ≤ op ∧ op ≤ 7 ∧ interval_Do.f op x x y y = some (0, 0, false, 0)) ∨ (f = 0 ∧ ¬ (y = 0 ∧ 4 ≤ op ∧ op ≤ 7) ∧ ∃ lo hi, interval_Do.f op x x y y = some (lo, hi, true, 0) ∧ lo ≤ v ∧ v ≤ hi ∧ U lo ∧ U hi))
theorem In1.mk {op x y v : Int} (hr : lamplighterref01_Do.f op x y = some (v, 0)) (hw : word_Do.f op x y = some (v, 0)) (u : U v) (hn : ¬ (y = 0 ∧ 4 ≤ op ∧ op ≤ 7)) {lo hi : Int} (hi' : interval_Do.f op x x y y = some (lo, hi, true, 0)) (h1 : lo ≤ v) (h2 : v ≤ hi) (u1 : U lo) (u2 : U hi) : In1 op x y :=
  ⟨v, 0, hr, hw, u, .inr ⟨rfl, hn, lo, hi, hi', h1, h2, u1, u2⟩⟩
theorem In1.zero {op x y : Int} (hr : lamplighterref01_Do.f op x y = some (0, 12)) (hw : word_Do.f op x y = some (0, 12)) (hy : y = 0) (h4 : 4 ≤ op) (h7 : op ≤ 7) (hi' : interval_Do.f op x x y y = some (0, 0, false, 0)) : In1 op x y :=
  ⟨0, 12, hr, hw, ⟨by decide, by decide⟩, .inl ⟨rfl, hy, h4, h7, hi'⟩⟩
theorem u64_u {x : Int} (h : U x) : IntKind.u64.wrap x = x := by
  unfold U at h
  rw [IntKind.wrap_u64]
  omega
theorem add_is {x y : Int} (hx : U x) (hy : U y) : ∃ c, bits_Add32.f x y 0 = some (IntKind.u32.wrap (x + y), c) := by
  unfold bits_Add32.f
  refine ⟨_, congrArg some (Prod.ext ?_ rfl)⟩
  simp only
  rw [u64_u hx, u64_u hy]
  unfold U at hx hy
  rw [IntKind.wrap_u64, IntKind.wrap_u64, IntKind.wrap_u64, IntKind.wrap_u32', IntKind.wrap_u32']
  omega
theorem sub_is (x y : Int) : ∃ c, bits_Sub32.f x y 0 = some (IntKind.u32.wrap (x - y), c) := by
  unfold bits_Sub32.f
  refine ⟨_, congrArg some (Prod.ext ?_ rfl)⟩
  simp only
  rw [IntKind.wrap_u32', IntKind.wrap_u32']
  omega
theorem u_all : U 0 ∧ U 4294967295 := by unfold U; decide
theorem i_1 {x y : Int} (hx : U x) (hy : U y) : In1 1 x y := by
  obtain ⟨c, e⟩ := add_is hx hy
  refine .mk (ref_1 hx hy) (word_1 x y) (u_wrap _) (by omega) (lo := IntKind.u32.wrap (x + y)) (hi := IntKind.u32.wrap (x + y)) ?_ (Int.le_refl _) (Int.le_refl _) (u_wrap _) (u_wrap _)
  rw [int_1, e]
  simp only [Option.bind_some, eq_t rfl, Bool.not_true, br_f]
theorem i_2 {x y : Int} (hx : U x) (hy : U y) : In1 2 x y := by
  obtain ⟨c, e⟩ := sub_is x y
  refine .mk (ref_2 hx hy) (word_2 x y) (u_wrap _) (by omega) (lo := IntKind.u32.wrap (x - y)) (hi := IntKind.u32.wrap (x - y)) ?_ (Int.le_refl _) (Int.le_refl _) (u_wrap _) (u_wrap _)
  rw [int_2, e]
  simp only [Option.bind_some, eq_t rfl, Bool.not_true, br_f]
theorem i_3 {x y : Int} (hx : U x) (hy : U y) : In1 3 x y := by
  have r := ref_3 hx hy
  have w := word_3 x y
  have i := int_3 x y
  have u := u_wrap (x * y)
  unfold bits_Mul32.f at i
  rw [Option.bind_some] at i
  simp only at i
  cases c : eqI (IntKind.u32.wrap (X.shr .u64 (IntKind.u64.wrap ((IntKind.u64.wrap x) * (IntKind.u64.wrap y))) 32)) 0 with
  | true =>
    rw [c, Bool.not_true, br_f] at i
    exact .mk r w u (by omega) i (Int.le_refl _) (Int.le_refl _) u u
  | false =>
    rw [c, Bool.not_false, br_t] at i
    exact .mk r w u (by omega) i u.1 u.2 u_all.1 u_all.2
theorem noz_0 : interval_noZero.f 0 0 = some (0, 0, false) := rfl
theorem noz_n {y : Int} (hy : U y) (h : y ≠ 0) : interval_noZero.f y y = some (y, y, true) := by
  unfold U at hy
  unfold interval_noZero.f
  rw [eq_f h, br_f]
  split
  · rfl
  · have e : y = 1 := by omega
    subst e
    rfl
theorem u_div {x y : Int} (hx : U x) (hy : U y) : U (Int.tdiv x y) := by
  unfold U at *
  rw [Int.tdiv_eq_ediv_of_nonneg hx.1]
  have a := Int.ediv_nonneg hx.1 hy.1
  have b := Int.ediv_le_self y hx.1
  omega
theorem u_mod {x y : Int} (hx : U x) (hy : U y) (h : y ≠ 0) : U (Int.tmod x y) ∧ Int.tmod x y < y ∧ Int.tmod x y ≤ x := by
  unfold U at *
  rw [Int.tmod_eq_emod_of_nonneg hx.1]
  have a := Int.emod_nonneg x h
  have b := Int.emod_lt_of_pos x (by omega : 0 < y)
  have d : x % y ≤ x := by
    rcases Int.lt_or_le x y with q | q
    · rw [Int.emod_eq_of_lt hx.1 q]; exact Int.le_refl _
    · omega
  omega
theorem w_u {x : Int} (h : U x) : IntKind.u32.wrap x = x := by
  unfold U at h
  rw [IntKind.wrap_u32']
  omega
theorem i_4 {x y : Int} (hx : U x) (hy : U y) : In1 4 x y := by
  have r := ref_4 hx hy
  have w := word_4 x y
  have i := int_4 x y
  by_cases c : y = 0
  · subst c
    exact .zero r w rfl (by decide) (by decide) i
  · rw [eq_f c, br_f, br_f] at r w
    rw [noz_n hy c, Option.bind_some] at i
    simp only [Bool.not_true, br_f, eq_f c] at i
    exact .mk r w (u_wrap _) (by omega) i (Int.le_refl _) (Int.le_refl _) (u_wrap _) (u_wrap _)
theorem i_5 {x y : Int} (hx : U x) (hy : U y) : In1 5 x y := by
  have r := ref_5 hx hy
  have w := word_5 x y
  have i := int_5 x y
  by_cases c : y = 0
  · subst c
    exact .zero r w rfl (by decide) (by decide) i
  · obtain ⟨m1, m2, m3⟩ := u_mod hx hy c
    rw [eq_f c, br_f, br_f] at r w
    rw [noz_n hy c, Option.bind_some] at i
    simp only [Bool.not_true, br_f] at i
    have e : IntKind.u32.wrap (y - 1) = y - 1 := w_u (by unfold U at *; omega)
    rw [e] at i
    by_cases d : x < y
    · rw [lt_t d, br_t] at i
      have q : Int.tmod x y = x := Int.tmod_eq_of_lt hx.1 d
      rw [q] at r w
      exact .mk r w hx (by omega) i (Int.le_refl _) (Int.le_refl _) hx hx
    · rw [lt_f d, br_f] at i
      refine .mk r w m1 (by omega) i m1.1 ?_ u_all.1 ?_
      · split <;> omega
      · unfold U at *
        split <;> omega
theorem i_6 {x y : Int} (hx : U x) (hy : U y) : In1 6 x y := by
  have r := ref_6 hx hy
  have w := word_6 x y
  have i := int_6 x y
  rw [sg_i32 hx, sg_i32 hy, u_i32] at w
  rw [u_i64] at r
  by_cases c : y = 0
  · subst c
    exact .zero r w rfl (by decide) (by decide) i
  · have c2 : sg y ≠ 0 := fun e => c ((sg_0 hy).1 e)
    rw [eq_f c, br_f, eq_f c2, br_f] at r w
    rw [eq_f c, br_f] at i
    by_cases d1 : 2147483648 ≤ x
    · rw [le_t d1, br_t] at i
      exact .mk r w (u_wrap _) (by omega) i (u_wrap _).1 (u_wrap _).2 u_all.1 u_all.2
    · rw [le_f d1, br_f] at i
      by_cases d2 : 2147483648 ≤ y
      · rw [le_t d2, br_t] at i
        exact .mk r w (u_wrap _) (by omega) i (u_wrap _).1 (u_wrap _).2 u_all.1 u_all.2
      · rw [le_f d2, br_f, noz_n hy c, Option.bind_some] at i
        simp only [Bool.not_true, br_f, eq_f c] at i
        have e1 : sg x = x := by unfold sg; rw [if_pos (by omega)]
        have e2 : sg y = y := by unfold sg; rw [if_pos (by omega)]
        rw [e1, e2] at r w
        exact .mk r w (u_wrap _) (by omega) i (Int.le_refl _) (Int.le_refl _) (u_wrap _) (u_wrap _)
theorem i_7 {x y : Int} (hx : U x) (hy : U y) : In1 7 x y := by
  have r := ref_7 hx hy
  have w := word_7 x y
  have i := int_7 x y
  rw [sg_i32 hx, sg_i32 hy] at w
  by_cases c : y = 0
  · subst c
    exact .zero r w rfl (by decide) (by decide) i
  · have c2 : sg y ≠ 0 := fun e => c ((sg_0 hy).1 e)
    rw [eq_f c, br_f, eq_f c2, br_f] at r w
    rw [eq_f c, br_f] at i
    by_cases d1 : 2147483648 ≤ x
    · rw [le_t d1, br_t] at i
      exact .mk r w (u_wrap _) (by omega) i (u_wrap _).1 (u_wrap _).2 u_all.1 u_all.2
    · rw [le_f d1, br_f] at i
      by_cases d2 : 2147483648 ≤ y
      · rw [le_t d2, br_t] at i
        exact .mk r w (u_wrap _) (by omega) i (u_wrap _).1 (u_wrap _).2 u_all.1 u_all.2
      · rw [le_f d2, br_f, noz_n hy c, Option.bind_some] at i
        simp only [Bool.not_true, br_f] at i
        have e1 : sg x = x := by unfold sg; rw [if_pos (by omega)]
        have e2 : sg y = y := by unfold sg; rw [if_pos (by omega)]
        obtain ⟨m1, m2, m3⟩ := u_mod hx hy c
        rw [e1, e2, w_u m1] at r w
        have e : IntKind.u32.wrap (y - 1) = y - 1 := w_u (by unfold U at *; omega)
        rw [e] at i
        by_cases d : x < y
        · rw [lt_t d, br_t] at i
          have q : Int.tmod x y = x := Int.tmod_eq_of_lt hx.1 d
          rw [q] at r w
          exact .mk r w hx (by omega) i (Int.le_refl _) (Int.le_refl _) hx hx
        · rw [lt_f d, br_f] at i
          refine .mk r w m1 (by omega) i m1.1 ?_ u_all.1 ?_
          · split <;> omega
          · unfold U at *
            split <;> omega
theorem upto_is (v : B) : interval_upto.f (v.toNat : Int) = some ((2 ^ len v - 1 : Nat) : Int) := by
  unfold interval_upto.f
  rw [len_is, Option.bind_some, show ltI ((len v : Nat) : Int) 0 = false from (ltI_n (b := 0)).trans (by simp), br_f]
  have l := len_le (x := v)
  generalize len v = n at *
  have p : (2 : Nat) ^ n ≤ 2 ^ 32 := Nat.pow_le_pow_right (by decide) l
  have q : 0 < (2 : Nat) ^ n := Nat.two_pow_pos n
  unfold X.shl
  have e1 : min (n : Int).toNat IntKind.u32.bits = n := by
    show min n 32 = n
    omega
  rw [e1, IntKind.wrap_u32', IntKind.wrap_u32']
  have e2 : (1 : Int) * 2 ^ n = ((2 ^ n : Nat) : Int) := by simp
  rw [e2]
  generalize 2 ^ n = z at *
  congr 1
  omega
theorem i_8 (x y : B) : In1 8 x.toNat y.toNat := by
  have r := ref_8 (u_b x) (u_b y)
  have w := word_8 x.toNat y.toNat
  have i := int_8 x.toNat y.toNat
  have u := u_b (x &&& y)
  rw [w_and] at r w
  have a1 : (x &&& y).toNat ≤ x.toNat := by rw [BitVec.toNat_and]; exact Nat.and_le_left
  have a2 : (x &&& y).toNat ≤ y.toNat := by rw [BitVec.toNat_and]; exact Nat.and_le_right
  have ux := u_b x
  have uy := u_b y
  refine .mk r w u (by omega) i u.1 ?_ u_all.1 ?_
  · split <;> omega
  · split <;> assumption
theorem len_lt {v : B} : v.toNat < 2 ^ len v := len_spec.1 (Nat.le_refl _)
theorem u_upto (v : B) : U ((2 ^ len v - 1 : Nat) : Int) := by
  have p : (2 : Nat) ^ len v ≤ 2 ^ 32 := Nat.pow_le_pow_right (by decide) len_le
  unfold U
  omega
theorem max_lt {x y : B} : x.toNat < 2 ^ len (bmax x y) ∧ y.toNat < 2 ^ len (bmax x y) := by
  have a := bmax_le (x := x) (y := y)
  have b := len_lt (v := bmax x y)
  omega
theorem i_9 (x y : B) : In1 9 x.toNat y.toNat := by
  have r := ref_9 (u_b x) (u_b y)
  have w := word_9 x.toNat y.toNat
  have i := int_9 x.toNat y.toNat
  have u := u_b (x ||| y)
  rw [w_or] at r w
  rw [bmax_int, upto_is, Option.bind_some] at i
  have m := max_lt (x := x) (y := y)
  have a1 : (x ||| y).toNat < 2 ^ len (bmax x y) := by rw [BitVec.toNat_or]; exact Nat.or_lt_two_pow m.1 m.2
  have a2 : (bmax x y).toNat ≤ (x ||| y).toNat := by
    rw [BitVec.toNat_or]
    exact bmax_lub Nat.left_le_or Nat.right_le_or
  exact .mk r w u (by omega) i (by omega) (by omega) (u_b _) (u_upto _)
theorem i_10 (x y : B) : In1 10 x.toNat y.toNat := by
  have r := ref_10 (u_b x) (u_b y)
  have w := word_10 x.toNat y.toNat
  have i := int_10 x.toNat y.toNat
  have u := u_b (x ^^^ y)
  rw [w_xor] at r w
  rw [bmax_int, upto_is, Option.bind_some] at i
  have m := max_lt (x := x) (y := y)
  have a1 : (x ^^^ y).toNat < 2 ^ len (bmax x y) := by rw [BitVec.toNat_xor]; exact Nat.xor_lt_two_pow m.1 m.2
  exact .mk r w u (by omega) i u.1 (by omega) u_all.1 (u_upto _)
theorem shl_u (x y : Int) : U (X.shl .u32 x y) := u_wrap _
theorem shl_0 {x y : Int} (h : 31 < y) : X.shl .u32 x y = 0 := by
  unfold X.shl
  have e : min y.toNat IntKind.u32.bits = 32 := by
    show min y.toNat 32 = 32
    omega
  rw [e, IntKind.wrap_u32']
  omega
theorem shr_is {k : IntKind} {x y : Int} {n : Nat} (e : min y.toNat k.bits = n) : X.shr k x y = x / 2 ^ n := by
  unfold X.shr
  rw [e, Int.fdiv_eq_ediv_of_nonneg _ (Int.le_of_lt (Int.pow_pos (by decide)))]
theorem shr_u {x : Int} (hx : U x) (y : Int) : U (X.shr .u32 x y) := by
  rw [shr_is rfl]
  have a := Int.ediv_le_self (2 ^ min y.toNat IntKind.u32.bits) hx.1
  have b : 0 ≤ x / 2 ^ min y.toNat IntKind.u32.bits := Int.ediv_nonneg hx.1 (Int.le_of_lt (Int.pow_pos (by decide)))
  exact ⟨b, Int.le_trans a hx.2⟩
theorem shr_0 {x y : Int} (hx : U x) (h : 31 < y) : X.shr .u32 x y = 0 := by
  have e : min y.toNat IntKind.u32.bits = 32 := by
    show min y.toNat 32 = 32
    omega
  rw [shr_is e]
  unfold U at hx
  omega
theorem i_11 {x y : Int} (hx : U x) (hy : U y) : In1 11 x y := by
  have r := ref_11 hx hy
  have w := word_11 x y
  have i := int_11 x y
  have n : ¬ y < 0 := by unfold U at hy; omega
  have u := shl_u x y
  rw [lt_f n, br_f] at r w
  rw [lt_f n, br_f, br_f, br_f, eq_t rfl, Bool.not_true, br_f] at i
  by_cases c : 31 < y
  · rw [lt_t c, br_t] at r
    rw [shl_0 c] at w
    rw [le_t (by omega), br_t] at i
    exact .mk r w u_all.1 (by omega) i (Int.le_refl _) (Int.le_refl _) u_all.1 u_all.1
  · rw [lt_f c, br_f] at r
    rw [le_f (by omega), br_f] at i
    by_cases d : 4294967295 < X.shl .u64 (IntKind.u64.wrap x) y
    · rw [lt_t d, br_t] at i
      exact .mk r w u (by omega) i u.1 u.2 u_all.1 u_all.2
    · rw [lt_f d, br_f] at i
      exact .mk r w u (by omega) i (Int.le_refl _) (Int.le_refl _) u u
theorem i_12 {x y : Int} (hx : U x) (hy : U y) : In1 12 x y := by
  have r := ref_12 hx hy
  have w := word_12 x y
  have i := int_12 x y
  have n : ¬ y < 0 := by unfold U at hy; omega
  have u := shr_u hx y
  rw [lt_f n, br_f] at r w
  rw [lt_f n, br_f, br_f] at i
  by_cases c : 31 < y
  · rw [lt_t c, br_t, ← shr_0 hx c] at r
    have e := shr_0 hx c
    rw [e] at r w i u
    exact .mk r w u (by omega) i (Int.le_refl _) (Int.le_refl _) u u
  · rw [lt_f c, br_f] at r
    exact .mk r w u (by omega) i (Int.le_refl _) (Int.le_refl _) u u
theorem i_13 {x y : Int} (hx : U x) (hy : U y) : In1 13 x y := by
  have r := ref_13 hx hy
  have w := word_13 x y
  have i := int_13 x y
  have n : ¬ y < 0 := by unfold U at hy; omega
  have n2 : ¬ (if 32 < y then 32 else y) < 0 := by split <;> omega
  rw [lt_f n2, br_f, shr_is (n := min y.toNat 32) (by
    show min (if 32 < y then 32 else y).toNat 64 = _
    split <;> omega)] at r
  rw [lt_f n, br_f, sg_i32 hx, shr_is (n := min y.toNat 32) rfl] at w
  rw [lt_f n, br_f, br_f, shr_is (n := min y.toNat 32) rfl] at i
  have u := u_wrap (sg x / 2 ^ min y.toNat 32)
  by_cases c : 2147483648 ≤ x
  · rw [le_t c, br_t] at i
    exact .mk r w u (by omega) i u.1 u.2 u_all.1 u_all.2
  · rw [le_f c, br_f] at i
    have e : sg x = x := by unfold sg; rw [if_pos (by omega)]
    have z := shr_u hx y
    rw [shr_is (n := min y.toNat 32) rfl] at z
    rw [e, w_u z] at r w
    exact .mk r w z (by omega) i (Int.le_refl _) (Int.le_refl _) z z
theorem u_01 : U 0 ∧ U 1 := by unfold U; decide
/-- An operator that tells yes or no, told by a range of one number. -/
theorem In1.bool {op x y : Int} {b : Bool} (hn : ¬ (4 ≤ op ∧ op ≤ 7)) (hr : lamplighterref01_Do.f op x y = (lamplighterref01_yes.f b).bind fun t => some (t, 0)) (hw : word_Do.f op x y = br b (some (1, 0)) (some (0, 0))) (hi : interval_Do.f op x x y y = br b (some (1, 1, true, 0)) (some (0, 0, true, 0))) : In1 op x y := by
  cases b with
  | true => exact .mk hr hw u_01.2 (by omega) hi (Int.le_refl _) (Int.le_refl _) u_01.2 u_01.2
  | false => exact .mk hr hw u_01.1 (by omega) hi (Int.le_refl _) (Int.le_refl _) u_01.1 u_01.1
theorem meet_n {x y : Int} : ∃ a b : Int, interval_Meet.f x x y y = some (a, b, eqI x y) := by
  unfold interval_Meet.f
  rw [lt_f (Int.lt_irrefl x), lt_f (Int.lt_irrefl y), br_f, br_f]
  by_cases c : x = y
  · subst c
    rw [lt_f (by split <;> omega), br_f, eq_t rfl]
    exact ⟨_, _, rfl⟩
  · rw [lt_t (by split <;> split <;> omega), br_t, eq_f c]
    exact ⟨_, _, rfl⟩
theorem i_14 {x y : Int} (hx : U x) (hy : U y) : In1 14 x y := by
  refine .bool (by omega) (ref_14 hx hy) (word_14 x y) ?_
  obtain ⟨a, b, e⟩ := meet_n (x := x) (y := y)
  rw [int_14, e, Option.bind_some]
  by_cases c : x = y
  · subst c
    simp only [eq_t rfl, beq_self_eq_true, Bool.and_self, br_t]
    rfl
  · simp only [eq_f c, beq_eq_false_iff_ne.2 c, Bool.and_self, br_f]
    rfl
theorem i_15 {x y : Int} (hx : U x) (hy : U y) : In1 15 x y := by
  refine .bool (by omega) (ref_15 hx hy) (word_15 x y) ?_
  obtain ⟨a, b, e⟩ := meet_n (x := x) (y := y)
  rw [int_15, e, Option.bind_some]
  by_cases c : x = y
  · subst c
    simp only [eq_t rfl, beq_self_eq_true, Bool.and_self, br_t]
    rfl
  · simp only [eq_f c, beq_eq_false_iff_ne.2 c, Bool.and_self, br_f]
    rfl
theorem yes2 {b c : Bool} (h : c = !b) : ((interval_yes.f b c).bind fun t => some (t.1, t.2, true, (0 : Int))) = br b (some (1, 1, true, 0)) (some (0, 0, true, 0)) := by
  subst h
  cases b <;> rfl
theorem nlt {x y : Int} : leI y x = !ltI x y := by
  unfold leI ltI
  rw [Bool.eq_iff_iff]
  simp
theorem nle {x y : Int} : ltI y x = !leI x y := by
  unfold leI ltI
  rw [Bool.eq_iff_iff]
  simp
theorem i_16 {x y : Int} (hx : U x) (hy : U y) : In1 16 x y :=
  .bool (by omega) (ref_16 hx hy) (word_16 x y) ((int_16 x y).trans (yes2 nlt))
theorem i_17 {x y : Int} (hx : U x) (hy : U y) : In1 17 x y :=
  .bool (by omega) (ref_17 hx hy) (word_17 x y) ((int_17 x y).trans (yes2 nle))
theorem signed_n {x : Int} (h : U x) : interval_signed.f x x = some (sg x, sg x) := by
  unfold interval_signed.f
  rw [word_sg h]
  by_cases c : x < 2147483648
  · rw [lt_t c]
    rfl
  · rw [lt_f c, le_t (by omega)]
    rfl
theorem i_18 {x y : Int} (hx : U x) (hy : U y) : In1 18 x y := by
  refine .bool (by omega) (ref_18 hx hy) ?_ ?_
  · rw [word_18, sg_i32 hx, sg_i32 hy]
  · rw [int_18, signed_n hx, signed_n hy, Option.bind_some, Option.bind_some]
    exact yes2 nlt
theorem i_19 {x y : Int} (hx : U x) (hy : U y) : In1 19 x y := by
  refine .bool (by omega) (ref_19 hx hy) ?_ ?_
  · rw [word_19, sg_i32 hx, sg_i32 hy]
  · rw [int_19, signed_n hx, signed_n hy, Option.bind_some, Option.bind_some]
    exact yes2 nle
/-- All operators. -/
theorem in_all {op : Int} (h1 : 1 ≤ op) (h2 : op ≤ 19) (x y : B) : In1 op x.toNat y.toNat := by
  have hx := u_b x
  have hy := u_b y
  obtain h | h | h | h | h | h | h | h | h | h | h | h | h | h | h | h | h | h | h : op = 1 ∨ op = 2 ∨ op = 3 ∨ op = 4 ∨ op = 5 ∨ op = 6 ∨ op = 7 ∨ op = 8 ∨ op = 9 ∨ op = 10 ∨ op = 11 ∨ op = 12 ∨ op = 13 ∨ op = 14 ∨ op = 15 ∨ op = 16 ∨ op = 17 ∨ op = 18 ∨ op = 19 := by omega
  · rw [h]; exact i_1 hx hy
  · rw [h]; exact i_2 hx hy
  · rw [h]; exact i_3 hx hy
  · rw [h]; exact i_4 hx hy
  · rw [h]; exact i_5 hx hy
  · rw [h]; exact i_6 hx hy
  · rw [h]; exact i_7 hx hy
  · rw [h]; exact i_8 x y
  · rw [h]; exact i_9 x y
  · rw [h]; exact i_10 x y
  · rw [h]; exact i_11 hx hy
  · rw [h]; exact i_12 hx hy
  · rw [h]; exact i_13 hx hy
  · rw [h]; exact i_14 hx hy
  · rw [h]; exact i_15 hx hy
  · rw [h]; exact i_16 hx hy
  · rw [h]; exact i_17 hx hy
  · rw [h]; exact i_18 hx hy
  · rw [h]; exact i_19 hx hy
/-! ### Known bits of single words -/
theorem car_all (op x y : Int) : known_carried.f 100 4294967295 x 4294967295 y op = (word_Do.f op x y).bind fun t => some (4294967295, bitw .and .u32 t.1 4294967295) := by kernel_rfl
theorem andN0 (x : B) : eqI (bitw .andNot .u32 (x.toNat : Int) 4294967295) 0 = true := by
  rw [all_n, w_andNot, ok_one]
  rfl
theorem kd_pre {x y : B} {R : Option (Int × Int × Bool × Int)} : br (!eqI (bitw .andNot .u32 (x.toNat : Int) 4294967295) 0) (some (0, 0, false, 2)) (br (!eqI (bitw .andNot .u32 (y.toNat : Int) 4294967295) 0) (some (0, 0, false, 2)) R) = R := by
  rw [andN0, andN0]
  rfl
theorem kd_1 (x y : Int) : known_Do.f 100 1 4294967295 x 4294967295 y = br (!eqI (bitw .andNot .u32 x 4294967295) 0) (some (0, 0, false, 2)) (br (!eqI (bitw .andNot .u32 y 4294967295) 0) (some (0, 0, false, 2)) ((known_carried.f 100 4294967295 x 4294967295 y 1).bind fun t => some (t.1, t.2, true, 0))) := by kernel_rfl
theorem kd_2 (x y : Int) : known_Do.f 100 2 4294967295 x 4294967295 y = br (!eqI (bitw .andNot .u32 x 4294967295) 0) (some (0, 0, false, 2)) (br (!eqI (bitw .andNot .u32 y 4294967295) 0) (some (0, 0, false, 2)) ((known_carried.f 100 4294967295 x 4294967295 y 2).bind fun t => some (t.1, t.2, true, 0))) := by kernel_rfl
theorem kd_3 (x y : Int) : known_Do.f 100 3 4294967295 x 4294967295 y = br (!eqI (bitw .andNot .u32 x 4294967295) 0) (some (0, 0, false, 2)) (br (!eqI (bitw .andNot .u32 y 4294967295) 0) (some (0, 0, false, 2)) (some (4294967295, IntKind.u32.wrap (x * y), true, 0))) := by kernel_rfl
theorem kd_4 (x y : Int) : known_Do.f 100 4 4294967295 x 4294967295 y = br (!eqI (bitw .andNot .u32 x 4294967295) 0) (some (0, 0, false, 2)) (br (!eqI (bitw .andNot .u32 y 4294967295) 0) (some (0, 0, false, 2)) ((known_divided.f 4 4294967295 x 4294967295 y).bind fun t => some (t.1, t.2.1, t.2.2, 0))) := by kernel_rfl
theorem kd_5 (x y : Int) : known_Do.f 100 5 4294967295 x 4294967295 y = br (!eqI (bitw .andNot .u32 x 4294967295) 0) (some (0, 0, false, 2)) (br (!eqI (bitw .andNot .u32 y 4294967295) 0) (some (0, 0, false, 2)) ((known_divided.f 5 4294967295 x 4294967295 y).bind fun t => some (t.1, t.2.1, t.2.2, 0))) := by kernel_rfl
theorem kd_6 (x y : Int) : known_Do.f 100 6 4294967295 x 4294967295 y = br (!eqI (bitw .andNot .u32 x 4294967295) 0) (some (0, 0, false, 2)) (br (!eqI (bitw .andNot .u32 y 4294967295) 0) (some (0, 0, false, 2)) ((known_divided.f 6 4294967295 x 4294967295 y).bind fun t => some (t.1, t.2.1, t.2.2, 0))) := by kernel_rfl
theorem kd_7 (x y : Int) : known_Do.f 100 7 4294967295 x 4294967295 y = br (!eqI (bitw .andNot .u32 x 4294967295) 0) (some (0, 0, false, 2)) (br (!eqI (bitw .andNot .u32 y 4294967295) 0) (some (0, 0, false, 2)) ((known_divided.f 7 4294967295 x 4294967295 y).bind fun t => some (t.1, t.2.1, t.2.2, 0))) := by kernel_rfl
theorem kd_8 (x y : Int) : known_Do.f 100 8 4294967295 x 4294967295 y = br (!eqI (bitw .andNot .u32 x 4294967295) 0) (some (0, 0, false, 2)) (br (!eqI (bitw .andNot .u32 y 4294967295) 0) (some (0, 0, false, 2)) (some (bitw .or .u32 (bitw .or .u32 (bitw .and .u32 4294967295 4294967295) (bitw .andNot .u32 4294967295 x)) (bitw .andNot .u32 4294967295 y), bitw .and .u32 x y, true, 0))) := by kernel_rfl
theorem kd_9 (x y : Int) : known_Do.f 100 9 4294967295 x 4294967295 y = br (!eqI (bitw .andNot .u32 x 4294967295) 0) (some (0, 0, false, 2)) (br (!eqI (bitw .andNot .u32 y 4294967295) 0) (some (0, 0, false, 2)) (some (bitw .or .u32 (bitw .or .u32 (bitw .and .u32 4294967295 4294967295) x) y, bitw .or .u32 x y, true, 0))) := by kernel_rfl
theorem kd_10 (x y : Int) : known_Do.f 100 10 4294967295 x 4294967295 y = br (!eqI (bitw .andNot .u32 x 4294967295) 0) (some (0, 0, false, 2)) (br (!eqI (bitw .andNot .u32 y 4294967295) 0) (some (0, 0, false, 2)) (some (bitw .and .u32 4294967295 4294967295, bitw .and .u32 (bitw .xor .u32 x y) (bitw .and .u32 4294967295 4294967295), true, 0))) := by kernel_rfl
theorem kd_11 (x y : Int) : known_Do.f 100 11 4294967295 x 4294967295 y = br (!eqI (bitw .andNot .u32 x 4294967295) 0) (some (0, 0, false, 2)) (br (!eqI (bitw .andNot .u32 y 4294967295) 0) (some (0, 0, false, 2)) ((known_shift.f 4294967295 x y 11).bind fun t => some (t.1, t.2, true, 0))) := by kernel_rfl
theorem kd_12 (x y : Int) : known_Do.f 100 12 4294967295 x 4294967295 y = br (!eqI (bitw .andNot .u32 x 4294967295) 0) (some (0, 0, false, 2)) (br (!eqI (bitw .andNot .u32 y 4294967295) 0) (some (0, 0, false, 2)) ((known_shift.f 4294967295 x y 12).bind fun t => some (t.1, t.2, true, 0))) := by kernel_rfl
theorem kd_13 (x y : Int) : known_Do.f 100 13 4294967295 x 4294967295 y = br (!eqI (bitw .andNot .u32 x 4294967295) 0) (some (0, 0, false, 2)) (br (!eqI (bitw .andNot .u32 y 4294967295) 0) (some (0, 0, false, 2)) ((known_shift.f 4294967295 x y 13).bind fun t => some (t.1, t.2, true, 0))) := by kernel_rfl
theorem kd_14 (x y : Int) : known_Do.f 100 14 4294967295 x 4294967295 y = br (!eqI (bitw .andNot .u32 x 4294967295) 0) (some (0, 0, false, 2)) (br (!eqI (bitw .andNot .u32 y 4294967295) 0) (some (0, 0, false, 2)) ((known_compared.f 14 4294967295 x 4294967295 y).bind fun t => some (t.1, t.2, true, 0))) := by kernel_rfl
theorem kd_15 (x y : Int) : known_Do.f 100 15 4294967295 x 4294967295 y = br (!eqI (bitw .andNot .u32 x 4294967295) 0) (some (0, 0, false, 2)) (br (!eqI (bitw .andNot .u32 y 4294967295) 0) (some (0, 0, false, 2)) ((known_compared.f 15 4294967295 x 4294967295 y).bind fun t => some (t.1, t.2, true, 0))) := by kernel_rfl
theorem kd_16 (x y : Int) : known_Do.f 100 16 4294967295 x 4294967295 y = br (!eqI (bitw .andNot .u32 x 4294967295) 0) (some (0, 0, false, 2)) (br (!eqI (bitw .andNot .u32 y 4294967295) 0) (some (0, 0, false, 2)) ((known_compared.f 16 4294967295 x 4294967295 y).bind fun t => some (t.1, t.2, true, 0))) := by kernel_rfl
theorem kd_17 (x y : Int) : known_Do.f 100 17 4294967295 x 4294967295 y = br (!eqI (bitw .andNot .u32 x 4294967295) 0) (some (0, 0, false, 2)) (br (!eqI (bitw .andNot .u32 y 4294967295) 0) (some (0, 0, false, 2)) ((known_compared.f 17 4294967295 x 4294967295 y).bind fun t => some (t.1, t.2, true, 0))) := by kernel_rfl
theorem kd_18 (x y : Int) : known_Do.f 100 18 4294967295 x 4294967295 y = br (!eqI (bitw .andNot .u32 x 4294967295) 0) (some (0, 0, false, 2)) (br (!eqI (bitw .andNot .u32 y 4294967295) 0) (some (0, 0, false, 2)) ((known_compared.f 18 4294967295 x 4294967295 y).bind fun t => some (t.1, t.2, true, 0))) := by kernel_rfl
theorem kd_19 (x y : Int) : known_Do.f 100 19 4294967295 x 4294967295 y = br (!eqI (bitw .andNot .u32 x 4294967295) 0) (some (0, 0, false, 2)) (br (!eqI (bitw .andNot .u32 y 4294967295) 0) (some (0, 0, false, 2)) ((known_compared.f 19 4294967295 x 4294967295 y).bind fun t => some (t.1, t.2, true, 0))) := by kernel_rfl
theorem and_n (x : B) : bitw .and .u32 (x.toNat : Int) 4294967295 = x.toNat := by rw [all_n, w_and, and_all]
/-- What an operator makes of two single words, in the bits' part. -/
def Kn1 (op : Int) (x y : B) : Prop := ∀ v : B, word_Do.f op x.toNat y.toNat = some ((v.toNat : Int), 0) → ¬ (y.toNat = 0 ∧ 4 ≤ op ∧ op ≤ 7) → known_Do.f 100 op 4294967295 x.toNat 4294967295 y.toNat = some (4294967295, (v.toNat : Int), true, 0)
theorem k_1 (x y : B) : Kn1 1 x y := fun v hw _ => by
  rw [kd_1, kd_pre, car_all, hw, Option.bind_some, Option.bind_some, and_n]
theorem k_2 (x y : B) : Kn1 2 x y := fun v hw _ => by
  rw [kd_2, kd_pre, car_all, hw, Option.bind_some, Option.bind_some, and_n]
theorem k_3 (x y : B) : Kn1 3 x y := fun v hw _ => by
  rw [kd_3, kd_pre]
  rw [word_3] at hw
  simp only [Option.some.injEq, Prod.mk.injEq] at hw
  rw [hw.1]
theorem div_n (op x : Int) {y v f : Int} (hy : y ≠ 0) (hw : word_Do.f op x y = some (v, f)) : known_divided.f op 4294967295 x 4294967295 y = some (4294967295, v, true) := by
  unfold known_divided.f
  rw [eq_t rfl, br_t, eq_f hy, br_f, show eqI (bitw .and .u32 4294967295 4294967295) 4294967295 = true by kernel_rfl, br_t, hw]
  rfl
theorem y_ne {y : B} (h : ¬ y.toNat = 0) : (y.toNat : Int) ≠ 0 := by omega
theorem k_4 (x y : B) : Kn1 4 x y := fun v hw hn => by
  rw [kd_4, kd_pre, div_n 4 _ (y_ne (by omega)) hw, Option.bind_some]
theorem k_5 (x y : B) : Kn1 5 x y := fun v hw hn => by
  rw [kd_5, kd_pre, div_n 5 _ (y_ne (by omega)) hw, Option.bind_some]
theorem k_6 (x y : B) : Kn1 6 x y := fun v hw hn => by
  rw [kd_6, kd_pre, div_n 6 _ (y_ne (by omega)) hw, Option.bind_some]
theorem k_7 (x y : B) : Kn1 7 x y := fun v hw hn => by
  rw [kd_7, kd_pre, div_n 7 _ (y_ne (by omega)) hw, Option.bind_some]
theorem and_aa : bitw .and .u32 4294967295 4294967295 = 4294967295 := by kernel_rfl
theorem or_all (x : B) : bitw .or .u32 4294967295 (x.toNat : Int) = 4294967295 := by
  rw [all_n, w_or, BitVec.allOnes_or]
theorem k_8 (x y : B) : Kn1 8 x y := fun v hw _ => by
  rw [kd_8, kd_pre, and_aa]
  rw [word_8] at hw
  simp only [Option.some.injEq, Prod.mk.injEq] at hw
  rw [hw.1, show (4294967295 : Int) = ((BitVec.allOnes 32).toNat : Int) from all_n, w_andNot, w_andNot, w_or, BitVec.allOnes_or, w_or, BitVec.allOnes_or]
theorem k_9 (x y : B) : Kn1 9 x y := fun v hw _ => by
  rw [kd_9, kd_pre, and_aa, or_all, or_all]
  rw [word_9] at hw
  simp only [Option.some.injEq, Prod.mk.injEq] at hw
  rw [hw.1]
theorem k_10 (x y : B) : Kn1 10 x y := fun v hw _ => by
  rw [kd_10, kd_pre, and_aa]
  rw [word_10] at hw
  simp only [Option.some.injEq, Prod.mk.injEq] at hw
  rw [hw.1, and_n]
/-- How far: beyond the word's width all is alike. -/
def far (y : Int) : Int := if 32 < y then 32 else y
theorem shl_far (x : Int) (y : Int) : X.shl .u32 x y = X.shl .u32 x (far y) := by
  unfold X.shl far
  have e : min y.toNat IntKind.u32.bits = min (if 32 < y then 32 else y).toNat IntKind.u32.bits := by
    show min y.toNat 32 = min (if 32 < y then 32 else y).toNat 32
    split <;> omega
  rw [e]
theorem shr_far (x : Int) {k : IntKind} (hk : k.bits = 32) (y : Int) : X.shr k x y = X.shr k x (far y) := by
  unfold X.shr far
  have e : min y.toNat k.bits = min (if 32 < y then 32 else y).toNat k.bits := by
    rw [hk]
    split <;> omega
  rw [e]
theorem far_all : ∀ n : Nat, n < 33 → bitw .or .u32 (X.shl .u32 4294967295 n) (IntKind.u32.wrap (IntKind.u64.wrap ((X.shl .u64 1 n) - 1))) = 4294967295 ∧ bitw .or .u32 (X.shr .u32 4294967295 n) (bitw .xor .u32 IntKind.u32.max (IntKind.u32.wrap (X.shr .u64 4294967295 n))) = 4294967295 ∧ IntKind.u32.wrap (X.shr .i32 (IntKind.i32.wrap 4294967295) n) = 4294967295 := by decide +kernel
theorem far_n {y : Int} (h : 0 ≤ y) : ∃ n : Nat, n < 33 ∧ far y = n := by
  unfold far
  split
  · exact ⟨32, by decide, rfl⟩
  · exact ⟨y.toNat, by omega, by omega⟩
theorem k_11 (x y : B) : Kn1 11 x y := fun v hw _ => by
  have n : ¬ (y.toNat : Int) < 0 := by omega
  have nf : ¬ far (y.toNat : Int) < 0 := by unfold far; split <;> omega
  rw [kd_11, kd_pre]
  unfold known_shift.f
  rw [hw, word_11, lt_f n, br_f, Option.bind_some, Option.bind_some, eq_t rfl, br_t]
  show (br (ltI (far (y.toNat : Int)) 0) none (some (bitw .or .u32 (X.shl .u32 4294967295 (y.toNat : Int)) (IntKind.u32.wrap (IntKind.u64.wrap ((X.shl .u64 1 (far (y.toNat : Int))) - 1))), _))).bind _ = _
  rw [lt_f nf, br_f, shl_far 4294967295 _]
  obtain ⟨m, hm, e⟩ := far_n (y := (y.toNat : Int)) (by omega)
  have f := (far_all m hm).1
  show some (bitw .or .u32 (X.shl .u32 4294967295 (far (y.toNat : Int))) (IntKind.u32.wrap (IntKind.u64.wrap ((X.shl .u64 1 (far (y.toNat : Int))) - 1))), bitw .and .u32 (v.toNat : Int) (bitw .or .u32 (X.shl .u32 4294967295 (far (y.toNat : Int))) (IntKind.u32.wrap (IntKind.u64.wrap ((X.shl .u64 1 (far (y.toNat : Int))) - 1)))), true, (0 : Int)) = _
  rw [e, f, and_n]
theorem k_12 (x y : B) : Kn1 12 x y := fun v hw _ => by
  have n : ¬ (y.toNat : Int) < 0 := by omega
  have nf : ¬ far (y.toNat : Int) < 0 := by unfold far; split <;> omega
  rw [kd_12, kd_pre]
  unfold known_shift.f
  rw [hw, word_12, lt_f n, br_f, Option.bind_some, Option.bind_some, eq_f (by decide), br_f, eq_t rfl, br_t]
  show (br (ltI (far (y.toNat : Int)) 0) none (some (bitw .or .u32 (X.shr .u32 4294967295 (y.toNat : Int)) (bitw .xor .u32 IntKind.u32.max (IntKind.u32.wrap (X.shr .u64 4294967295 (far (y.toNat : Int))))), _))).bind _ = _
  rw [lt_f nf, br_f, shr_far 4294967295 rfl _]
  obtain ⟨m, hm, e⟩ := far_n (y := (y.toNat : Int)) (by omega)
  have f := (far_all m hm).2.1
  show some (bitw .or .u32 (X.shr .u32 4294967295 (far (y.toNat : Int))) (bitw .xor .u32 IntKind.u32.max (IntKind.u32.wrap (X.shr .u64 4294967295 (far (y.toNat : Int))))), bitw .and .u32 (v.toNat : Int) (bitw .or .u32 (X.shr .u32 4294967295 (far (y.toNat : Int))) (bitw .xor .u32 IntKind.u32.max (IntKind.u32.wrap (X.shr .u64 4294967295 (far (y.toNat : Int)))))), true, (0 : Int)) = _
  rw [e, f, and_n]
theorem k_13 (x y : B) : Kn1 13 x y := fun v hw _ => by
  have n : ¬ (y.toNat : Int) < 0 := by omega
  rw [kd_13, kd_pre]
  unfold known_shift.f
  rw [hw, word_13, lt_f n, br_f, Option.bind_some, Option.bind_some, eq_f (by decide), br_f, eq_f (by decide), br_f, Option.bind_some]
  obtain ⟨m, hm, e⟩ := far_n (y := (y.toNat : Int)) (by omega)
  have f := (far_all m hm).2.2
  rw [shr_far _ rfl _, e]
  simp only [f, and_n]
theorem meet_some (a b c d : Int) : ∃ t, known_Meet.f a b c d = some t := by
  unfold known_Meet.f br
  repeat' split
  all_goals exact ⟨_, rfl⟩
theorem cmp_n {op x y v f : Int} (hw : word_Do.f op x y = some (v, f)) : known_compared.f op 4294967295 x 4294967295 y = some (4294967295, v) := by
  unfold known_compared.f
  obtain ⟨t, e⟩ := meet_some 4294967295 x 4294967295 y
  rw [e, Option.bind_some, and_aa, eq_t rfl, br_t, hw]
  rfl
theorem k_14 (x y : B) : Kn1 14 x y := fun v hw _ => by rw [kd_14, kd_pre, cmp_n hw, Option.bind_some]
theorem k_15 (x y : B) : Kn1 15 x y := fun v hw _ => by rw [kd_15, kd_pre, cmp_n hw, Option.bind_some]
theorem k_16 (x y : B) : Kn1 16 x y := fun v hw _ => by rw [kd_16, kd_pre, cmp_n hw, Option.bind_some]
theorem k_17 (x y : B) : Kn1 17 x y := fun v hw _ => by rw [kd_17, kd_pre, cmp_n hw, Option.bind_some]
theorem k_18 (x y : B) : Kn1 18 x y := fun v hw _ => by rw [kd_18, kd_pre, cmp_n hw, Option.bind_some]
theorem k_19 (x y : B) : Kn1 19 x y := fun v hw _ => by rw [kd_19, kd_pre, cmp_n hw, Option.bind_some]
theorem kn_all {op : Int} (h1 : 1 ≤ op) (h2 : op ≤ 19) (x y : B) : Kn1 op x y := by
  obtain h | h | h | h | h | h | h | h | h | h | h | h | h | h | h | h | h | h | h : op = 1 ∨ op = 2 ∨ op = 3 ∨ op = 4 ∨ op = 5 ∨ op = 6 ∨ op = 7 ∨ op = 8 ∨ op = 9 ∨ op = 10 ∨ op = 11 ∨ op = 12 ∨ op = 13 ∨ op = 14 ∨ op = 15 ∨ op = 16 ∨ op = 17 ∨ op = 18 ∨ op = 19 := by omega
  · rw [h]; exact k_1 x y
  · rw [h]; exact k_2 x y
  · rw [h]; exact k_3 x y
  · rw [h]; exact k_4 x y
  · rw [h]; exact k_5 x y
  · rw [h]; exact k_6 x y
  · rw [h]; exact k_7 x y
  · rw [h]; exact k_8 x y
  · rw [h]; exact k_9 x y
  · rw [h]; exact k_10 x y
  · rw [h]; exact k_11 x y
  · rw [h]; exact k_12 x y
  · rw [h]; exact k_13 x y
  · rw [h]; exact k_14 x y
  · rw [h]; exact k_15 x y
  · rw [h]; exact k_16 x y
  · rw [h]; exact k_17 x y
  · rw [h]; exact k_18 x y
  · rw [h]; exact k_19 x y
theorem kn_zero {op : Int} (h1 : 4 ≤ op) (h2 : op ≤ 7) (x : B) : known_Do.f 100 op 4294967295 x.toNat 4294967295 0 = some (0, 0, false, 0) := by
  have z : ∀ op x : Int, known_divided.f op 4294967295 x 4294967295 0 = some (0, 0, false) := fun op x => by kernel_rfl
  have p := fun R => kd_pre (x := x) (y := 0) (R := R)
  obtain h | h | h | h : op = 4 ∨ op = 5 ∨ op = 6 ∨ op = 7 := by omega
  · rw [h, kd_4, z]; exact p _
  · rw [h, kd_5, z]; exact p _
  · rw [h, kd_6, z]; exact p _
  · rw [h, kd_7, z]; exact p _
/-! ### Values of single words -/
theorem b_of' {x : Int} (h : U x) : ∃ X : B, x = (X.toNat : Int) := b_of h
theorem fit_v {lo hi : Int} (ul : U lo) (uh : U hi) (v : B) (h1 : lo ≤ v.toNat) (h2 : (v.toNat : Int) ≤ hi) : value_Fit.f 100 lo hi 4294967295 v.toNat = some ((v.toNat : Int), (v.toNat : Int), 4294967295, (v.toNat : Int), true) := by
  obtain ⟨a, rfl⟩ := b_of' ul
  obtain ⟨b, rfl⟩ := b_of' uh
  have e := Fit_is (k := 100) (by decide) ⟨a, b, BitVec.allOnes 32, v⟩
  rw [fit_one (w := v) (by simp only; omega) (by simp only; omega) rfl rfl] at e
  exact e
theorem fitted_v {lo hi : Int} (ul : U lo) (uh : U hi) (v : B) (h1 : lo ≤ v.toNat) (h2 : (v.toNat : Int) ≤ hi) : value_fitted.f 100 lo hi 4294967295 v.toNat = some ((v.toNat : Int), (v.toNat : Int), 4294967295, (v.toNat : Int)) := by
  unfold value_fitted.f
  rw [fit_v ul uh v h1 h2]
  rfl
theorem chk (x : B) : value_Check.f 100 x.toNat x.toNat 4294967295 x.toNat = some 0 := Check_one (by decide) x
theorem do_one {op : Int} (h1 : 1 ≤ op) (h2 : op ≤ 19) (x y : B) : ∃ v : B, (lamplighterref01_Do.f op x.toNat y.toNat = some ((v.toNat : Int), 0) ∧ value_Do.f 100 op x.toNat x.toNat 4294967295 x.toNat y.toNat y.toNat 4294967295 y.toNat = some ((v.toNat : Int), (v.toNat : Int), 4294967295, (v.toNat : Int), true, 0)) ∨ (lamplighterref01_Do.f op x.toNat y.toNat = some ((v.toNat : Int), 12) ∧ value_Do.f 100 op x.toNat x.toNat 4294967295 x.toNat y.toNat y.toNat 4294967295 y.toNat = some (0, 0, 0, 0, false, 0)) := by
  obtain ⟨v, f, hr, hw, uv, c⟩ := in_all h1 h2 x y
  obtain ⟨V, rfl⟩ := b_of' uv
  refine ⟨V, ?_⟩
  rcases c with ⟨rfl, hy, h4, h7, i⟩ | ⟨rfl, hn, lo, hi, i, l1, l2, u1, u2⟩
  · refine .inr ⟨hr, ?_⟩
    have k : known_Do.f 100 op 4294967295 x.toNat 4294967295 y.toNat = some (0, 0, false, 0) := by
      rw [hy]
      exact kn_zero h4 h7 x
    unfold value_Do.f
    rw [chk, chk, Option.bind_some, Option.bind_some, i, k]
    rfl
  · refine .inl ⟨hr, ?_⟩
    have k := kn_all h1 h2 x y V hw (by omega)
    unfold value_Do.f
    rw [chk, chk, Option.bind_some, Option.bind_some, i, k]
    simp only [Option.bind_some, eq_t rfl, Bool.not_true, br_f]
    rw [fit_v u1 u2 V l1 l2]
    rfl
/-- Operators on one word. -/
theorem wrap0 {x : Int} (h : U x) (h0 : 0 < x) : IntKind.u32.wrap (0 - x) = 4294967296 - x := by
  unfold U at h
  rw [IntKind.wrap_u32']
  omega
theorem iu_1 {x : Int} (h : U x) : interval_Un.f 1 x x = some (IntKind.u32.wrap (0 - x), IntKind.u32.wrap (0 - x), 0) := by
  unfold interval_Un.f
  rw [lt_f (Int.lt_irrefl x), br_f, eq_t rfl, br_t]
  by_cases c : x = 0
  · subst c
    kernel_rfl
  · rw [eq_f c, br_f, lt_t (by unfold U at h; omega), br_t]
theorem iu_2 (x : Int) : interval_Un.f 2 x x = some (bitw .xor .u32 IntKind.u32.max x, bitw .xor .u32 IntKind.u32.max x, 0) := by
  unfold interval_Un.f
  rw [lt_f (Int.lt_irrefl x), br_f, eq_f (by decide), br_f, eq_t rfl, br_t]
theorem iu_3 {x : Int} (h : U x) : interval_Un.f 3 x x = br (eqI x 0) (some (1, 1, 0)) (some (0, 0, 0)) := by
  unfold interval_Un.f
  rw [lt_f (Int.lt_irrefl x), br_f, eq_f (by decide), br_f, eq_f (by decide), br_f, eq_t rfl, br_t]
  by_cases c : x = 0
  · subst c
    kernel_rfl
  · rw [eq_f c, lt_t (by unfold U at h; omega)]
    rfl
theorem ku_1 (x : Int) : known_Un.f 100 1 4294967295 x = br (!eqI (bitw .andNot .u32 x 4294967295) 0) (some (0, 0, 2)) ((known_carried.f 100 4294967295 0 4294967295 x 2).bind fun t => some (t.1, t.2, 0)) := by kernel_rfl
theorem ku_2 (x : Int) : known_Un.f 100 2 4294967295 x = br (!eqI (bitw .andNot .u32 x 4294967295) 0) (some (0, 0, 2)) (some (4294967295, bitw .andNot .u32 4294967295 x, 0)) := by kernel_rfl
theorem ku_3 (x : Int) : known_Un.f 100 3 4294967295 x = br (!eqI (bitw .andNot .u32 x 4294967295) 0) (some (0, 0, 2)) (br (!eqI x 0) (some (4294967295, 0, 0)) (some (4294967295, 1, 0))) := by kernel_rfl
theorem un_mk {u : Int} {x v : B} (hr : lamplighterref01_One.f u x.toNat = some ((v.toNat : Int), 0)) (hi : interval_Un.f u x.toNat x.toNat = some ((v.toNat : Int), (v.toNat : Int), 0)) (hk : known_Un.f 100 u 4294967295 x.toNat = some (4294967295, (v.toNat : Int), 0)) : lamplighterref01_One.f u x.toNat = some ((v.toNat : Int), 0) ∧ value_Un.f 100 u x.toNat x.toNat 4294967295 x.toNat = some ((v.toNat : Int), (v.toNat : Int), 4294967295, (v.toNat : Int), 0) := by
  refine ⟨hr, ?_⟩
  unfold value_Un.f
  rw [hi, hk]
  simp only [Option.bind_some, eq_t rfl, Bool.not_true, br_f, chk]
  rw [fitted_v (u_b v) (u_b v) v (Int.le_refl _) (Int.le_refl _)]
  rfl
theorem un_one {u : Int} (h1 : 1 ≤ u) (h2 : u ≤ 3) (x : B) : ∃ v : B, lamplighterref01_One.f u x.toNat = some ((v.toNat : Int), 0) ∧ value_Un.f 100 u x.toNat x.toNat 4294967295 x.toNat = some ((v.toNat : Int), (v.toNat : Int), 4294967295, (v.toNat : Int), 0) := by
  obtain h | h | h : u = 1 ∨ u = 2 ∨ u = 3 := by omega
  · subst h
    obtain ⟨v, e⟩ := b_of' (u_wrap (0 - (x.toNat : Int)))
    refine ⟨v, un_mk ?_ ?_ ?_⟩
    · rw [← e]; rfl
    · rw [iu_1 (u_b x), e]
    · rw [ku_1, andN0, car_all, word_2, Option.bind_some, Option.bind_some, e, and_n]
      rfl
  · subst h
    refine ⟨~~~x, un_mk ?_ ?_ ?_⟩
    · rw [← w_not]; rfl
    · rw [iu_2, w_not]
    · rw [ku_2, andN0, all_n, w_andNot, BitVec.allOnes_and]
      rfl
  · subst h
    by_cases c : (x.toNat : Int) = 0
    · refine ⟨1, un_mk ?_ ?_ ?_⟩
      · rw [c]; kernel_rfl
      · rw [c]; kernel_rfl
      · rw [c]; kernel_rfl
    · refine ⟨0, un_mk ?_ ?_ ?_⟩
      · unfold lamplighterref01_One.f
        rw [eq_f (by decide), br_f, eq_f (by decide), br_f, eq_t rfl, br_t, eq_f c]
        rfl
      · rw [iu_3 (u_b x), eq_f c]
        rfl
      · rw [ku_3, andN0, eq_f c]
        rfl
/-- Cuts. -/
theorem cut_one {w : Int} (hw : w = 8 ∨ w = 16 ∨ w = 32) (x : B) : ∃ v : B, lamplighterref01_Cut.f x.toNat w = some ((v.toNat : Int), 0) ∧ value_Cut.f 100 x.toNat x.toNat 4294967295 x.toNat w = some ((v.toNat : Int), (v.toNat : Int), 4294967295, (v.toNat : Int), 0) := by
  have hx := u_b x
  have key : ∀ {v a : Int}, U v → 0 ≤ w → word_Cut.f x.toNat w = some (v, 0) → word_Cut.f 4294967295 w = some (a, 0) → U a → lamplighterref01_Cut.f x.toNat w = some (v, 0) → ∃ v : B, lamplighterref01_Cut.f x.toNat w = some ((v.toNat : Int), 0) ∧ value_Cut.f 100 x.toNat x.toNat 4294967295 x.toNat w = some ((v.toNat : Int), (v.toNat : Int), 4294967295, (v.toNat : Int), 0) := by
    intro v a uv h0 hc ha ua hr
    obtain ⟨V, rfl⟩ := b_of' uv
    obtain ⟨A, rfl⟩ := b_of' ua
    refine ⟨V, hr, ?_⟩
    have i : interval_Cut.f x.toNat x.toNat w = some ((V.toNat : Int), (V.toNat : Int), 0) := by
      unfold interval_Cut.f
      rw [hc]
      simp only [Option.bind_some, eq_t rfl, Bool.not_true, br_f, lt_f (Int.lt_irrefl _), lt_f (by omega : ¬ w < 0), br_t]
    have k : known_Cut.f 4294967295 x.toNat w = some (4294967295, (V.toNat : Int), 0) := by
      unfold known_Cut.f
      rw [hc]
      simp only [Option.bind_some, eq_t rfl, Bool.not_true, br_f, andN0, ha, w_not, or_all]
    unfold value_Cut.f
    rw [i, k]
    simp only [Option.bind_some, eq_t rfl, Bool.not_true, br_f, chk]
    rw [fitted_v (u_b V) (u_b V) V (Int.le_refl _) (Int.le_refl _)]
    rfl
  obtain h | h | h := hw
  · subst h
    refine key (v := (x.toNat : Int) % 256) (a := 255) ?_ (by decide) ?_ (by kernel_rfl) (by unfold U; decide) ?_
    · unfold U at *; omega
    · unfold word_Cut.f
      rw [eq_t rfl, br_t, IntKind.wrap_u8', IntKind.wrap_u32']
      congr 2
      omega
    · unfold lamplighterref01_Cut.f
      rw [eq_t rfl, br_t, Int.tmod_eq_emod_of_nonneg hx.1]
  · subst h
    refine key (v := (x.toNat : Int) % 65536) (a := 65535) ?_ (by decide) ?_ (by kernel_rfl) (by unfold U; decide) ?_
    · unfold U at *; omega
    · unfold word_Cut.f
      rw [eq_f (by decide), br_f, eq_t rfl, br_t, IntKind.wrap_u16, IntKind.wrap_u32']
      congr 2
      omega
    · unfold lamplighterref01_Cut.f
      rw [eq_f (by decide), br_f, eq_t rfl, br_t, Int.tmod_eq_emod_of_nonneg hx.1]
  · subst h
    refine key (v := (x.toNat : Int)) (a := 4294967295) hx (by decide) ?_ (by kernel_rfl) (by unfold U; decide) ?_
    · unfold word_Cut.f
      rw [eq_f (by decide), br_f, eq_f (by decide), br_f, eq_t rfl, br_t]
    · unfold lamplighterref01_Cut.f
      rw [eq_f (by decide), br_f, eq_f (by decide), br_f, eq_t rfl, br_t]
theorem lives_is : lamplighterlaw21_lives.f 100 = some true := by kernel_rfl
/-! ### The law -/
theorem pick_is (a : Int) {n : Int} (h1 : 1 ≤ n) (h2 : n ≤ 1000) : ∃ r, lamplighterkit_Pick.f a n = some r ∧ 0 ≤ r ∧ r < n := by
  unfold lamplighterkit_Pick.f
  rw [lt_f (by omega), br_f, eq_f (by omega), br_f]
  have l : -n < Int.tmod a n ∧ Int.tmod a n < n := by
    have q := Int.tmod_lt_of_pos a (by omega : 0 < n)
    have e := Int.neg_tmod a n
    have q2 := Int.tmod_lt_of_pos (-a) (by omega : 0 < n)
    omega
  by_cases c : Int.tmod a n < 0
  · rw [lt_t c, br_t, IntKind.wrap_i64]
    exact ⟨_, rfl, by omega, by omega⟩
  · rw [lt_f c, br_f]
    exact ⟨_, rfl, by omega, by omega⟩
theorem One_v (x : Int) : value_One.f x = some (x, x, 4294967295, x) := rfl
theorem one_plus {r : Int} (h0 : 0 ≤ r) (h1 : r < 1000) : IntKind.i64.wrap (1 + r) = 1 + r := by
  rw [IntKind.wrap_i64]
  omega
theorem u_wf {x : Int} (h : (Lit.int .u32 x).wf = true) : U x := by
  simp [Lit.wf, IntKind.min, IntKind.max, IntKind.signed, IntKind.bits] at h
  exact ⟨by omega, by omega⟩
end Go.Proofs.YtdmondofdlkopaaGreatDoor.V
