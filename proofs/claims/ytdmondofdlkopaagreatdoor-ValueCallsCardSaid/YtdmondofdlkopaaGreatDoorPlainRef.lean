/- The reference's answers on ranges, known bits and values are the program's. Conditions: those each theorem names. -/
import Derived.Test.YtdmondofdlkopaaGreatDoorPlainVal
import Derived.Test.YtdmondofdlkopaaGreatDoorVRef
namespace Go.Proofs.YtdmondofdlkopaaGreatDoor.V.Snd
open Go Go.RowKit Go.Proofs.YtdmondofdlkopaaGreatDoor.X Go.Proofs.YtdmondofdlkopaaGreatDoor.V Go.Vb
set_option linter.unusedVariables false
set_option linter.unusedSimpArgs false
/-! ### The reference's: common, Fit, Check, and ranges' and bits' small parts -/
theorem u64n {n : Nat} (h : n < 1000) : IntKind.u64.wrap (n : Int) = n := by rw [IntKind.wrap_u64]; omega
theorem i64d {n : Nat} (h : n < 1000) : IntKind.i64.wrap (((n + 1 : Nat) : Int) - 1) = n := by rw [IntKind.wrap_i64]; omega
theorem shl1 (n : Nat) : X.shl .u32 1 (n : Int) = ((BitVec.twoPow 32 n).toNat : Int) := by
  have z := shlB 1 n
  rw [show (((1 : B).toNat : Nat) : Int) = 1 from rfl] at z
  rw [z]
  rfl
theorem P_next {n : Nat} (h : n < 32) : P (n + 1) ||| BitVec.twoPow 32 n = P n := by
  refine bitx fun i => ?_
  rw [BitVec.getLsbD_or, P_bit, P_bit, BitVec.getLsbD_twoPow]
  rcases Nat.lt_trichotomy i n with c | c | c
  · have a : ¬ n + 1 ≤ i := by omega
    have b : ¬ n ≤ i := by omega
    have d : ¬ n = i := by omega
    simp [a, b, d]
  · subst c
    simp [h]
  · have a : n + 1 ≤ i := by omega
    have b : n ≤ i := by omega
    have d : ¬ n = i := by omega
    simp [a, b, d]
theorem bit_same {a b : B} {n : Nat} : (a &&& BitVec.twoPow 32 n = b &&& BitVec.twoPow 32 n) ↔ (n < 32 → a.getLsbD n = b.getLsbD n) := by
  constructor
  · intro h l
    have e := congrArg (fun z : B => z.getLsbD n) h
    simpa [BitVec.getLsbD_and, BitVec.getLsbD_twoPow, l] using e
  · intro h
    refine bitx fun i => ?_
    rw [BitVec.getLsbD_and, BitVec.getLsbD_and, BitVec.getLsbD_twoPow]
    by_cases c : n = i
    · subst c
      by_cases l : n < 32
      · rw [h l]
      · simp [l]
    · simp [c]
theorem agree_len {a b : B} {n : Nat} (h : ∀ i, n ≤ i → a.getLsbD i = b.getLsbD i) : len (a ^^^ b) ≤ n := len_spec.2 (len_iff.2 (agree_iff.2 h))
theorem len_agree {a b : B} {n : Nat} (h : len (a ^^^ b) ≤ n) : ∀ i, n ≤ i → a.getLsbD i = b.getLsbD i := agree_iff.1 (len_iff.1 (len_spec.1 h))
theorem com_loop (k : Nat) (a b : B) : ∀ (f n : Nat), n ≤ 32 → n < f → (∀ i, n ≤ i → a.getLsbD i = b.getLsbD i) →
    lamplighterref21_common.l5 k a.toNat b.toNat f ((P n).toNat : Int) ((n : Int) - 1) = some ((P (len (a ^^^ b))).toNat : Int)
  | 0, n, h1, h2, _ => by omega
  | f + 1, 0, h1, h2, h3 => by
    rw [lamplighterref21_common.l5]
    unfold lamplighterref21_common.b_l5
    rw [le_f (by omega), br_f]
    have := agree_len h3
    rw [show len (a ^^^ b) = 0 by omega]
  | f + 1, n + 1, h1, h2, h3 => by
    rw [lamplighterref21_common.l5]
    unfold lamplighterref21_common.b_l5
    have e : ((n + 1 : Nat) : Int) - 1 = n := by omega
    rw [e, le_t (by omega), br_t, u64n (by omega), lt_f (by omega), br_f, shl1, w_and, w_and, eqI_b, w_or, P_next (by omega)]
    by_cases c : a.getLsbD n = b.getLsbD n
    · rw [decide_eq_true (bit_same.2 fun _ => c), Bool.not_true, br_f]
      rw [show IntKind.i64.wrap ((n : Int) - 1) = (n : Int) - 1 by rw [IntKind.wrap_i64]; omega]
      refine com_loop k a b f n (by omega) (by omega) fun i hi => ?_
      by_cases q : i = n
      · rw [q, c]
      · exact h3 i (by omega)
    · rw [decide_eq_false (fun h => c (bit_same.1 h (by omega))), Bool.not_false, br_t]
      have l1 := agree_len h3
      have l2 : ¬ len (a ^^^ b) ≤ n := fun h => c (len_agree h n (Nat.le_refl _))
      rw [show len (a ^^^ b) = n + 1 by omega]
theorem com_is {k : Nat} (hk : 40 ≤ k) (a b : B) : lamplighterref21_common.f k a.toNat b.toNat = some ((P (len (a ^^^ b))).toNat : Int) := by
  have z := com_loop k a b k 32 (Nat.le_refl _) (by omega) (fun i hi => by rw [BitVec.getLsbD_of_ge _ _ hi, BitVec.getLsbD_of_ge _ _ hi])
  exact z
theorem rmeet_is (K O m M : B) (h1 : O &&& ~~~K = 0) (h2 : M &&& ~~~m = 0) : lamplighterref20_Meet.f K.toNat O.toNat m.toNat M.toNat = some (if (O ^^^ M) &&& K &&& m = 0 then (((K ||| m).toNat : Int), ((O ||| M).toNat : Int), true) else (0, 0, false)) := by
  unfold lamplighterref20_Meet.f lamplighterref20_Check.f
  simp only [w_and, w_or, w_xor, w_andNot, h1, h2, eqI_0]
  by_cases c : (O ^^^ M) &&& K &&& m = 0
  · rw [decide_eq_true c, if_pos c]
    rfl
  · rw [decide_eq_false c, if_neg c]
    rfl
theorem rloop_is {k : Nat} (hk : 40 ≤ k) (a b c d : Int) : ∀ (n : Nat) (s : S), s.Ok → lamplighterref21_Fit.l11 k a b c d n s.lo.toNat s.hi.toNat s.K.toNat s.O.toNat = (fitO n s).map enc
  | 0, _, _ => rfl
  | n + 1, s, hs => by
    rw [lamplighterref21_Fit.l11, fitO]
    unfold lamplighterref21_Fit.b_l11
    simp only [w_not, w_or, bmax_int, bmin_int, com_is hk, Option.bind_some, w_and, rmeet_is _ _ _ _ (ok_and hs) (andm _ _)]
    rw [ltI_n]
    unfold Vb.step
    simp only
    by_cases c1 : (bmin s.hi (s.O ||| ~~~s.K)).toNat < (bmax s.lo s.O).toNat
    · rw [decide_eq_true c1, br_t, if_pos c1]
      rfl
    · rw [decide_eq_false c1, br_f, if_neg c1]
      by_cases c2 : (s.O ^^^ (bmax s.lo s.O &&& P (len (bmax s.lo s.O ^^^ bmin s.hi (s.O ||| ~~~s.K))))) &&& s.K &&& P (len (bmax s.lo s.O ^^^ bmin s.hi (s.O ||| ~~~s.K))) = 0
      · rw [if_pos c2, if_pos c2]
        simp only [Bool.not_true, br_f]
        have q := s_eq (s := s) (t := ⟨bmax s.lo s.O, bmin s.hi (s.O ||| ~~~s.K), s.K ||| P (len (bmax s.lo s.O ^^^ bmin s.hi (s.O ||| ~~~s.K))), s.O ||| (bmax s.lo s.O &&& P (len (bmax s.lo s.O ^^^ bmin s.hi (s.O ||| ~~~s.K))))⟩)
        simp only at q
        rw [q]
        split
        · rename_i e
          rw [decide_eq_true e, br_t]
          exact congrArg (fun s => some (enc (some s))) e
        · rename_i e
          rw [decide_eq_false e, br_f]
          refine rloop_is hk a b c d n ⟨_, _, _, _⟩ ?_
          refine (step_in hs (t := ⟨bmax s.lo s.O, bmin s.hi (s.O ||| ~~~s.K), s.K ||| P (len (bmax s.lo s.O ^^^ bmin s.hi (s.O ||| ~~~s.K))), s.O ||| (bmax s.lo s.O &&& P (len (bmax s.lo s.O ^^^ bmin s.hi (s.O ||| ~~~s.K))))⟩) ?_).2.1
          unfold Vb.step
          simp only
          rw [if_neg c1, if_pos c2]
      · rw [if_neg c2, if_neg c2]
        simp only [Bool.not_false, br_t]
        rfl
theorem rFit_is {k : Nat} (hk : 70 ≤ k) (s : S) : lamplighterref21_Fit.f k s.lo.toNat s.hi.toNat s.K.toNat s.O.toNat = some (enc (fitV s)) := by
  unfold lamplighterref21_Fit.f lamplighterref21_Fit.g lamplighterref19_Check.f lamplighterref20_Check.f fitV
  simp only [Option.bind_some, ltI_n, w_andNot, eqI_0]
  by_cases c1 : s.hi.toNat < s.lo.toNat
  · rw [decide_eq_true c1, br_t, if_pos c1]
    rfl
  · rw [decide_eq_false c1, br_f, if_neg c1]
    by_cases c2 : s.O &&& ~~~s.K = 0
    · rw [decide_eq_true c2, if_pos c2]
      show lamplighterref21_Fit.l11 _ _ _ _ _ _ _ _ _ _ = _
      rw [rloop_is (by omega) _ _ _ _ _ _ (ok_of c2), fitO_is (ok_of c2) hk]
      rfl
    · rw [decide_eq_false c2, if_neg c2]
      rfl
/-- What Check answers. -/
noncomputable def chkV (s : S) : Int := if fitV s = some s then 0 else 2
theorem Check_v (s : S) : value_Check.f 100 s.lo.toNat s.hi.toNat s.K.toNat s.O.toNat = some (chkV s) := by
  unfold value_Check.f chkV
  rw [Fit_is (by decide), Option.bind_some]
  cases h : fitV s with
  | none => rfl
  | some t =>
    simp only [enc, Bool.not_true, br_f]
    have q := s_eq (s := s) (t := t)
    simp only [s_eq]
    by_cases c : t = s
    · subst c
      simp [br_t, br_f]
    · simp [br_t, br_f, c]
theorem rCheck_v (s : S) : lamplighterref21_Check.f 100 s.lo.toNat s.hi.toNat s.K.toNat s.O.toNat = some (chkV s) := by
  unfold lamplighterref21_Check.f chkV
  rw [rFit_is (by decide), Option.bind_some]
  cases h : fitV s with
  | none => rfl
  | some t =>
    simp only [enc, Bool.not_true, br_f]
    simp only [s_eq]
    by_cases c : t = s
    · subst c
      simp [br_t, br_f]
    · simp [br_t, br_f, c]
theorem chk_yes {s : S} (h : s.Fx) : chkV s = 0 := if_pos (fitV_fx.2 h)
theorem chk_no {s : S} (h : ¬ s.Fx) : chkV s = 2 := if_neg fun e => h (fitV_fx.1 e)
/-! ### The reference of layer 19 -/
theorem rchk (a b : Int) : lamplighterref19_Check.f a b = some (if a ≤ b then 0 else 2) := by
  unfold lamplighterref19_Check.f
  rw [ltI_d, br_ite]
  split <;> split <;> first | rfl | omega
theorem i64w {x : Int} (h0 : -9223372036854775808 ≤ x) (h1 : x < 9223372036854775808) : IntKind.i64.wrap x = x := by rw [IntKind.wrap_i64]; omega
theorem i64u {x : Int} (h : U x) : IntKind.i64.wrap x = x := by unfold U at h; exact i64w (by omega) (by omega)
theorem fits_is (lo hi : Int) : lamplighterref19_fits.f lo hi = some (if (0 ≤ lo ∧ hi < 4294967296) ∨ lo ≥ 4294967296 ∨ hi < 0 then (lo % 4294967296, hi % 4294967296) else (0, 4294967295)) := by
  unfold lamplighterref19_fits.f lamplighterref19_All.f
  simp only [Option.bind_some, leI_d, ltI_d, br_ite, IntKind.wrap_u32']
  by_cases h1 : 0 ≤ lo <;> by_cases h2 : hi < 4294967296 <;> by_cases h3 : 4294967296 ≤ lo <;> by_cases h4 : hi < 0 <;> simp [h1, h2, h3, h4] <;> omega
theorem fits_add {al ah bl bh : Int} (va : V al ah) (vb : V bl bh) : lamplighterref19_fits.f (al + bl) (ah + bh) = some (addS al ah bl bh) := by
  obtain ⟨a1, a2, a3⟩ := va
  obtain ⟨b1, b2, b3⟩ := vb
  rw [fits_is]
  unfold addS
  by_cases h : (al + bl) / 4294967296 = (ah + bh) / 4294967296
  · rw [if_pos h, if_pos (by omega)]
  · rw [if_neg h, if_neg (by omega)]
theorem fits_sub {al ah bl bh : Int} (va : V al ah) (vb : V bl bh) : lamplighterref19_fits.f (al - bh) (ah - bl) = some (subS al ah bl bh) := by
  obtain ⟨a1, a2, a3⟩ := va
  obtain ⟨b1, b2, b3⟩ := vb
  rw [fits_is]
  unfold subS
  by_cases h : al < bh ↔ ah < bl
  · have c : decide (al < bh) = decide (ah < bl) := by rw [decide_eq_decide]; exact h
    rw [if_pos c, if_pos (by omega)]
  · have c : ¬ decide (al < bh) = decide (ah < bl) := by rw [decide_eq_decide]; exact h
    rw [if_neg c, if_neg (by omega)]
theorem cap1_loop {x : Int} (hx : U x) {N : Nat} (hN : N ≤ 32) (hB : Bl x N) (K : Nat) : ∀ (d n k : Nat), n + d = N → d < k → lamplighterref19_cap1.l3 K x k (2 ^ n - 1) = some (2 ^ N - 1) := by
  intro d
  induction d with
  | zero =>
    intro n k hn hk
    obtain ⟨m, rfl⟩ : ∃ m, k = m + 1 := ⟨k - 1, by omega⟩
    obtain rfl : n = N := by omega
    have := hB.1
    rw [lamplighterref19_cap1.l3]
    unfold lamplighterref19_cap1.b_l3
    rw [lt_f (by omega), br_f]
  | succ d ih =>
    intro n k hn hk
    obtain ⟨m, rfl⟩ : ∃ m, k = m + 1 := ⟨k - 1, by omega⟩
    have h1 : (2 : Int) ^ n - 1 < x := by
      rcases hB.2 with z | z
      · omega
      · have := pow_le (by omega : n ≤ N - 1)
        omega
    have p := pow_32 (n := n + 1) (by omega)
    have e : (2 : Int) ^ (n + 1) = 2 * 2 ^ n := by rw [Int.pow_succ, Int.mul_comm]
    have q := pow_32 (n := n) (by omega)
    rw [lamplighterref19_cap1.l3]
    unfold lamplighterref19_cap1.b_l3
    rw [lt_t h1, br_t, IntKind.wrap_u32', IntKind.wrap_u32']
    have e2 : ((2 * ((2 : Int) ^ n - 1)) % 4294967296 + 1) % 4294967296 = 2 ^ (n + 1) - 1 := by
      rw [e] at p ⊢
      generalize (2 : Int) ^ n = z at *
      omega
    rw [e2]
    exact ih (n + 1) m (by omega) (by omega)
theorem cap1_is {k : Nat} (hk : 40 ≤ k) {x : Int} (hx : U x) : lamplighterref19_cap1.f k x = some (cap x) := by
  obtain ⟨n, e, l, s⟩ := bl_spec hx
  unfold lamplighterref19_cap1.f lamplighterref19_cap1.g cap
  rw [e, Int.toNat_natCast]
  exact cap1_loop hx l s k n 0 k (by omega) (by omega)
theorem moved_is {x y : Int} (hx : U x) (hy : 0 ≤ y) : lamplighterref19_moved.f x y = some (sr x y) := by
  unfold lamplighterref19_moved.f
  rw [leI_d, br_ite]
  by_cases h : 32 ≤ y
  · rw [if_pos h, sr_big hx (by omega)]
  · rw [if_neg h, lt_f (by omega), br_f]
    rw [shr_is (n := min y.toNat 32) rfl]
    rfl
theorem truth_bool (a b : Bool) : lamplighterref19_truth.f a b = some (yesS (a = true) (b = true)) := by
  unfold lamplighterref19_truth.f yesS lamplighterref19_One.f
  cases a <;> cases b <;> rfl
theorem truth_is (a b : Prop) [Decidable a] [Decidable b] : lamplighterref19_truth.f (decide a) (decide b) = some (yesS a b) := by
  rw [truth_bool]
  unfold yesS
  by_cases p : a <;> by_cases q : b <;> simp [p, q]
theorem rsigned_is {al ah : Int} (h1 : U al) (h2 : U ah) : lamplighterref19_signed.f al ah = some (sgl al ah, sgh al ah) := by
  unfold lamplighterref19_signed.f sgl sgh
  rw [ref_signed h1, ref_signed h2]
  simp only [Option.bind_some, ltI_d, leI_d, br_ite]
  by_cases p : ah < 2147483648
  · rw [if_pos p, if_pos (.inl p), if_pos (.inl p)]
  · rw [if_neg p]
    by_cases q : 2147483648 ≤ al
    · rw [if_pos q, if_pos (.inr q), if_pos (.inr q)]
    · rw [if_neg q, if_neg (by omega), if_neg (by omega)]
theorem compares_is {op al ah bl bh : Int} (h1 : 14 ≤ op) (h2 : op ≤ 19) (va : V al ah) (vb : V bl bh) : lamplighterref19_compares.f op al ah bl bh = some ((doS op al ah bl bh).1, (doS op al ah bl bh).2.1) := by
  have s1 := rsigned_is va.ul va.uh
  have s2 := rsigned_is vb.ul vb.uh
  have e : op = 14 ∨ op = 15 ∨ op = 16 ∨ op = 17 ∨ op = 18 ∨ op = 19 := by omega
  unfold lamplighterref19_compares.f
  rw [s1, s2]
  simp only [Option.bind_some, truth_bool, br_if, ltI_d, leI_d, eqI_d, decide_eq_true_eq]
  rcases e with rfl | rfl | rfl | rfl | rfl | rfl
  · show _ = some (yesS (al = ah ∧ al = bl ∧ ah = bh) (ah < bl ∨ bh < al))
    simp only [Int.reduceEq, if_true, if_false, Bool.false_eq_true, Bool.and_eq_true, beq_iff_eq]
    by_cases p : al = ah <;> by_cases q : ah < bl <;> simp [p, q] <;> unfold yesS <;> simp <;> omega
  · show _ = some (yesS (ah < bl ∨ bh < al) (al = ah ∧ al = bl ∧ ah = bh))
    simp only [Int.reduceEq, if_true, if_false, Bool.false_eq_true, Bool.and_eq_true, beq_iff_eq]
    by_cases p : al = ah <;> by_cases q : ah < bl <;> simp [p, q] <;> unfold yesS <;> simp <;> omega
  · show _ = some (yesS (ah < bl) (al ≥ bh))
    simp only [Int.reduceEq, if_true, if_false, ite_self]
  · show _ = some (yesS (ah ≤ bl) (al > bh))
    simp only [Int.reduceEq, if_true, if_false, ite_self]
  · show _ = some (yesS (sgh al ah < sgl bl bh) (sgl al ah ≥ sgh bl bh))
    simp only [Int.reduceEq, if_true, if_false, ite_self]
  · show _ = some (yesS (sgh al ah ≤ sgl bl bh) (sgl al ah > sgh bl bh))
    simp only [Int.reduceEq, if_true, if_false, ite_self]
theorem j1_add {al ah bl bh : Int} (va : V al ah) (vb : V bl bh) : lamplighterref19_Do.j1 100 al ah bh 1 bl = Yd (doS 1 al ah bl bh) := by
  have a1 := va.ul
  have a2 := va.uh
  have b1 := vb.ul
  have b2 := vb.uh
  unfold lamplighterref19_Do.j1 lamplighterref19_Do.b_j1
  rw [eq_t rfl, br_t, i64u a1, i64u a2, i64u b1, i64u b2]
  unfold U at *
  rw [i64w (by omega) (by omega), i64w (by omega) (by omega), fits_add va vb]
  rfl
theorem j1_sub {al ah bl bh : Int} (va : V al ah) (vb : V bl bh) : lamplighterref19_Do.j1 100 al ah bh 2 bl = Yd (doS 2 al ah bl bh) := by
  have a1 := va.ul
  have a2 := va.uh
  have b1 := vb.ul
  have b2 := vb.uh
  unfold lamplighterref19_Do.j1 lamplighterref19_Do.b_j1
  rw [eq_f (by decide), br_f, eq_t rfl, br_t, i64u a1, i64u a2, i64u b1, i64u b2]
  unfold U at *
  rw [i64w (by omega) (by omega), i64w (by omega) (by omega), fits_sub va vb]
  rfl
theorem j1_mul {al ah bl bh : Int} (va : V al ah) (vb : V bl bh) : lamplighterref19_Do.j1 100 al ah bh 3 bl = Yd (doS 3 al ah bl bh) := by
  have a1 := va.ul
  have a2 := va.uh
  have b1 := vb.ul
  have b2 := vb.uh
  unfold lamplighterref19_Do.j1 lamplighterref19_Do.b_j1
  rw [eq_f (by decide), br_f, eq_f (by decide), br_f, eq_t rfl, br_t, i64u a2, i64u b2, ltI_d, br_ite]
  show _ = Yd (sureS (mulS al ah bl bh))
  unfold mulS
  simp only [IntKind.wrap_u32']
  by_cases p : 0 < bh
  · have d := Int.ediv_le_self bh (by decide : (0 : Int) ≤ 4294967295)
    have u : U (4294967295 / bh) := div_le (a := 4294967295) (by unfold U; omega) p
    rw [if_pos p, eq_f (by omega), br_f, Int.tdiv_eq_ediv_of_nonneg (by decide), i64u u, ltI_d, br_ite]
    have c : 4294967295 / bh < ah ↔ ¬ ah * bh < 4294967296 := by
      rw [Int.ediv_lt_iff_lt_mul p]
      omega
    by_cases q : ah * bh < 4294967296
    · rw [if_neg (fun h => c.1 h q), if_pos q]; rfl
    · rw [if_pos (c.2 q), if_neg q]; rfl
  · unfold U at *
    rw [if_neg p]
    have z : bh = 0 := by omega
    subst z
    rw [if_pos (by omega)]
    rfl
theorem j1_div {al ah bl bh : Int} (va : V al ah) (h3 : U bl) (h4 : U bh) (p : bh ≠ 0) : lamplighterref19_Do.j1 100 al ah bh 4 (max 1 bl) = some (al / bh, ah / max 1 bl, true, 0) := by
  unfold lamplighterref19_Do.j1 lamplighterref19_Do.b_j1
  rw [eq_f (by decide), br_f, eq_f (by decide), br_f, eq_f (by decide), br_f, eq_t rfl, br_t]
  have h1 := va.ul
  have h2 := va.uh
  unfold U at h3 h4
  rw [eq_f p, br_f, eq_f (by omega : ¬ max 1 bl = 0), br_f]
  have e1 : Int.tdiv al bh = al / bh := Int.tdiv_eq_ediv_of_nonneg h1.1
  have e2 : Int.tdiv ah (max 1 bl) = ah / max 1 bl := Int.tdiv_eq_ediv_of_nonneg h2.1
  have u1 := div_le h1 (by omega : 0 < bh)
  have u2 := div_le h2 (by omega : 0 < max 1 bl)
  rw [e1, e2, w_u u1, w_u u2]
theorem j1_rem {al ah bl bh : Int} (h4 : U bh) (p : bh ≠ 0) : lamplighterref19_Do.j1 100 al ah bh 5 (max 1 bl) = (if ah < max 1 bl then some (al, ah, true, 0) else some (0, min ah (bh - 1), true, 0)) := by
  unfold lamplighterref19_Do.j1 lamplighterref19_Do.b_j1
  rw [eq_f (by decide), br_f, eq_f (by decide), br_f, eq_f (by decide), br_f, eq_f (by decide), br_f, eq_t rfl, br_t, ltI_d, br_ite]
  unfold U at h4
  rw [IntKind.wrap_u32', Int.emod_eq_of_lt (by omega : 0 ≤ bh - 1) (by omega), mnI]
theorem j1_8 {al ah bl bh : Int} : lamplighterref19_Do.j1 100 al ah bh 8 bl = Yd (doS 8 al ah bl bh) := by
  unfold lamplighterref19_Do.j1 lamplighterref19_Do.b_j1
  simp only [eqI_d, Int.reduceEq, decide_true, decide_false, br_t, br_f, mnI]
  rfl
theorem j1_9 {al ah bl bh : Int} (va : V al ah) (vb : V bl bh) : lamplighterref19_Do.j1 100 al ah bh 9 bl = Yd (doS 9 al ah bl bh) := by
  unfold lamplighterref19_Do.j1 lamplighterref19_Do.b_j1
  simp only [eqI_d, Int.reduceEq, decide_true, decide_false, br_t, br_f, mxI]
  rw [cap1_is (by decide) (umax va.uh vb.uh)]
  rfl
theorem j1_10 {al ah bl bh : Int} (va : V al ah) (vb : V bl bh) : lamplighterref19_Do.j1 100 al ah bh 10 bl = Yd (doS 10 al ah bl bh) := by
  unfold lamplighterref19_Do.j1 lamplighterref19_Do.b_j1
  simp only [eqI_d, Int.reduceEq, decide_true, decide_false, br_t, br_f, mxI]
  rw [cap1_is (by decide) (umax va.uh vb.uh)]
  rfl
theorem j1_11 {al ah bl bh : Int} (va : V al ah) (vb : V bl bh) : lamplighterref19_Do.j1 100 al ah bh 11 bl = Yd (doS 11 al ah bl bh) := by
  have h1 := va.ul
  have h2 := va.uh
  have h3 := vb.ul
  have ha := va.o
  unfold lamplighterref19_Do.j1 lamplighterref19_Do.b_j1
  simp only [eqI_d, Int.reduceEq, decide_true, decide_false, br_t, br_f, leI_d, br_ite, br_nite]
  show _ = Yd (sureS (shlS al ah bl bh))
  unfold shlS
  by_cases g : 32 ≤ bl
  · rw [if_pos g, if_pos g]; rfl
  · rw [if_neg g, if_neg g]
    by_cases e : bl = bh
    · rw [if_pos e, lt_f (by have := h3.1; omega), br_f, br_f, br_f, i64u h2]
      have p := pow_32 (n := bl.toNat) (by omega)
      have e64 : X.shl .i64 ah bl = ah * 2 ^ bl.toNat := by
        unfold X.shl
        have q : min bl.toNat IntKind.i64.bits = bl.toNat := Nat.min_eq_left (by show bl.toNat ≤ 64; omega)
        have p31 := pow_le (by omega : bl.toNat ≤ 31)
        have n31 : (2 : Int) ^ 31 = 2147483648 := by decide
        have h2' := h2
        unfold U at h2'
        rw [q]
        have z0 := Int.mul_nonneg h2'.1 (by omega : (0 : Int) ≤ 2 ^ bl.toNat)
        have z5 : ah * 2 ^ bl.toNat ≤ 4294967295 * 2 ^ bl.toNat := Int.mul_le_mul_of_nonneg_right h2'.2 (by omega)
        exact i64w (by omega) (by omega)
      rw [e64, ltI_d, br_ite]
      by_cases c : ah * 2 ^ bl.toNat < 4294967296
      · rw [if_neg (by omega), if_pos ⟨e, c⟩]
        have f : ∀ x, 0 ≤ x → x ≤ ah → X.shl .u32 x bl = x * 2 ^ bl.toNat := by
          intro x x0 x1
          unfold X.shl
          have q : min bl.toNat IntKind.u32.bits = bl.toNat := Nat.min_eq_left (by show bl.toNat ≤ 32; omega)
          rw [q, IntKind.wrap_u32']
          have y1 := Int.mul_le_mul_of_nonneg_right x1 (by omega : (0 : Int) ≤ 2 ^ bl.toNat)
          have y2 := Int.mul_nonneg x0 (by omega : (0 : Int) ≤ 2 ^ bl.toNat)
          rw [Int.emod_eq_of_lt y2 (by omega)]
        rw [f al h1.1 ha, f ah h2.1 (Int.le_refl _)]
        rfl
      · rw [if_pos (by omega), if_neg (by intro h; exact c h.2)]
        rfl
    · rw [if_neg e, if_neg (by intro h; exact e h.1)]
      rfl
theorem j1_12 {al ah bl bh : Int} (va : V al ah) (vb : V bl bh) : lamplighterref19_Do.j1 100 al ah bh 12 bl = Yd (doS 12 al ah bl bh) := by
  unfold lamplighterref19_Do.j1 lamplighterref19_Do.b_j1
  simp only [eqI_d, Int.reduceEq, decide_true, decide_false, br_t, br_f]
  rw [moved_is va.ul vb.uh.1, moved_is va.uh vb.ul.1]
  rfl
theorem j1_13 {al ah bl bh : Int} (va : V al ah) (vb : V bl bh) : lamplighterref19_Do.j1 100 al ah bh 13 bl = Yd (doS 13 al ah bl bh) := by
  unfold lamplighterref19_Do.j1 lamplighterref19_Do.b_j1
  simp only [eqI_d, Int.reduceEq, decide_true, decide_false, br_t, br_f, leI_d, br_ite]
  rw [moved_is va.ul vb.uh.1, moved_is va.uh vb.ul.1]
  show _ = Yd (sureS (sarS al ah bl bh))
  unfold sarS
  by_cases p : 2147483648 ≤ ah
  · rw [if_pos p, if_pos p]; rfl
  · rw [if_neg p, if_neg (by omega)]; rfl
theorem j1_cmp {op al ah bl bh : Int} (h1 : 14 ≤ op) (h2 : op ≤ 19) (va : V al ah) (vb : V bl bh) : lamplighterref19_Do.j1 100 al ah bh op bl = some ((doS op al ah bl bh).1, (doS op al ah bl bh).2.1, true, 0) := by
  unfold lamplighterref19_Do.j1 lamplighterref19_Do.b_j1 lamplighterref19_Do.j2
  rw [compares_is h1 h2 va vb]
  iterate 9 rw [eq_f (by omega), br_f]
  iterate 2 rw [eq_f (by omega), br_f]
  rfl
theorem rdo_j {op al ah bl bh : Int} (h1 : 1 ≤ op) (h2 : op ≤ 19) (h : ¬ (4 ≤ op ∧ op ≤ 7)) (va : V al ah) (vb : V bl bh) : lamplighterref19_Do.f 100 op al ah bl bh = lamplighterref19_Do.j1 100 al ah bh op bl := by
  unfold lamplighterref19_Do.f lamplighterref19_Do.b_j0
  rw [rchk, if_pos va.o, rchk, if_pos vb.o, lt_f (by omega), br_f, lt_f (by omega), br_f]
  simp only [Option.bind_some, eqI_d, decide_true, Bool.not_true, br_f, leI_d, br_ite]
  by_cases p : 4 ≤ op
  · rw [if_pos p, if_neg (fun q => h ⟨p, q⟩)]
  · rw [if_neg p]
theorem rdo_div {op al ah bl bh : Int} (h1 : 4 ≤ op) (h2 : op ≤ 7) (va : V al ah) (vb : V bl bh) : lamplighterref19_Do.f 100 op al ah bl bh = Yd (doS op al ah bl bh) := by
  unfold lamplighterref19_Do.f lamplighterref19_Do.b_j0
  rw [rchk, if_pos va.o, rchk, if_pos vb.o, lt_f (by omega), br_f, lt_f (by omega), br_f]
  simp only [Option.bind_some, eqI_d, decide_true, Bool.not_true, br_f, leI_d, br_ite, mxI]
  rw [if_pos h1, if_pos h2]
  have e : op = 4 ∨ op = 5 ∨ op = 6 ∨ op = 7 := by omega
  have D := fun p => j1_div va vb.ul vb.uh p
  have R := fun p => j1_rem (al := al) (ah := ah) (bl := bl) vb.uh p
  by_cases z : bh = 0
  · rw [if_pos z]
    rcases e with rfl | rfl | rfl | rfl
    · show _ = Yd (divS al ah bl bh)
      rw [divS, if_pos z]; rfl
    · show _ = Yd (remS al ah bl bh)
      rw [remS, if_pos z]; rfl
    · show _ = Yd (plainS divS al ah bl bh)
      rw [plainS, if_pos z]; rfl
    · show _ = Yd (plainS remS al ah bl bh)
      rw [plainS, if_pos z]; rfl
  · rw [if_neg z]
    have d4 : lamplighterref19_Do.j1 100 al ah bh 4 (max 1 bl) = Yd (divS al ah bl bh) := by rw [D z, divS, if_neg z]; rfl
    have d5 : lamplighterref19_Do.j1 100 al ah bh 5 (max 1 bl) = Yd (remS al ah bl bh) := by
      rw [R z, remS, if_neg z]
      split <;> rfl
    rcases e with rfl | rfl | rfl | rfl
    · rw [if_neg (by decide)]
      exact d4
    · rw [if_neg (by decide)]
      exact d5
    · rw [if_pos (by decide), show IntKind.i64.wrap (6 - 2) = 4 from i64w (by decide) (by decide), d4]
      show _ = Yd (plainS divS al ah bl bh)
      rw [plainS, if_neg z]
      repeat' split
      all_goals rfl
    · rw [if_pos (by decide), show IntKind.i64.wrap (7 - 2) = 5 from i64w (by decide) (by decide), d5]
      show _ = Yd (plainS remS al ah bl bh)
      rw [plainS, if_neg z]
      repeat' split
      all_goals rfl
theorem rdo_is {op al ah bl bh : Int} (h1 : 1 ≤ op) (h2 : op ≤ 19) (va : V al ah) (vb : V bl bh) : lamplighterref19_Do.f 100 op al ah bl bh = Yd (doS op al ah bl bh) := by
  by_cases q : 4 ≤ op ∧ op ≤ 7
  · exact rdo_div q.1 q.2 va vb
  · rw [rdo_j h1 h2 q va vb]
    by_cases c : 14 ≤ op
    · rw [j1_cmp c h2 va vb]
      have e : op = 14 ∨ op = 15 ∨ op = 16 ∨ op = 17 ∨ op = 18 ∨ op = 19 := by omega
      rcases e with rfl | rfl | rfl | rfl | rfl | rfl <;> rfl
    · have e : op = 1 ∨ op = 2 ∨ op = 3 ∨ op = 8 ∨ op = 9 ∨ op = 10 ∨ op = 11 ∨ op = 12 ∨ op = 13 := by omega
      rcases e with rfl | rfl | rfl | rfl | rfl | rfl | rfl | rfl | rfl
      · exact j1_add va vb
      · exact j1_sub va vb
      · exact j1_mul va vb
      · exact j1_8
      · exact j1_9 va vb
      · exact j1_10 va vb
      · exact j1_11 va vb
      · exact j1_12 va vb
      · exact j1_13 va vb
/-! ### The reference's widening of ranges -/
theorem r7_0 (k n : Nat) (a b d e x : Int) (t : Int × Int) : lamplighterref19_Widen.l10 k a b d e t (n + 1) 0 x = br (leI 0 t.1) (lamplighterref19_Widen.l10 k a b d e t n 1 0) (lamplighterref19_Widen.l10 k a b d e t n 1 x) := by kernel_rfl
theorem r7_1 (k n : Nat) (a b d e x : Int) (t : Int × Int) : lamplighterref19_Widen.l10 k a b d e t (n + 1) 1 x = br (leI 1 t.1) (lamplighterref19_Widen.l10 k a b d e t n 2 1) (lamplighterref19_Widen.l10 k a b d e t n 2 x) := by kernel_rfl
theorem r7_2 (k n : Nat) (a b d e x : Int) (t : Int × Int) : lamplighterref19_Widen.l10 k a b d e t (n + 1) 2 x = br (leI 255 t.1) (lamplighterref19_Widen.l10 k a b d e t n 3 255) (lamplighterref19_Widen.l10 k a b d e t n 3 x) := by kernel_rfl
theorem r7_3 (k n : Nat) (a b d e x : Int) (t : Int × Int) : lamplighterref19_Widen.l10 k a b d e t (n + 1) 3 x = br (leI 256 t.1) (lamplighterref19_Widen.l10 k a b d e t n 4 256) (lamplighterref19_Widen.l10 k a b d e t n 4 x) := by kernel_rfl
theorem r7_4 (k n : Nat) (a b d e x : Int) (t : Int × Int) : lamplighterref19_Widen.l10 k a b d e t (n + 1) 4 x = br (leI 65535 t.1) (lamplighterref19_Widen.l10 k a b d e t n 5 65535) (lamplighterref19_Widen.l10 k a b d e t n 5 x) := by kernel_rfl
theorem r7_5 (k n : Nat) (a b d e x : Int) (t : Int × Int) : lamplighterref19_Widen.l10 k a b d e t (n + 1) 5 x = br (leI 65536 t.1) (lamplighterref19_Widen.l10 k a b d e t n 6 65536) (lamplighterref19_Widen.l10 k a b d e t n 6 x) := by kernel_rfl
theorem r7_6 (k n : Nat) (a b d e x : Int) (t : Int × Int) : lamplighterref19_Widen.l10 k a b d e t (n + 1) 6 x = br (leI 2147483647 t.1) (lamplighterref19_Widen.l10 k a b d e t n 7 2147483647) (lamplighterref19_Widen.l10 k a b d e t n 7 x) := by kernel_rfl
theorem r7_7 (k n : Nat) (a b d e x : Int) (t : Int × Int) : lamplighterref19_Widen.l10 k a b d e t (n + 1) 7 x = br (leI 2147483648 t.1) (lamplighterref19_Widen.l10 k a b d e t n 8 2147483648) (lamplighterref19_Widen.l10 k a b d e t n 8 x) := by kernel_rfl
theorem r7_8 (k n : Nat) (a b d e x : Int) (t : Int × Int) : lamplighterref19_Widen.l10 k a b d e t (n + 1) 8 x = br (leI 4294967295 t.1) (lamplighterref19_Widen.l10 k a b d e t n 9 4294967295) (lamplighterref19_Widen.l10 k a b d e t n 9 x) := by kernel_rfl
theorem r7_9 (k n : Nat) (a b d e x : Int) (t : Int × Int) : lamplighterref19_Widen.l10 k a b d e t (n + 1) 9 x = br (ltI b t.2) (lamplighterref19_Widen.l15 k a b d e t 9 x k 8 b) (some (x, b)) := by kernel_rfl
theorem rl15_0 (k n : Nat) (a b d e : Int) (t : Int × Int) (p x : Int) (y : Int) : lamplighterref19_Widen.l15 k a b d e t p x (n + 1) 0 y = br (leI t.2 0) (lamplighterref19_Widen.l15 k a b d e t p x n (-1) 0) (lamplighterref19_Widen.l15 k a b d e t p x n (-1) y) := by kernel_rfl
theorem rl15_1 (k n : Nat) (a b d e : Int) (t : Int × Int) (p x : Int) (y : Int) : lamplighterref19_Widen.l15 k a b d e t p x (n + 1) 1 y = br (leI t.2 1) (lamplighterref19_Widen.l15 k a b d e t p x n (0) 1) (lamplighterref19_Widen.l15 k a b d e t p x n (0) y) := by kernel_rfl
theorem rl15_2 (k n : Nat) (a b d e : Int) (t : Int × Int) (p x : Int) (y : Int) : lamplighterref19_Widen.l15 k a b d e t p x (n + 1) 2 y = br (leI t.2 255) (lamplighterref19_Widen.l15 k a b d e t p x n (1) 255) (lamplighterref19_Widen.l15 k a b d e t p x n (1) y) := by kernel_rfl
theorem rl15_3 (k n : Nat) (a b d e : Int) (t : Int × Int) (p x : Int) (y : Int) : lamplighterref19_Widen.l15 k a b d e t p x (n + 1) 3 y = br (leI t.2 256) (lamplighterref19_Widen.l15 k a b d e t p x n (2) 256) (lamplighterref19_Widen.l15 k a b d e t p x n (2) y) := by kernel_rfl
theorem rl15_4 (k n : Nat) (a b d e : Int) (t : Int × Int) (p x : Int) (y : Int) : lamplighterref19_Widen.l15 k a b d e t p x (n + 1) 4 y = br (leI t.2 65535) (lamplighterref19_Widen.l15 k a b d e t p x n (3) 65535) (lamplighterref19_Widen.l15 k a b d e t p x n (3) y) := by kernel_rfl
theorem rl15_5 (k n : Nat) (a b d e : Int) (t : Int × Int) (p x : Int) (y : Int) : lamplighterref19_Widen.l15 k a b d e t p x (n + 1) 5 y = br (leI t.2 65536) (lamplighterref19_Widen.l15 k a b d e t p x n (4) 65536) (lamplighterref19_Widen.l15 k a b d e t p x n (4) y) := by kernel_rfl
theorem rl15_6 (k n : Nat) (a b d e : Int) (t : Int × Int) (p x : Int) (y : Int) : lamplighterref19_Widen.l15 k a b d e t p x (n + 1) 6 y = br (leI t.2 2147483647) (lamplighterref19_Widen.l15 k a b d e t p x n (5) 2147483647) (lamplighterref19_Widen.l15 k a b d e t p x n (5) y) := by kernel_rfl
theorem rl15_7 (k n : Nat) (a b d e : Int) (t : Int × Int) (p x : Int) (y : Int) : lamplighterref19_Widen.l15 k a b d e t p x (n + 1) 7 y = br (leI t.2 2147483648) (lamplighterref19_Widen.l15 k a b d e t p x n (6) 2147483648) (lamplighterref19_Widen.l15 k a b d e t p x n (6) y) := by kernel_rfl
theorem rl15_8 (k n : Nat) (a b d e : Int) (t : Int × Int) (p x : Int) (y : Int) : lamplighterref19_Widen.l15 k a b d e t p x (n + 1) 8 y = br (leI t.2 4294967295) (lamplighterref19_Widen.l15 k a b d e t p x n (7) 4294967295) (lamplighterref19_Widen.l15 k a b d e t p x n (7) y) := by kernel_rfl
theorem rl15_end (k n : Nat) (a b d e : Int) (t : Int × Int) (p x : Int) (y : Int) : lamplighterref19_Widen.l15 k a b d e t p x (n + 1) (-1) y = some (x, y) := by kernel_rfl
theorem rl20_0 (k n : Nat) (a b d e : Int) (t : Int × Int) (y : Int) : lamplighterref19_Widen.l20 k a b d e t (n + 1) 0 y = br (leI t.2 0) (lamplighterref19_Widen.l20 k a b d e t n (-1) 0) (lamplighterref19_Widen.l20 k a b d e t n (-1) y) := by kernel_rfl
theorem rl20_1 (k n : Nat) (a b d e : Int) (t : Int × Int) (y : Int) : lamplighterref19_Widen.l20 k a b d e t (n + 1) 1 y = br (leI t.2 1) (lamplighterref19_Widen.l20 k a b d e t n (0) 1) (lamplighterref19_Widen.l20 k a b d e t n (0) y) := by kernel_rfl
theorem rl20_2 (k n : Nat) (a b d e : Int) (t : Int × Int) (y : Int) : lamplighterref19_Widen.l20 k a b d e t (n + 1) 2 y = br (leI t.2 255) (lamplighterref19_Widen.l20 k a b d e t n (1) 255) (lamplighterref19_Widen.l20 k a b d e t n (1) y) := by kernel_rfl
theorem rl20_3 (k n : Nat) (a b d e : Int) (t : Int × Int) (y : Int) : lamplighterref19_Widen.l20 k a b d e t (n + 1) 3 y = br (leI t.2 256) (lamplighterref19_Widen.l20 k a b d e t n (2) 256) (lamplighterref19_Widen.l20 k a b d e t n (2) y) := by kernel_rfl
theorem rl20_4 (k n : Nat) (a b d e : Int) (t : Int × Int) (y : Int) : lamplighterref19_Widen.l20 k a b d e t (n + 1) 4 y = br (leI t.2 65535) (lamplighterref19_Widen.l20 k a b d e t n (3) 65535) (lamplighterref19_Widen.l20 k a b d e t n (3) y) := by kernel_rfl
theorem rl20_5 (k n : Nat) (a b d e : Int) (t : Int × Int) (y : Int) : lamplighterref19_Widen.l20 k a b d e t (n + 1) 5 y = br (leI t.2 65536) (lamplighterref19_Widen.l20 k a b d e t n (4) 65536) (lamplighterref19_Widen.l20 k a b d e t n (4) y) := by kernel_rfl
theorem rl20_6 (k n : Nat) (a b d e : Int) (t : Int × Int) (y : Int) : lamplighterref19_Widen.l20 k a b d e t (n + 1) 6 y = br (leI t.2 2147483647) (lamplighterref19_Widen.l20 k a b d e t n (5) 2147483647) (lamplighterref19_Widen.l20 k a b d e t n (5) y) := by kernel_rfl
theorem rl20_7 (k n : Nat) (a b d e : Int) (t : Int × Int) (y : Int) : lamplighterref19_Widen.l20 k a b d e t (n + 1) 7 y = br (leI t.2 2147483648) (lamplighterref19_Widen.l20 k a b d e t n (6) 2147483648) (lamplighterref19_Widen.l20 k a b d e t n (6) y) := by kernel_rfl
theorem rl20_8 (k n : Nat) (a b d e : Int) (t : Int × Int) (y : Int) : lamplighterref19_Widen.l20 k a b d e t (n + 1) 8 y = br (leI t.2 4294967295) (lamplighterref19_Widen.l20 k a b d e t n (7) 4294967295) (lamplighterref19_Widen.l20 k a b d e t n (7) y) := by kernel_rfl
theorem rl20_end (k n : Nat) (a b d e : Int) (t : Int × Int) (y : Int) : lamplighterref19_Widen.l20 k a b d e t (n + 1) (-1) y = some (a, y) := by kernel_rfl
theorem r7_all (k n : Nat) (a b d e x : Int) (t : Int × Int) (hd : U t.1) : lamplighterref19_Widen.l10 k a b d e t (n + 10) 0 x = br (ltI b t.2) (lamplighterref19_Widen.l15 k a b d e t 9 (dn t.1) k 8 b) (some (dn t.1, b)) := by
  rw [r7_0, push (f := lamplighterref19_Widen.l10 k a b d e t (n + 9) 1)]
  rw [r7_1, push (f := lamplighterref19_Widen.l10 k a b d e t (n + 8) 2)]
  rw [r7_2, push (f := lamplighterref19_Widen.l10 k a b d e t (n + 7) 3)]
  rw [r7_3, push (f := lamplighterref19_Widen.l10 k a b d e t (n + 6) 4)]
  rw [r7_4, push (f := lamplighterref19_Widen.l10 k a b d e t (n + 5) 5)]
  rw [r7_5, push (f := lamplighterref19_Widen.l10 k a b d e t (n + 4) 6)]
  rw [r7_6, push (f := lamplighterref19_Widen.l10 k a b d e t (n + 3) 7)]
  rw [r7_7, push (f := lamplighterref19_Widen.l10 k a b d e t (n + 2) 8)]
  rw [r7_8, push (f := lamplighterref19_Widen.l10 k a b d e t (n + 1) 9)]
  rw [r7_9]
  have e : (if leI 4294967295 t.1 = true then (4294967295 : Int) else if leI 2147483648 t.1 = true then 2147483648 else if leI 2147483647 t.1 = true then 2147483647 else if leI 65536 t.1 = true then 65536 else if leI 65535 t.1 = true then 65535 else if leI 256 t.1 = true then 256 else if leI 255 t.1 = true then 255 else if leI 1 t.1 = true then 1 else if leI 0 t.1 = true then 0 else x) = dn t.1 := by
    simp only [leI, decide_eq_true_eq]
    have := hd.1
    unfold dn
    repeat' split
    all_goals omega
  rw [e]
theorem rl15_all (k n : Nat) (a b d e : Int) (t : Int × Int) (p x : Int) (y : Int) (he : U t.2) : lamplighterref19_Widen.l15 k a b d e t p x (n + 10) 8 y = some (x, up t.2) := by
  rw [rl15_8, push (f := lamplighterref19_Widen.l15 k a b d e t p x (n + 9) (7))]
  rw [rl15_7, push (f := lamplighterref19_Widen.l15 k a b d e t p x (n + 8) (6))]
  rw [rl15_6, push (f := lamplighterref19_Widen.l15 k a b d e t p x (n + 7) (5))]
  rw [rl15_5, push (f := lamplighterref19_Widen.l15 k a b d e t p x (n + 6) (4))]
  rw [rl15_4, push (f := lamplighterref19_Widen.l15 k a b d e t p x (n + 5) (3))]
  rw [rl15_3, push (f := lamplighterref19_Widen.l15 k a b d e t p x (n + 4) (2))]
  rw [rl15_2, push (f := lamplighterref19_Widen.l15 k a b d e t p x (n + 3) (1))]
  rw [rl15_1, push (f := lamplighterref19_Widen.l15 k a b d e t p x (n + 2) (0))]
  rw [rl15_0, push (f := lamplighterref19_Widen.l15 k a b d e t p x (n + 1) (-1))]
  rw [rl15_end]
  have e : (if leI t.2 0 = true then (0 : Int) else if leI t.2 1 = true then 1 else if leI t.2 255 = true then 255 else if leI t.2 256 = true then 256 else if leI t.2 65535 = true then 65535 else if leI t.2 65536 = true then 65536 else if leI t.2 2147483647 = true then 2147483647 else if leI t.2 2147483648 = true then 2147483648 else if leI t.2 4294967295 = true then 4294967295 else y) = up t.2 := by
    simp only [leI, decide_eq_true_eq]
    have := he.2
    unfold up
    repeat' split
    all_goals omega
  rw [e]
theorem rl20_all (k n : Nat) (a b d e : Int) (t : Int × Int) (y : Int) (he : U t.2) : lamplighterref19_Widen.l20 k a b d e t (n + 10) 8 y = some (a, up t.2) := by
  rw [rl20_8, push (f := lamplighterref19_Widen.l20 k a b d e t (n + 9) (7))]
  rw [rl20_7, push (f := lamplighterref19_Widen.l20 k a b d e t (n + 8) (6))]
  rw [rl20_6, push (f := lamplighterref19_Widen.l20 k a b d e t (n + 7) (5))]
  rw [rl20_5, push (f := lamplighterref19_Widen.l20 k a b d e t (n + 6) (4))]
  rw [rl20_4, push (f := lamplighterref19_Widen.l20 k a b d e t (n + 5) (3))]
  rw [rl20_3, push (f := lamplighterref19_Widen.l20 k a b d e t (n + 4) (2))]
  rw [rl20_2, push (f := lamplighterref19_Widen.l20 k a b d e t (n + 3) (1))]
  rw [rl20_1, push (f := lamplighterref19_Widen.l20 k a b d e t (n + 2) (0))]
  rw [rl20_0, push (f := lamplighterref19_Widen.l20 k a b d e t (n + 1) (-1))]
  rw [rl20_end]
  have e : (if leI t.2 0 = true then (0 : Int) else if leI t.2 1 = true then 1 else if leI t.2 255 = true then 255 else if leI t.2 256 = true then 256 else if leI t.2 65535 = true then 65535 else if leI t.2 65536 = true then 65536 else if leI t.2 2147483647 = true then 2147483647 else if leI t.2 2147483648 = true then 2147483648 else if leI t.2 4294967295 = true then 4294967295 else y) = up t.2 := by
    simp only [leI, decide_eq_true_eq]
    have := he.2
    unfold up
    repeat' split
    all_goals omega
  rw [e]
theorem rjoin (a b d e : Int) : lamplighterref19_Join.f a b d e = interval_Join.f a b d e := by
  unfold lamplighterref19_Join.f lamplighterref19_Check.f interval_Join.f
  cases ltI b a <;> cases ltI e d <;> rfl
theorem rhas (a b x : Int) : lamplighterref19_Has.f a b x = interval_Has.f a b x := by
  unfold lamplighterref19_Has.f lamplighterref19_Check.f interval_Has.f
  cases ltI b a <;> rfl
theorem rwithin (a b d e : Int) : lamplighterref19_Within.f a b d e = interval_Within.f a b d e := by
  unfold lamplighterref19_Within.f lamplighterref19_Check.f interval_Within.f
  cases ltI b a <;> cases ltI e d <;> rfl
theorem kjoin (a b d e : Int) : lamplighterref20_Join.f a b d e = known_Join.f a b d e := by
  unfold lamplighterref20_Join.f lamplighterref20_Check.f known_Join.f
  cases eqI (bitw .andNot .u32 b a) 0 <;> cases eqI (bitw .andNot .u32 e d) 0 <;> rfl
theorem khas (a b x : Int) : lamplighterref20_Has.f a b x = known_Has.f a b x := by
  unfold lamplighterref20_Has.f lamplighterref20_Check.f known_Has.f
  cases eqI (bitw .andNot .u32 b a) 0 <;> rfl
theorem kwithin (a b d e : Int) : lamplighterref20_Within.f a b d e = known_Within.f a b d e := by
  unfold lamplighterref20_Within.f lamplighterref20_Check.f known_Within.f
  cases eqI (bitw .andNot .u32 b a) 0 <;> cases eqI (bitw .andNot .u32 e d) 0 <;> rfl
theorem rjoin_v {a b d e : Int} (va : V a b) (vb : V d e) : lamplighterref19_Join.f a b d e = some (if d < a then d else a, if e > b then e else b) := by
  rw [rjoin]
  unfold interval_Join.f
  rw [lt_f (by have := va.o; omega), lt_f (by have := vb.o; omega), br_f, br_f]
theorem rw_t {a b d e : Int} (t : Int × Int) (u1 : U t.1) (u2 : U t.2) : br (ltI t.1 a) (lamplighterref19_Widen.l10 100 a b d e t 100 0 a) (br (ltI b t.2) (lamplighterref19_Widen.l20 100 a b d e t 100 8 b) (some (a, b))) = some (if t.1 < a then dn t.1 else a, if t.2 > b then up t.2 else b) := by
  rw [ltI_d, br_ite, ltI_d, br_ite]
  by_cases p : t.1 < a
  · rw [if_pos p, if_pos p, r7_all 100 90 a b d e a t u1, ltI_d, br_ite]
    by_cases q : b < t.2
    · rw [if_pos q, if_pos q, rl15_all 100 90 a b d e t 9 _ _ u2]
    · rw [if_neg q, if_neg q]
  · rw [if_neg p, if_neg p]
    by_cases q : b < t.2
    · rw [if_pos q, if_pos q, rl20_all 100 90 a b d e t _ u2]
    · rw [if_neg q, if_neg q]
theorem rwidenI {a b d e : Int} (va : V a b) (vb : V d e) : lamplighterref19_Widen.f 100 a b d e = interval_Widen.f 100 a b d e := by
  rw [widenI va vb]
  unfold lamplighterref19_Widen.f lamplighterref19_Widen.g
  rw [rchk, if_pos va.o, rchk, if_pos vb.o, rjoin_v va vb]
  have u1 : U (if d < a then d else a) := by have := va.ul; have := vb.ul; unfold U at *; split <;> omega
  have u2 : U (if e > b then e else b) := by have := va.uh; have := vb.uh; unfold U at *; split <;> omega
  have z := rw_t (a := a) (b := b) (d := d) (e := e) (if d < a then d else a, if e > b then e else b) u1 u2
  refine Eq.trans z ?_
  simp only
  by_cases p : d < a <;> by_cases q : e > b <;> simp [p, q]
theorem runI {op al ah : Int} (h1 : 1 ≤ op) (h2 : op ≤ 3) (v : V al ah) : lamplighterref19_Un.f op al ah = interval_Un.f op al ah := by
  have o := v.o
  have l := v.l
  unfold lamplighterref19_Un.f
  rw [rchk, if_pos o, lt_f (by omega), br_f, lt_f (by omega), br_f]
  simp only [Option.bind_some, eq_t rfl, Bool.not_true, br_f]
  have e : op = 1 ∨ op = 2 ∨ op = 3 := by omega
  rcases e with rfl | rfl | rfl
  · rw [ui1, lt_f (show ¬ ah < al by omega), br_f, eq_t rfl, br_t]
    by_cases p : ah = 0
    · rw [eq_t p, br_t, br_t, p, show al = 0 by omega]
    · rw [eq_f p, br_f, br_f]
      by_cases q : al = 0
      · rw [eq_t q, br_t, lt_f (by omega), br_f]; rfl
      · rw [eq_f q, br_f, lt_t (by omega), br_t]
  · rw [ui2, lt_f (show ¬ ah < al by omega), br_f, eq_f (by decide), br_f, eq_t rfl, br_t]
  · rw [ui3, lt_f (show ¬ ah < al by omega), br_f, eq_f (by decide), br_f, eq_f (by decide), br_f, truth_bool, yesI]
theorem un_bad {op al ah : Int} (h : ¬ (1 ≤ op ∧ op ≤ 3)) : interval_Un.f op al ah = some (0, 0, 2) := by
  unfold interval_Un.f
  rw [eq_f (by omega), br_f, eq_f (by omega), br_f, eq_f (by omega), br_f]
  cases ltI ah al <;> rfl
theorem word_cut_w {w : Int} (hw : w = 8 ∨ w = 16 ∨ w = 32) (x : B) : word_Cut.f x.toNat w = some (((x &&& Lm w.toNat).toNat : Int), 0) := (cut_w hw x).1
theorem low_r {n : Nat} (h : n ≤ 1000) : lamplighterref20_low.f n = some ((Lm (min n 32)).toNat : Int) := by
  unfold lamplighterref20_low.f
  rw [leI_d, br_ite]
  by_cases c : 32 ≤ n
  · rw [if_pos (by omega), show min n 32 = 32 by omega]
    rfl
  · rw [if_neg (by omega), u64n (by omega), lt_f (by omega), br_f, show min n 32 = n by omega]
    have p : (2 : Nat) ^ n ≤ 2 ^ 31 := Nat.pow_le_pow_right (by decide) (by omega)
    have q : 0 < (2 : Nat) ^ n := Nat.two_pow_pos n
    have n31 : (2 : Nat) ^ 31 = 2147483648 := by decide
    rw [shl1, BitVec.toNat_twoPow, IntKind.wrap_u32']
    unfold Lm
    rw [BitVec.toNat_ofNat, Nat.mod_eq_of_lt (by omega : 2 ^ n < 2 ^ 32)]
    congr 1
    omega
theorem andN_Lm {x y : B} {n : Nat} : (x &&& ~~~(Lm n) = y &&& ~~~(Lm n)) ↔ ∀ i, n ≤ i → x.getLsbD i = y.getLsbD i := by
  constructor
  · intro h i hi
    have e := congrArg (fun z : B => z.getLsbD i) h
    by_cases l : i < 32
    · simp only [BitVec.getLsbD_and, BitVec.getLsbD_not, Lm_bit, l, decide_true, decide_eq_false (show ¬ i < n by omega), Bool.false_and, Bool.not_false, Bool.and_true, Bool.true_and] at e
      exact e
    · rw [BitVec.getLsbD_of_ge _ _ (by omega), BitVec.getLsbD_of_ge _ _ (by omega)]
  · intro h
    refine bitx fun i => ?_
    rw [BitVec.getLsbD_and, BitVec.getLsbD_and, BitVec.getLsbD_not, Lm_bit]
    by_cases c : n ≤ i
    · rw [h i c]
    · by_cases l : i < 32 <;> simp [l, (by omega : i < n)]
theorem rcutI {w : Int} (hw : w = 8 ∨ w = 16 ∨ w = 32) {lo hi : B} (h : lo.toNat ≤ hi.toNat) : ∃ p q : B, interval_Cut.f lo.toNat hi.toNat w = some ((p.toNat : Int), (q.toNat : Int), 0) ∧ lamplighterref19_Cut.f lo.toNat hi.toNat w = some ((p.toNat : Int), (q.toNat : Int), 0) := by
  have key : ∀ n : Nat, (n = 8 ∨ n = 16) → (interval_Cut.f lo.toNat hi.toNat n = if lo.toNat / 2 ^ n = hi.toNat / 2 ^ n then some (((lo &&& Lm n).toNat : Int), ((hi &&& Lm n).toNat : Int), 0) else some (0, ((Lm n).toNat : Int), 0)) ∧ (lamplighterref19_Cut.f lo.toNat hi.toNat n = if lo.toNat / 2 ^ n = hi.toNat / 2 ^ n then some (((lo &&& Lm n).toNat : Int), ((hi &&& Lm n).toNat : Int), 0) else some (0, ((Lm n).toNat : Int), 0)) := by
    intro n hn
    have one : IntKind.u32.wrap (X.shl .u32 1 (n : Int) - 1) = ((Lm n).toNat : Int) := by rcases hn with rfl | rfl <;> decide
    have n32 : n ≤ 32 := by omega
    have u : ∀ x : B, X.shr .u64 (IntKind.u64.wrap (x.toNat : Int)) (n : Int) = ((x.toNat / 2 ^ n : Nat) : Int) := by
      intro x
      rw [u64_u (u_b x), shr_is (n := n) (by show min n 64 = n; omega)]
      simp
    constructor
    · unfold interval_Cut.f
      rw [word_cut_w (by omega) lo, word_cut_w (by omega) hi]
      simp only [Option.bind_some, eq_t rfl, Bool.not_true, br_f]
      rw [lt_f (by omega), br_f, lt_f (by omega), br_f, br_f, br_f, u, u, one, eqI_d, br_ite, Int.toNat_natCast]
      by_cases c : lo.toNat / 2 ^ n = hi.toNat / 2 ^ n
      · rw [if_pos c, if_pos (by omega)]
      · rw [if_neg c, if_neg (by omega)]
    · unfold lamplighterref19_Cut.f
      rw [rchk, if_pos (by omega), u64n (by omega), one]
      simp only [Option.bind_some, eq_t rfl, Bool.not_true, br_f, w_andNot, w_and, eqI_b]
      rw [lt_f (by omega), br_f, eq_f (by omega : (n : Int) ≠ 32), br_f]
      have g : (lo &&& ~~~(Lm n) = hi &&& ~~~(Lm n)) ↔ lo.toNat / 2 ^ n = hi.toNat / 2 ^ n := andN_Lm.trans agree_iff.symm
      rw [br_ite]
      have fin : (if lo &&& ~~~(Lm n) = hi &&& ~~~(Lm n) then some (((lo &&& Lm n).toNat : Int), ((hi &&& Lm n).toNat : Int), (0 : Int)) else some (0, ((Lm n).toNat : Int), 0)) = if lo.toNat / 2 ^ n = hi.toNat / 2 ^ n then some (((lo &&& Lm n).toNat : Int), ((hi &&& Lm n).toNat : Int), (0 : Int)) else some (0, ((Lm n).toNat : Int), 0) := by
        by_cases c : lo.toNat / 2 ^ n = hi.toNat / 2 ^ n
        · rw [if_pos c, if_pos (g.2 c)]
        · rw [if_neg c, if_neg (fun z => c (g.1 z))]
      rw [fin]
      rcases hn with rfl | rfl <;> rfl
  have both : ∀ n : Nat, (n = 8 ∨ n = 16) → ∃ p q : B, interval_Cut.f lo.toNat hi.toNat n = some ((p.toNat : Int), (q.toNat : Int), 0) ∧ lamplighterref19_Cut.f lo.toNat hi.toNat n = some ((p.toNat : Int), (q.toNat : Int), 0) := by
    intro n hn
    obtain ⟨e1, e2⟩ := key n hn
    by_cases c : lo.toNat / 2 ^ n = hi.toNat / 2 ^ n
    · rw [if_pos c] at e1 e2
      exact ⟨_, _, e1, e2⟩
    · rw [if_neg c] at e1 e2
      exact ⟨0, _, e1, e2⟩
  rcases hw with rfl | rfl | rfl
  · exact both 8 (.inl rfl)
  · exact both 16 (.inr rfl)
  · refine ⟨lo, hi, ?_, ?_⟩
    · unfold interval_Cut.f
      have z : ∀ x : B, X.shr .u64 (IntKind.u64.wrap (x.toNat : Int)) 32 = 0 := by
        intro x
        rw [u64_u (u_b x), shr_is (n := 32) rfl]
        have := x.isLt
        omega
      rw [word_cut_w (by omega) lo, word_cut_w (by omega) hi, z, z]
      simp only [Option.bind_some, eq_t rfl, Bool.not_true, br_f]
      rw [lt_f (by omega), br_f, lt_f (by decide), br_f, br_f, br_t]
      have a : ∀ x : B, x &&& Lm (Int.toNat 32) = x := fun x => and_all x
      rw [a, a]
    · unfold lamplighterref19_Cut.f
      rw [rchk, if_pos (by omega)]
      rfl
theorem cut_bad {w : Int} (hw : ¬ (w = 8 ∨ w = 16 ∨ w = 32)) (a b : Int) : interval_Cut.f a b w = some (0, 0, 2) ∧ known_Cut.f a b w = some (0, 0, 2) := by
  unfold interval_Cut.f known_Cut.f
  rw [(cut_no hw a).1, (cut_no hw b).1]
  exact ⟨rfl, rfl⟩
theorem kcut {w : Int} (hw : w = 8 ∨ w = 16 ∨ w = 32) {K O : B} (h : Kok K O) : known_Cut.f K.toNat O.toNat w = some (((K ||| ~~~(Lm w.toNat)).toNat : Int), ((O &&& Lm w.toNat).toNat : Int), 0) ∧ lamplighterref20_Cut.f K.toNat O.toNat w = some (((K ||| ~~~(Lm w.toNat)).toNat : Int), ((O &&& Lm w.toNat).toNat : Int), 0) := by
  constructor
  · unfold known_Cut.f
    rw [word_cut_w hw O, all_n, word_cut_w hw (BitVec.allOnes 32), w_andNot, kok_iff.2 h]
    simp only [Option.bind_some, eq_t rfl, Bool.not_true, br_f]
    rw [show BitVec.allOnes 32 &&& Lm w.toNat = Lm w.toNat by rw [BitVec.and_comm, and_all], w_not, w_or]
    rfl
  · unfold lamplighterref20_Cut.f lamplighterref20_Check.f
    have e : w = ((w.toNat : Nat) : Int) := by omega
    have l := low_r (n := w.toNat) (by omega)
    rw [← e, show min w.toNat 32 = w.toNat by omega] at l
    rw [w_andNot, kok_iff.2 h, l]
    simp only [Option.bind_some, eq_t rfl, Bool.not_true, br_f, w_not, w_or, w_and]
    have z : ((0 : B).toNat : Int) = 0 := rfl
    rcases hw with rfl | rfl | rfl <;> rfl
/-! ### The reference of layer 20 -/
theorem one_bit (i : Nat) : (1 : B).getLsbD i = decide (i = 0) := by
  change (1#32).getLsbD i = _
  rw [BitVec.getLsbD_one]
  simp
theorem bit1 (x : B) (n : Nat) (h : n < 32) : bitw .and .u32 (X.shr .u32 (x.toNat : Int) (n : Int)) 1 = (((if x.getLsbD n = true then 1 else 0 : B).toNat : Nat) : Int) := by
  rw [shrB, show (1 : Int) = ((1 : B).toNat : Int) from rfl, w_and]
  congr 2
  refine bitx fun i => ?_
  rw [BitVec.getLsbD_and, BitVec.getLsbD_ushiftRight, one_bit]
  by_cases c : i = 0
  · subst c
    rw [Nat.add_zero, decide_eq_true rfl, Bool.and_true]
    cases x.getLsbD n
    · rfl
    · rfl
  · rw [decide_eq_false c, Bool.and_false]
    cases x.getLsbD n
    · exact BitVec.getLsbD_zero.symm
    · rw [if_pos rfl, one_bit, decide_eq_false c]
theorem nz_loop (k : Nat) (K O : B) : ∀ (f n : Nat), n ≤ 32 → 33 - n ≤ f → (∀ i, i < n → (K &&& ~~~O).getLsbD i = true) → lamplighterref20_noughts.l3 k K.toNat O.toNat f (n : Int) = some ((rn (K &&& ~~~O) : Nat) : Int)
  | 0, n, h1, h2, _ => by omega
  | f + 1, n, h1, h2, h3 => by
    rw [lamplighterref20_noughts.l3]
    unfold lamplighterref20_noughts.b_l3
    rw [ltI_d, br_ite]
    by_cases c : n = 32
    · have e : rn (K &&& ~~~O) = 32 := rn_eq (fun i hi => h3 i (by omega)) (BitVec.getLsbD_of_ge _ _ (by omega))
      rw [if_neg (by omega), e, c]
    · rw [if_pos (by omega), u64n (by omega), lt_f (by omega), br_f, bit1 K n (by omega), bit1 O n (by omega)]
      have nb : (K &&& ~~~O).getLsbD n = (K.getLsbD n && !O.getLsbD n) := by
        rw [BitVec.getLsbD_and, BitVec.getLsbD_not, decide_eq_true (by omega : n < 32), Bool.true_and]
      cases e1 : K.getLsbD n
      · rw [e1] at nb
        rw [rn_eq h3 (by rw [nb]; rfl)]
        rfl
      · cases e2 : O.getLsbD n
        · rw [e1, e2] at nb
          rw [show IntKind.i64.wrap ((n : Int) + 1) = ((n + 1 : Nat) : Int) by rw [IntKind.wrap_i64]; omega]
          exact nz_loop k K O f (n + 1) (by omega) (by omega) fun i hi => by
            by_cases q : i = n
            · rw [q, nb]; rfl
            · exact h3 i (by omega)
        · rw [e1, e2] at nb
          rw [rn_eq h3 (by rw [nb]; rfl)]
          rfl
theorem nz_is {k : Nat} (hk : 40 ≤ k) (K O : B) : lamplighterref20_noughts.f k K.toNat O.toNat = some ((rn (K &&& ~~~O) : Nat) : Int) := nz_loop k K O k 0 (by decide) (by omega) (fun i hi => by omega)
/-- A carry as a word. -/
def cb (c : Bool) : B := if c = true then 1 else 0
theorem and_bit (x : B) (n : Nat) (h : n < 32) : (x &&& BitVec.twoPow 32 n = 0) = (x.getLsbD n = false) := propext and_pow
theorem Lm_next {n : Nat} (h : n < 32) : Lm n ||| BitVec.twoPow 32 n = Lm (n + 1) := by
  refine bitx fun i => ?_
  rw [BitVec.getLsbD_or, Lm_bit, Lm_bit, BitVec.getLsbD_twoPow]
  rcases Nat.lt_trichotomy i n with c | c | c
  · have a : i < n + 1 := by omega
    have b : i < 32 := by omega
    have d : ¬ n = i := by omega
    simp [c, a, b, d]
  · subst c; simp [h]
  · rw [decide_eq_false (show ¬ i < n by omega), decide_eq_false (show ¬ i < n + 1 by omega), decide_eq_false (show ¬ n = i by omega)]
    simp
theorem put_bit {S : B} {n : Nat} (h : n < 32) : (S &&& Lm n) ||| (cb (S.getLsbD n) <<< n) = S &&& Lm (n + 1) := by
  refine bitx fun i => ?_
  rw [BitVec.getLsbD_or, BitVec.getLsbD_and, BitVec.getLsbD_and, Lm_bit, Lm_bit, BitVec.getLsbD_shiftLeft]
  unfold cb
  rcases Nat.lt_trichotomy i n with c | c | c
  · simp [c, (by omega : i < n + 1), (by omega : i < 32)]
  · subst c
    cases e : S.getLsbD i <;> simp [h]
  · have c1 : ¬ i < n := by omega
    have c2 : ¬ i < n + 1 := by omega
    have c3 : ¬ i - n = 0 := by omega
    cases e : S.getLsbD n <;> simp [c1, c2, c3, BitVec.getLsbD_one]
theorem sum_loop (k : Nat) (K O Q M S : B) (less : Bool) (cy : Nat → Bool)
    (hS : ∀ n, n < 32 → S.getLsbD n = (O.getLsbD n ^^ M.getLsbD n ^^ cy n))
    (hc : ∀ n, n < 32 → cy (n + 1) = if less = true then (!O.getLsbD n && M.getLsbD n || !O.getLsbD n && cy n || M.getLsbD n && cy n) else (O.getLsbD n && M.getLsbD n || O.getLsbD n && cy n || M.getLsbD n && cy n)) :
    ∀ (f n : Nat), n ≤ 32 → 33 - n ≤ f → (∀ i, i < n → (K &&& Q).getLsbD i = true) →
    lamplighterref20_sum.l9 k K.toNat O.toNat Q.toNat M.toNat less f ((cb (cy n)).toNat : Int) (n : Int) ((Lm n).toNat : Int) ((S &&& Lm n).toNat : Int) = some (((Lm (rn (K &&& Q))).toNat : Int), ((S &&& Lm (rn (K &&& Q))).toNat : Int))
  | 0, n, h1, h2, _ => by omega
  | f + 1, n, h1, h2, h3 => by
    rw [lamplighterref20_sum.l9]
    unfold lamplighterref20_sum.b_l9
    rw [ltI_d, br_ite]
    by_cases c : n = 32
    · have e : rn (K &&& Q) = 32 := rn_eq (fun i hi => h3 i (by omega)) (BitVec.getLsbD_of_ge _ _ (by omega))
      rw [if_neg (by omega), e, c]
    · have n32 : n < 32 := by omega
      rw [if_pos (by omega), lt_f (by omega : ¬ (n : Int) < 0), br_f, shl1, w_and, w_and, eqI_0, eqI_0]
      simp only [br_f, and_bit _ _ n32]
      have nb : (K &&& Q).getLsbD n = (K.getLsbD n && Q.getLsbD n) := BitVec.getLsbD_and
      cases e1 : K.getLsbD n
      · rw [e1] at nb
        rw [rn_eq h3 (by rw [nb]; rfl)]
        rfl
      · cases e2 : Q.getLsbD n
        · rw [e1, e2] at nb
          rw [rn_eq h3 (by rw [nb]; rfl)]
          rfl
        · rw [e1, e2] at nb
          rw [decide_eq_false (by decide), br_f, br_f, bit1 O n n32, bit1 M n n32]
          have ih := sum_loop k K O Q M S less cy hS hc f (n + 1) (by omega) (by omega) fun i hi => by
            by_cases q : i = n
            · rw [q, nb]; rfl
            · exact h3 i (by omega)
          have s1 : IntKind.u64.wrap ((n : Int) + 1) = ((n + 1 : Nat) : Int) := by rw [IntKind.wrap_u64]; omega
          have one : (1 : Int) = ((1 : B).toNat : Int) := rfl
          have sub : ∀ x : B, IntKind.u32.wrap (1 - (x.toNat : Int)) = ((1 - x : B).toNat : Int) := fun x => wsub 1 x
          rw [s1]
          simp only [sub, w_and, w_or, w_xor, Lm_next n32]
          have out : X.shl .u32 (((if O.getLsbD n = true then 1 else 0 : B) ^^^ (if M.getLsbD n = true then 1 else 0 : B) ^^^ cb (cy n)).toNat : Int) (n : Int) = ((cb (S.getLsbD n) <<< n).toNat : Int) := by
            rw [shlB, hS n n32]
            congr 3
            unfold cb
            cases O.getLsbD n <;> cases M.getLsbD n <;> cases cy n <;> rfl
          rw [out, w_or, put_bit n32]
          cases less
          · have e : ((if O.getLsbD n = true then 1 else 0 : B) &&& (if M.getLsbD n = true then 1 else 0 : B)) ||| ((if O.getLsbD n = true then 1 else 0 : B) &&& cb (cy n)) ||| ((if M.getLsbD n = true then 1 else 0 : B) &&& cb (cy n)) = cb (cy (n + 1)) := by
              rw [hc n n32]
              unfold cb
              cases O.getLsbD n <;> cases M.getLsbD n <;> cases cy n <;> rfl
            rw [br_f, e]
            exact ih
          · have e : ((1 - (if O.getLsbD n = true then 1 else 0 : B)) &&& (if M.getLsbD n = true then 1 else 0 : B)) ||| ((1 - (if O.getLsbD n = true then 1 else 0 : B)) &&& cb (cy n)) ||| ((if M.getLsbD n = true then 1 else 0 : B) &&& cb (cy n)) = cb (cy (n + 1)) := by
              rw [hc n n32]
              unfold cb
              cases O.getLsbD n <;> cases M.getLsbD n <;> cases cy n <;> rfl
            rw [br_t, e]
            exact ih
theorem sb_is (O M : B) : O - M = O + ~~~M + BitVec.setWidth 32 (BitVec.ofBool true) := by
  have o : (1#32) = BitVec.setWidth 32 (BitVec.ofBool true) := by decide
  rw [BitVec.sub_eq_add_neg, BitVec.neg_eq_not_add, ← BitVec.add_assoc, o]
theorem cyS (O M : B) : ∀ n, n < 32 → (O - M).getLsbD n = (O.getLsbD n ^^ M.getLsbD n ^^ (!BitVec.carry n O (~~~M) true)) := fun n h => by
    rw [sb_is, BitVec.getLsbD_add_add_bool h, BitVec.getLsbD_not, decide_eq_true h]
    cases O.getLsbD n <;> cases M.getLsbD n <;> cases BitVec.carry n O (~~~M) true <;> rfl
theorem cyC (O M : B) : ∀ n, n < 32 → (!BitVec.carry (n + 1) O (~~~M) true) = (!O.getLsbD n && M.getLsbD n || !O.getLsbD n && (!BitVec.carry n O (~~~M) true) || M.getLsbD n && (!BitVec.carry n O (~~~M) true)) := fun n h => by
    rw [BitVec.carry_succ, BitVec.getLsbD_not, decide_eq_true h]
    cases O.getLsbD n <;> cases M.getLsbD n <;> cases BitVec.carry n O (~~~M) true <;> rfl
theorem zB : ((0 : B).toNat : Int) = 0 := rfl
theorem zN : ((0 : Nat) : Int) = 0 := rfl
theorem sum_f (k : Nat) (K O Q M : Int) (b : Bool) : lamplighterref20_sum.f k K O Q M b = lamplighterref20_sum.l9 k K O Q M b k 0 0 0 0 := rfl
theorem sum_add {k : Nat} (hk : 40 ≤ k) (K O Q M : B) : lamplighterref20_sum.f k K.toNat O.toNat Q.toNat M.toNat false = some (((Lm (rn (K &&& Q))).toNat : Int), (((O + M) &&& Lm (rn (K &&& Q))).toNat : Int)) := by
  have z := sum_loop k K O Q M (O + M) false (fun n => BitVec.carry n O M false) (fun n h => by
    rw [BitVec.getLsbD_add h, Bool.xor_assoc]) (fun n h => by
    rw [BitVec.carry_succ]
    simp only [Bool.false_eq_true, if_false]
    try (cases O.getLsbD n <;> cases M.getLsbD n <;> cases BitVec.carry n O M false <;> rfl)) k 0 (by decide) (by omega) (fun i hi => by omega)
  have e0 : cb (BitVec.carry 0 O M false) = 0 := by rw [BitVec.carry_zero]; rfl
  have e1 : Lm 0 = 0 := rfl
  have e2 : (O + M) &&& Lm 0 = 0 := BitVec.and_zero
  rw [e0, e2, e1, zB, zN] at z
  rw [sum_f]
  exact z
theorem sum_sub {k : Nat} (hk : 40 ≤ k) (K O Q M : B) : lamplighterref20_sum.f k K.toNat O.toNat Q.toNat M.toNat true = some (((Lm (rn (K &&& Q))).toNat : Int), (((O - M) &&& Lm (rn (K &&& Q))).toNat : Int)) := by
  have z := sum_loop k K O Q M (O - M) true (fun n => !BitVec.carry n O (~~~M) true) (cyS O M) (fun n h => by
    rw [if_pos rfl]
    exact cyC O M n h) k 0 (by decide) (by omega) (fun i hi => by omega)
  have e0 : cb (!BitVec.carry 0 O (~~~M) true) = 0 := by rw [BitVec.carry_zero]; rfl
  have e2 : (O - M) &&& Lm 0 = 0 := BitVec.and_zero
  have e1 : Lm 0 = 0 := rfl
  rw [e0, e2, e1, zB, zN] at z
  rw [sum_f]
  exact z
/-! ### The reference's operators on known bits -/
theorem eqI_refl (a : Int) : eqI a a = true := eq_t rfl
/-- The reference answers as the program does. -/
def RK (op : Int) : Prop := ∀ (k : Nat), 40 ≤ k → ∀ K O Q M : B, Kok K O → Kok Q M → lamplighterref20_Do.f k op K.toNat O.toNat Q.toNat M.toNat = known_Do.f 100 op K.toNat O.toNat Q.toNat M.toNat
theorem kob {K O : B} (h : Kok K O) (i : Nat) : O.getLsbD i = true → K.getLsbD i = true := h i
theorem RK1 : RK 1 := fun k hk K O Q M h g => by
  unfold lamplighterref20_Do.f lamplighterref20_Do.b_j0 lamplighterref20_Do.j1 lamplighterref20_Do.b_j1 lamplighterref20_Do.j2 lamplighterref20_Do.b_j2 lamplighterref20_Do.j3 lamplighterref20_Do.b_j3 lamplighterref20_Do.j4 lamplighterref20_Check.f lamplighterref20_One.f lamplighterref20_All.f
  simp only [eq_t (show (1 : Int) = 1 from rfl), eq_f (show (1 : Int) ≠ 2 by decide), eq_f (show (1 : Int) ≠ 3 by decide), eq_f (show (1 : Int) ≠ 5 by decide), eq_f (show (1 : Int) ≠ 8 by decide), eq_f (show (1 : Int) ≠ 9 by decide), eq_f (show (1 : Int) ≠ 10 by decide), eq_f (show (1 : Int) ≠ 11 by decide), eq_f (show (1 : Int) ≠ 12 by decide), eq_f (show (1 : Int) ≠ 13 by decide), eq_f (show (1 : Int) ≠ 14 by decide), eq_f (show (1 : Int) ≠ 15 by decide), le_f (show ¬ (4 : Int) ≤ 1 by decide), le_t (show (1 : Int) ≤ 7 by decide), le_f (show ¬ (14 : Int) ≤ 1 by decide), lt_f (show ¬ (1 : Int) < 1 by decide), lt_f (show ¬ (19 : Int) < 1 by decide), br_t, br_f, w_andNot, kok_iff.2 h, kok_iff.2 g, zB, eqI_refl, Option.bind_some, Bool.not_true, Bool.not_false, eqI_all, eqI_0, br_same]
  rw [sum_add hk, kg_1, kg_pre h g, car_is, word_1, Option.bind_some, Option.bind_some, Option.bind_some, wadd, w_and]
theorem RK2 : RK 2 := fun k hk K O Q M h g => by
  unfold lamplighterref20_Do.f lamplighterref20_Do.b_j0 lamplighterref20_Do.j1 lamplighterref20_Do.b_j1 lamplighterref20_Do.j2 lamplighterref20_Do.b_j2 lamplighterref20_Do.j3 lamplighterref20_Do.b_j3 lamplighterref20_Do.j4 lamplighterref20_Check.f lamplighterref20_One.f lamplighterref20_All.f
  simp only [eq_f (show (2 : Int) ≠ 1 by decide), eq_t (show (2 : Int) = 2 from rfl), eq_f (show (2 : Int) ≠ 3 by decide), eq_f (show (2 : Int) ≠ 5 by decide), eq_f (show (2 : Int) ≠ 8 by decide), eq_f (show (2 : Int) ≠ 9 by decide), eq_f (show (2 : Int) ≠ 10 by decide), eq_f (show (2 : Int) ≠ 11 by decide), eq_f (show (2 : Int) ≠ 12 by decide), eq_f (show (2 : Int) ≠ 13 by decide), eq_f (show (2 : Int) ≠ 14 by decide), eq_f (show (2 : Int) ≠ 15 by decide), le_f (show ¬ (4 : Int) ≤ 2 by decide), le_t (show (2 : Int) ≤ 7 by decide), le_f (show ¬ (14 : Int) ≤ 2 by decide), lt_f (show ¬ (2 : Int) < 1 by decide), lt_f (show ¬ (19 : Int) < 2 by decide), br_t, br_f, w_andNot, kok_iff.2 h, kok_iff.2 g, zB, eqI_refl, Option.bind_some, Bool.not_true, Bool.not_false, eqI_all, eqI_0, br_same]
  rw [sum_sub hk, kg_2, kg_pre h g, car_is, word_2, Option.bind_some, Option.bind_some, Option.bind_some, wsub, w_and]
theorem and_k {K O Q M : B} (h : Kok K O) (g : Kok Q M) : ((K &&& ~~~O) ||| (Q &&& ~~~M)) ||| (O &&& M) = ((K &&& Q) ||| (K &&& ~~~O)) ||| (Q &&& ~~~M) := by
  refine BitVec.eq_of_getLsbD_eq fun i l => ?_
  simp only [BitVec.getLsbD_or, BitVec.getLsbD_and, BitVec.getLsbD_not]
  have a := kob h i
  have b := kob g i
  rw [decide_eq_true l]
  revert a b
  cases K.getLsbD i <;> cases O.getLsbD i <;> cases Q.getLsbD i <;> cases M.getLsbD i <;> simp
theorem or_k {K O Q M : B} (h : Kok K O) (g : Kok Q M) : ((K &&& ~~~O) &&& (Q &&& ~~~M)) ||| (O ||| M) = ((K &&& Q) ||| O) ||| M := by
  refine BitVec.eq_of_getLsbD_eq fun i l => ?_
  simp only [BitVec.getLsbD_or, BitVec.getLsbD_and, BitVec.getLsbD_not]
  have a := kob h i
  have b := kob g i
  rw [decide_eq_true l]
  revert a b
  cases K.getLsbD i <;> cases O.getLsbD i <;> cases Q.getLsbD i <;> cases M.getLsbD i <;> simp
theorem RK8 : RK 8 := fun k hk K O Q M h g => by
  unfold lamplighterref20_Do.f lamplighterref20_Do.b_j0 lamplighterref20_Do.j1 lamplighterref20_Do.b_j1 lamplighterref20_Do.j2 lamplighterref20_Do.b_j2 lamplighterref20_Do.j3 lamplighterref20_Do.b_j3 lamplighterref20_Do.j4 lamplighterref20_Check.f lamplighterref20_One.f lamplighterref20_All.f
  simp only [eq_f (show (8 : Int) ≠ 1 by decide), eq_f (show (8 : Int) ≠ 2 by decide), eq_f (show (8 : Int) ≠ 3 by decide), eq_f (show (8 : Int) ≠ 5 by decide), eq_t (show (8 : Int) = 8 from rfl), eq_f (show (8 : Int) ≠ 9 by decide), eq_f (show (8 : Int) ≠ 10 by decide), eq_f (show (8 : Int) ≠ 11 by decide), eq_f (show (8 : Int) ≠ 12 by decide), eq_f (show (8 : Int) ≠ 13 by decide), eq_f (show (8 : Int) ≠ 14 by decide), eq_f (show (8 : Int) ≠ 15 by decide), le_t (show (4 : Int) ≤ 8 by decide), le_f (show ¬ (8 : Int) ≤ 7 by decide), le_f (show ¬ (14 : Int) ≤ 8 by decide), lt_f (show ¬ (8 : Int) < 1 by decide), lt_f (show ¬ (19 : Int) < 8 by decide), br_t, br_f, w_andNot, kok_iff.2 h, kok_iff.2 g, zB, eqI_refl, Option.bind_some, Bool.not_true, Bool.not_false, eqI_all, eqI_0, br_same]
  rw [kg_8, kg_pre h g]
  simp only [w_and, w_or, w_andNot, and_k h g]
theorem RK9 : RK 9 := fun k hk K O Q M h g => by
  unfold lamplighterref20_Do.f lamplighterref20_Do.b_j0 lamplighterref20_Do.j1 lamplighterref20_Do.b_j1 lamplighterref20_Do.j2 lamplighterref20_Do.b_j2 lamplighterref20_Do.j3 lamplighterref20_Do.b_j3 lamplighterref20_Do.j4 lamplighterref20_Check.f lamplighterref20_One.f lamplighterref20_All.f
  simp only [eq_f (show (9 : Int) ≠ 1 by decide), eq_f (show (9 : Int) ≠ 2 by decide), eq_f (show (9 : Int) ≠ 3 by decide), eq_f (show (9 : Int) ≠ 5 by decide), eq_f (show (9 : Int) ≠ 8 by decide), eq_t (show (9 : Int) = 9 from rfl), eq_f (show (9 : Int) ≠ 10 by decide), eq_f (show (9 : Int) ≠ 11 by decide), eq_f (show (9 : Int) ≠ 12 by decide), eq_f (show (9 : Int) ≠ 13 by decide), eq_f (show (9 : Int) ≠ 14 by decide), eq_f (show (9 : Int) ≠ 15 by decide), le_t (show (4 : Int) ≤ 9 by decide), le_f (show ¬ (9 : Int) ≤ 7 by decide), le_f (show ¬ (14 : Int) ≤ 9 by decide), lt_f (show ¬ (9 : Int) < 1 by decide), lt_f (show ¬ (19 : Int) < 9 by decide), br_t, br_f, w_andNot, kok_iff.2 h, kok_iff.2 g, zB, eqI_refl, Option.bind_some, Bool.not_true, Bool.not_false, eqI_all, eqI_0, br_same]
  rw [kg_9, kg_pre h g]
  simp only [w_and, w_or, w_andNot, or_k h g]
theorem RK10 : RK 10 := fun k hk K O Q M h g => by
  unfold lamplighterref20_Do.f lamplighterref20_Do.b_j0 lamplighterref20_Do.j1 lamplighterref20_Do.b_j1 lamplighterref20_Do.j2 lamplighterref20_Do.b_j2 lamplighterref20_Do.j3 lamplighterref20_Do.b_j3 lamplighterref20_Do.j4 lamplighterref20_Check.f lamplighterref20_One.f lamplighterref20_All.f
  simp only [eq_f (show (10 : Int) ≠ 1 by decide), eq_f (show (10 : Int) ≠ 2 by decide), eq_f (show (10 : Int) ≠ 3 by decide), eq_f (show (10 : Int) ≠ 5 by decide), eq_f (show (10 : Int) ≠ 8 by decide), eq_f (show (10 : Int) ≠ 9 by decide), eq_t (show (10 : Int) = 10 from rfl), eq_f (show (10 : Int) ≠ 11 by decide), eq_f (show (10 : Int) ≠ 12 by decide), eq_f (show (10 : Int) ≠ 13 by decide), eq_f (show (10 : Int) ≠ 14 by decide), eq_f (show (10 : Int) ≠ 15 by decide), le_t (show (4 : Int) ≤ 10 by decide), le_f (show ¬ (10 : Int) ≤ 7 by decide), le_f (show ¬ (14 : Int) ≤ 10 by decide), lt_f (show ¬ (10 : Int) < 1 by decide), lt_f (show ¬ (19 : Int) < 10 by decide), br_t, br_f, w_andNot, kok_iff.2 h, kok_iff.2 g, zB, eqI_refl, Option.bind_some, Bool.not_true, Bool.not_false, eqI_all, eqI_0, br_same]
  rw [kg_10, kg_pre h g]
theorem ref01_word {op : Int} (h1 : 1 ≤ op) (h2 : op ≤ 19) (x y : B) : ∃ (v : B) (f : Int), lamplighterref01_Do.f op x.toNat y.toNat = some ((v.toNat : Int), f) ∧ word_Do.f op x.toNat y.toNat = some ((v.toNat : Int), f) := by
  obtain ⟨v, f, hr, hw, u, _⟩ := in_all h1 h2 x y
  obtain ⟨w, rfl⟩ := b_of' u
  exact ⟨w, f, hr, hw⟩
theorem br_both {R : Type} {p q r : Prop} [Decidable p] [Decidable q] [Decidable r] (h : r ↔ p ∧ q) (x y : Option R) : br (decide p) (br (decide q) x y) y = br (decide r) x y := by
  rw [br_ite, br_ite, br_ite]
  by_cases a : p <;> by_cases b : q <;> simp [a, b, h]
theorem br_push {R : Type} {b c : Bool} {x y : Option R} : br b (br c x y) (br false x y) = br b (br c x y) y := rfl
theorem RK3 : RK 3 := fun k hk K O Q M h g => by
  unfold lamplighterref20_Do.f lamplighterref20_Do.b_j0 lamplighterref20_Do.j1 lamplighterref20_Do.b_j1 lamplighterref20_Do.j2 lamplighterref20_Do.b_j2 lamplighterref20_Do.j3 lamplighterref20_Do.b_j3 lamplighterref20_Do.j4 lamplighterref20_Check.f lamplighterref20_One.f lamplighterref20_All.f
  simp only [eq_f (show (3 : Int) ≠ 1 by decide), eq_f (show (3 : Int) ≠ 2 by decide), eq_t (show (3 : Int) = 3 from rfl), eq_f (show (3 : Int) ≠ 5 by decide), eq_f (show (3 : Int) ≠ 8 by decide), eq_f (show (3 : Int) ≠ 9 by decide), eq_f (show (3 : Int) ≠ 10 by decide), eq_f (show (3 : Int) ≠ 11 by decide), eq_f (show (3 : Int) ≠ 12 by decide), eq_f (show (3 : Int) ≠ 13 by decide), eq_f (show (3 : Int) ≠ 14 by decide), eq_f (show (3 : Int) ≠ 15 by decide), le_f (show ¬ (4 : Int) ≤ 3 by decide), le_t (show (3 : Int) ≤ 7 by decide), le_f (show ¬ (14 : Int) ≤ 3 by decide), lt_f (show ¬ (3 : Int) < 1 by decide), lt_f (show ¬ (19 : Int) < 3 by decide), br_t, br_f, w_andNot, kok_iff.2 h, kok_iff.2 g, zB, eqI_refl, Option.bind_some, Bool.not_true, Bool.not_false, eqI_all, eqI_0, br_same]
  rw [br_both (r := K &&& Q = BitVec.allOnes 32) both_iff, kg_3, kg_pre h g, w_and, eqI_all]
  by_cases c : K &&& Q = BitVec.allOnes 32
  · obtain ⟨v, f, hr, hw⟩ := ref01_word (op := 3) (by decide) (by decide) O M
    rw [word_3] at hw
    rw [decide_eq_true c, br_t, br_t, hr]
    simp only [Option.some.injEq, Prod.mk.injEq] at hw
    rw [hw.1]
    rfl
  · have l1 := rn_le (K &&& ~~~O)
    have l2 := rn_le (Q &&& ~~~M)
    rw [decide_eq_false c, br_f, br_f, nz_is hk, nz_is hk, w_andNot, w_not, tz_is, Option.bind_some, w_andNot, w_not, tz_is, Option.bind_some, BitVec.not_not, BitVec.not_not, Option.bind_some, Option.bind_some]
    have e0 : IntKind.i64.wrap (((rn (K &&& ~~~O) : Nat) : Int) + ((rn (Q &&& ~~~M) : Nat) : Int)) = ((rn (K &&& ~~~O) + rn (Q &&& ~~~M) : Nat) : Int) := by rw [IntKind.wrap_i64]; omega
    have e : (if 32 < ((rn (K &&& ~~~O) + rn (Q &&& ~~~M) : Nat) : Int) then 32 else ((rn (K &&& ~~~O) + rn (Q &&& ~~~M) : Nat) : Int)) = ((min (rn (K &&& ~~~O) + rn (Q &&& ~~~M)) 32 : Nat) : Int) := by omega
    rw [e0, e, low_r (by omega)]
    unfold known_low.f
    rw [lt_f (by omega), br_f, low_is (by omega), ← zz, w_and, show (0 : B) &&& Lm (min (rn (K &&& ~~~O) + rn (Q &&& ~~~M)) 32) = 0 from BitVec.zero_and]
    rfl
theorem RK4 : RK 4 := fun k hk K O Q M h g => by
  unfold lamplighterref20_Do.f lamplighterref20_Do.b_j0 lamplighterref20_Do.j1 lamplighterref20_Do.b_j1 lamplighterref20_Do.j2 lamplighterref20_Do.b_j2 lamplighterref20_Do.j3 lamplighterref20_Do.b_j3 lamplighterref20_Do.j4 lamplighterref20_Check.f lamplighterref20_One.f lamplighterref20_All.f
  simp only [eq_f (show (4 : Int) ≠ 1 by decide), eq_f (show (4 : Int) ≠ 2 by decide), eq_f (show (4 : Int) ≠ 3 by decide), eq_f (show (4 : Int) ≠ 5 by decide), eq_f (show (4 : Int) ≠ 8 by decide), eq_f (show (4 : Int) ≠ 9 by decide), eq_f (show (4 : Int) ≠ 10 by decide), eq_f (show (4 : Int) ≠ 11 by decide), eq_f (show (4 : Int) ≠ 12 by decide), eq_f (show (4 : Int) ≠ 13 by decide), eq_f (show (4 : Int) ≠ 14 by decide), eq_f (show (4 : Int) ≠ 15 by decide), le_t (show (4 : Int) ≤ 4 by decide), le_t (show (4 : Int) ≤ 7 by decide), le_f (show ¬ (14 : Int) ≤ 4 by decide), lt_f (show ¬ (4 : Int) < 1 by decide), lt_f (show ¬ (19 : Int) < 4 by decide), br_t, br_f, w_andNot, kok_iff.2 h, kok_iff.2 g, zB, eqI_refl, Option.bind_some, Bool.not_true, Bool.not_false, eqI_all, eqI_0, br_same]
  rw [kg_4, kg_pre h g, kdiv_4, w_and]
  simp only [eqI_all, eqI_0]
  obtain ⟨v, f, hr, hw⟩ := ref01_word (op := 4) (by decide) (by decide) O M
  rw [hr, hw]
  by_cases c : Q = BitVec.allOnes 32
  · by_cases d : M = 0
    · simp only [decide_eq_true c, decide_eq_true d, Option.bind_some, br_t, br_f, br_same, eqI_refl]
    · by_cases e : K = BitVec.allOnes 32
      · have e3 : K &&& Q = BitVec.allOnes 32 := both_iff.2 ⟨e, c⟩
        simp only [decide_eq_true c, decide_eq_false d, decide_eq_true e, decide_eq_true e3, Option.bind_some, br_t, br_f, br_same, eqI_refl]
      · have e2 : ¬ K &&& Q = BitVec.allOnes 32 := fun z => e (both_iff.1 z).1
        simp only [decide_eq_true c, decide_eq_false d, decide_eq_false e, decide_eq_false e2, Option.bind_some, br_t, br_f, br_same, eqI_refl]
  · have e2 : ¬ K &&& Q = BitVec.allOnes 32 := fun z => c (both_iff.1 z).2
    simp only [decide_eq_false c, decide_eq_false e2, Option.bind_some, br_t, br_f, br_same, eqI_refl]
theorem RK6 : RK 6 := fun k hk K O Q M h g => by
  unfold lamplighterref20_Do.f lamplighterref20_Do.b_j0 lamplighterref20_Do.j1 lamplighterref20_Do.b_j1 lamplighterref20_Do.j2 lamplighterref20_Do.b_j2 lamplighterref20_Do.j3 lamplighterref20_Do.b_j3 lamplighterref20_Do.j4 lamplighterref20_Check.f lamplighterref20_One.f lamplighterref20_All.f
  simp only [eq_f (show (6 : Int) ≠ 1 by decide), eq_f (show (6 : Int) ≠ 2 by decide), eq_f (show (6 : Int) ≠ 3 by decide), eq_f (show (6 : Int) ≠ 5 by decide), eq_f (show (6 : Int) ≠ 8 by decide), eq_f (show (6 : Int) ≠ 9 by decide), eq_f (show (6 : Int) ≠ 10 by decide), eq_f (show (6 : Int) ≠ 11 by decide), eq_f (show (6 : Int) ≠ 12 by decide), eq_f (show (6 : Int) ≠ 13 by decide), eq_f (show (6 : Int) ≠ 14 by decide), eq_f (show (6 : Int) ≠ 15 by decide), le_t (show (4 : Int) ≤ 6 by decide), le_t (show (6 : Int) ≤ 7 by decide), le_f (show ¬ (14 : Int) ≤ 6 by decide), lt_f (show ¬ (6 : Int) < 1 by decide), lt_f (show ¬ (19 : Int) < 6 by decide), br_t, br_f, w_andNot, kok_iff.2 h, kok_iff.2 g, zB, eqI_refl, Option.bind_some, Bool.not_true, Bool.not_false, eqI_all, eqI_0, br_same]
  rw [kg_6, kg_pre h g, kdiv_6, w_and]
  simp only [eqI_all, eqI_0]
  obtain ⟨v, f, hr, hw⟩ := ref01_word (op := 6) (by decide) (by decide) O M
  rw [hr, hw]
  by_cases c : Q = BitVec.allOnes 32
  · by_cases d : M = 0
    · simp only [decide_eq_true c, decide_eq_true d, Option.bind_some, br_t, br_f, br_same, eqI_refl]
    · by_cases e : K = BitVec.allOnes 32
      · have e3 : K &&& Q = BitVec.allOnes 32 := both_iff.2 ⟨e, c⟩
        simp only [decide_eq_true c, decide_eq_false d, decide_eq_true e, decide_eq_true e3, Option.bind_some, br_t, br_f, br_same, eqI_refl]
      · have e2 : ¬ K &&& Q = BitVec.allOnes 32 := fun z => e (both_iff.1 z).1
        simp only [decide_eq_true c, decide_eq_false d, decide_eq_false e, decide_eq_false e2, Option.bind_some, br_t, br_f, br_same, eqI_refl]
  · have e2 : ¬ K &&& Q = BitVec.allOnes 32 := fun z => c (both_iff.1 z).2
    simp only [decide_eq_false c, decide_eq_false e2, Option.bind_some, br_t, br_f, br_same, eqI_refl]
theorem RK7 : RK 7 := fun k hk K O Q M h g => by
  unfold lamplighterref20_Do.f lamplighterref20_Do.b_j0 lamplighterref20_Do.j1 lamplighterref20_Do.b_j1 lamplighterref20_Do.j2 lamplighterref20_Do.b_j2 lamplighterref20_Do.j3 lamplighterref20_Do.b_j3 lamplighterref20_Do.j4 lamplighterref20_Check.f lamplighterref20_One.f lamplighterref20_All.f
  simp only [eq_f (show (7 : Int) ≠ 1 by decide), eq_f (show (7 : Int) ≠ 2 by decide), eq_f (show (7 : Int) ≠ 3 by decide), eq_f (show (7 : Int) ≠ 5 by decide), eq_f (show (7 : Int) ≠ 8 by decide), eq_f (show (7 : Int) ≠ 9 by decide), eq_f (show (7 : Int) ≠ 10 by decide), eq_f (show (7 : Int) ≠ 11 by decide), eq_f (show (7 : Int) ≠ 12 by decide), eq_f (show (7 : Int) ≠ 13 by decide), eq_f (show (7 : Int) ≠ 14 by decide), eq_f (show (7 : Int) ≠ 15 by decide), le_t (show (4 : Int) ≤ 7 by decide), le_t (show (7 : Int) ≤ 7 by decide), le_f (show ¬ (14 : Int) ≤ 7 by decide), lt_f (show ¬ (7 : Int) < 1 by decide), lt_f (show ¬ (19 : Int) < 7 by decide), br_t, br_f, w_andNot, kok_iff.2 h, kok_iff.2 g, zB, eqI_refl, Option.bind_some, Bool.not_true, Bool.not_false, eqI_all, eqI_0, br_same]
  rw [kg_7, kg_pre h g, kdiv_7, w_and]
  simp only [eqI_all, eqI_0]
  obtain ⟨v, f, hr, hw⟩ := ref01_word (op := 7) (by decide) (by decide) O M
  rw [hr, hw]
  by_cases c : Q = BitVec.allOnes 32
  · by_cases d : M = 0
    · simp only [decide_eq_true c, decide_eq_true d, Option.bind_some, br_t, br_f, br_same, eqI_refl]
    · by_cases e : K = BitVec.allOnes 32
      · have e3 : K &&& Q = BitVec.allOnes 32 := both_iff.2 ⟨e, c⟩
        simp only [decide_eq_true c, decide_eq_false d, decide_eq_true e, decide_eq_true e3, Option.bind_some, br_t, br_f, br_same, eqI_refl]
      · have e2 : ¬ K &&& Q = BitVec.allOnes 32 := fun z => e (both_iff.1 z).1
        simp only [decide_eq_true c, decide_eq_false d, decide_eq_false e, decide_eq_false e2, Option.bind_some, br_t, br_f, br_same, eqI_refl]
  · have e2 : ¬ K &&& Q = BitVec.allOnes 32 := fun z => c (both_iff.1 z).2
    simp only [decide_eq_false c, decide_eq_false e2, Option.bind_some, br_t, br_f, br_same, eqI_refl]
/-! ### Divisions, shifts, comparisons of known bits, by the reference -/
theorem zero_bit (i : Nat) : (0 : B).getLsbD i = false := BitVec.getLsbD_zero
theorem zero_orB (x : B) : (0 : B) ||| x = x := BitVec.zero_or
theorem pow_iff {M : B} (h : M ≠ 0) : (∃ j, j < 32 ∧ M.toNat = 2 ^ j) ↔ M &&& (M - 1) = 0 := by
  have m0 : M.toNat ≠ 0 := fun e => h (BitVec.eq_of_toNat_eq e)
  have ml := M.isLt
  constructor
  · rintro ⟨j, hj, e⟩
    have s : M - 1 = Lm j := by
      apply BitVec.eq_of_toNat_eq
      unfold Lm
      rw [BitVec.toNat_sub, BitVec.toNat_ofNat, ← e, show (1 : B).toNat = 1 from rfl]
      omega
    have t : M = BitVec.twoPow 32 j := by
      apply BitVec.eq_of_toNat_eq
      rw [BitVec.toNat_twoPow, ← e]
      omega
    rw [s, t]
    refine BitVec.eq_of_getLsbD_eq fun i l => ?_
    rw [BitVec.getLsbD_and, BitVec.getLsbD_twoPow, Lm_bit]
    by_cases c : j = i
    · subst c
      simp
    · simp [c]
  · intro e
    have ng : M - 1 = ~~~(-M) := by
      apply BitVec.eq_of_toNat_eq
      rw [BitVec.toNat_not, BitVec.toNat_neg, BitVec.toNat_sub, show (1 : B).toNat = 1 from rfl]
      omega
    rw [ng] at e
    have ex : rn (~~~M) < 32 := by
      have l := rn_le (~~~M)
      by_cases c : rn (~~~M) = 32
      · exfalso
        apply h
        refine BitVec.eq_of_getLsbD_eq fun i hi => ?_
        have z := rn_one (m := ~~~M) (i := i) (by omega)
        rw [BitVec.getLsbD_not, decide_eq_true hi, Bool.true_and] at z
        rw [zero_bit]
        revert z
        cases M.getLsbD i <;> simp
      · omega
    have b1 : M.getLsbD (rn (~~~M)) = true := by
      have z := rn_end (~~~M)
      rw [BitVec.getLsbD_not, decide_eq_true ex, Bool.true_and] at z
      revert z
      cases M.getLsbD (rn (~~~M)) <;> simp
    have b0 : ∀ i, i < rn (~~~M) → M.getLsbD i = false := fun i hi => by
      have z := rn_one hi
      rw [BitVec.getLsbD_not, decide_eq_true (by omega : i < 32), Bool.true_and] at z
      revert z
      cases M.getLsbD i <;> simp
    have lb := low_bit b0 b1
    have eq : M = BitVec.twoPow 32 (rn (~~~M)) := by
      rw [← lb]
      refine BitVec.eq_of_getLsbD_eq fun i l => ?_
      have z := congrArg (fun x : B => x.getLsbD i) e
      simp only [BitVec.getLsbD_and, BitVec.getLsbD_not, decide_eq_true l, Bool.true_and, zero_bit] at z
      rw [BitVec.getLsbD_and]
      revert z
      cases M.getLsbD i <;> cases (-M).getLsbD i <;> simp
    refine ⟨rn (~~~M), ex, ?_⟩
    have z := congrArg BitVec.toNat eq
    rw [BitVec.toNat_twoPow, Nat.mod_eq_of_lt (Nat.pow_lt_pow_right (by decide) ex)] at z
    exact z
theorem RK5 : RK 5 := fun k hk K O Q M h g => by
  unfold lamplighterref20_Do.f lamplighterref20_Do.b_j0 lamplighterref20_Do.j1 lamplighterref20_Do.b_j1 lamplighterref20_Do.j2 lamplighterref20_Do.b_j2 lamplighterref20_Do.j3 lamplighterref20_Do.b_j3 lamplighterref20_Do.j4 lamplighterref20_Check.f lamplighterref20_One.f lamplighterref20_All.f
  simp only [eq_f (show (5 : Int) ≠ 1 by decide), eq_f (show (5 : Int) ≠ 2 by decide), eq_f (show (5 : Int) ≠ 3 by decide), eq_t (show (5 : Int) = 5 from rfl), eq_f (show (5 : Int) ≠ 8 by decide), eq_f (show (5 : Int) ≠ 9 by decide), eq_f (show (5 : Int) ≠ 10 by decide), eq_f (show (5 : Int) ≠ 11 by decide), eq_f (show (5 : Int) ≠ 12 by decide), eq_f (show (5 : Int) ≠ 13 by decide), eq_f (show (5 : Int) ≠ 14 by decide), eq_f (show (5 : Int) ≠ 15 by decide), le_t (show (4 : Int) ≤ 5 by decide), le_t (show (5 : Int) ≤ 7 by decide), le_f (show ¬ (14 : Int) ≤ 5 by decide), lt_f (show ¬ (5 : Int) < 1 by decide), lt_f (show ¬ (19 : Int) < 5 by decide), br_t, br_f, w_andNot, kok_iff.2 h, kok_iff.2 g, zB, eqI_refl, Option.bind_some, Bool.not_true, Bool.not_false, eqI_all, eqI_0, br_same]
  have sub1 : IntKind.u32.wrap ((M.toNat : Int) - 1) = ((M - 1 : B).toNat : Int) := wsub M 1
  rw [kg_5, kg_pre h g, kdiv_5, w_and]
  simp only [eqI_all, eqI_0, sub1, w_and, w_not, w_or]
  obtain ⟨v, f, hr, hw⟩ := ref01_word (op := 5) (by decide) (by decide) O M
  rw [hr, hw]
  by_cases c : Q = BitVec.allOnes 32
  · by_cases d : M = 0
    · simp only [decide_eq_true c, decide_eq_true d, Option.bind_some, br_t, br_f, br_same, eqI_refl, Bool.not_true, Bool.not_false]
    · by_cases e : K = BitVec.allOnes 32
      · have e3 : K &&& Q = BitVec.allOnes 32 := both_iff.2 ⟨e, c⟩
        simp only [decide_eq_true c, decide_eq_false d, decide_eq_true e, decide_eq_true e3, Option.bind_some, br_t, br_f, br_same, eqI_refl, Bool.not_true, Bool.not_false]
      · have e2 : ¬ K &&& Q = BitVec.allOnes 32 := fun z => e (both_iff.1 z).1
        obtain ⟨n, hn, hp⟩ := count_is M
        rw [hn]
        simp only [decide_eq_true c, decide_eq_false d, decide_eq_false e, decide_eq_false e2, Option.bind_some, br_t, br_f, br_same, eqI_refl, Bool.not_true, Bool.not_false]
        by_cases p : n = 1
        · rw [decide_eq_true ((pow_iff d).1 (hp.1 p)), eq_t p, br_t, br_t, BitVec.or_comm]
          rfl
        · rw [decide_eq_false (fun z => p (hp.2 ((pow_iff d).2 z))), eq_f p, br_f, br_f]
          rfl
  · have e2 : ¬ K &&& Q = BitVec.allOnes 32 := fun z => c (both_iff.1 z).2
    simp only [decide_eq_false c, decide_eq_false e2, Option.bind_some, br_t, br_f, br_same, eqI_refl, Bool.not_true, Bool.not_false]
theorem shl_k {K O : B} (h : Kok K O) (n : Nat) : (O <<< n) &&& ((K <<< n) ||| Lm (min n 32)) = O <<< n := by
  refine BitVec.eq_of_getLsbD_eq fun i l => ?_
  rw [BitVec.getLsbD_and, BitVec.getLsbD_or, BitVec.getLsbD_shiftLeft, BitVec.getLsbD_shiftLeft]
  have a := kob h (i - n)
  revert a
  generalize (Lm (min n 32)).getLsbD i = z
  cases decide (i < 32) <;> cases decide (i < n) <;> cases K.getLsbD (i - n) <;> cases O.getLsbD (i - n) <;> simp
theorem shr_k {K O : B} (h : Kok K O) (n : Nat) : (O >>> n) &&& ((K >>> n) ||| ~~~(BitVec.allOnes 32 >>> n)) = O >>> n := by
  refine BitVec.eq_of_getLsbD_eq fun i l => ?_
  rw [BitVec.getLsbD_and, BitVec.getLsbD_or, BitVec.getLsbD_ushiftRight, BitVec.getLsbD_ushiftRight]
  have a := kob h (n + i)
  revert a
  cases K.getLsbD (n + i) <;> cases O.getLsbD (n + i) <;> simp
theorem sar_bit (x : B) (n i : Nat) (l : i < 32) : (x.sshiftRight n).getLsbD i = if n + i < 32 then x.getLsbD (n + i) else x.getLsbD 31 := by
  rw [BitVec.getLsbD_sshiftRight, decide_eq_false (by omega : ¬ 32 ≤ i), Bool.not_false, Bool.true_and, BitVec.msb_eq_getLsbD_last]
theorem sar_k {K O : B} (h : Kok K O) (n : Nat) : (O.sshiftRight n) &&& (K.sshiftRight n) = O.sshiftRight n := by
  refine BitVec.eq_of_getLsbD_eq fun i l => ?_
  rw [BitVec.getLsbD_and, sar_bit _ _ _ l, sar_bit _ _ _ l]
  have a := kob h (n + i)
  have b := kob h 31
  revert a b
  split
  · cases K.getLsbD (n + i) <;> cases O.getLsbD (n + i) <;> simp
  · cases K.getLsbD 31 <;> cases O.getLsbD 31 <;> simp
theorem shl_big (x : B) {n : Nat} (h : 32 ≤ n) : x <<< n = 0 := BitVec.shiftLeft_eq_zero h
theorem shr_big (x : B) {n : Nat} (h : 32 ≤ n) : x >>> n = 0 := BitVec.ushiftRight_eq_zero h
theorem sar_big (x : B) {n : Nat} (h : 31 ≤ n) : x.sshiftRight n = if x.getLsbD 31 = true then BitVec.allOnes 32 else 0 := by
  refine BitVec.eq_of_getLsbD_eq fun i l => ?_
  rw [sar_bit _ _ _ l]
  have e : (if n + i < 32 then x.getLsbD (n + i) else x.getLsbD 31) = x.getLsbD 31 := by
    split
    · rw [show n + i = 31 by omega]
    · rfl
  rw [e]
  cases x.getLsbD 31
  · exact BitVec.getLsbD_zero.symm
  · rw [if_pos rfl, ones_bit l]
theorem sar_or (x : B) {n : Nat} (h : n < 32) : x.sshiftRight n = if x.getLsbD 31 = true then (x >>> n) ||| ~~~(BitVec.allOnes 32 >>> n) else x >>> n := by
  refine BitVec.eq_of_getLsbD_eq fun i l => ?_
  rw [sar_bit _ _ _ l]
  by_cases c : n + i < 32
  · rw [if_pos c]
    cases e : x.getLsbD 31
    · rw [if_neg (by decide), BitVec.getLsbD_ushiftRight]
    · rw [if_pos rfl, BitVec.getLsbD_or, BitVec.getLsbD_not, BitVec.getLsbD_ushiftRight, BitVec.getLsbD_ushiftRight, ones_bit c]
      simp
  · rw [if_neg c]
    cases e : x.getLsbD 31
    · rw [if_neg (by decide), BitVec.getLsbD_ushiftRight, BitVec.getLsbD_of_ge _ _ (by omega)]
    · rw [if_pos rfl, BitVec.getLsbD_or, BitVec.getLsbD_not, BitVec.getLsbD_ushiftRight, BitVec.getLsbD_ushiftRight, BitVec.getLsbD_of_ge (BitVec.allOnes 32) _ (by omega), decide_eq_true l]
      simp
theorem allL : Lm 32 = BitVec.allOnes 32 := by decide
theorem ksA (K O : B) (n : Nat) (h : Kok K O) : known_shift.f K.toNat O.toNat (n : Int) 11 = some ((((K <<< n) ||| Lm (min n 32)).toNat : Int), ((O <<< n).toNat : Int)) := by
  rw [ksh_11, word11, word11, Option.bind_some, Option.bind_some, min32, lt_f (by omega), br_f, low_is (by omega), w_or, w_and, shl_k h]
theorem ksB (K O : B) (n : Nat) (h : Kok K O) : known_shift.f K.toNat O.toNat (n : Int) 12 = some ((((K >>> n) ||| ~~~(BitVec.allOnes 32 >>> n)).toNat : Int), ((O >>> n).toNat : Int)) := by
  rw [ksh_12, word12, word12, Option.bind_some, Option.bind_some, min32, lt_f (by omega), br_f, shr64 (by omega), shr_min, w_not, w_or, w_and, shr_k h]
theorem ksC (K O : B) (n : Nat) (h : Kok K O) : known_shift.f K.toNat O.toNat (n : Int) 13 = some (((K.sshiftRight n).toNat : Int), ((O.sshiftRight n).toNat : Int)) := by
  rw [ksh_13, word13, word13, Option.bind_some, Option.bind_some, w_and, sar_k h]
theorem nlt0 (n : Nat) : ltI (n : Int) 0 = false := lt_f (by omega)
theorem rsA (k : Nat) (K O : B) (n : Nat) (h : Kok K O) : lamplighterref20_shift.f k 11 K.toNat O.toNat (n : Int) = some ((((K <<< n) ||| Lm (min n 32)).toNat : Int), ((O <<< n).toNat : Int)) := by
  unfold lamplighterref20_shift.f lamplighterref20_shift.b_j0
  rw [leI_d, br_ite]
  by_cases c : 32 ≤ n
  · rw [if_pos (by omega), shl_big K c, shl_big O c, show min n 32 = 32 by omega, zero_orB, allL]
    rfl
  · rw [if_neg (by omega), eq_t rfl, br_t, nlt0, br_f, i64n (by omega), low_r (by omega)]
    simp only [Option.bind_some, br_f]
    rw [shlB, shlB, w_or]
theorem rsB (k : Nat) (K O : B) (n : Nat) (h : Kok K O) : lamplighterref20_shift.f k 12 K.toNat O.toNat (n : Int) = some ((((K >>> n) ||| ~~~(BitVec.allOnes 32 >>> n)).toNat : Int), ((O >>> n).toNat : Int)) := by
  unfold lamplighterref20_shift.f lamplighterref20_shift.b_j0
  rw [leI_d, br_ite]
  by_cases c : 32 ≤ n
  · rw [if_pos (by omega), shr_big K c, shr_big O c, shr_big _ c, zero_orB]
    rfl
  · rw [if_neg (by omega), eq_f (show (12 : Int) ≠ 11 by decide), br_f, eq_t rfl, br_t, nlt0, br_f, br_f, br_f, all_n, shrB, shrB, shrB, w_not, w_or]
theorem rsC (k : Nat) (K O : B) (n : Nat) (h : Kok K O) : lamplighterref20_shift.f k 13 K.toNat O.toNat (n : Int) = some (((K.sshiftRight n).toNat : Int), ((O.sshiftRight n).toNat : Int)) := by
  unfold lamplighterref20_shift.f lamplighterref20_shift.b_j0 lamplighterref20_shift.j1
  have s31 := sarB O 31
  rw [show (((31 : Nat) : Int)) = 31 from rfl] at s31
  rw [leI_d, br_ite, shr31, shr31, s31]
  by_cases c : 32 ≤ n
  · rw [if_pos (by omega), eq_t rfl, Bool.not_true, br_f, sar_big K (by omega : 31 ≤ n), sar_big O (by omega : 31 ≤ n), sar_big O (Nat.le_refl 31)]
    cases e : K.getLsbD 31
    · have eo : O.getLsbD 31 = false := by
        have := kob h 31
        revert this
        rw [e]
        cases O.getLsbD 31 <;> simp
      rw [eo]
      rfl
    · rfl
  · rw [if_neg (by omega), eq_f (show (13 : Int) ≠ 11 by decide), br_f, eq_f (show (13 : Int) ≠ 12 by decide), br_f, nlt0, br_f, br_f, br_f, all_n, shrB, shrB, shrB, w_not, w_or, w_or, sar_or K (by omega), sar_or O (by omega)]
    cases e : K.getLsbD 31
    · have eo : O.getLsbD 31 = false := by
        have := kob h 31
        revert this
        rw [e]
        cases O.getLsbD 31 <;> simp
      rw [eo]
      rfl
    · cases O.getLsbD 31 <;> rfl
theorem ones_shl (n : Nat) : (BitVec.allOnes 32 <<< n) ||| Lm (min n 32) = BitVec.allOnes 32 := by
  refine BitVec.eq_of_getLsbD_eq fun i l => ?_
  rw [BitVec.getLsbD_or, BitVec.getLsbD_shiftLeft, Lm_bit, ones_bit l]
  by_cases c : i < n
  · have d : i < min n 32 := by omega
    simp [d, l]
  · rw [ones_bit (by omega : i - n < 32)]
    simp [l, c]
theorem ones_shr (n : Nat) : (BitVec.allOnes 32 >>> n) ||| ~~~(BitVec.allOnes 32 >>> n) = BitVec.allOnes 32 := by
  refine BitVec.eq_of_getLsbD_eq fun i l => ?_
  rw [BitVec.getLsbD_or, BitVec.getLsbD_not, ones_bit l, decide_eq_true l]
  cases (BitVec.allOnes 32 >>> n).getLsbD i <;> rfl
theorem ones_sar (n : Nat) : (BitVec.allOnes 32).sshiftRight n = BitVec.allOnes 32 := by
  refine BitVec.eq_of_getLsbD_eq fun i l => ?_
  rw [sar_bit _ _ _ l, ones_bit l]
  split
  · exact ones_bit (by assumption)
  · exact ones_bit (by decide)
theorem RK11 : RK 11 := fun k hk K O Q M h g => by
  unfold lamplighterref20_Do.f lamplighterref20_Do.b_j0 lamplighterref20_Do.j1 lamplighterref20_Do.b_j1 lamplighterref20_Do.j2 lamplighterref20_Do.b_j2 lamplighterref20_Do.j3 lamplighterref20_Do.b_j3 lamplighterref20_Do.j4 lamplighterref20_Check.f lamplighterref20_One.f lamplighterref20_All.f
  simp only [eq_f (show (11 : Int) ≠ 1 by decide), eq_f (show (11 : Int) ≠ 2 by decide), eq_f (show (11 : Int) ≠ 3 by decide), eq_f (show (11 : Int) ≠ 5 by decide), eq_f (show (11 : Int) ≠ 8 by decide), eq_f (show (11 : Int) ≠ 9 by decide), eq_f (show (11 : Int) ≠ 10 by decide), eq_t (show (11 : Int) = 11 from rfl), eq_f (show (11 : Int) ≠ 12 by decide), eq_f (show (11 : Int) ≠ 13 by decide), eq_f (show (11 : Int) ≠ 14 by decide), eq_f (show (11 : Int) ≠ 15 by decide), le_t (show (4 : Int) ≤ 11 by decide), le_f (show ¬ (11 : Int) ≤ 7 by decide), le_f (show ¬ (14 : Int) ≤ 11 by decide), lt_f (show ¬ (11 : Int) < 1 by decide), lt_f (show ¬ (19 : Int) < 11 by decide), br_t, br_f, w_andNot, kok_iff.2 h, kok_iff.2 g, zB, eqI_refl, Option.bind_some, Bool.not_true, Bool.not_false, eqI_all, eqI_0, br_same]
  rw [kg_11, kg_pre h g, eqI_all, ksA K O M.toNat h, rsA k K O M.toNat h]
  obtain ⟨v, f, hr, hw⟩ := ref01_word (op := 11) (by decide) (by decide) O M
  rw [word11] at hw
  simp only [Option.some.injEq, Prod.mk.injEq] at hw
  rw [hr, ← hw.1]
  by_cases c : Q = BitVec.allOnes 32
  · by_cases e : K = BitVec.allOnes 32
    · simp only [decide_eq_true c, decide_eq_true e, Option.bind_some, br_t, br_f, br_same, eqI_refl, Bool.not_true, Bool.not_false]
      rw [e, ones_shl]
      rfl
    · simp only [decide_eq_true c, decide_eq_false e, Option.bind_some, br_t, br_f, br_same, eqI_refl, Bool.not_true, Bool.not_false]
  · simp only [decide_eq_false c, Option.bind_some, br_t, br_f, br_same, eqI_refl, Bool.not_true, Bool.not_false]
theorem RK12 : RK 12 := fun k hk K O Q M h g => by
  unfold lamplighterref20_Do.f lamplighterref20_Do.b_j0 lamplighterref20_Do.j1 lamplighterref20_Do.b_j1 lamplighterref20_Do.j2 lamplighterref20_Do.b_j2 lamplighterref20_Do.j3 lamplighterref20_Do.b_j3 lamplighterref20_Do.j4 lamplighterref20_Check.f lamplighterref20_One.f lamplighterref20_All.f
  simp only [eq_f (show (12 : Int) ≠ 1 by decide), eq_f (show (12 : Int) ≠ 2 by decide), eq_f (show (12 : Int) ≠ 3 by decide), eq_f (show (12 : Int) ≠ 5 by decide), eq_f (show (12 : Int) ≠ 8 by decide), eq_f (show (12 : Int) ≠ 9 by decide), eq_f (show (12 : Int) ≠ 10 by decide), eq_f (show (12 : Int) ≠ 11 by decide), eq_t (show (12 : Int) = 12 from rfl), eq_f (show (12 : Int) ≠ 13 by decide), eq_f (show (12 : Int) ≠ 14 by decide), eq_f (show (12 : Int) ≠ 15 by decide), le_t (show (4 : Int) ≤ 12 by decide), le_f (show ¬ (12 : Int) ≤ 7 by decide), le_f (show ¬ (14 : Int) ≤ 12 by decide), lt_f (show ¬ (12 : Int) < 1 by decide), lt_f (show ¬ (19 : Int) < 12 by decide), br_t, br_f, w_andNot, kok_iff.2 h, kok_iff.2 g, zB, eqI_refl, Option.bind_some, Bool.not_true, Bool.not_false, eqI_all, eqI_0, br_same]
  rw [kg_12, kg_pre h g, eqI_all, ksB K O M.toNat h, rsB k K O M.toNat h]
  obtain ⟨v, f, hr, hw⟩ := ref01_word (op := 12) (by decide) (by decide) O M
  rw [word12] at hw
  simp only [Option.some.injEq, Prod.mk.injEq] at hw
  rw [hr, ← hw.1]
  by_cases c : Q = BitVec.allOnes 32
  · by_cases e : K = BitVec.allOnes 32
    · simp only [decide_eq_true c, decide_eq_true e, Option.bind_some, br_t, br_f, br_same, eqI_refl, Bool.not_true, Bool.not_false]
      rw [e, ones_shr]
      rfl
    · simp only [decide_eq_true c, decide_eq_false e, Option.bind_some, br_t, br_f, br_same, eqI_refl, Bool.not_true, Bool.not_false]
  · simp only [decide_eq_false c, Option.bind_some, br_t, br_f, br_same, eqI_refl, Bool.not_true, Bool.not_false]
theorem RK13 : RK 13 := fun k hk K O Q M h g => by
  unfold lamplighterref20_Do.f lamplighterref20_Do.b_j0 lamplighterref20_Do.j1 lamplighterref20_Do.b_j1 lamplighterref20_Do.j2 lamplighterref20_Do.b_j2 lamplighterref20_Do.j3 lamplighterref20_Do.b_j3 lamplighterref20_Do.j4 lamplighterref20_Check.f lamplighterref20_One.f lamplighterref20_All.f
  simp only [eq_f (show (13 : Int) ≠ 1 by decide), eq_f (show (13 : Int) ≠ 2 by decide), eq_f (show (13 : Int) ≠ 3 by decide), eq_f (show (13 : Int) ≠ 5 by decide), eq_f (show (13 : Int) ≠ 8 by decide), eq_f (show (13 : Int) ≠ 9 by decide), eq_f (show (13 : Int) ≠ 10 by decide), eq_f (show (13 : Int) ≠ 11 by decide), eq_f (show (13 : Int) ≠ 12 by decide), eq_t (show (13 : Int) = 13 from rfl), eq_f (show (13 : Int) ≠ 14 by decide), eq_f (show (13 : Int) ≠ 15 by decide), le_t (show (4 : Int) ≤ 13 by decide), le_f (show ¬ (13 : Int) ≤ 7 by decide), le_f (show ¬ (14 : Int) ≤ 13 by decide), lt_f (show ¬ (13 : Int) < 1 by decide), lt_f (show ¬ (19 : Int) < 13 by decide), br_t, br_f, w_andNot, kok_iff.2 h, kok_iff.2 g, zB, eqI_refl, Option.bind_some, Bool.not_true, Bool.not_false, eqI_all, eqI_0, br_same]
  rw [kg_13, kg_pre h g, eqI_all, ksC K O M.toNat h, rsC k K O M.toNat h]
  obtain ⟨v, f, hr, hw⟩ := ref01_word (op := 13) (by decide) (by decide) O M
  rw [word13] at hw
  simp only [Option.some.injEq, Prod.mk.injEq] at hw
  rw [hr, ← hw.1]
  by_cases c : Q = BitVec.allOnes 32
  · by_cases e : K = BitVec.allOnes 32
    · simp only [decide_eq_true c, decide_eq_true e, Option.bind_some, br_t, br_f, br_same, eqI_refl, Bool.not_true, Bool.not_false]
      rw [e, ones_sar]
      rfl
    · simp only [decide_eq_true c, decide_eq_false e, Option.bind_some, br_t, br_f, br_same, eqI_refl, Bool.not_true, Bool.not_false]
  · simp only [decide_eq_false c, Option.bind_some, br_t, br_f, br_same, eqI_refl, Bool.not_true, Bool.not_false]
theorem RK14 : RK 14 := fun k hk K O Q M h g => by
  unfold lamplighterref20_Do.f lamplighterref20_Do.b_j0 lamplighterref20_Do.j1 lamplighterref20_Do.b_j1 lamplighterref20_Do.j2 lamplighterref20_Do.b_j2 lamplighterref20_Do.j3 lamplighterref20_Do.b_j3 lamplighterref20_Do.j4 lamplighterref20_Check.f lamplighterref20_One.f lamplighterref20_All.f
  simp only [eq_f (show (14 : Int) ≠ 1 by decide), eq_f (show (14 : Int) ≠ 2 by decide), eq_f (show (14 : Int) ≠ 3 by decide), eq_f (show (14 : Int) ≠ 5 by decide), eq_f (show (14 : Int) ≠ 8 by decide), eq_f (show (14 : Int) ≠ 9 by decide), eq_f (show (14 : Int) ≠ 10 by decide), eq_f (show (14 : Int) ≠ 11 by decide), eq_f (show (14 : Int) ≠ 12 by decide), eq_f (show (14 : Int) ≠ 13 by decide), eq_t (show (14 : Int) = 14 from rfl), eq_f (show (14 : Int) ≠ 15 by decide), le_t (show (4 : Int) ≤ 14 by decide), le_f (show ¬ (14 : Int) ≤ 7 by decide), le_t (show (14 : Int) ≤ 14 by decide), lt_f (show ¬ (14 : Int) < 1 by decide), lt_f (show ¬ (19 : Int) < 14 by decide), br_t, br_f, w_andNot, kok_iff.2 h, kok_iff.2 g, zB, eqI_refl, Option.bind_some, Bool.not_true, Bool.not_false, eqI_all, eqI_0, br_same]
  unfold lamplighterref20_truth.f lamplighterref20_One.f
  rw [kg_14, kg_pre h g, kcm_14, meet_is _ _ _ _ (kok_iff.2 h) (kok_iff.2 g), Option.bind_some]
  simp only [w_xor, w_and, eqI_0, eqI_all]
  obtain ⟨v, f, hr, hw⟩ := ref01_word (op := 14) (by decide) (by decide) O M
  rw [hr, hw, br_both (r := K &&& Q = BitVec.allOnes 32) both_iff]
  by_cases c : K &&& Q = BitVec.allOnes 32
  · simp only [decide_eq_true c, Option.bind_some, br_t, br_f, br_same, eqI_refl, Bool.not_true, Bool.not_false]
  · by_cases d : (O ^^^ M) &&& K &&& Q = 0
    · simp only [decide_eq_false c, decide_eq_true d, if_pos d, Option.bind_some, br_t, br_f, br_same, eqI_refl, Bool.not_true, Bool.not_false]
    · simp only [decide_eq_false c, decide_eq_false d, if_neg d, Option.bind_some, br_t, br_f, br_same, eqI_refl, Bool.not_true, Bool.not_false]
theorem RK15 : RK 15 := fun k hk K O Q M h g => by
  unfold lamplighterref20_Do.f lamplighterref20_Do.b_j0 lamplighterref20_Do.j1 lamplighterref20_Do.b_j1 lamplighterref20_Do.j2 lamplighterref20_Do.b_j2 lamplighterref20_Do.j3 lamplighterref20_Do.b_j3 lamplighterref20_Do.j4 lamplighterref20_Check.f lamplighterref20_One.f lamplighterref20_All.f
  simp only [eq_f (show (15 : Int) ≠ 1 by decide), eq_f (show (15 : Int) ≠ 2 by decide), eq_f (show (15 : Int) ≠ 3 by decide), eq_f (show (15 : Int) ≠ 5 by decide), eq_f (show (15 : Int) ≠ 8 by decide), eq_f (show (15 : Int) ≠ 9 by decide), eq_f (show (15 : Int) ≠ 10 by decide), eq_f (show (15 : Int) ≠ 11 by decide), eq_f (show (15 : Int) ≠ 12 by decide), eq_f (show (15 : Int) ≠ 13 by decide), eq_f (show (15 : Int) ≠ 14 by decide), eq_t (show (15 : Int) = 15 from rfl), le_t (show (4 : Int) ≤ 15 by decide), le_f (show ¬ (15 : Int) ≤ 7 by decide), le_t (show (14 : Int) ≤ 15 by decide), lt_f (show ¬ (15 : Int) < 1 by decide), lt_f (show ¬ (19 : Int) < 15 by decide), br_t, br_f, w_andNot, kok_iff.2 h, kok_iff.2 g, zB, eqI_refl, Option.bind_some, Bool.not_true, Bool.not_false, eqI_all, eqI_0, br_same]
  unfold lamplighterref20_truth.f lamplighterref20_One.f
  rw [kg_15, kg_pre h g, kcm_15, meet_is _ _ _ _ (kok_iff.2 h) (kok_iff.2 g), Option.bind_some]
  simp only [w_xor, w_and, eqI_0, eqI_all]
  obtain ⟨v, f, hr, hw⟩ := ref01_word (op := 15) (by decide) (by decide) O M
  rw [hr, hw, br_both (r := K &&& Q = BitVec.allOnes 32) both_iff]
  by_cases c : K &&& Q = BitVec.allOnes 32
  · simp only [decide_eq_true c, Option.bind_some, br_t, br_f, br_same, eqI_refl, Bool.not_true, Bool.not_false]
  · by_cases d : (O ^^^ M) &&& K &&& Q = 0
    · simp only [decide_eq_false c, decide_eq_true d, if_pos d, Option.bind_some, br_t, br_f, br_same, eqI_refl, Bool.not_true, Bool.not_false]
    · simp only [decide_eq_false c, decide_eq_false d, if_neg d, Option.bind_some, br_t, br_f, br_same, eqI_refl, Bool.not_true, Bool.not_false]
theorem RK16 : RK 16 := fun k hk K O Q M h g => by
  unfold lamplighterref20_Do.f lamplighterref20_Do.b_j0 lamplighterref20_Do.j1 lamplighterref20_Do.b_j1 lamplighterref20_Do.j2 lamplighterref20_Do.b_j2 lamplighterref20_Do.j3 lamplighterref20_Do.b_j3 lamplighterref20_Do.j4 lamplighterref20_Check.f lamplighterref20_One.f lamplighterref20_All.f
  simp only [eq_f (show (16 : Int) ≠ 1 by decide), eq_f (show (16 : Int) ≠ 2 by decide), eq_f (show (16 : Int) ≠ 3 by decide), eq_f (show (16 : Int) ≠ 5 by decide), eq_f (show (16 : Int) ≠ 8 by decide), eq_f (show (16 : Int) ≠ 9 by decide), eq_f (show (16 : Int) ≠ 10 by decide), eq_f (show (16 : Int) ≠ 11 by decide), eq_f (show (16 : Int) ≠ 12 by decide), eq_f (show (16 : Int) ≠ 13 by decide), eq_f (show (16 : Int) ≠ 14 by decide), eq_f (show (16 : Int) ≠ 15 by decide), le_t (show (4 : Int) ≤ 16 by decide), le_f (show ¬ (16 : Int) ≤ 7 by decide), le_t (show (14 : Int) ≤ 16 by decide), lt_f (show ¬ (16 : Int) < 1 by decide), lt_f (show ¬ (19 : Int) < 16 by decide), br_t, br_f, w_andNot, kok_iff.2 h, kok_iff.2 g, zB, eqI_refl, Option.bind_some, Bool.not_true, Bool.not_false, eqI_all, eqI_0, br_same]
  rw [kg_16, kg_pre h g, kcm_16, meet_is _ _ _ _ (kok_iff.2 h) (kok_iff.2 g), Option.bind_some]
  simp only [w_and, eqI_all]
  obtain ⟨v, f, hr, hw⟩ := ref01_word (op := 16) (by decide) (by decide) O M
  rw [hr, hw, br_both (r := K &&& Q = BitVec.allOnes 32) both_iff]
  by_cases c : K &&& Q = BitVec.allOnes 32
  · simp only [decide_eq_true c, Option.bind_some, br_t, br_f, br_same, eqI_refl, Bool.not_true, Bool.not_false]
  · simp only [decide_eq_false c, Option.bind_some, br_t, br_f, br_same, eqI_refl, Bool.not_true, Bool.not_false]
theorem RK17 : RK 17 := fun k hk K O Q M h g => by
  unfold lamplighterref20_Do.f lamplighterref20_Do.b_j0 lamplighterref20_Do.j1 lamplighterref20_Do.b_j1 lamplighterref20_Do.j2 lamplighterref20_Do.b_j2 lamplighterref20_Do.j3 lamplighterref20_Do.b_j3 lamplighterref20_Do.j4 lamplighterref20_Check.f lamplighterref20_One.f lamplighterref20_All.f
  simp only [eq_f (show (17 : Int) ≠ 1 by decide), eq_f (show (17 : Int) ≠ 2 by decide), eq_f (show (17 : Int) ≠ 3 by decide), eq_f (show (17 : Int) ≠ 5 by decide), eq_f (show (17 : Int) ≠ 8 by decide), eq_f (show (17 : Int) ≠ 9 by decide), eq_f (show (17 : Int) ≠ 10 by decide), eq_f (show (17 : Int) ≠ 11 by decide), eq_f (show (17 : Int) ≠ 12 by decide), eq_f (show (17 : Int) ≠ 13 by decide), eq_f (show (17 : Int) ≠ 14 by decide), eq_f (show (17 : Int) ≠ 15 by decide), le_t (show (4 : Int) ≤ 17 by decide), le_f (show ¬ (17 : Int) ≤ 7 by decide), le_t (show (14 : Int) ≤ 17 by decide), lt_f (show ¬ (17 : Int) < 1 by decide), lt_f (show ¬ (19 : Int) < 17 by decide), br_t, br_f, w_andNot, kok_iff.2 h, kok_iff.2 g, zB, eqI_refl, Option.bind_some, Bool.not_true, Bool.not_false, eqI_all, eqI_0, br_same]
  rw [kg_17, kg_pre h g, kcm_17, meet_is _ _ _ _ (kok_iff.2 h) (kok_iff.2 g), Option.bind_some]
  simp only [w_and, eqI_all]
  obtain ⟨v, f, hr, hw⟩ := ref01_word (op := 17) (by decide) (by decide) O M
  rw [hr, hw, br_both (r := K &&& Q = BitVec.allOnes 32) both_iff]
  by_cases c : K &&& Q = BitVec.allOnes 32
  · simp only [decide_eq_true c, Option.bind_some, br_t, br_f, br_same, eqI_refl, Bool.not_true, Bool.not_false]
  · simp only [decide_eq_false c, Option.bind_some, br_t, br_f, br_same, eqI_refl, Bool.not_true, Bool.not_false]
theorem RK18 : RK 18 := fun k hk K O Q M h g => by
  unfold lamplighterref20_Do.f lamplighterref20_Do.b_j0 lamplighterref20_Do.j1 lamplighterref20_Do.b_j1 lamplighterref20_Do.j2 lamplighterref20_Do.b_j2 lamplighterref20_Do.j3 lamplighterref20_Do.b_j3 lamplighterref20_Do.j4 lamplighterref20_Check.f lamplighterref20_One.f lamplighterref20_All.f
  simp only [eq_f (show (18 : Int) ≠ 1 by decide), eq_f (show (18 : Int) ≠ 2 by decide), eq_f (show (18 : Int) ≠ 3 by decide), eq_f (show (18 : Int) ≠ 5 by decide), eq_f (show (18 : Int) ≠ 8 by decide), eq_f (show (18 : Int) ≠ 9 by decide), eq_f (show (18 : Int) ≠ 10 by decide), eq_f (show (18 : Int) ≠ 11 by decide), eq_f (show (18 : Int) ≠ 12 by decide), eq_f (show (18 : Int) ≠ 13 by decide), eq_f (show (18 : Int) ≠ 14 by decide), eq_f (show (18 : Int) ≠ 15 by decide), le_t (show (4 : Int) ≤ 18 by decide), le_f (show ¬ (18 : Int) ≤ 7 by decide), le_t (show (14 : Int) ≤ 18 by decide), lt_f (show ¬ (18 : Int) < 1 by decide), lt_f (show ¬ (19 : Int) < 18 by decide), br_t, br_f, w_andNot, kok_iff.2 h, kok_iff.2 g, zB, eqI_refl, Option.bind_some, Bool.not_true, Bool.not_false, eqI_all, eqI_0, br_same]
  rw [kg_18, kg_pre h g, kcm_18, meet_is _ _ _ _ (kok_iff.2 h) (kok_iff.2 g), Option.bind_some]
  simp only [w_and, eqI_all]
  obtain ⟨v, f, hr, hw⟩ := ref01_word (op := 18) (by decide) (by decide) O M
  rw [hr, hw, br_both (r := K &&& Q = BitVec.allOnes 32) both_iff]
  by_cases c : K &&& Q = BitVec.allOnes 32
  · simp only [decide_eq_true c, Option.bind_some, br_t, br_f, br_same, eqI_refl, Bool.not_true, Bool.not_false]
  · simp only [decide_eq_false c, Option.bind_some, br_t, br_f, br_same, eqI_refl, Bool.not_true, Bool.not_false]
theorem RK19 : RK 19 := fun k hk K O Q M h g => by
  unfold lamplighterref20_Do.f lamplighterref20_Do.b_j0 lamplighterref20_Do.j1 lamplighterref20_Do.b_j1 lamplighterref20_Do.j2 lamplighterref20_Do.b_j2 lamplighterref20_Do.j3 lamplighterref20_Do.b_j3 lamplighterref20_Do.j4 lamplighterref20_Check.f lamplighterref20_One.f lamplighterref20_All.f
  simp only [eq_f (show (19 : Int) ≠ 1 by decide), eq_f (show (19 : Int) ≠ 2 by decide), eq_f (show (19 : Int) ≠ 3 by decide), eq_f (show (19 : Int) ≠ 5 by decide), eq_f (show (19 : Int) ≠ 8 by decide), eq_f (show (19 : Int) ≠ 9 by decide), eq_f (show (19 : Int) ≠ 10 by decide), eq_f (show (19 : Int) ≠ 11 by decide), eq_f (show (19 : Int) ≠ 12 by decide), eq_f (show (19 : Int) ≠ 13 by decide), eq_f (show (19 : Int) ≠ 14 by decide), eq_f (show (19 : Int) ≠ 15 by decide), le_t (show (4 : Int) ≤ 19 by decide), le_f (show ¬ (19 : Int) ≤ 7 by decide), le_t (show (14 : Int) ≤ 19 by decide), lt_f (show ¬ (19 : Int) < 1 by decide), lt_f (show ¬ (19 : Int) < 19 by decide), br_t, br_f, w_andNot, kok_iff.2 h, kok_iff.2 g, zB, eqI_refl, Option.bind_some, Bool.not_true, Bool.not_false, eqI_all, eqI_0, br_same]
  rw [kg_19, kg_pre h g, kcm_19, meet_is _ _ _ _ (kok_iff.2 h) (kok_iff.2 g), Option.bind_some]
  simp only [w_and, eqI_all]
  obtain ⟨v, f, hr, hw⟩ := ref01_word (op := 19) (by decide) (by decide) O M
  rw [hr, hw, br_both (r := K &&& Q = BitVec.allOnes 32) both_iff]
  by_cases c : K &&& Q = BitVec.allOnes 32
  · simp only [decide_eq_true c, Option.bind_some, br_t, br_f, br_same, eqI_refl, Bool.not_true, Bool.not_false]
  · simp only [decide_eq_false c, Option.bind_some, br_t, br_f, br_same, eqI_refl, Bool.not_true, Bool.not_false]
theorem RKall {op : Int} (h1 : 1 ≤ op) (h2 : op ≤ 19) : RK op := by
  rcases ops19 h1 h2 with rfl | rfl | rfl | rfl | rfl | rfl | rfl | rfl | rfl | rfl | rfl | rfl | rfl | rfl | rfl | rfl | rfl | rfl | rfl
  · exact RK1
  · exact RK2
  · exact RK3
  · exact RK4
  · exact RK5
  · exact RK6
  · exact RK7
  · exact RK8
  · exact RK9
  · exact RK10
  · exact RK11
  · exact RK12
  · exact RK13
  · exact RK14
  · exact RK15
  · exact RK16
  · exact RK17
  · exact RK18
  · exact RK19
/-! ### The functions on values, by the program and by the reference -/
theorem zero_subB : ((BitVec.allOnes 32).toNat : Int) = 4294967295 := by decide
theorem kun {op : Int} (h1 : 1 ≤ op) (h2 : op ≤ 3) {K O : B} (h : Kok K O) : ∃ K' O' : B, known_Un.f 100 op K.toNat O.toNat = some ((K'.toNat : Int), (O'.toNat : Int), 0) ∧ lamplighterref20_Un.f 100 op K.toNat O.toNat = some ((K'.toNat : Int), (O'.toNat : Int), 0) := by
  have e : op = 1 ∨ op = 2 ∨ op = 3 := by omega
  unfold lamplighterref20_Un.f lamplighterref20_Check.f lamplighterref20_One.f
  rw [lt_f (by omega), br_f, lt_f (by omega), br_f, w_andNot, kok_iff.2 h]
  simp only [zB, eqI_refl, Bool.not_true, br_f, Option.bind_some]
  rcases e with rfl | rfl | rfl
  · have s := sum_sub (k := 100) (by decide) (BitVec.allOnes 32) 0 K O
    have c := car_is 2 (BitVec.allOnes 32) 0 K O
    rw [word_2, Option.bind_some, wsub, w_and] at c
    rw [zB, zero_subB] at s c
    refine ⟨Lm (rn (BitVec.allOnes 32 &&& K)), (0 - O : B) &&& Lm (rn (BitVec.allOnes 32 &&& K)), ?_, ?_⟩
    · rw [ku1, kpre h, c, Option.bind_some]
    · rw [eq_t rfl, br_t, s, Option.bind_some]
  · refine ⟨K, K &&& ~~~O, ?_, ?_⟩
    · rw [ku2, kpre h, w_andNot]
    · rw [eq_f (by decide), br_f, eq_t rfl, br_t, w_not, w_and, BitVec.and_comm]
  · rw [ku3, kpre h, eq_f (show (3 : Int) ≠ 1 by decide), br_f, eq_f (show (3 : Int) ≠ 2 by decide), br_f]
    simp only [eqI_0, eqI_all]
    by_cases c : O = 0
    · rw [decide_eq_true c, Bool.not_true, br_f]
      by_cases d : K = BitVec.allOnes 32
      · rw [decide_eq_true d, br_t]
        exact ⟨BitVec.allOnes 32, 1, rfl, rfl⟩
      · rw [decide_eq_false d, br_f]
        exact ⟨4294967294, 0, rfl, rfl⟩
    · rw [decide_eq_false c, Bool.not_false, br_t]
      exact ⟨BitVec.allOnes 32, 0, rfl, rfl⟩
theorem kun_bad {op : Int} (h : ¬ (1 ≤ op ∧ op ≤ 3)) (K O : Int) : known_Un.f 100 op K O = some (0, 0, 2) := by
  unfold known_Un.f word_Name.f
  rw [eq_f (show op ≠ 1 by omega), eq_f (show op ≠ 2 by omega), eq_f (show op ≠ 3 by omega)]
  cases eqI (bitw .andNot .u32 O K) 0 <;> kernel_rfl
theorem un_some (op a b : Int) : ∃ t, interval_Un.f op a b = some t := by
  unfold interval_Un.f
  have y : ∀ p q, ∃ t, interval_yes.f p q = some t := fun p q => ⟨_, yesI p q⟩
  obtain ⟨t, e⟩ := y (eqI b 0) (ltI 0 a)
  rw [e]
  cases ltI b a <;> cases eqI op 1 <;> cases eqI op 2 <;> cases eqI op 3 <;> cases eqI b 0 <;> cases ltI 0 a <;> exact ⟨_, rfl⟩
theorem kun_some (op : Int) (K O : B) : ∃ t, known_Un.f 100 op K.toNat O.toNat = some t := by
  by_cases h : 1 ≤ op ∧ op ≤ 3
  · by_cases k : Kok K O
    · obtain ⟨K', O', e, _⟩ := kun h.1 h.2 k
      exact ⟨_, e⟩
    · refine ⟨(0, 0, 2), ?_⟩
      unfold known_Un.f
      rw [w_andNot, eqI_0, decide_eq_false (fun z => k (kok_iff.1 z))]
      rfl
  · exact ⟨_, kun_bad h _ _⟩
/-- A value's four numbers; all, where there is none. -/
def T4 (s : Option S) : Int × Int × Int × Int := match s with
  | some t => ((t.lo.toNat : Int), (t.hi.toNat : Int), (t.K.toNat : Int), (t.O.toNat : Int))
  | none => (0, 4294967295, 0, 0)
theorem fitted_is (s : S) : value_fitted.f 100 s.lo.toNat s.hi.toNat s.K.toNat s.O.toNat = some (T4 (fitV s)) := by
  unfold value_fitted.f
  rw [Fit_is (by decide), Option.bind_some]
  cases fitV s <;> rfl
theorem enc_all (s : Option S) : br (!(enc s).2.2.2.2) ((lamplighterref21_All.f).bind fun t => some (t.1, t.2.1, t.2.2.1, t.2.2.2, (0 : Int))) (some ((enc s).1, (enc s).2.1, (enc s).2.2.1, (enc s).2.2.2.1, 0)) = some ((T4 s).1, (T4 s).2.1, (T4 s).2.2.1, (T4 s).2.2.2, 0) := by
  cases s <;> rfl
theorem c_fit (s : S) : ∃ z, value_Fit.f 100 s.lo.toNat s.hi.toNat s.K.toNat s.O.toNat = some z ∧ lamplighterref21_Fit.f 100 s.lo.toNat s.hi.toNat s.K.toNat s.O.toNat = some z := ⟨_, Fit_is (by decide) s, rFit_is (by decide) s⟩
theorem c_check (s : S) : ∃ z, value_Check.f 100 s.lo.toNat s.hi.toNat s.K.toNat s.O.toNat = some z ∧ lamplighterref21_Check.f 100 s.lo.toNat s.hi.toNat s.K.toNat s.O.toNat = some z := ⟨_, Check_v s, rCheck_v s⟩
theorem chk_c (s : S) : chkV s = 0 ∨ chkV s = 2 := by
  unfold chkV
  split
  · exact .inl rfl
  · exact .inr rfl
theorem chk_fx {s : S} (h : chkV s = 0) : s.Fx := by
  unfold chkV at h
  split at h
  · exact fitV_fx.1 (by assumption)
  · cases h
theorem ihas_some (a b x : Int) : ∃ t, interval_Has.f a b x = some t := by
  unfold interval_Has.f
  cases ltI b a <;> cases leI a x <;> exact ⟨_, rfl⟩
theorem khas_some (a b x : Int) : ∃ t, known_Has.f a b x = some t := by
  unfold known_Has.f
  cases eqI (bitw .andNot .u32 b a) 0 <;> exact ⟨_, rfl⟩
theorem iwithin_some (a b d e : Int) : ∃ t, interval_Within.f a b d e = some t := by
  unfold interval_Within.f
  cases ltI b a <;> cases ltI e d <;> cases leI d a <;> exact ⟨_, rfl⟩
theorem kwithin_some (a b d e : Int) : ∃ t, known_Within.f a b d e = some t := by
  unfold known_Within.f
  cases eqI (bitw .andNot .u32 b a) 0 <;> cases eqI (bitw .andNot .u32 e d) 0 <;> cases eqI (bitw .andNot .u32 d a) 0 <;> exact ⟨_, rfl⟩
theorem c_has (s : S) (x : Int) : ∃ z, value_Has.f 100 s.lo.toNat s.hi.toNat s.K.toNat s.O.toNat x = some z ∧ lamplighterref21_Has.f 100 s.lo.toNat s.hi.toNat s.K.toNat s.O.toNat x = some z := by
  unfold value_Has.f value_of.f lamplighterref21_Has.f
  rw [Check_v, rCheck_v]
  simp only [Option.bind_some, rhas, khas]
  obtain ⟨p, ep⟩ := ihas_some s.lo.toNat s.hi.toNat x
  obtain ⟨q, eq⟩ := khas_some s.K.toNat s.O.toNat x
  rw [ep, eq]
  rcases chk_c s with c | c <;> rw [c] <;> cases p <;> exact ⟨_, rfl, rfl⟩
theorem c_within (s t : S) : ∃ z, value_Within.f 100 s.lo.toNat s.hi.toNat s.K.toNat s.O.toNat t.lo.toNat t.hi.toNat t.K.toNat t.O.toNat = some z ∧ lamplighterref21_Within.f 100 s.lo.toNat s.hi.toNat s.K.toNat s.O.toNat t.lo.toNat t.hi.toNat t.K.toNat t.O.toNat = some z := by
  unfold value_Within.f value_of.f lamplighterref21_Within.f
  rw [Check_v, rCheck_v, Check_v, rCheck_v]
  simp only [Option.bind_some, rwithin, kwithin]
  obtain ⟨p, ep⟩ := iwithin_some s.lo.toNat s.hi.toNat t.lo.toNat t.hi.toNat
  obtain ⟨q, eq⟩ := kwithin_some s.K.toNat s.O.toNat t.K.toNat t.O.toNat
  rw [ep, eq]
  rcases chk_c s with c | c <;> rw [c] <;> rcases chk_c t with d | d <;> rw [d] <;> cases p <;> exact ⟨_, rfl, rfl⟩
theorem fitV_some {a s : S} (hs : s.Ok) (fa : a.Fx) (w : a.W s) : ∃ t, fitV s = some t ∧ t.Fx ∧ a.W t := by
  obtain ⟨t, e, fx, w1, _⟩ := fit_some hs fa w
  refine ⟨t, ?_, fx, w1⟩
  unfold fitV
  rw [if_neg (by have := fa.le; have := w.1; have := w.2.1; omega), if_pos (ok_and hs), e]
theorem c_join (a b : S) : ∃ z, value_Join.f 100 a.lo.toNat a.hi.toNat a.K.toNat a.O.toNat b.lo.toNat b.hi.toNat b.K.toNat b.O.toNat = some z ∧ lamplighterref21_Join.f 100 a.lo.toNat a.hi.toNat a.K.toNat a.O.toNat b.lo.toNat b.hi.toNat b.K.toNat b.O.toNat = some z ∧ (a.Fx → b.Fx → ∃ t : S, z = ((t.lo.toNat : Int), (t.hi.toNat : Int), (t.K.toNat : Int), (t.O.toNat : Int)) ∧ t.Fx) := by
  by_cases fa : a.Fx
  · by_cases fb : b.Fx
    · obtain ⟨t, e, fx, _⟩ := fitV_some raw_ok fa (raw_l (b := b))
      refine ⟨((t.lo.toNat : Int), (t.hi.toNat : Int), (t.K.toNat : Int), (t.O.toNat : Int)), ?_, ?_, fun _ _ => ⟨t, rfl, fx⟩⟩
      · rw [Join_raw fa fb, fitted_is, e]
        rfl
      · have ha := (V_of fa).o
        have hb := (V_of fb).o
        unfold lamplighterref21_Join.f
        rw [rCheck_v, rCheck_v, chk_yes fa, chk_yes fb, rjoin_v (V_of fa) (V_of fb), kjoin]
        unfold known_Join.f
        rw [w_andNot, w_andNot, kok_iff.2 fa.ok, kok_iff.2 fb.ok]
        simp only [Option.bind_some, eqI_refl, zB, Bool.not_true, br_f, bmin_int, bmax_int, w_and, w_xor, w_andNot]
        have f := rFit_is (k := 100) (by decide) (raw a b)
        rw [e] at f
        unfold raw jK at f
        simp only at f
        rw [f]
        rfl
    · refine ⟨(0, 4294967295, 0, 0), ?_, ?_, fun _ h => absurd h fb⟩
      · unfold value_Join.f
        rw [Check_v, Check_v, chk_yes fa, chk_no fb]
        rfl
      · unfold lamplighterref21_Join.f
        rw [rCheck_v, rCheck_v, chk_yes fa, chk_no fb]
        rfl
  · refine ⟨(0, 4294967295, 0, 0), ?_, ?_, fun h => absurd h fa⟩
    · unfold value_Join.f
      rw [Check_v, chk_no fa]
      rfl
    · unfold lamplighterref21_Join.f
      rw [rCheck_v, chk_no fa]
      rfl
theorem c_widen (a b : S) : ∃ z, value_Widen.f 100 a.lo.toNat a.hi.toNat a.K.toNat a.O.toNat b.lo.toNat b.hi.toNat b.K.toNat b.O.toNat = some z ∧ lamplighterref21_Widen.f 100 a.lo.toNat a.hi.toNat a.K.toNat a.O.toNat b.lo.toNat b.hi.toNat b.K.toNat b.O.toNat = some z := by
  by_cases fa : a.Fx
  · by_cases fb : b.Fx
    · obtain ⟨z, ez, rz, hz⟩ := c_join a b
      obtain ⟨j, rfl, fj⟩ := hz fa fb
      have va := V_of fa
      have vj := V_of fj
      have d1 := dn_le vj.ul
      have d2 := le_up vj.uh
      obtain ⟨lo, el⟩ := b_of' (x := if (j.lo.toNat : Int) < a.lo.toNat then dn j.lo.toNat else a.lo.toNat) (by have := va.ul; unfold U at *; split <;> omega)
      obtain ⟨hi, eh⟩ := b_of' (x := if (j.hi.toNat : Int) > a.hi.toNat then up j.hi.toNat else a.hi.toNat) (by have := va.uh; unfold U at *; split <;> omega)
      have w : a.W ⟨lo, hi, jK a j, a.O &&& jK a j⟩ := by
        refine ⟨?_, ?_, (raw_l (a := a) (b := j)).2.2⟩
        · have : (lo.toNat : Int) ≤ a.lo.toNat := by rw [← el]; split <;> omega
          show lo.toNat ≤ _
          omega
        · have : (a.hi.toNat : Int) ≤ hi.toNat := by rw [← eh]; split <;> omega
          show _ ≤ hi.toNat
          omega
      obtain ⟨t, e, fx, _⟩ := fitV_some (s := ⟨lo, hi, jK a j, a.O &&& jK a j⟩) (fun i h => raw_ok (a := a) (b := j) i h) fa w
      refine ⟨((t.lo.toNat : Int), (t.hi.toNat : Int), (t.K.toNat : Int), (t.O.toNat : Int)), ?_, ?_⟩
      · unfold value_Widen.f known_Join.f
        rw [Check_v, Check_v, chk_yes fa, chk_yes fb, ez]
        simp only [Option.bind_some, eqI_refl, Bool.not_true, br_f]
        rw [widenI va vj, el, eh, w_andNot, w_andNot, kok_iff.2 fa.ok, kok_iff.2 fj.ok]
        simp only [Option.bind_some, Bool.not_true, br_f, zB, eqI_refl, w_and, w_xor, w_andNot]
        have f := fitted_is ⟨lo, hi, jK a j, a.O &&& jK a j⟩
        rw [e] at f
        simp only [jK] at f
        rw [f]
        rfl
      · unfold lamplighterref21_Widen.f
        rw [rCheck_v, rCheck_v, chk_yes fa, chk_yes fb, rz]
        simp only [Option.bind_some, eqI_refl, Bool.not_true, br_f]
        rw [rwidenI va vj, widenI va vj, el, eh, kjoin]
        unfold known_Join.f
        rw [w_andNot, w_andNot, kok_iff.2 fa.ok, kok_iff.2 fj.ok]
        simp only [Option.bind_some, Bool.not_true, br_f, zB, eqI_refl, w_and, w_xor, w_andNot]
        have f := rFit_is (k := 100) (by decide) ⟨lo, hi, jK a j, a.O &&& jK a j⟩
        rw [e] at f
        simp only [jK] at f
        rw [f]
        rfl
    · refine ⟨(0, 4294967295, 0, 0), ?_, ?_⟩
      · unfold value_Widen.f
        rw [Check_v, Check_v, chk_yes fa, chk_no fb]
        rfl
      · unfold lamplighterref21_Widen.f
        rw [rCheck_v, rCheck_v, chk_yes fa, chk_no fb]
        rfl
  · refine ⟨(0, 4294967295, 0, 0), ?_, ?_⟩
    · unfold value_Widen.f
      rw [Check_v, chk_no fa]
      rfl
    · unfold lamplighterref21_Widen.f
      rw [rCheck_v, chk_no fa]
      rfl
theorem idoS {op : Int} (h1 : 1 ≤ op) (h2 : op ≤ 19) {a b : S} (fa : a.Fx) (fb : b.Fx) : ∃ (lo hi : B) (ok : Bool), interval_Do.f op a.lo.toNat a.hi.toNat b.lo.toNat b.hi.toNat = some ((lo.toNat : Int), (hi.toNat : Int), ok, 0) ∧ lamplighterref19_Do.f 100 op a.lo.toNat a.hi.toNat b.lo.toNat b.hi.toNat = some ((lo.toNat : Int), (hi.toNat : Int), ok, 0) := by
  have va := V_of fa
  have vb := V_of fb
  have vd := V.ado h1 h2 va vb
  obtain ⟨lo, el⟩ := b_of' vd.ul
  obtain ⟨hi, eh⟩ := b_of' vd.uh
  refine ⟨lo, hi, (doS op a.lo.toNat a.hi.toNat b.lo.toNat b.hi.toNat).2.2, ?_, ?_⟩
  · rw [do_is h1 h2 va vb, ← el, ← eh]
    rfl
  · rw [rdo_is h1 h2 va vb, ← el, ← eh]
    rfl
theorem do_bad {op : Int} (h : ¬ (1 ≤ op ∧ op ≤ 19)) (a b d e : Int) : interval_Do.f op a b d e = some (0, 0, false, 2) := by
  unfold interval_Do.f
  iterate 19 rw [eq_f (by omega), br_f]
theorem sign_bad {op : Int} (h : ¬ (1 ≤ op ∧ op ≤ 19)) : word_Sign.f op = some ⟨#[]⟩ := by
  unfold word_Sign.f
  by_cases p : 1 ≤ op
  · rw [le_t p, br_t, le_f (show ¬ op ≤ 19 by omega)]
    rfl
  · rw [le_f p, br_f]
theorem kdo_bad {op : Int} (h : ¬ (1 ≤ op ∧ op ≤ 19)) (K O Q M : Int) : known_Do.f 100 op K O Q M = some (0, 0, false, 2) := by
  unfold known_Do.f
  rw [sign_bad h, Option.bind_some, beq_self_eq_true, br_t]
theorem c_do (op : Int) (a b : S) : ∃ z, value_Do.f 100 op a.lo.toNat a.hi.toNat a.K.toNat a.O.toNat b.lo.toNat b.hi.toNat b.K.toNat b.O.toNat = some z ∧ lamplighterref21_Do.f 100 op a.lo.toNat a.hi.toNat a.K.toNat a.O.toNat b.lo.toNat b.hi.toNat b.K.toNat b.O.toNat = some z := by
  unfold value_Do.f lamplighterref21_Do.f
  rw [Check_v, Check_v, rCheck_v, rCheck_v]
  by_cases fa : a.Fx
  · by_cases fb : b.Fx
    · rw [chk_yes fa, chk_yes fb]
      simp only [Option.bind_some, eqI_refl, Bool.not_true, br_f]
      by_cases h : 1 ≤ op ∧ op ≤ 19
      · obtain ⟨lo, hi, ok, e1, e2⟩ := idoS h.1 h.2 fa fb
        obtain ⟨K', O', kb, hk, _⟩ := KDall h.1 h.2 a.K a.O b.K b.O fa.ok fb.ok
        have rk := RKall h.1 h.2 100 (by decide) a.K a.O b.K b.O fa.ok fb.ok
        rw [hk] at rk
        rw [lt_f (show ¬ op < 1 by omega), lt_f (show ¬ 19 < op by omega), br_f, br_f, e1, e2, hk, rk]
        have f := Fit_is (k := 100) (by decide) ⟨lo, hi, K', O'⟩
        have r := rFit_is (k := 100) (by decide) ⟨lo, hi, K', O'⟩
        simp only at f r
        simp only [Option.bind_some, eqI_refl, Bool.not_true, br_f, f, r]
        cases ok <;> cases kb <;> exact ⟨_, rfl, rfl⟩
      · refine ⟨(0, 0, 0, 0, false, 2), ?_, ?_⟩
        · rw [do_bad h, kdo_bad h]
          rfl
        · by_cases p : op < 1
          · rw [lt_t p]
            rfl
          · rw [lt_f p, lt_t (show 19 < op by omega)]
            rfl
    · rw [chk_yes fa, chk_no fb]
      exact ⟨_, rfl, rfl⟩
  · rw [chk_no fa]
    exact ⟨_, rfl, rfl⟩
theorem c_un (op : Int) (a : S) : ∃ z, value_Un.f 100 op a.lo.toNat a.hi.toNat a.K.toNat a.O.toNat = some z ∧ lamplighterref21_Un.f 100 op a.lo.toNat a.hi.toNat a.K.toNat a.O.toNat = some z := by
  unfold value_Un.f lamplighterref21_Un.f
  rw [Check_v, rCheck_v]
  by_cases fa : a.Fx
  · rw [chk_yes fa]
    simp only [Option.bind_some, eqI_refl, Bool.not_true, br_f]
    by_cases h : 1 ≤ op ∧ op ≤ 3
    · obtain ⟨K', O', e1, e2⟩ := kun h.1 h.2 (K := a.K) (O := a.O) fa.ok
      have iu : ∃ lo hi : B, interval_Un.f op a.lo.toNat a.hi.toNat = some ((lo.toNat : Int), (hi.toNat : Int), 0) := by
        have va := V_of fa
        have o := va.o
        have e : op = 1 ∨ op = 2 ∨ op = 3 := by omega
        rcases e with rfl | rfl | rfl
        · rw [ui1, lt_f (by omega), br_f, neg_is, neg_is]
          by_cases p : (a.hi.toNat : Int) = 0
          · rw [eq_t p, br_t]
            exact ⟨0, 0, rfl⟩
          · rw [eq_f p, br_f]
            by_cases q : (0 : Int) < a.lo.toNat
            · rw [lt_t q, br_t]
              exact ⟨_, _, rfl⟩
            · rw [lt_f q, br_f]
              exact ⟨0, BitVec.allOnes 32, rfl⟩
        · rw [ui2, lt_f (by omega), br_f, w_not, w_not]
          exact ⟨_, _, rfl⟩
        · rw [ui3, lt_f (by omega), br_f, yesI]
          unfold yesS
          split
          · exact ⟨1, 1, rfl⟩
          · split
            · exact ⟨0, 0, rfl⟩
            · exact ⟨0, 1, rfl⟩
      obtain ⟨lo, hi, e3⟩ := iu
      have e4 := runI h.1 h.2 (V_of fa)
      rw [e3] at e4
      rw [lt_f (show ¬ op < 1 by omega), lt_f (show ¬ 3 < op by omega), br_f, br_f, e1, e2, e3, e4]
      have f := fitted_is ⟨lo, hi, K', O'⟩
      have r := rFit_is (k := 100) (by decide) ⟨lo, hi, K', O'⟩
      simp only at f r
      simp only [Option.bind_some, eqI_refl, Bool.not_true, br_f, f, r]
      exact ⟨_, rfl, enc_all _⟩
    · refine ⟨(0, 0, 0, 0, 2), ?_, ?_⟩
      · rw [un_bad h, kun_bad h]
        rfl
      · by_cases p : op < 1
        · rw [lt_t p]
          rfl
        · rw [lt_f p, lt_t (show 3 < op by omega)]
          rfl
  · rw [chk_no fa]
    obtain ⟨t, e1⟩ := un_some op a.lo.toNat a.hi.toNat
    obtain ⟨u, e2⟩ := kun_some op a.K a.O
    rw [e1, e2]
    refine ⟨(0, 0, 0, 0, 2), ?_, rfl⟩
    simp only [Option.bind_some]
    cases eqI t.2.2 0 <;> cases eqI u.2.2 0 <;> rfl
theorem cut_some (w : Int) (a b : B) : ∃ t, interval_Cut.f a.toNat b.toNat w = some t := by
  by_cases h : w = 8 ∨ w = 16 ∨ w = 32
  · by_cases c : a.toNat ≤ b.toNat
    · obtain ⟨p, q, e, _⟩ := rcutI h c
      exact ⟨_, e⟩
    · refine ⟨(0, 0, 2), ?_⟩
      unfold interval_Cut.f
      rw [word_cut_w h a, lt_t (show (b.toNat : Int) < a.toNat by omega)]
      rfl
  · exact ⟨_, (cut_bad h _ _).1⟩
theorem kcut_some (w : Int) (K O : B) : ∃ t, known_Cut.f K.toNat O.toNat w = some t := by
  by_cases h : w = 8 ∨ w = 16 ∨ w = 32
  · by_cases c : Kok K O
    · exact ⟨_, (kcut h c).1⟩
    · refine ⟨(0, 0, 2), ?_⟩
      unfold known_Cut.f
      rw [word_cut_w h O, w_andNot, eqI_0, decide_eq_false (fun z => c (kok_iff.1 z))]
      rfl
  · exact ⟨_, (cut_bad h _ _).2⟩
theorem c_cut (w : Int) (a : S) : ∃ z, value_Cut.f 100 a.lo.toNat a.hi.toNat a.K.toNat a.O.toNat w = some z ∧ lamplighterref21_Cut.f 100 a.lo.toNat a.hi.toNat a.K.toNat a.O.toNat w = some z := by
  unfold value_Cut.f lamplighterref21_Cut.f
  rw [Check_v, rCheck_v]
  by_cases fa : a.Fx
  · rw [chk_yes fa]
    simp only [Option.bind_some, eqI_refl, Bool.not_true, br_f]
    by_cases h : w = 8 ∨ w = 16 ∨ w = 32
    · obtain ⟨p, q, e1, e2⟩ := rcutI h fa.le
      obtain ⟨e3, e4⟩ := kcut h (K := a.K) (O := a.O) fa.ok
      rw [e1, e2, e3, e4]
      have f := fitted_is ⟨p, q, a.K ||| ~~~(Lm w.toNat), a.O &&& Lm w.toNat⟩
      have r := rFit_is (k := 100) (by decide) ⟨p, q, a.K ||| ~~~(Lm w.toNat), a.O &&& Lm w.toNat⟩
      simp only at f r
      simp only [Option.bind_some, eqI_refl, Bool.not_true, br_f, f, r, enc_all]
      rcases h with rfl | rfl | rfl <;> exact ⟨_, rfl, rfl⟩
    · obtain ⟨e1, e2⟩ := cut_bad h a.lo.toNat a.hi.toNat
      obtain ⟨_, e3⟩ := cut_bad h a.K.toNat a.O.toNat
      rw [e1, e3, eq_f (show w ≠ 8 by omega), eq_f (show w ≠ 16 by omega), eq_f (show w ≠ 32 by omega)]
      exact ⟨_, rfl, rfl⟩
  · rw [chk_no fa]
    obtain ⟨t, e1⟩ := cut_some w a.lo a.hi
    obtain ⟨u, e2⟩ := kcut_some w a.K a.O
    rw [e1, e2]
    refine ⟨(0, 0, 0, 0, 2), ?_, rfl⟩
    simp only [Option.bind_some]
    cases eqI t.2.2 0 <;> cases eqI u.2.2 0 <;> rfl
theorem c_truth (s : S) : ∃ z, value_Truth.f 100 s.lo.toNat s.hi.toNat s.K.toNat s.O.toNat = some z ∧ lamplighterref21_Truth.f 100 s.lo.toNat s.hi.toNat s.K.toNat s.O.toNat = some z := by
  by_cases f : s.Fx
  · obtain ⟨b, e, g⟩ := Has_is s 0
    rw [zz] at e
    refine ⟨(ltI 0 s.hi.toNat, !b), ?_, ?_⟩
    · unfold value_Truth.f
      rw [Check_v, chk_yes f, e]
      rfl
    · unfold lamplighterref21_Truth.f
      rw [rCheck_v, chk_yes f]
      simp only [Option.bind_some, eqI_refl, Bool.not_true, br_f]
      have le := f.le
      have l := f.l
      have hb : (!b) = ltI 0 s.lo.toNat := by
        by_cases p : s.lo.toNat = 0
        · have o : s.O = 0 := BitVec.eq_of_toNat_eq (by show s.O.toNat = 0; omega)
          have : b = true := g.2 ⟨f, by show _ ≤ 0; omega, by show 0 ≤ _; omega, fun i _ => by rw [o]⟩
          rw [this, lt_f (by omega)]
          rfl
        · have : b = false := by
            cases b
            · rfl
            · have q := (g.1 rfl).2.1
              have z : (0 : B).toNat = 0 := rfl
              omega
          rw [this, lt_t (by omega)]
          rfl
      rw [hb]
      have h1 : (!((((s.lo.toNat : Int) == (0 : Int)) && ((s.hi.toNat : Int) == (0 : Int))) && (((s.K.toNat : Int) == (4294967295 : Int)) && ((s.O.toNat : Int) == (0 : Int))))) = ltI 0 s.hi.toNat := by
        by_cases p : s.hi.toNat = 0
        · have l0 : s.lo.toNat = 0 := by omega
          have o0 : s.O.toNat = 0 := by omega
          have k : s.K = BitVec.allOnes 32 := by
            refine BitVec.eq_of_getLsbD_eq fun i hi => ?_
            rw [ones_bit hi]
            exact (f.p 0 (by rw [p, l0]) i (Nat.zero_le _) hi).1
          rw [lt_f (by omega), p, l0, o0, k, zero_subB]
          rfl
        · rw [lt_t (by omega)]
          have : ((s.hi.toNat : Int) == (0 : Int)) = false := by
            rw [beq_eq_false_iff_ne]
            omega
          rw [this]
          simp
      exact congrArg (fun x => some (x, ltI 0 (s.lo.toNat : Int))) h1
  · refine ⟨(false, false), ?_, ?_⟩
    · unfold value_Truth.f
      rw [Check_v, chk_no f]
      rfl
    · unfold lamplighterref21_Truth.f
      rw [rCheck_v, chk_no f]
      rfl
end Go.Proofs.YtdmondofdlkopaaGreatDoor.V.Snd
