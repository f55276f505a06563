/- The plain laws on values: ranges, known bits, fitting, over the functions that tell the program's. Conditions: those each theorem names. -/
import Derived.Test.YtdmondofdlkopaaGreatDoorPlainCore
import Derived.Test.YtdmondofdlkopaaGreatDoorKs
namespace Go.Proofs.YtdmondofdlkopaaGreatDoor.V.Snd
open Go Go.RowKit Go.Proofs.YtdmondofdlkopaaGreatDoor.X Go.Proofs.YtdmondofdlkopaaGreatDoor.V Go.Vb
set_option linter.unusedVariables false
set_option linter.unusedSimpArgs false
/-! ### What an operator makes of two ranges: closed -/
theorem top_bit (x : Nat) (h : x < 4294967296) : x.testBit 31 = decide (2147483648 ≤ x) := by
  rw [Nat.testBit_eq_decide_div_mod_eq]
  by_cases g : 2147483648 ≤ x
  · rw [decide_eq_true g, decide_eq_true]; omega
  · rw [decide_eq_false g, decide_eq_false]; omega
theorem mul_lt {a b : Int} (h1 : U a) (h2 : U b) : 0 ≤ a * b ∧ a * b < 18446744073709551616 := by
  obtain ⟨a0, a1⟩ := h1
  obtain ⟨b0, b1⟩ := h2
  refine ⟨Int.mul_nonneg a0 b0, ?_⟩
  have := Int.mul_le_mul a1 b1 b0 (by decide)
  omega
theorem div_le {a b : Int} (h : U a) (hb : 0 < b) : U (a / b) := ⟨Int.ediv_nonneg h.1 (by omega), Int.le_trans (Int.ediv_le_self _ h.1) h.2⟩
/-- how many bits a word has. -/
def bl (x : Int) : Int := (L x.toNat : Int)
/-- n bits are what x wants. -/
def Bl (x : Int) (n : Nat) : Prop := x < 2 ^ n ∧ (n = 0 ∨ (2 : Int) ^ (n - 1) ≤ x)
theorem bl_spec {x : Int} (h : U x) : ∃ n : Nat, bl x = n ∧ n ≤ 32 ∧ Bl x n := by
  unfold U at h
  have e : ∀ k : Nat, ((2 ^ k : Nat) : Int) = (2 : Int) ^ k := fun k => by rw [Int.natCast_pow]; rfl
  refine ⟨L x.toNat, rfl, L_le (by omega), ?_⟩
  unfold Bl
  rw [← e, ← e]
  unfold L
  by_cases c : x.toNat = 0
  · rw [if_pos c]
    exact ⟨by omega, .inl rfl⟩
  · rw [if_neg c]
    have h1 := (Nat.log2_lt (n := x.toNat) (k := x.toNat.log2 + 1) c).1 (by omega)
    have h2 := Nat.log2_self_le c
    rw [show x.toNat.log2 + 1 - 1 = x.toNat.log2 by omega]
    exact ⟨by omega, .inr (by omega)⟩
theorem lenI {x : Int} (h : U x) : bits_Len32.f x = some (bl x) := by
  obtain ⟨X, rfl⟩ := b_of' h
  rw [len_is]
  rfl
/-- the least power of two less 1 that is not below. -/
def cap (x : Int) : Int := 2 ^ (bl x).toNat - 1
theorem pow_le {m n : Nat} (h : m ≤ n) : (2 : Int) ^ m ≤ 2 ^ n := by
  have := Nat.pow_le_pow_right (n := 2) (by decide) h
  have e : ∀ k : Nat, ((2 ^ k : Nat) : Int) = (2 : Int) ^ k := fun k => by rw [Int.natCast_pow]; rfl
  rw [← e, ← e]
  omega
theorem pow_32 {n : Nat} (h : n ≤ 32) : 1 ≤ (2 : Int) ^ n ∧ (2 : Int) ^ n ≤ 4294967296 := ⟨pow_le (Nat.zero_le n), pow_le h⟩
theorem cap_ge {x : Int} (h : U x) : x ≤ cap x ∧ cap x ≤ 4294967295 ∧ 0 ≤ cap x := by
  obtain ⟨n, e, l, s⟩ := bl_spec h
  unfold cap
  rw [e, Int.toNat_natCast]
  have p := pow_32 l
  have q := s.1
  omega
theorem cap_mono {x y : Int} (hx : U x) (hy : U y) (h : x ≤ y) : cap x ≤ cap y := by
  obtain ⟨n, e, l, s⟩ := bl_spec hx
  obtain ⟨m, f, _, t⟩ := bl_spec hy
  unfold cap
  rw [e, f, Int.toNat_natCast, Int.toNat_natCast]
  by_cases g : n ≤ m
  · have := pow_le g
    omega
  · rcases s.2 with z | z
    · omega
    · have := pow_le (by omega : m ≤ n - 1)
      have := t.1
      omega
theorem upto_is {x : Int} (h : U x) : interval_upto.f x = some (cap x) := by
  obtain ⟨n, e, l, s⟩ := bl_spec h
  unfold interval_upto.f cap
  rw [lenI h]
  simp only [Option.bind_some]
  rw [e, lt_f (by omega), br_f, Int.toNat_natCast]
  unfold X.shl
  have p := pow_32 l
  have q : min n IntKind.u32.bits = n := Nat.min_eq_left l
  rw [Int.toNat_natCast, q, Int.one_mul, IntKind.wrap_u32', IntKind.wrap_u32']
  generalize (2 : Int) ^ n = q at *
  congr 1
  omega
theorem umax {a b : Int} (h1 : U a) (h2 : U b) : U (max a b) := by unfold U at *; omega
/-- a comparison's range. -/
def yesS (a b : Prop) [Decidable a] [Decidable b] : Int × Int := if a then (1, 1) else if b then (0, 0) else (0, 1)
theorem yesI (a b : Bool) : interval_yes.f a b = some (yesS (a = true) (b = true)) := by
  cases a <;> cases b <;> rfl
theorem yesD (a b : Prop) [Decidable a] [Decidable b] : interval_yes.f (decide a) (decide b) = some (yesS a b) := by
  unfold interval_yes.f yesS
  by_cases p : a <;> by_cases q : b <;> simp [p, q, br, interval_One.f]
def sgl (al ah : Int) : Int := if ah < 2147483648 ∨ al ≥ 2147483648 then sg al else -2147483648
def sgh (al ah : Int) : Int := if ah < 2147483648 ∨ al ≥ 2147483648 then sg ah else 2147483647
/-- a word moved to the right. -/
def sr (x y : Int) : Int := x / 2 ^ min y.toNat 32
/-- A range that may be, of words. -/
structure V (lo hi : Int) : Prop where
  l : 0 ≤ lo
  o : lo ≤ hi
  h : hi ≤ 4294967295
theorem V.ul {a b : Int} (v : V a b) : U a := ⟨v.l, Int.le_trans v.o v.h⟩
theorem V.uh {a b : Int} (v : V a b) : U b := ⟨Int.le_trans v.l v.o, v.h⟩
def sureS (r : Int × Int) : Int × Int × Bool := (r.1, r.2, true)
def divS (al ah bl bh : Int) : Int × Int × Bool := if bh = 0 then (0, 0, false) else (al / bh, ah / max 1 bl, true)
def remS (al ah bl bh : Int) : Int × Int × Bool := if bh = 0 then (0, 0, false) else if ah < max 1 bl then (al, ah, true) else (0, min ah (bh - 1), true)
def plainS (g : Int → Int → Int → Int → Int × Int × Bool) (al ah bl bh : Int) : Int × Int × Bool := if bh = 0 then (0, 0, false) else if ah ≥ 2147483648 then (0, 4294967295, true) else if bh ≥ 2147483648 then (0, 4294967295, true) else g al ah bl bh
def addS (al ah bl bh : Int) : Int × Int := if (al + bl) / 4294967296 = (ah + bh) / 4294967296 then ((al + bl) % 4294967296, (ah + bh) % 4294967296) else (0, 4294967295)
def subS (al ah bl bh : Int) : Int × Int := if (decide (al < bh)) = (decide (ah < bl)) then ((al - bh) % 4294967296, (ah - bl) % 4294967296) else (0, 4294967295)
def mulS (al ah bl bh : Int) : Int × Int := if ah * bh < 4294967296 then ((al * bl) % 4294967296, (ah * bh) % 4294967296) else (0, 4294967295)
def shlS (al ah bl bh : Int) : Int × Int := if bl ≥ 32 then (0, 0) else if bl = bh ∧ ah * 2 ^ bl.toNat < 4294967296 then (al * 2 ^ bl.toNat, ah * 2 ^ bl.toNat) else (0, 4294967295)
def sarS (al ah bl bh : Int) : Int × Int := if ah ≥ 2147483648 then (0, 4294967295) else (sr al bh, sr ah bl)
/-- What an operator makes of two ranges that may be. -/
def doS (op al ah bl bh : Int) : Int × Int × Bool :=
  if op = 1 then sureS (addS al ah bl bh) else if op = 2 then sureS (subS al ah bl bh) else if op = 3 then sureS (mulS al ah bl bh) else if op = 4 then divS al ah bl bh else if op = 5 then remS al ah bl bh
  else if op = 6 then plainS divS al ah bl bh else if op = 7 then plainS remS al ah bl bh else if op = 8 then (0, min ah bh, true) else if op = 9 then (max al bl, cap (max ah bh), true) else if op = 10 then (0, cap (max ah bh), true)
  else if op = 11 then sureS (shlS al ah bl bh) else if op = 12 then (sr al bh, sr ah bl, true) else if op = 13 then sureS (sarS al ah bl bh) else if op = 14 then sureS (yesS (al = ah ∧ al = bl ∧ ah = bh) (ah < bl ∨ bh < al)) else if op = 15 then sureS (yesS (ah < bl ∨ bh < al) (al = ah ∧ al = bl ∧ ah = bh))
  else if op = 16 then sureS (yesS (ah < bl) (al ≥ bh)) else if op = 17 then sureS (yesS (ah ≤ bl) (al > bh)) else if op = 18 then sureS (yesS (sgh al ah < sgl bl bh) (sgl al ah ≥ sgh bl bh)) else sureS (yesS (sgh al ah ≤ sgl bl bh) (sgl al ah > sgh bl bh))
/-- What an operator of one word makes. -/
def unS (op al ah : Int) : Int × Int := if op = 1 then (if ah = 0 then (0, 0) else if al > 0 then (4294967296 - ah, 4294967296 - al) else (0, 4294967295)) else if op = 2 then (4294967295 - ah, 4294967295 - al) else yesS (ah = 0) (al > 0)
/-- What an operator makes of two words. -/
def wd (op p q : Int) : Int :=
  if op = 1 then (p + q) % 4294967296 else if op = 2 then (p - q) % 4294967296 else if op = 3 then (p * q) % 4294967296 else if op = 4 then p / q else if op = 5 then p % q
  else if op = 6 then (IntKind.i64.wrap (Int.tdiv (sg p) (sg q))) % 4294967296 else if op = 7 then (Int.tmod (sg p) (sg q)) % 4294967296 else if op = 8 then Go.bits .and .u32 p q else if op = 9 then Go.bits .or .u32 p q else if op = 10 then Go.bits .xor .u32 p q
  else if op = 11 then (if q > 31 then 0 else shl .u32 p q) else if op = 12 then (if q > 31 then 0 else shr .u32 p q) else if op = 13 then (sg p / 2 ^ (min q 32).toNat) % 4294967296
  else if op = 14 then (if p = q then 1 else 0) else if op = 15 then (if p = q then 0 else 1) else if op = 16 then (if p < q then 1 else 0) else if op = 17 then (if p ≤ q then 1 else 0) else if op = 18 then (if sg p < sg q then 1 else 0) else (if sg p ≤ sg q then 1 else 0)
/-- x lies in r. -/
def In (x : Int) (r : Int × Int × Bool) : Prop := r.1 ≤ x ∧ x ≤ r.2.1 ∧ r.2.2 = true
theorem ediv_mono {a b c d : Int} (h0 : 0 ≤ a) (h : a ≤ b) (hd : 0 < d) (hc : d ≤ c) : a / c ≤ b / d := by
  rw [Int.le_ediv_iff_mul_le hd]
  have h1 : a / c * d ≤ a / c * c := Int.mul_le_mul_of_nonneg_left hc (Int.ediv_nonneg h0 (by omega))
  have h2 : a / c * c ≤ a := Int.ediv_mul_le a (by omega)
  omega
theorem s_add {al ah bl bh p q : Int} (va : V al ah) (vb : V bl bh) (p0 : al ≤ p) (p1 : p ≤ ah) (q0 : bl ≤ q) (q1 : q ≤ bh) : In (wd 1 p q) (doS 1 al ah bl bh) := by
  obtain ⟨a1, a2, a3⟩ := va
  obtain ⟨b1, b2, b3⟩ := vb
  show In ((p + q) % 4294967296) (sureS (addS al ah bl bh))
  unfold addS
  split
  · exact ⟨by simp only [sureS]; omega, by simp only [sureS]; omega, rfl⟩
  · exact ⟨by simp only [sureS]; omega, by simp only [sureS]; omega, rfl⟩
theorem s_sub {al ah bl bh p q : Int} (va : V al ah) (vb : V bl bh) (p0 : al ≤ p) (p1 : p ≤ ah) (q0 : bl ≤ q) (q1 : q ≤ bh) : In (wd 2 p q) (doS 2 al ah bl bh) := by
  obtain ⟨a1, a2, a3⟩ := va
  obtain ⟨b1, b2, b3⟩ := vb
  show In ((p - q) % 4294967296) (sureS (subS al ah bl bh))
  unfold subS
  split
  · rename_i e
    have e2 : al < bh ↔ ah < bl := by
      constructor
      · intro h; rw [decide_eq_true h] at e; exact of_decide_eq_true e.symm
      · intro h; rw [decide_eq_true h] at e; exact of_decide_eq_true e
    exact ⟨by simp only [sureS]; omega, by simp only [sureS]; omega, rfl⟩
  · exact ⟨by simp only [sureS]; omega, by simp only [sureS]; omega, rfl⟩
theorem s_mul {al ah bl bh p q : Int} (va : V al ah) (vb : V bl bh) (p0 : al ≤ p) (p1 : p ≤ ah) (q0 : bl ≤ q) (q1 : q ≤ bh) : In (wd 3 p q) (doS 3 al ah bl bh) := by
  obtain ⟨a1, a2, a3⟩ := va
  obtain ⟨b1, b2, b3⟩ := vb
  show In ((p * q) % 4294967296) (sureS (mulS al ah bl bh))
  unfold mulS
  have h1 : p * q ≤ ah * bh := Int.mul_le_mul p1 q1 (by omega) (by omega)
  have h2 : al * bl ≤ p * q := Int.mul_le_mul p0 q0 b1 (by omega)
  have h3 : 0 ≤ al * bl := Int.mul_nonneg a1 b1
  split
  · refine ⟨?_, ?_, rfl⟩ <;> simp only [sureS]
    · rw [Int.emod_eq_of_lt h3 (by omega), Int.emod_eq_of_lt (by omega) (by omega)]; exact h2
    · rw [Int.emod_eq_of_lt (by omega) (by omega), Int.emod_eq_of_lt (by omega) (by omega)]; exact h1
  · exact ⟨by simp only [sureS]; omega, by simp only [sureS]; omega, rfl⟩
theorem in_div {al ah bl bh p q : Int} (va : V al ah) (vb : V bl bh) (p0 : al ≤ p) (p1 : p ≤ ah) (q0 : bl ≤ q) (q1 : q ≤ bh) (hq : q ≠ 0) : In (p / q) (divS al ah bl bh) := by
  obtain ⟨a1, a2, a3⟩ := va
  obtain ⟨b1, b2, b3⟩ := vb
  unfold divS
  rw [if_neg (by omega)]
  exact ⟨ediv_mono a1 p0 (by omega) q1, ediv_mono (by omega) p1 (by omega) (by omega), rfl⟩
theorem in_rem {al ah bl bh p q : Int} (va : V al ah) (vb : V bl bh) (p0 : al ≤ p) (p1 : p ≤ ah) (q0 : bl ≤ q) (q1 : q ≤ bh) (hq : q ≠ 0) : In (p % q) (remS al ah bl bh) := by
  obtain ⟨a1, a2, a3⟩ := va
  obtain ⟨b1, b2, b3⟩ := vb
  unfold remS
  rw [if_neg (by omega)]
  have m0 := Int.emod_nonneg p hq
  have m1 := Int.emod_lt_of_pos p (by omega : 0 < q)
  have m2 : p % q ≤ p := by
    have := Int.mul_ediv_add_emod p q
    have := Int.mul_nonneg (by omega : 0 ≤ q) (Int.ediv_nonneg (by omega : 0 ≤ p) (by omega : 0 ≤ q))
    omega
  split
  · rw [Int.emod_eq_of_lt (by omega) (by omega)]
    exact ⟨p0, p1, rfl⟩
  · exact ⟨m0, by show p % q ≤ min ah (bh - 1); omega, rfl⟩
theorem sg_small {x : Int} (h : x < 2147483648) : sg x = x := by unfold sg; rw [if_pos h]
theorem sg_U {x : Int} (h : U x) : -2147483648 ≤ sg x ∧ sg x ≤ 2147483647 := by unfold U at h; unfold sg; split <;> omega
theorem s_plain {g : Int → Int → Int → Int → Int × Int × Bool} {al ah bl bh q v : Int} (vb : V bl bh) (q1 : q ≤ bh) (q0 : bl ≤ q) (hq : q ≠ 0) (hv : U v) (h : ah < 2147483648 → bh < 2147483648 → In v (g al ah bl bh)) : In v (plainS g al ah bl bh) := by
  obtain ⟨b1, b2, b3⟩ := vb
  unfold plainS
  rw [if_neg (by omega)]
  split
  · exact ⟨hv.1, hv.2, rfl⟩
  · split
    · exact ⟨hv.1, hv.2, rfl⟩
    · exact h (by omega) (by omega)
theorem modU (x : Int) : U (x % 4294967296) := ⟨by omega, by omega⟩
theorem s_divs {al ah bl bh p q : Int} (va : V al ah) (vb : V bl bh) (p0 : al ≤ p) (p1 : p ≤ ah) (q0 : bl ≤ q) (q1 : q ≤ bh) (hq : q ≠ 0) : In (wd 6 p q) (doS 6 al ah bl bh) := by
  refine s_plain vb q1 q0 hq (modU _) fun h1 h2 => ?_
  have z := in_div va vb p0 p1 q0 q1 hq
  obtain ⟨a1, a2, a3⟩ := va
  obtain ⟨b1, b2, b3⟩ := vb
  show In ((IntKind.i64.wrap (Int.tdiv (sg p) (sg q))) % 4294967296) _
  have u := div_le (a := p) (b := q) ⟨by omega, by omega⟩ (by omega)
  unfold U at u
  rw [sg_small (by omega), sg_small (by omega), Int.tdiv_eq_ediv_of_nonneg (by omega), show IntKind.i64.wrap (p / q) = p / q by rw [IntKind.wrap_i64]; omega, Int.emod_eq_of_lt u.1 (by omega)]
  exact z
theorem s_rems {al ah bl bh p q : Int} (va : V al ah) (vb : V bl bh) (p0 : al ≤ p) (p1 : p ≤ ah) (q0 : bl ≤ q) (q1 : q ≤ bh) (hq : q ≠ 0) : In (wd 7 p q) (doS 7 al ah bl bh) := by
  refine s_plain vb q1 q0 hq (modU _) fun h1 h2 => ?_
  have z := in_rem va vb p0 p1 q0 q1 hq
  obtain ⟨a1, a2, a3⟩ := va
  obtain ⟨b1, b2, b3⟩ := vb
  show In ((Int.tmod (sg p) (sg q)) % 4294967296) _
  have m0 := Int.emod_nonneg p hq
  have m1 := Int.emod_lt_of_pos p (by omega : 0 < q)
  rw [sg_small (by omega), sg_small (by omega), Int.tmod_eq_emod_of_nonneg (by omega), Int.emod_eq_of_lt m0 (by omega)]
  exact z
theorem s_and {al ah bl bh p q : Int} (va : V al ah) (vb : V bl bh) (p0 : al ≤ p) (p1 : p ≤ ah) (q0 : bl ≤ q) (q1 : q ≤ bh) : In (wd 8 p q) (doS 8 al ah bl bh) := by
  obtain ⟨a1, a2, a3⟩ := va
  obtain ⟨b1, b2, b3⟩ := vb
  show In (Go.bits .and .u32 p q) (0, min ah bh, true)
  rw [u32_and p q (by omega) (by omega) (by omega) (by omega)]
  have h1 := Nat.and_le_left (n := p.toNat) (m := q.toNat)
  have h2 := Nat.and_le_right (n := p.toNat) (m := q.toNat)
  exact ⟨by simp only; omega, by simp only; omega, rfl⟩
theorem lt_cap {x y : Int} (hx : 0 ≤ x) (hy : U y) (h : x ≤ y) : ∃ n : Nat, cap y = 2 ^ n - 1 ∧ x.toNat < 2 ^ n := by
  obtain ⟨n, e, l, s⟩ := bl_spec hy
  refine ⟨n, by unfold cap; rw [e, Int.toNat_natCast], ?_⟩
  have := s.1
  have e : ((2 ^ n : Nat) : Int) = (2 : Int) ^ n := by rw [Int.natCast_pow]; rfl
  omega
theorem s_or {al ah bl bh p q : Int} (va : V al ah) (vb : V bl bh) (p0 : al ≤ p) (p1 : p ≤ ah) (q0 : bl ≤ q) (q1 : q ≤ bh) : In (wd 9 p q) (doS 9 al ah bl bh) := by
  obtain ⟨a1, a2, a3⟩ := va
  obtain ⟨b1, b2, b3⟩ := vb
  show In (Go.bits .or .u32 p q) (max al bl, cap (max ah bh), true)
  rw [u32_or p q (by omega) (by omega) (by omega) (by omega)]
  have h1 := Nat.left_le_or (n := p.toNat) (m := q.toNat)
  have h2 := Nat.right_le_or (n := p.toNat) (m := q.toNat)
  have um : U (max ah bh) := ⟨by omega, by omega⟩
  obtain ⟨n, e, l⟩ := lt_cap (x := max p q) (by omega) um (by omega)
  have h3 := Nat.or_lt_two_pow (x := p.toNat) (y := q.toNat) (n := n) (by omega) (by omega)
  have e2 : ((2 ^ n : Nat) : Int) = (2 : Int) ^ n := by rw [Int.natCast_pow]; rfl
  exact ⟨by simp only; omega, by simp only; omega, rfl⟩
theorem s_xor {al ah bl bh p q : Int} (va : V al ah) (vb : V bl bh) (p0 : al ≤ p) (p1 : p ≤ ah) (q0 : bl ≤ q) (q1 : q ≤ bh) : In (wd 10 p q) (doS 10 al ah bl bh) := by
  obtain ⟨a1, a2, a3⟩ := va
  obtain ⟨b1, b2, b3⟩ := vb
  show In (Go.bits .xor .u32 p q) (0, cap (max ah bh), true)
  rw [u32_xor p q (by omega) (by omega) (by omega) (by omega)]
  have um : U (max ah bh) := ⟨by omega, by omega⟩
  obtain ⟨n, e, l⟩ := lt_cap (x := max p q) (by omega) um (by omega)
  have h3 := Nat.xor_lt_two_pow (x := p.toNat) (y := q.toNat) (n := n) (by omega) (by omega)
  have e2 : ((2 ^ n : Nat) : Int) = (2 : Int) ^ n := by rw [Int.natCast_pow]; rfl
  exact ⟨by simp only; omega, by simp only; omega, rfl⟩
theorem s_shl {al ah bl bh p q : Int} (va : V al ah) (vb : V bl bh) (p0 : al ≤ p) (p1 : p ≤ ah) (q0 : bl ≤ q) (q1 : q ≤ bh) : In (wd 11 p q) (doS 11 al ah bl bh) := by
  obtain ⟨a1, a2, a3⟩ := va
  obtain ⟨b1, b2, b3⟩ := vb
  show In (if q > 31 then 0 else shl .u32 p q) (sureS (shlS al ah bl bh))
  have hU : U (if q > 31 then 0 else shl .u32 p q) := by
    split
    · exact ⟨by omega, by omega⟩
    · unfold shl; rw [IntKind.wrap_u32]; exact modU _
  unfold shlS
  by_cases g : bl ≥ 32
  · rw [if_pos g, if_pos (by omega)]
    exact ⟨Int.le_refl _, Int.le_refl _, rfl⟩
  · rw [if_neg g]
    by_cases h : bl = bh ∧ ah * 2 ^ bl.toNat < 4294967296
    · rw [if_pos h]
      obtain ⟨e, h⟩ := h
      obtain rfl : q = bl := by omega
      rw [if_neg (by omega)]
      have w := pow_32 (n := q.toNat) (by omega)
      have y1 := Int.mul_le_mul_of_nonneg_right p1 (by omega : (0 : Int) ≤ 2 ^ q.toNat)
      have y0 := Int.mul_le_mul_of_nonneg_right p0 (by omega : (0 : Int) ≤ 2 ^ q.toNat)
      have y2 := Int.mul_nonneg a1 (by omega : (0 : Int) ≤ 2 ^ q.toNat)
      have f : shl .u32 p q = p * 2 ^ q.toNat := by
        unfold shl
        have z : min q.toNat IntKind.u32.bits = q.toNat := Nat.min_eq_left (by show q.toNat ≤ 32; omega)
        rw [z, IntKind.wrap_u32, Int.emod_eq_of_lt (by omega) (by omega)]
      rw [f]
      exact ⟨y0, y1, rfl⟩
    · rw [if_neg h]
      exact ⟨hU.1, hU.2, rfl⟩
theorem in_shr {al ah bl bh p q : Int} (va : V al ah) (vb : V bl bh) (p0 : al ≤ p) (p1 : p ≤ ah) (q0 : bl ≤ q) (q1 : q ≤ bh) : sr al bh ≤ sr p q ∧ sr p q ≤ sr ah bl := by
  obtain ⟨a1, a2, a3⟩ := va
  obtain ⟨b1, b2, b3⟩ := vb
  have k1 : min q.toNat 32 ≤ min bh.toNat 32 := by omega
  have k2 : min bl.toNat 32 ≤ min q.toNat 32 := by omega
  have w1 := pow_le (Nat.zero_le (min q.toNat 32))
  have w2 := pow_le (Nat.zero_le (min bl.toNat 32))
  exact ⟨ediv_mono a1 p0 (by omega) (pow_le k1), ediv_mono (by omega) p1 (by omega) (pow_le k2)⟩
theorem sr_big {p q : Int} (h : U p) (hq : q > 31) : sr p q = 0 := by
  unfold U at h
  unfold sr
  rw [Nat.min_eq_right (by omega)]
  exact Int.ediv_eq_zero_of_lt h.1 (by show p < 4294967296; omega)
theorem shr_sr (p q : Int) : X.shr .u32 p q = sr p q := by
  unfold X.shr sr
  rw [Int.fdiv_eq_ediv_of_nonneg _ (Int.le_of_lt (Int.pow_pos (by decide)))]
  rfl
theorem s_shr {al ah bl bh p q : Int} (va : V al ah) (vb : V bl bh) (p0 : al ≤ p) (p1 : p ≤ ah) (q0 : bl ≤ q) (q1 : q ≤ bh) : In (wd 12 p q) (doS 12 al ah bl bh) := by
  have z := in_shr va vb p0 p1 q0 q1
  obtain ⟨a1, a2, a3⟩ := va
  show In (if q > 31 then 0 else shr .u32 p q) (sr al bh, sr ah bl, true)
  split
  · rename_i h
    rw [sr_big ⟨by omega, by omega⟩ h] at z
    exact ⟨z.1, z.2, rfl⟩
  · rw [shr_sr]
    exact ⟨z.1, z.2, rfl⟩
theorem s_sar {al ah bl bh p q : Int} (va : V al ah) (vb : V bl bh) (p0 : al ≤ p) (p1 : p ≤ ah) (q0 : bl ≤ q) (q1 : q ≤ bh) : In (wd 13 p q) (doS 13 al ah bl bh) := by
  have z := in_shr va vb p0 p1 q0 q1
  obtain ⟨a1, a2, a3⟩ := va
  show In ((sg p / 2 ^ (min q 32).toNat) % 4294967296) (sureS (sarS al ah bl bh))
  have hU := modU (sg p / 2 ^ (min q 32).toNat)
  unfold sarS
  split
  · exact ⟨hU.1, hU.2, rfl⟩
  · have b1 := vb.l
    rw [sg_small (by omega), show (min q 32).toNat = min q.toNat 32 by omega]
    have w := pow_le (Nat.zero_le (min q.toNat 32))
    have u := div_le (a := p) (b := 2 ^ min q.toNat 32) ⟨by omega, by omega⟩ (by omega)
    unfold U at u
    rw [Int.emod_eq_of_lt u.1 (by omega)]
    exact ⟨z.1, z.2, rfl⟩
theorem s_yes {a b c : Prop} [Decidable a] [Decidable b] [Decidable c] (h1 : a → c) (h2 : b → ¬ c) : In (if c then 1 else 0) (sureS (yesS a b)) := by
  unfold yesS
  by_cases p : a
  · rw [if_pos p, if_pos (h1 p)]
    exact ⟨Int.le_refl _, Int.le_refl _, rfl⟩
  · rw [if_neg p]
    by_cases q : b
    · rw [if_pos q, if_neg (h2 q)]
      exact ⟨Int.le_refl _, Int.le_refl _, rfl⟩
    · rw [if_neg q]
      split
      · exact ⟨by decide, by decide, rfl⟩
      · exact ⟨by decide, by decide, rfl⟩
theorem in_sg {al ah p : Int} (va : V al ah) (p0 : al ≤ p) (p1 : p ≤ ah) : sgl al ah ≤ sg p ∧ sg p ≤ sgh al ah := by
  obtain ⟨a1, a2, a3⟩ := va
  unfold sgl sgh sg
  repeat' split
  all_goals omega
theorem sound {op al ah bl bh p q : Int} (h1 : 1 ≤ op) (h2 : op ≤ 19) (va : V al ah) (vb : V bl bh) (p0 : al ≤ p) (p1 : p ≤ ah) (q0 : bl ≤ q) (q1 : q ≤ bh) (hq : ¬ (4 ≤ op ∧ op ≤ 7 ∧ q = 0)) : In (wd op p q) (doS op al ah bl bh) := by
  have e : op = 1 ∨ op = 2 ∨ op = 3 ∨ op = 4 ∨ op = 5 ∨ op = 6 ∨ op = 7 ∨ op = 8 ∨ op = 9 ∨ op = 10 ∨ op = 11 ∨ op = 12 ∨ op = 13 ∨ op = 14 ∨ op = 15 ∨ op = 16 ∨ op = 17 ∨ op = 18 ∨ op = 19 := by omega
  have ga := in_sg va p0 p1
  have gb := in_sg vb q0 q1
  rcases e with rfl | rfl | rfl | rfl | rfl | rfl | rfl | rfl | rfl | rfl | rfl | rfl | rfl | rfl | rfl | rfl | rfl | rfl | rfl
  · exact s_add va vb p0 p1 q0 q1
  · exact s_sub va vb p0 p1 q0 q1
  · exact s_mul va vb p0 p1 q0 q1
  · exact in_div va vb p0 p1 q0 q1 (by omega)
  · exact in_rem va vb p0 p1 q0 q1 (by omega)
  · exact s_divs va vb p0 p1 q0 q1 (by omega)
  · exact s_rems va vb p0 p1 q0 q1 (by omega)
  · exact s_and va vb p0 p1 q0 q1
  · exact s_or va vb p0 p1 q0 q1
  · exact s_xor va vb p0 p1 q0 q1
  · exact s_shl va vb p0 p1 q0 q1
  · exact s_shr va vb p0 p1 q0 q1
  · exact s_sar va vb p0 p1 q0 q1
  · show In (if p = q then 1 else 0) (sureS (yesS (al = ah ∧ al = bl ∧ ah = bh) (ah < bl ∨ bh < al)))
    exact s_yes (by omega) (by omega)
  · show In (if p = q then 0 else 1) (sureS (yesS (ah < bl ∨ bh < al) (al = ah ∧ al = bl ∧ ah = bh)))
    have := s_yes (a := ah < bl ∨ bh < al) (b := al = ah ∧ al = bl ∧ ah = bh) (c := ¬ p = q) (by omega) (by omega)
    simp only [ite_not] at this
    exact this
  · show In (if p < q then 1 else 0) (sureS (yesS (ah < bl) (al ≥ bh)))
    exact s_yes (by omega) (by omega)
  · show In (if p ≤ q then 1 else 0) (sureS (yesS (ah ≤ bl) (al > bh)))
    exact s_yes (by omega) (by omega)
  · show In (if sg p < sg q then 1 else 0) (sureS (yesS (sgh al ah < sgl bl bh) (sgl al ah ≥ sgh bl bh)))
    exact s_yes (by omega) (by omega)
  · show In (if sg p ≤ sg q then 1 else 0) (sureS (yesS (sgh al ah ≤ sgl bl bh) (sgl al ah > sgh bl bh)))
    exact s_yes (by omega) (by omega)
theorem V.yes (a b : Prop) [Decidable a] [Decidable b] : V (yesS a b).1 (yesS a b).2 := by
  unfold yesS
  repeat' split
  all_goals exact ⟨by decide, by decide, by decide⟩
theorem V.all : V 0 4294967295 := ⟨by decide, by decide, by decide⟩
theorem V.none : V 0 0 := ⟨by decide, by decide, by decide⟩
theorem V.div {al ah bl bh : Int} (va : V al ah) (vb : V bl bh) : V (divS al ah bl bh).1 (divS al ah bl bh).2.1 := by
  obtain ⟨a1, a2, a3⟩ := va
  obtain ⟨b1, b2, b3⟩ := vb
  unfold divS
  by_cases h : bh = 0
  · rw [if_pos h]; exact V.none
  · rw [if_neg h]
    exact ⟨Int.ediv_nonneg a1 (by omega), ediv_mono a1 a2 (by omega) (by omega), Int.le_trans (Int.ediv_le_self _ (by omega)) a3⟩
theorem V.rem {al ah bl bh : Int} (va : V al ah) (vb : V bl bh) : V (remS al ah bl bh).1 (remS al ah bl bh).2.1 := by
  obtain ⟨a1, a2, a3⟩ := va
  obtain ⟨b1, b2, b3⟩ := vb
  unfold remS
  by_cases h : bh = 0
  · rw [if_pos h]; exact V.none
  · rw [if_neg h]
    split
    · exact ⟨a1, a2, a3⟩
    · exact ⟨Int.le_refl _, by simp only; omega, by simp only; omega⟩
theorem V.plain {g : Int → Int → Int → Int → Int × Int × Bool} {al ah bl bh : Int} (h : V (g al ah bl bh).1 (g al ah bl bh).2.1) : V (plainS g al ah bl bh).1 (plainS g al ah bl bh).2.1 := by
  unfold plainS
  repeat' split
  · exact V.none
  · exact V.all
  · exact V.all
  · exact h
theorem sr_le {x y : Int} (h : U x) : U (sr x y) := by
  have w := pow_le (Nat.zero_le (min y.toNat 32))
  exact div_le h (by omega)
theorem V.ado {op al ah bl bh : Int} (h1 : 1 ≤ op) (h2 : op ≤ 19) (va : V al ah) (vb : V bl bh) : V (doS op al ah bl bh).1 (doS op al ah bl bh).2.1 := by
  have e : op = 1 ∨ op = 2 ∨ op = 3 ∨ op = 4 ∨ op = 5 ∨ op = 6 ∨ op = 7 ∨ op = 8 ∨ op = 9 ∨ op = 10 ∨ op = 11 ∨ op = 12 ∨ op = 13 ∨ op = 14 ∨ op = 15 ∨ op = 16 ∨ op = 17 ∨ op = 18 ∨ op = 19 := by omega
  have sh := in_shr va vb (Int.le_refl al) va.o vb.o (Int.le_refl bh)
  obtain ⟨a1, a2, a3⟩ := id va
  obtain ⟨b1, b2, b3⟩ := id vb
  have um : U (max ah bh) := ⟨by omega, by omega⟩
  have cg := cap_ge um
  rcases e with rfl | rfl | rfl | rfl | rfl | rfl | rfl | rfl | rfl | rfl | rfl | rfl | rfl | rfl | rfl | rfl | rfl | rfl | rfl
  · show V (addS al ah bl bh).1 (addS al ah bl bh).2
    unfold addS
    split
    · exact ⟨by simp only; omega, by simp only; omega, by simp only; omega⟩
    · exact V.all
  · have z := s_sub va vb (Int.le_refl al) va.o vb.o (Int.le_refl bh)
    show V (subS al ah bl bh).1 (subS al ah bl bh).2
    refine ⟨?_, Int.le_trans z.1 z.2.1, ?_⟩ <;> unfold subS <;> split <;> simp only <;> omega
  · have z := s_mul va vb (Int.le_refl al) va.o (Int.le_refl bl) vb.o
    show V (mulS al ah bl bh).1 (mulS al ah bl bh).2
    refine ⟨?_, Int.le_trans z.1 z.2.1, ?_⟩
    · unfold mulS
      split
      · exact (modU _).1
      · decide
    · unfold mulS
      split
      · exact (modU _).2
      · decide
  · exact V.div va vb
  · exact V.rem va vb
  · exact V.plain (V.div va vb)
  · exact V.plain (V.rem va vb)
  · exact ⟨Int.le_refl _, by show 0 ≤ min ah bh; omega, by show min ah bh ≤ 4294967295; omega⟩
  · exact ⟨by show 0 ≤ max al bl; omega, by show max al bl ≤ cap (max ah bh); omega, cg.2.1⟩
  · exact ⟨Int.le_refl _, cg.2.2, cg.2.1⟩
  · have z := s_shl va vb (Int.le_refl al) va.o (Int.le_refl bl) vb.o
    show V (shlS al ah bl bh).1 (shlS al ah bl bh).2
    refine ⟨?_, Int.le_trans z.1 z.2.1, ?_⟩
    · unfold shlS
      by_cases g : bl ≥ 32
      · rw [if_pos g]; decide
      · rw [if_neg g]
        have w := pow_32 (n := bl.toNat) (by omega)
        split
        · exact Int.mul_nonneg a1 (by omega)
        · decide
    · unfold shlS
      by_cases g : bl ≥ 32
      · rw [if_pos g]; decide
      · rw [if_neg g]
        split
        · rename_i h; have := h.2; show ah * 2 ^ bl.toNat ≤ 4294967295; omega
        · decide
  · exact ⟨(sr_le va.ul).1, Int.le_trans sh.1 sh.2, (sr_le va.uh).2⟩
  · show V (sarS al ah bl bh).1 (sarS al ah bl bh).2
    unfold sarS
    split
    · exact V.all
    · exact ⟨(sr_le va.ul).1, Int.le_trans sh.1 sh.2, (sr_le va.uh).2⟩
  · exact V.yes _ _
  · exact V.yes _ _
  · exact V.yes _ _
  · exact V.yes _ _
  · exact V.yes _ _
  · exact V.yes _ _
def dn (x : Int) : Int := if 4294967295 ≤ x then 4294967295 else if 2147483648 ≤ x then 2147483648 else if 2147483647 ≤ x then 2147483647 else if 65536 ≤ x then 65536 else if 65535 ≤ x then 65535 else if 256 ≤ x then 256 else if 255 ≤ x then 255 else if 1 ≤ x then 1 else 0
def up (x : Int) : Int := if 0 ≥ x then 0 else if 1 ≥ x then 1 else if 255 ≥ x then 255 else if 256 ≥ x then 256 else if 65535 ≥ x then 65535 else if 65536 ≥ x then 65536 else if 2147483647 ≥ x then 2147483647 else if 2147483648 ≥ x then 2147483648 else 4294967295
theorem dn_le {x : Int} (h : U x) : 0 ≤ dn x ∧ dn x ≤ x := by
  unfold U at h
  unfold dn
  repeat' split
  all_goals omega
theorem le_up {x : Int} (h : U x) : x ≤ up x ∧ up x ≤ 4294967295 := by
  unfold U at h
  unfold up
  repeat' split
  all_goals omega
/-! ### The operators on ranges -/
theorem di_1 {al ah bl bh : Int} (ha : al ≤ ah) (hb : bl ≤ bh) : interval_Do.f 1 al ah bl bh = ((bits_Add32.f al bl 0).bind fun t1 => ((bits_Add32.f ah bh 0).bind fun t2 => (br (!eqI t1.2 t2.2) ((interval_All.f).bind fun t3 => some (t3.1, t3.2, true, 0)) (some (t1.1, t2.1, true, 0))))) := by
  have e : interval_Do.f 1 al ah bl bh = br (ltI ah al) (some (0, 0, false, 2)) (br (ltI bh bl) (some (0, 0, false, 2)) ((bits_Add32.f al bl 0).bind fun t1 => ((bits_Add32.f ah bh 0).bind fun t2 => (br (!eqI t1.2 t2.2) ((interval_All.f).bind fun t3 => some (t3.1, t3.2, true, 0)) (some (t1.1, t2.1, true, 0)))))) := by kernel_rfl
  rw [e, lt_f (by omega), lt_f (by omega), br_f, br_f]
theorem di_2 {al ah bl bh : Int} (ha : al ≤ ah) (hb : bl ≤ bh) : interval_Do.f 2 al ah bl bh = ((bits_Sub32.f al bh 0).bind fun t4 => ((bits_Sub32.f ah bl 0).bind fun t5 => (br (!eqI t4.2 t5.2) ((interval_All.f).bind fun t6 => some (t6.1, t6.2, true, 0)) (some (t4.1, t5.1, true, 0))))) := by
  have e : interval_Do.f 2 al ah bl bh = br (ltI ah al) (some (0, 0, false, 2)) (br (ltI bh bl) (some (0, 0, false, 2)) ((bits_Sub32.f al bh 0).bind fun t4 => ((bits_Sub32.f ah bl 0).bind fun t5 => (br (!eqI t4.2 t5.2) ((interval_All.f).bind fun t6 => some (t6.1, t6.2, true, 0)) (some (t4.1, t5.1, true, 0)))))) := by kernel_rfl
  rw [e, lt_f (by omega), lt_f (by omega), br_f, br_f]
theorem di_3 {al ah bl bh : Int} (ha : al ≤ ah) (hb : bl ≤ bh) : interval_Do.f 3 al ah bl bh = ((bits_Mul32.f ah bh).bind fun t7 => (br (!eqI t7.1 0) ((interval_All.f).bind fun t8 => some (t8.1, t8.2, true, 0)) (some ((IntKind.u32.wrap (al * bl)), (IntKind.u32.wrap (ah * bh)), true, 0)))) := by
  have e : interval_Do.f 3 al ah bl bh = br (ltI ah al) (some (0, 0, false, 2)) (br (ltI bh bl) (some (0, 0, false, 2)) ((bits_Mul32.f ah bh).bind fun t7 => (br (!eqI t7.1 0) ((interval_All.f).bind fun t8 => some (t8.1, t8.2, true, 0)) (some ((IntKind.u32.wrap (al * bl)), (IntKind.u32.wrap (ah * bh)), true, 0))))) := by kernel_rfl
  rw [e, lt_f (by omega), lt_f (by omega), br_f, br_f]
theorem di_4 {al ah bl bh : Int} (ha : al ≤ ah) (hb : bl ≤ bh) : interval_Do.f 4 al ah bl bh = ((interval_noZero.f bl bh).bind fun t9 => (br (!t9.2.2) (some (0, 0, false, 0)) (br (eqI t9.2.1 0) none (br (eqI t9.1 0) none (some ((IntKind.u32.wrap (Int.tdiv al t9.2.1)), (IntKind.u32.wrap (Int.tdiv ah t9.1)), true, 0)))))) := by
  have e : interval_Do.f 4 al ah bl bh = br (ltI ah al) (some (0, 0, false, 2)) (br (ltI bh bl) (some (0, 0, false, 2)) ((interval_noZero.f bl bh).bind fun t9 => (br (!t9.2.2) (some (0, 0, false, 0)) (br (eqI t9.2.1 0) none (br (eqI t9.1 0) none (some ((IntKind.u32.wrap (Int.tdiv al t9.2.1)), (IntKind.u32.wrap (Int.tdiv ah t9.1)), true, 0))))))) := by kernel_rfl
  rw [e, lt_f (by omega), lt_f (by omega), br_f, br_f]
theorem di_5 {al ah bl bh : Int} (ha : al ≤ ah) (hb : bl ≤ bh) : interval_Do.f 5 al ah bl bh = ((interval_noZero.f bl bh).bind fun t10 => (br (!t10.2.2) (some (0, 0, false, 0)) (br (ltI ah t10.1) (some (al, ah, true, 0)) (some (0, (if (IntKind.u32.wrap (t10.2.1 - 1)) < ah then (IntKind.u32.wrap (t10.2.1 - 1)) else ah), true, 0))))) := by
  have e : interval_Do.f 5 al ah bl bh = br (ltI ah al) (some (0, 0, false, 2)) (br (ltI bh bl) (some (0, 0, false, 2)) ((interval_noZero.f bl bh).bind fun t10 => (br (!t10.2.2) (some (0, 0, false, 0)) (br (ltI ah t10.1) (some (al, ah, true, 0)) (some (0, (if (IntKind.u32.wrap (t10.2.1 - 1)) < ah then (IntKind.u32.wrap (t10.2.1 - 1)) else ah), true, 0)))))) := by kernel_rfl
  rw [e, lt_f (by omega), lt_f (by omega), br_f, br_f]
theorem di_6 {al ah bl bh : Int} (ha : al ≤ ah) (hb : bl ≤ bh) : interval_Do.f 6 al ah bl bh = (br (eqI bh 0) (some (0, 0, false, 0)) (br (leI 2147483648 ah) ((interval_All.f).bind fun t11 => some (t11.1, t11.2, true, 0)) (br (leI 2147483648 bh) ((interval_All.f).bind fun t12 => some (t12.1, t12.2, true, 0)) ((interval_noZero.f bl bh).bind fun t13 => (br (!t13.2.2) (some (0, 0, false, 0)) (br (eqI t13.2.1 0) none (br (eqI t13.1 0) none (some ((IntKind.u32.wrap (Int.tdiv al t13.2.1)), (IntKind.u32.wrap (Int.tdiv ah t13.1)), true, 0))))))))) := by
  have e : interval_Do.f 6 al ah bl bh = br (ltI ah al) (some (0, 0, false, 2)) (br (ltI bh bl) (some (0, 0, false, 2)) (br (eqI bh 0) (some (0, 0, false, 0)) (br (leI 2147483648 ah) ((interval_All.f).bind fun t11 => some (t11.1, t11.2, true, 0)) (br (leI 2147483648 bh) ((interval_All.f).bind fun t12 => some (t12.1, t12.2, true, 0)) ((interval_noZero.f bl bh).bind fun t13 => (br (!t13.2.2) (some (0, 0, false, 0)) (br (eqI t13.2.1 0) none (br (eqI t13.1 0) none (some ((IntKind.u32.wrap (Int.tdiv al t13.2.1)), (IntKind.u32.wrap (Int.tdiv ah t13.1)), true, 0)))))))))) := by kernel_rfl
  rw [e, lt_f (by omega), lt_f (by omega), br_f, br_f]
theorem di_7 {al ah bl bh : Int} (ha : al ≤ ah) (hb : bl ≤ bh) : interval_Do.f 7 al ah bl bh = (br (eqI bh 0) (some (0, 0, false, 0)) (br (leI 2147483648 ah) ((interval_All.f).bind fun t14 => some (t14.1, t14.2, true, 0)) (br (leI 2147483648 bh) ((interval_All.f).bind fun t15 => some (t15.1, t15.2, true, 0)) ((interval_noZero.f bl bh).bind fun t16 => (br (!t16.2.2) (some (0, 0, false, 0)) (br (ltI ah t16.1) (some (al, ah, true, 0)) (some (0, (if (IntKind.u32.wrap (t16.2.1 - 1)) < ah then (IntKind.u32.wrap (t16.2.1 - 1)) else ah), true, 0)))))))) := by
  have e : interval_Do.f 7 al ah bl bh = br (ltI ah al) (some (0, 0, false, 2)) (br (ltI bh bl) (some (0, 0, false, 2)) (br (eqI bh 0) (some (0, 0, false, 0)) (br (leI 2147483648 ah) ((interval_All.f).bind fun t14 => some (t14.1, t14.2, true, 0)) (br (leI 2147483648 bh) ((interval_All.f).bind fun t15 => some (t15.1, t15.2, true, 0)) ((interval_noZero.f bl bh).bind fun t16 => (br (!t16.2.2) (some (0, 0, false, 0)) (br (ltI ah t16.1) (some (al, ah, true, 0)) (some (0, (if (IntKind.u32.wrap (t16.2.1 - 1)) < ah then (IntKind.u32.wrap (t16.2.1 - 1)) else ah), true, 0))))))))) := by kernel_rfl
  rw [e, lt_f (by omega), lt_f (by omega), br_f, br_f]
theorem di_8 {al ah bl bh : Int} (ha : al ≤ ah) (hb : bl ≤ bh) : interval_Do.f 8 al ah bl bh = (some (0, (if bh < ah then bh else ah), true, 0)) := by
  have e : interval_Do.f 8 al ah bl bh = br (ltI ah al) (some (0, 0, false, 2)) (br (ltI bh bl) (some (0, 0, false, 2)) (some (0, (if bh < ah then bh else ah), true, 0))) := by kernel_rfl
  rw [e, lt_f (by omega), lt_f (by omega), br_f, br_f]
theorem di_9 {al ah bl bh : Int} (ha : al ≤ ah) (hb : bl ≤ bh) : interval_Do.f 9 al ah bl bh = ((interval_upto.f (if bh > ah then bh else ah)).bind fun t17 => some ((if bl > al then bl else al), t17, true, 0)) := by
  have e : interval_Do.f 9 al ah bl bh = br (ltI ah al) (some (0, 0, false, 2)) (br (ltI bh bl) (some (0, 0, false, 2)) ((interval_upto.f (if bh > ah then bh else ah)).bind fun t17 => some ((if bl > al then bl else al), t17, true, 0))) := by kernel_rfl
  rw [e, lt_f (by omega), lt_f (by omega), br_f, br_f]
theorem di_10 {al ah bl bh : Int} (ha : al ≤ ah) (hb : bl ≤ bh) : interval_Do.f 10 al ah bl bh = ((interval_upto.f (if bh > ah then bh else ah)).bind fun t18 => some (0, t18, true, 0)) := by
  have e : interval_Do.f 10 al ah bl bh = br (ltI ah al) (some (0, 0, false, 2)) (br (ltI bh bl) (some (0, 0, false, 2)) ((interval_upto.f (if bh > ah then bh else ah)).bind fun t18 => some (0, t18, true, 0))) := by kernel_rfl
  rw [e, lt_f (by omega), lt_f (by omega), br_f, br_f]
theorem di_11 {al ah bl bh : Int} (ha : al ≤ ah) (hb : bl ≤ bh) : interval_Do.f 11 al ah bl bh = (br (leI 32 bl) ((interval_One.f 0).bind fun t19 => some (t19.1, t19.2, true, 0)) (br (!eqI bl bh) ((interval_All.f).bind fun t20 => some (t20.1, t20.2, true, 0)) (br (ltI bl 0) none (br (ltI 4294967295 (X.shl .u64 (IntKind.u64.wrap ah) bl)) ((interval_All.f).bind fun t21 => some (t21.1, t21.2, true, 0)) (br (ltI bl 0) none (br (ltI bl 0) none (some ((X.shl .u32 al bl), (X.shl .u32 ah bl), true, 0)))))))) := by
  have e : interval_Do.f 11 al ah bl bh = br (ltI ah al) (some (0, 0, false, 2)) (br (ltI bh bl) (some (0, 0, false, 2)) (br (leI 32 bl) ((interval_One.f 0).bind fun t19 => some (t19.1, t19.2, true, 0)) (br (!eqI bl bh) ((interval_All.f).bind fun t20 => some (t20.1, t20.2, true, 0)) (br (ltI bl 0) none (br (ltI 4294967295 (X.shl .u64 (IntKind.u64.wrap ah) bl)) ((interval_All.f).bind fun t21 => some (t21.1, t21.2, true, 0)) (br (ltI bl 0) none (br (ltI bl 0) none (some ((X.shl .u32 al bl), (X.shl .u32 ah bl), true, 0))))))))) := by kernel_rfl
  rw [e, lt_f (by omega), lt_f (by omega), br_f, br_f]
theorem di_12 {al ah bl bh : Int} (ha : al ≤ ah) (hb : bl ≤ bh) : interval_Do.f 12 al ah bl bh = (br (ltI bh 0) none (br (ltI bl 0) none (some ((X.shr .u32 al bh), (X.shr .u32 ah bl), true, 0)))) := by
  have e : interval_Do.f 12 al ah bl bh = br (ltI ah al) (some (0, 0, false, 2)) (br (ltI bh bl) (some (0, 0, false, 2)) (br (ltI bh 0) none (br (ltI bl 0) none (some ((X.shr .u32 al bh), (X.shr .u32 ah bl), true, 0))))) := by kernel_rfl
  rw [e, lt_f (by omega), lt_f (by omega), br_f, br_f]
theorem di_13 {al ah bl bh : Int} (ha : al ≤ ah) (hb : bl ≤ bh) : interval_Do.f 13 al ah bl bh = (br (leI 2147483648 ah) ((interval_All.f).bind fun t22 => some (t22.1, t22.2, true, 0)) (br (ltI bh 0) none (br (ltI bl 0) none (some ((X.shr .u32 al bh), (X.shr .u32 ah bl), true, 0))))) := by
  have e : interval_Do.f 13 al ah bl bh = br (ltI ah al) (some (0, 0, false, 2)) (br (ltI bh bl) (some (0, 0, false, 2)) (br (leI 2147483648 ah) ((interval_All.f).bind fun t22 => some (t22.1, t22.2, true, 0)) (br (ltI bh 0) none (br (ltI bl 0) none (some ((X.shr .u32 al bh), (X.shr .u32 ah bl), true, 0)))))) := by kernel_rfl
  rw [e, lt_f (by omega), lt_f (by omega), br_f, br_f]
theorem di_14 {al ah bl bh : Int} (ha : al ≤ ah) (hb : bl ≤ bh) : interval_Do.f 14 al ah bl bh = ((interval_Meet.f al ah bl bh).bind fun t23 => (br ((al == bl) && (ah == bh)) ((interval_yes.f (eqI al ah) (!t23.2.2)).bind fun t24 => some (t24.1, t24.2, true, 0)) ((interval_yes.f false (!t23.2.2)).bind fun t25 => some (t25.1, t25.2, true, 0)))) := by
  have e : interval_Do.f 14 al ah bl bh = br (ltI ah al) (some (0, 0, false, 2)) (br (ltI bh bl) (some (0, 0, false, 2)) ((interval_Meet.f al ah bl bh).bind fun t23 => (br ((al == bl) && (ah == bh)) ((interval_yes.f (eqI al ah) (!t23.2.2)).bind fun t24 => some (t24.1, t24.2, true, 0)) ((interval_yes.f false (!t23.2.2)).bind fun t25 => some (t25.1, t25.2, true, 0))))) := by kernel_rfl
  rw [e, lt_f (by omega), lt_f (by omega), br_f, br_f]
theorem di_15 {al ah bl bh : Int} (ha : al ≤ ah) (hb : bl ≤ bh) : interval_Do.f 15 al ah bl bh = ((interval_Meet.f al ah bl bh).bind fun t26 => (br ((al == bl) && (ah == bh)) ((interval_yes.f (!t26.2.2) (eqI al ah)).bind fun t27 => some (t27.1, t27.2, true, 0)) ((interval_yes.f (!t26.2.2) false).bind fun t28 => some (t28.1, t28.2, true, 0)))) := by
  have e : interval_Do.f 15 al ah bl bh = br (ltI ah al) (some (0, 0, false, 2)) (br (ltI bh bl) (some (0, 0, false, 2)) ((interval_Meet.f al ah bl bh).bind fun t26 => (br ((al == bl) && (ah == bh)) ((interval_yes.f (!t26.2.2) (eqI al ah)).bind fun t27 => some (t27.1, t27.2, true, 0)) ((interval_yes.f (!t26.2.2) false).bind fun t28 => some (t28.1, t28.2, true, 0))))) := by kernel_rfl
  rw [e, lt_f (by omega), lt_f (by omega), br_f, br_f]
theorem di_16 {al ah bl bh : Int} (ha : al ≤ ah) (hb : bl ≤ bh) : interval_Do.f 16 al ah bl bh = ((interval_yes.f (ltI ah bl) (leI bh al)).bind fun t29 => some (t29.1, t29.2, true, 0)) := by
  have e : interval_Do.f 16 al ah bl bh = br (ltI ah al) (some (0, 0, false, 2)) (br (ltI bh bl) (some (0, 0, false, 2)) ((interval_yes.f (ltI ah bl) (leI bh al)).bind fun t29 => some (t29.1, t29.2, true, 0))) := by kernel_rfl
  rw [e, lt_f (by omega), lt_f (by omega), br_f, br_f]
theorem di_17 {al ah bl bh : Int} (ha : al ≤ ah) (hb : bl ≤ bh) : interval_Do.f 17 al ah bl bh = ((interval_yes.f (leI ah bl) (ltI bh al)).bind fun t30 => some (t30.1, t30.2, true, 0)) := by
  have e : interval_Do.f 17 al ah bl bh = br (ltI ah al) (some (0, 0, false, 2)) (br (ltI bh bl) (some (0, 0, false, 2)) ((interval_yes.f (leI ah bl) (ltI bh al)).bind fun t30 => some (t30.1, t30.2, true, 0))) := by kernel_rfl
  rw [e, lt_f (by omega), lt_f (by omega), br_f, br_f]
theorem di_18 {al ah bl bh : Int} (ha : al ≤ ah) (hb : bl ≤ bh) : interval_Do.f 18 al ah bl bh = ((interval_signed.f al ah).bind fun t31 => ((interval_signed.f bl bh).bind fun t32 => ((interval_yes.f (ltI t31.2 t32.1) (leI t32.2 t31.1)).bind fun t33 => some (t33.1, t33.2, true, 0)))) := by
  have e : interval_Do.f 18 al ah bl bh = br (ltI ah al) (some (0, 0, false, 2)) (br (ltI bh bl) (some (0, 0, false, 2)) ((interval_signed.f al ah).bind fun t31 => ((interval_signed.f bl bh).bind fun t32 => ((interval_yes.f (ltI t31.2 t32.1) (leI t32.2 t31.1)).bind fun t33 => some (t33.1, t33.2, true, 0))))) := by kernel_rfl
  rw [e, lt_f (by omega), lt_f (by omega), br_f, br_f]
theorem di_19 {al ah bl bh : Int} (ha : al ≤ ah) (hb : bl ≤ bh) : interval_Do.f 19 al ah bl bh = ((interval_signed.f al ah).bind fun t34 => ((interval_signed.f bl bh).bind fun t35 => ((interval_yes.f (leI t34.2 t35.1) (ltI t35.2 t34.1)).bind fun t36 => some (t36.1, t36.2, true, 0)))) := by
  have e : interval_Do.f 19 al ah bl bh = br (ltI ah al) (some (0, 0, false, 2)) (br (ltI bh bl) (some (0, 0, false, 2)) ((interval_signed.f al ah).bind fun t34 => ((interval_signed.f bl bh).bind fun t35 => ((interval_yes.f (leI t34.2 t35.1) (ltI t35.2 t34.1)).bind fun t36 => some (t36.1, t36.2, true, 0))))) := by kernel_rfl
  rw [e, lt_f (by omega), lt_f (by omega), br_f, br_f]
/-! ### The operators on ranges come to the closed forms -/
theorem w64 {x : Int} (h0 : 0 ≤ x) (h1 : x < 18446744073709551616) : IntKind.u64.wrap x = x := by rw [IntKind.wrap_u64, Int.emod_eq_of_lt h0 h1]
theorem mnI (a b : Int) : (if b < a then b else a) = min a b := by omega
theorem mxI (a b : Int) : (if b > a then b else a) = max a b := by omega
theorem bnotI {x : Int} (h : U x) : bitw .xor .u32 IntKind.u32.max x = 4294967295 - x := by
  obtain ⟨X, rfl⟩ := b_of' h
  rw [w_not, BitVec.toNat_not]
  have := X.isLt
  omega
theorem addI {a b : Int} (ha : U a) (hb : U b) : bits_Add32.f a b 0 = some ((a + b) % 4294967296, (a + b) / 4294967296) := by
  unfold bits_Add32.f
  unfold U at ha hb
  rw [w64 (x := a) (by omega) (by omega), w64 (x := b) (by omega) (by omega), w64 (x := 0) (by omega) (by omega), Int.add_zero, w64 (x := a + b) (by omega) (by omega), w64 (x := a + b) (by omega) (by omega)]
  have e : X.shr .u64 (a + b) 32 = (a + b) / 4294967296 := by
    unfold X.shr
    rw [Int.fdiv_eq_ediv_of_nonneg _ (Int.le_of_lt (Int.pow_pos (by decide)))]
    rfl
  rw [e, IntKind.wrap_u32', IntKind.wrap_u32', Int.emod_eq_of_lt (by omega : (0 : Int) ≤ (a + b) / 4294967296) (by omega)]
theorem topB (x : B) : x.getLsbD 31 = decide (2147483648 ≤ (x.toNat : Int)) := by
  rw [BitVec.getLsbD, top_bit _ x.isLt, Bool.eq_iff_iff]
  simp only [decide_eq_true_eq]
  omega
theorem shr31 (x : B) : X.shr .u32 (x.toNat : Int) 31 = if x.getLsbD 31 = true then 1 else 0 := by
  have e : X.shr .u32 (x.toNat : Int) 31 = (x.toNat : Int) / 2147483648 := by
    unfold X.shr
    rw [Int.fdiv_eq_ediv_of_nonneg _ (Int.le_of_lt (Int.pow_pos (by decide)))]
    rfl
  have := x.isLt
  rw [e, topB]
  by_cases c : (2147483648 : Int) ≤ x.toNat
  · rw [decide_eq_true c, if_pos rfl]; omega
  · rw [decide_eq_false c, if_neg (by decide)]; omega
theorem subI {a b : Int} (h1 : U a) (h2 : U b) : bits_Sub32.f a b 0 = some ((a - b) % 4294967296, if a < b then 1 else 0) := by
  obtain ⟨x, rfl⟩ := b_of' h1
  obtain ⟨y, rfl⟩ := b_of' h2
  have e : IntKind.u32.wrap (IntKind.u32.wrap ((x.toNat : Int) - y.toNat) - 0) = ((x - y).toNat : Int) := by
    have := x.isLt
    have := y.isLt
    rw [IntKind.wrap_u32', IntKind.wrap_u32', BitVec.toNat_sub]
    omega
  have e2 : ((x - y).toNat : Int) = ((x.toNat : Int) - y.toNat) % 4294967296 := by
    have := x.isLt
    have := y.isLt
    rw [BitVec.toNat_sub]
    omega
  unfold bits_Sub32.f
  rw [e, w_not, w_xor, w_not, w_and, w_and, w_or, shr31, ← e2]
  have key : ((~~~x &&& y) ||| (~~~(x ^^^ y) &&& (x - y))).getLsbD 31 = decide ((x.toNat : Int) < y.toNat) := by
    rw [BitVec.getLsbD_or, BitVec.getLsbD_and, BitVec.getLsbD_and, BitVec.getLsbD_not, BitVec.getLsbD_not, BitVec.getLsbD_xor, topB x, topB y, topB (x - y), e2]
    have := x.isLt
    have := y.isLt
    by_cases p : (2147483648 : Int) ≤ x.toNat <;> by_cases q : (2147483648 : Int) ≤ y.toNat
    all_goals
      simp only [p, q, decide_true, decide_false]
      rw [Bool.eq_iff_iff]
      simp
      omega
  rw [key]
  by_cases c : (x.toNat : Int) < y.toNat
  · rw [decide_eq_true c, if_pos rfl, if_pos c]
  · rw [decide_eq_false c, if_neg (by decide), if_neg c]
theorem mulI {a b : Int} (h1 : U a) (h2 : U b) : ∃ lo, bits_Mul32.f a b = some (a * b / 4294967296, lo) := by
  unfold bits_Mul32.f
  have h := mul_lt h1 h2
  have u1 := h1
  have u2 := h2
  unfold U at u1 u2
  rw [w64 (x := a) (by omega) (by omega), w64 (x := b) (by omega) (by omega), w64 h.1 h.2]
  have e : X.shr .u64 (a * b) 32 = a * b / 4294967296 := by
    unfold X.shr
    rw [Int.fdiv_eq_ediv_of_nonneg _ (Int.le_of_lt (Int.pow_pos (by decide)))]
    rfl
  rw [e, IntKind.wrap_u32', Int.emod_eq_of_lt (by omega : (0 : Int) ≤ a * b / 4294967296) (by omega)]
  exact ⟨_, rfl⟩
theorem noz_is {bl bh : Int} : interval_noZero.f bl bh = if bh = 0 then some (bl, bh, false) else some (max 1 bl, bh, true) := by
  unfold interval_noZero.f
  by_cases c : bh = 0
  · rw [eq_t c, br_t, if_pos c]
  · rw [eq_f c, br_f, if_neg c]
    congr 2
    omega
/-- What interval.Do yields, of a closed form. -/
def Yd (r : Int × Int × Bool) : Option (Int × Int × Bool × Int) := some (r.1, r.2.1, r.2.2, 0)
theorem yd_all : ((interval_All.f).bind fun t3 => some (t3.1, t3.2, true, (0 : Int))) = some (0, 4294967295, true, 0) := rfl
theorem eqI_d (a b : Int) : eqI a b = decide (a = b) := eqI_iff
theorem br_ite {R : Type} (p : Prop) [Decidable p] (x y : Option R) : br (decide p) x y = if p then x else y := by
  by_cases c : p
  · rw [decide_eq_true c, if_pos c, br_t]
  · rw [decide_eq_false c, if_neg c, br_f]
theorem br_nite {R : Type} (p : Prop) [Decidable p] (x y : Option R) : br (!decide p) x y = if p then y else x := by
  by_cases c : p
  · rw [decide_eq_true c, if_pos c]; rfl
  · rw [decide_eq_false c, if_neg c]; rfl
theorem ltI_d (a b : Int) : ltI a b = decide (a < b) := rfl
theorem leI_d (a b : Int) : leI a b = decide (a ≤ b) := rfl
theorem do_1 {al ah bl bh : Int} (va : V al ah) (vb : V bl bh) : interval_Do.f 1 al ah bl bh = Yd (doS 1 al ah bl bh) := by
  rw [di_1 va.o vb.o, addI va.ul vb.ul, addI va.uh vb.uh]
  simp only [Option.bind_some, eqI_d, br_nite, yd_all]
  show _ = Yd (sureS (addS al ah bl bh))
  unfold addS
  split <;> rfl
theorem do_2 {al ah bl bh : Int} (va : V al ah) (vb : V bl bh) : interval_Do.f 2 al ah bl bh = Yd (doS 2 al ah bl bh) := by
  rw [di_2 va.o vb.o, subI va.ul vb.uh, subI va.uh vb.ul]
  simp only [Option.bind_some, eqI_d, br_nite, yd_all]
  show _ = Yd (sureS (subS al ah bl bh))
  unfold subS
  by_cases p : al < bh <;> by_cases q : ah < bl <;> simp [p, q] <;> rfl
theorem do_3 {al ah bl bh : Int} (va : V al ah) (vb : V bl bh) : interval_Do.f 3 al ah bl bh = Yd (doS 3 al ah bl bh) := by
  obtain ⟨lo, e⟩ := mulI va.uh vb.uh
  rw [di_3 va.o vb.o, e]
  simp only [Option.bind_some, eqI_d, br_nite, yd_all, IntKind.wrap_u32']
  show _ = Yd (sureS (mulS al ah bl bh))
  unfold mulS
  have h := mul_lt va.uh vb.uh
  generalize ah * bh = p at *
  by_cases c : p < 4294967296
  · rw [if_pos c, if_pos (by omega)]; rfl
  · rw [if_neg c, if_neg (by omega)]; rfl
theorem divI {al ah bl bh : Int} (va : V al ah) (vb : V bl bh) : ((interval_noZero.f bl bh).bind fun t9 => (br (!t9.2.2) (some (0, 0, false, 0)) (br (eqI t9.2.1 0) none (br (eqI t9.1 0) none (some ((IntKind.u32.wrap (Int.tdiv al t9.2.1)), (IntKind.u32.wrap (Int.tdiv ah t9.1)), true, (0 : Int))))))) = Yd (divS al ah bl bh) := by
  rw [noz_is]
  unfold divS
  by_cases c : bh = 0
  · rw [if_pos c, if_pos c]; rfl
  · rw [if_neg c, if_neg c]
    have b0 := vb.l
    have b1 := vb.o
    simp only [Option.bind_some, Bool.not_true, br_f]
    rw [eq_f c, br_f, eq_f (by omega), br_f, Int.tdiv_eq_ediv_of_nonneg va.l, Int.tdiv_eq_ediv_of_nonneg va.uh.1]
    have u1 := div_le va.ul (by omega : 0 < bh)
    have u2 := div_le va.uh (by omega : 0 < max 1 bl)
    rw [w_u u1, w_u u2]
    rfl
theorem remI {al ah bl bh : Int} (va : V al ah) (vb : V bl bh) : ((interval_noZero.f bl bh).bind fun t10 => (br (!t10.2.2) (some (0, 0, false, 0)) (br (ltI ah t10.1) (some (al, ah, true, 0)) (some (0, (if (IntKind.u32.wrap (t10.2.1 - 1)) < ah then (IntKind.u32.wrap (t10.2.1 - 1)) else ah), true, (0 : Int)))))) = Yd (remS al ah bl bh) := by
  rw [noz_is]
  unfold remS
  by_cases c : bh = 0
  · rw [if_pos c, if_pos c]; rfl
  · rw [if_neg c, if_neg c]
    have b0 := vb.l
    have b1 := vb.o
    have b2 := vb.h
    simp only [Option.bind_some, Bool.not_true, br_f]
    rw [w_u (x := bh - 1) ⟨by omega, by omega⟩, mnI, ltI_d, br_ite]
    split <;> rfl
theorem do_4 {al ah bl bh : Int} (va : V al ah) (vb : V bl bh) : interval_Do.f 4 al ah bl bh = Yd (doS 4 al ah bl bh) := by
  rw [di_4 va.o vb.o]
  exact divI va vb
theorem do_5 {al ah bl bh : Int} (va : V al ah) (vb : V bl bh) : interval_Do.f 5 al ah bl bh = Yd (doS 5 al ah bl bh) := by
  rw [di_5 va.o vb.o]
  exact remI va vb
theorem plainI {al ah bl bh : Int} {g : Int → Int → Int → Int → Int × Int × Bool} {z : Option (Int × Int × Bool × Int)} (h : z = Yd (g al ah bl bh)) : (br (eqI bh 0) (some (0, 0, false, 0)) (br (leI 2147483648 ah) ((interval_All.f).bind fun t14 => some (t14.1, t14.2, true, 0)) (br (leI 2147483648 bh) ((interval_All.f).bind fun t15 => some (t15.1, t15.2, true, 0)) z))) = Yd (plainS g al ah bl bh) := by
  rw [h]
  unfold plainS
  simp only [yd_all, eqI_d, leI_d, br_ite]
  by_cases c1 : bh = 0
  · rw [if_pos c1, if_pos c1]; rfl
  · rw [if_neg c1, if_neg c1]
    by_cases c2 : 2147483648 ≤ ah
    · rw [if_pos c2, if_pos (show ah ≥ 2147483648 from c2)]; rfl
    · rw [if_neg c2, if_neg (show ¬ ah ≥ 2147483648 from c2)]
      by_cases c3 : 2147483648 ≤ bh
      · rw [if_pos c3, if_pos (show bh ≥ 2147483648 from c3)]; rfl
      · rw [if_neg c3, if_neg (show ¬ bh ≥ 2147483648 from c3)]
theorem do_6 {al ah bl bh : Int} (va : V al ah) (vb : V bl bh) : interval_Do.f 6 al ah bl bh = Yd (doS 6 al ah bl bh) := by
  rw [di_6 va.o vb.o]
  exact plainI (g := divS) (divI va vb)
theorem do_7 {al ah bl bh : Int} (va : V al ah) (vb : V bl bh) : interval_Do.f 7 al ah bl bh = Yd (doS 7 al ah bl bh) := by
  rw [di_7 va.o vb.o]
  exact plainI (g := remS) (remI va vb)
theorem do_8 {al ah bl bh : Int} (va : V al ah) (vb : V bl bh) : interval_Do.f 8 al ah bl bh = Yd (doS 8 al ah bl bh) := by
  rw [di_8 va.o vb.o, mnI]
  rfl
theorem do_9 {al ah bl bh : Int} (va : V al ah) (vb : V bl bh) : interval_Do.f 9 al ah bl bh = Yd (doS 9 al ah bl bh) := by
  rw [di_9 va.o vb.o, mxI, mxI, upto_is (umax va.uh vb.uh)]
  rfl
theorem do_10 {al ah bl bh : Int} (va : V al ah) (vb : V bl bh) : interval_Do.f 10 al ah bl bh = Yd (doS 10 al ah bl bh) := by
  rw [di_10 va.o vb.o, mxI, upto_is (umax va.uh vb.uh)]
  rfl
theorem do_11 {al ah bl bh : Int} (va : V al ah) (vb : V bl bh) : interval_Do.f 11 al ah bl bh = Yd (doS 11 al ah bl bh) := by
  rw [di_11 va.o vb.o]
  show _ = Yd (sureS (shlS al ah bl bh))
  unfold shlS
  have h1 := va.ul
  have h2 := va.uh
  have h3 := vb.ul
  have ha := va.o
  simp only [yd_all, leI_d, eqI_d, br_ite, br_nite]
  by_cases g : bl ≥ 32
  · rw [if_pos g, if_pos g]; rfl
  · rw [if_neg g, if_neg g]
    by_cases e : bl = bh
    · rw [if_pos e, lt_f (by have := h3.1; omega), br_f, br_f, br_f, w64 (by have := h2.1; omega) (by have := h2.2; omega)]
      have p := pow_32 (n := bl.toNat) (by omega)
      have e64 : X.shl .u64 ah bl = ah * 2 ^ bl.toNat := by
        unfold X.shl
        have q : min bl.toNat IntKind.u64.bits = bl.toNat := Nat.min_eq_left (by show bl.toNat ≤ 64; omega)
        rw [q, IntKind.wrap_u64]
        have z := mul_lt h2 (b := 2 ^ bl.toNat - 1) ⟨by omega, by omega⟩
        have z2 : ah * 2 ^ bl.toNat = ah * (2 ^ bl.toNat - 1) + ah := by rw [Int.mul_sub, Int.mul_one]; omega
        have h2' := h2
        unfold U at h2'
        generalize (2 : Int) ^ bl.toNat = w at *
        have z3 : ah * (w - 1) ≤ 4294967295 * (w - 1) := Int.mul_le_mul_of_nonneg_right h2'.2 (by omega)
        rw [Int.emod_eq_of_lt (by omega) (by omega)]
      rw [e64, ltI_d, br_ite]
      by_cases c : ah * 2 ^ bl.toNat < 4294967296
      · rw [if_neg (by omega), if_pos ⟨e, c⟩]
        have f : ∀ x, 0 ≤ x → x ≤ ah → X.shl .u32 x bl = x * 2 ^ bl.toNat := by
          intro x x0 x1
          unfold X.shl
          have q : min bl.toNat IntKind.u32.bits = bl.toNat := Nat.min_eq_left (by show bl.toNat ≤ 32; omega)
          rw [q, IntKind.wrap_u32']
          have y1 := Int.mul_le_mul_of_nonneg_right x1 (by omega : (0 : Int) ≤ 2 ^ bl.toNat)
          have y2 := Int.mul_nonneg x0 (by omega : (0 : Int) ≤ 2 ^ bl.toNat)
          rw [Int.emod_eq_of_lt y2 (by omega)]
        rw [f al h1.1 ha, f ah h2.1 (Int.le_refl _)]
        rfl
      · rw [if_pos (by omega), if_neg (by intro h; exact c h.2)]
        rfl
    · rw [if_neg e, if_neg (by intro h; exact e h.1)]
      rfl
theorem do_12 {al ah bl bh : Int} (va : V al ah) (vb : V bl bh) : interval_Do.f 12 al ah bl bh = Yd (doS 12 al ah bl bh) := by
  rw [di_12 va.o vb.o, lt_f (by have := vb.uh.1; omega), lt_f (by have := vb.l; omega), br_f, br_f, shr_sr, shr_sr]
  rfl
theorem do_13 {al ah bl bh : Int} (va : V al ah) (vb : V bl bh) : interval_Do.f 13 al ah bl bh = Yd (doS 13 al ah bl bh) := by
  rw [di_13 va.o vb.o, lt_f (by have := vb.uh.1; omega), lt_f (by have := vb.l; omega), br_f, br_f, shr_sr, shr_sr, leI_d, br_ite]
  show _ = Yd (sureS (sarS al ah bl bh))
  unfold sarS
  split <;> rfl
theorem meetI {al ah bl bh : Int} (va : V al ah) (vb : V bl bh) : ∃ x y, interval_Meet.f al ah bl bh = some (x, y, decide (max al bl ≤ min ah bh)) := by
  unfold interval_Meet.f
  rw [mnI, mxI, lt_f (by have := va.o; omega), lt_f (by have := vb.o; omega), br_f, br_f, ltI_d, br_ite]
  by_cases c : min ah bh < max al bl
  · rw [if_pos c, decide_eq_false (by omega)]; exact ⟨_, _, rfl⟩
  · rw [if_neg c, decide_eq_true (by omega)]; exact ⟨_, _, rfl⟩
theorem yes_cong {a b a' b' : Prop} [Decidable a] [Decidable b] [Decidable a'] [Decidable b'] (h : a ↔ a') (g : b ↔ b') : yesS a b = yesS a' b' := by
  unfold yesS
  by_cases p : a <;> by_cases q : b <;> simp [p, q, ← h, ← g]
theorem eqx {al ah bl bh : Int} : ((al == bl) && (ah == bh)) = decide (al = bl ∧ ah = bh) := by
  rw [Bool.eq_iff_iff]
  simp
theorem do_14 {al ah bl bh : Int} (va : V al ah) (vb : V bl bh) : interval_Do.f 14 al ah bl bh = Yd (doS 14 al ah bl bh) := by
  obtain ⟨x, y, e⟩ := meetI va vb
  have h1 := va.o
  have h2 := vb.o
  rw [di_14 va.o vb.o, e]
  show _ = Yd (sureS (yesS (al = ah ∧ al = bl ∧ ah = bh) (ah < bl ∨ bh < al)))
  simp only [Option.bind_some, yesI, eqx, br_ite, eqI_d]
  split
  · rw [yes_cong (a' := al = ah ∧ al = bl ∧ ah = bh) (b' := ah < bl ∨ bh < al) (by simp; omega) (by simp; omega)]; rfl
  · rw [yes_cong (a' := al = ah ∧ al = bl ∧ ah = bh) (b' := ah < bl ∨ bh < al) (by simp; omega) (by simp; omega)]; rfl
theorem do_15 {al ah bl bh : Int} (va : V al ah) (vb : V bl bh) : interval_Do.f 15 al ah bl bh = Yd (doS 15 al ah bl bh) := by
  obtain ⟨x, y, e⟩ := meetI va vb
  have h1 := va.o
  have h2 := vb.o
  rw [di_15 va.o vb.o, e]
  show _ = Yd (sureS (yesS (ah < bl ∨ bh < al) (al = ah ∧ al = bl ∧ ah = bh)))
  simp only [Option.bind_some, yesI, eqx, br_ite, eqI_d]
  split
  · rw [yes_cong (a' := ah < bl ∨ bh < al) (b' := al = ah ∧ al = bl ∧ ah = bh) (by simp; omega) (by simp; omega)]; rfl
  · rw [yes_cong (a' := ah < bl ∨ bh < al) (b' := al = ah ∧ al = bl ∧ ah = bh) (by simp; omega) (by simp; omega)]; rfl
theorem do_16 {al ah bl bh : Int} (va : V al ah) (vb : V bl bh) : interval_Do.f 16 al ah bl bh = Yd (doS 16 al ah bl bh) := by
  rw [di_16 va.o vb.o, ltI_d, leI_d, yesD]
  rfl
theorem do_17 {al ah bl bh : Int} (va : V al ah) (vb : V bl bh) : interval_Do.f 17 al ah bl bh = Yd (doS 17 al ah bl bh) := by
  rw [di_17 va.o vb.o, ltI_d, leI_d, yesD]
  rfl
theorem signedI {al ah : Int} (v : V al ah) : interval_signed.f al ah = some (sgl al ah, sgh al ah) := by
  unfold interval_signed.f sgl sgh
  rw [word_sg v.ul, word_sg v.uh]
  simp only [Option.bind_some, ltI_d, leI_d, br_ite]
  by_cases p : ah < 2147483648
  · rw [if_pos p, if_pos (.inl p), if_pos (.inl p)]
  · rw [if_neg p]
    by_cases q : 2147483648 ≤ al
    · rw [if_pos q, if_pos (.inr q), if_pos (.inr q)]
    · rw [if_neg q, if_neg (by omega), if_neg (by omega)]
theorem do_18 {al ah bl bh : Int} (va : V al ah) (vb : V bl bh) : interval_Do.f 18 al ah bl bh = Yd (doS 18 al ah bl bh) := by
  rw [di_18 va.o vb.o, signedI va, signedI vb, Option.bind_some, Option.bind_some, ltI_d, leI_d, yesD]
  rfl
theorem do_19 {al ah bl bh : Int} (va : V al ah) (vb : V bl bh) : interval_Do.f 19 al ah bl bh = Yd (doS 19 al ah bl bh) := by
  rw [di_19 va.o vb.o, signedI va, signedI vb, Option.bind_some, Option.bind_some, ltI_d, leI_d, yesD]
  rfl
theorem ops19 {op : Int} (h1 : 1 ≤ op) (h2 : op ≤ 19) : op = 1 ∨ op = 2 ∨ op = 3 ∨ op = 4 ∨ op = 5 ∨ op = 6 ∨ op = 7 ∨ op = 8 ∨ op = 9 ∨ op = 10 ∨ op = 11 ∨ op = 12 ∨ op = 13 ∨ op = 14 ∨ op = 15 ∨ op = 16 ∨ op = 17 ∨ op = 18 ∨ op = 19 := by omega
theorem do_is {op al ah bl bh : Int} (h1 : 1 ≤ op) (h2 : op ≤ 19) (va : V al ah) (vb : V bl bh) : interval_Do.f op al ah bl bh = Yd (doS op al ah bl bh) := by
  rcases ops19 h1 h2 with rfl | rfl | rfl | rfl | rfl | rfl | rfl | rfl | rfl | rfl | rfl | rfl | rfl | rfl | rfl | rfl | rfl | rfl | rfl
  · exact do_1 va vb
  · exact do_2 va vb
  · exact do_3 va vb
  · exact do_4 va vb
  · exact do_5 va vb
  · exact do_6 va vb
  · exact do_7 va vb
  · exact do_8 va vb
  · exact do_9 va vb
  · exact do_10 va vb
  · exact do_11 va vb
  · exact do_12 va vb
  · exact do_13 va vb
  · exact do_14 va vb
  · exact do_15 va vb
  · exact do_16 va vb
  · exact do_17 va vb
  · exact do_18 va vb
  · exact do_19 va vb
/-! ### Widening of ranges -/
theorem w7_0 (k n : Nat) (a b d e x : Int) : interval_Widen.l7 k a b d e (n + 1) 0 x = br (leI 0 d) (interval_Widen.l7 k a b d e n 1 0) (interval_Widen.l7 k a b d e n 1 x) := by kernel_rfl
theorem w7_1 (k n : Nat) (a b d e x : Int) : interval_Widen.l7 k a b d e (n + 1) 1 x = br (leI 1 d) (interval_Widen.l7 k a b d e n 2 1) (interval_Widen.l7 k a b d e n 2 x) := by kernel_rfl
theorem w7_2 (k n : Nat) (a b d e x : Int) : interval_Widen.l7 k a b d e (n + 1) 2 x = br (leI 255 d) (interval_Widen.l7 k a b d e n 3 255) (interval_Widen.l7 k a b d e n 3 x) := by kernel_rfl
theorem w7_3 (k n : Nat) (a b d e x : Int) : interval_Widen.l7 k a b d e (n + 1) 3 x = br (leI 256 d) (interval_Widen.l7 k a b d e n 4 256) (interval_Widen.l7 k a b d e n 4 x) := by kernel_rfl
theorem w7_4 (k n : Nat) (a b d e x : Int) : interval_Widen.l7 k a b d e (n + 1) 4 x = br (leI 65535 d) (interval_Widen.l7 k a b d e n 5 65535) (interval_Widen.l7 k a b d e n 5 x) := by kernel_rfl
theorem w7_5 (k n : Nat) (a b d e x : Int) : interval_Widen.l7 k a b d e (n + 1) 5 x = br (leI 65536 d) (interval_Widen.l7 k a b d e n 6 65536) (interval_Widen.l7 k a b d e n 6 x) := by kernel_rfl
theorem w7_6 (k n : Nat) (a b d e x : Int) : interval_Widen.l7 k a b d e (n + 1) 6 x = br (leI 2147483647 d) (interval_Widen.l7 k a b d e n 7 2147483647) (interval_Widen.l7 k a b d e n 7 x) := by kernel_rfl
theorem w7_7 (k n : Nat) (a b d e x : Int) : interval_Widen.l7 k a b d e (n + 1) 7 x = br (leI 2147483648 d) (interval_Widen.l7 k a b d e n 8 2147483648) (interval_Widen.l7 k a b d e n 8 x) := by kernel_rfl
theorem w7_8 (k n : Nat) (a b d e x : Int) : interval_Widen.l7 k a b d e (n + 1) 8 x = br (leI 4294967295 d) (interval_Widen.l7 k a b d e n 9 4294967295) (interval_Widen.l7 k a b d e n 9 x) := by kernel_rfl
theorem w7_9 (k n : Nat) (a b d e x : Int) : interval_Widen.l7 k a b d e (n + 1) 9 x = br (ltI b e) (interval_Widen.l12 k a b d e 9 x k 8 b) (some (x, b)) := by kernel_rfl
theorem wl12_0 (k n : Nat) (a b d e : Int) (p x : Int) (y : Int) : interval_Widen.l12 k a b d e p x (n + 1) 0 y = br (leI e 0) (interval_Widen.l12 k a b d e p x n (-1) 0) (interval_Widen.l12 k a b d e p x n (-1) y) := by kernel_rfl
theorem wl12_1 (k n : Nat) (a b d e : Int) (p x : Int) (y : Int) : interval_Widen.l12 k a b d e p x (n + 1) 1 y = br (leI e 1) (interval_Widen.l12 k a b d e p x n (0) 1) (interval_Widen.l12 k a b d e p x n (0) y) := by kernel_rfl
theorem wl12_2 (k n : Nat) (a b d e : Int) (p x : Int) (y : Int) : interval_Widen.l12 k a b d e p x (n + 1) 2 y = br (leI e 255) (interval_Widen.l12 k a b d e p x n (1) 255) (interval_Widen.l12 k a b d e p x n (1) y) := by kernel_rfl
theorem wl12_3 (k n : Nat) (a b d e : Int) (p x : Int) (y : Int) : interval_Widen.l12 k a b d e p x (n + 1) 3 y = br (leI e 256) (interval_Widen.l12 k a b d e p x n (2) 256) (interval_Widen.l12 k a b d e p x n (2) y) := by kernel_rfl
theorem wl12_4 (k n : Nat) (a b d e : Int) (p x : Int) (y : Int) : interval_Widen.l12 k a b d e p x (n + 1) 4 y = br (leI e 65535) (interval_Widen.l12 k a b d e p x n (3) 65535) (interval_Widen.l12 k a b d e p x n (3) y) := by kernel_rfl
theorem wl12_5 (k n : Nat) (a b d e : Int) (p x : Int) (y : Int) : interval_Widen.l12 k a b d e p x (n + 1) 5 y = br (leI e 65536) (interval_Widen.l12 k a b d e p x n (4) 65536) (interval_Widen.l12 k a b d e p x n (4) y) := by kernel_rfl
theorem wl12_6 (k n : Nat) (a b d e : Int) (p x : Int) (y : Int) : interval_Widen.l12 k a b d e p x (n + 1) 6 y = br (leI e 2147483647) (interval_Widen.l12 k a b d e p x n (5) 2147483647) (interval_Widen.l12 k a b d e p x n (5) y) := by kernel_rfl
theorem wl12_7 (k n : Nat) (a b d e : Int) (p x : Int) (y : Int) : interval_Widen.l12 k a b d e p x (n + 1) 7 y = br (leI e 2147483648) (interval_Widen.l12 k a b d e p x n (6) 2147483648) (interval_Widen.l12 k a b d e p x n (6) y) := by kernel_rfl
theorem wl12_8 (k n : Nat) (a b d e : Int) (p x : Int) (y : Int) : interval_Widen.l12 k a b d e p x (n + 1) 8 y = br (leI e 4294967295) (interval_Widen.l12 k a b d e p x n (7) 4294967295) (interval_Widen.l12 k a b d e p x n (7) y) := by kernel_rfl
theorem wl12_end (k n : Nat) (a b d e : Int) (p x : Int) (y : Int) : interval_Widen.l12 k a b d e p x (n + 1) (-1) y = some (x, y) := by kernel_rfl
theorem wl17_0 (k n : Nat) (a b d e : Int) (y : Int) : interval_Widen.l17 k a b d e (n + 1) 0 y = br (leI e 0) (interval_Widen.l17 k a b d e n (-1) 0) (interval_Widen.l17 k a b d e n (-1) y) := by kernel_rfl
theorem wl17_1 (k n : Nat) (a b d e : Int) (y : Int) : interval_Widen.l17 k a b d e (n + 1) 1 y = br (leI e 1) (interval_Widen.l17 k a b d e n (0) 1) (interval_Widen.l17 k a b d e n (0) y) := by kernel_rfl
theorem wl17_2 (k n : Nat) (a b d e : Int) (y : Int) : interval_Widen.l17 k a b d e (n + 1) 2 y = br (leI e 255) (interval_Widen.l17 k a b d e n (1) 255) (interval_Widen.l17 k a b d e n (1) y) := by kernel_rfl
theorem wl17_3 (k n : Nat) (a b d e : Int) (y : Int) : interval_Widen.l17 k a b d e (n + 1) 3 y = br (leI e 256) (interval_Widen.l17 k a b d e n (2) 256) (interval_Widen.l17 k a b d e n (2) y) := by kernel_rfl
theorem wl17_4 (k n : Nat) (a b d e : Int) (y : Int) : interval_Widen.l17 k a b d e (n + 1) 4 y = br (leI e 65535) (interval_Widen.l17 k a b d e n (3) 65535) (interval_Widen.l17 k a b d e n (3) y) := by kernel_rfl
theorem wl17_5 (k n : Nat) (a b d e : Int) (y : Int) : interval_Widen.l17 k a b d e (n + 1) 5 y = br (leI e 65536) (interval_Widen.l17 k a b d e n (4) 65536) (interval_Widen.l17 k a b d e n (4) y) := by kernel_rfl
theorem wl17_6 (k n : Nat) (a b d e : Int) (y : Int) : interval_Widen.l17 k a b d e (n + 1) 6 y = br (leI e 2147483647) (interval_Widen.l17 k a b d e n (5) 2147483647) (interval_Widen.l17 k a b d e n (5) y) := by kernel_rfl
theorem wl17_7 (k n : Nat) (a b d e : Int) (y : Int) : interval_Widen.l17 k a b d e (n + 1) 7 y = br (leI e 2147483648) (interval_Widen.l17 k a b d e n (6) 2147483648) (interval_Widen.l17 k a b d e n (6) y) := by kernel_rfl
theorem wl17_8 (k n : Nat) (a b d e : Int) (y : Int) : interval_Widen.l17 k a b d e (n + 1) 8 y = br (leI e 4294967295) (interval_Widen.l17 k a b d e n (7) 4294967295) (interval_Widen.l17 k a b d e n (7) y) := by kernel_rfl
theorem wl17_end (k n : Nat) (a b d e : Int) (y : Int) : interval_Widen.l17 k a b d e (n + 1) (-1) y = some (a, y) := by kernel_rfl
theorem push {p : Bool} {f : Int → Option (Int × Int)} {x y : Int} : br p (f x) (f y) = f (if p = true then x else y) := by cases p <;> rfl
theorem w7_all (k n : Nat) (a b d e x : Int) (hd : U d) : interval_Widen.l7 k a b d e (n + 10) 0 x = br (ltI b e) (interval_Widen.l12 k a b d e 9 (dn d) k 8 b) (some (dn d, b)) := by
  rw [w7_0, push (f := interval_Widen.l7 k a b d e (n + 9) 1)]
  rw [w7_1, push (f := interval_Widen.l7 k a b d e (n + 8) 2)]
  rw [w7_2, push (f := interval_Widen.l7 k a b d e (n + 7) 3)]
  rw [w7_3, push (f := interval_Widen.l7 k a b d e (n + 6) 4)]
  rw [w7_4, push (f := interval_Widen.l7 k a b d e (n + 5) 5)]
  rw [w7_5, push (f := interval_Widen.l7 k a b d e (n + 4) 6)]
  rw [w7_6, push (f := interval_Widen.l7 k a b d e (n + 3) 7)]
  rw [w7_7, push (f := interval_Widen.l7 k a b d e (n + 2) 8)]
  rw [w7_8, push (f := interval_Widen.l7 k a b d e (n + 1) 9)]
  rw [w7_9]
  have e : (if leI 4294967295 d = true then (4294967295 : Int) else if leI 2147483648 d = true then 2147483648 else if leI 2147483647 d = true then 2147483647 else if leI 65536 d = true then 65536 else if leI 65535 d = true then 65535 else if leI 256 d = true then 256 else if leI 255 d = true then 255 else if leI 1 d = true then 1 else if leI 0 d = true then 0 else x) = dn d := by
    simp only [leI, decide_eq_true_eq]
    have := hd.1
    unfold dn
    repeat' split
    all_goals omega
  rw [e]
theorem wl12_all (k n : Nat) (a b d e : Int) (p x : Int) (y : Int) (he : U e) : interval_Widen.l12 k a b d e p x (n + 10) 8 y = some (x, up e) := by
  rw [wl12_8, push (f := interval_Widen.l12 k a b d e p x (n + 9) (7))]
  rw [wl12_7, push (f := interval_Widen.l12 k a b d e p x (n + 8) (6))]
  rw [wl12_6, push (f := interval_Widen.l12 k a b d e p x (n + 7) (5))]
  rw [wl12_5, push (f := interval_Widen.l12 k a b d e p x (n + 6) (4))]
  rw [wl12_4, push (f := interval_Widen.l12 k a b d e p x (n + 5) (3))]
  rw [wl12_3, push (f := interval_Widen.l12 k a b d e p x (n + 4) (2))]
  rw [wl12_2, push (f := interval_Widen.l12 k a b d e p x (n + 3) (1))]
  rw [wl12_1, push (f := interval_Widen.l12 k a b d e p x (n + 2) (0))]
  rw [wl12_0, push (f := interval_Widen.l12 k a b d e p x (n + 1) (-1))]
  rw [wl12_end]
  have e : (if leI e 0 = true then (0 : Int) else if leI e 1 = true then 1 else if leI e 255 = true then 255 else if leI e 256 = true then 256 else if leI e 65535 = true then 65535 else if leI e 65536 = true then 65536 else if leI e 2147483647 = true then 2147483647 else if leI e 2147483648 = true then 2147483648 else if leI e 4294967295 = true then 4294967295 else y) = up e := by
    simp only [leI, decide_eq_true_eq]
    have := he.2
    unfold up
    repeat' split
    all_goals omega
  rw [e]
theorem wl17_all (k n : Nat) (a b d e : Int) (y : Int) (he : U e) : interval_Widen.l17 k a b d e (n + 10) 8 y = some (a, up e) := by
  rw [wl17_8, push (f := interval_Widen.l17 k a b d e (n + 9) (7))]
  rw [wl17_7, push (f := interval_Widen.l17 k a b d e (n + 8) (6))]
  rw [wl17_6, push (f := interval_Widen.l17 k a b d e (n + 7) (5))]
  rw [wl17_5, push (f := interval_Widen.l17 k a b d e (n + 6) (4))]
  rw [wl17_4, push (f := interval_Widen.l17 k a b d e (n + 5) (3))]
  rw [wl17_3, push (f := interval_Widen.l17 k a b d e (n + 4) (2))]
  rw [wl17_2, push (f := interval_Widen.l17 k a b d e (n + 3) (1))]
  rw [wl17_1, push (f := interval_Widen.l17 k a b d e (n + 2) (0))]
  rw [wl17_0, push (f := interval_Widen.l17 k a b d e (n + 1) (-1))]
  rw [wl17_end]
  have e : (if leI e 0 = true then (0 : Int) else if leI e 1 = true then 1 else if leI e 255 = true then 255 else if leI e 256 = true then 256 else if leI e 65535 = true then 65535 else if leI e 65536 = true then 65536 else if leI e 2147483647 = true then 2147483647 else if leI e 2147483648 = true then 2147483648 else if leI e 4294967295 = true then 4294967295 else y) = up e := by
    simp only [leI, decide_eq_true_eq]
    have := he.2
    unfold up
    repeat' split
    all_goals omega
  rw [e]
theorem widenI {a b d e : Int} (va : V a b) (vb : V d e) : interval_Widen.f 100 a b d e = some (if d < a then dn d else a, if e > b then up e else b) := by
  unfold interval_Widen.f interval_Widen.g
  rw [lt_f (by have := va.o; omega), lt_f (by have := vb.o; omega), br_f, br_f, ltI_d, br_ite]
  split
  · rw [w7_all 100 90 a b d e a vb.ul, ltI_d, br_ite]
    split
    · rw [wl12_all 100 90 a b d e 9 _ _ vb.uh]
    · rfl
  · rw [ltI_d, br_ite]
    split
    · rw [wl17_all 100 90 a b d e _ vb.uh]
    · rfl
/-! ### The operators on known bits -/
theorem kok_iff {K O : B} : O &&& ~~~K = 0 ↔ Kok K O := by
  constructor
  · exact fun h => ok_of (s := ⟨0, 0, K, O⟩) h
  · exact fun h => ok_and (s := ⟨0, 0, K, O⟩) h
theorem low_is {n : Nat} (h : n ≤ 32) : IntKind.u32.wrap (IntKind.u64.wrap ((X.shl .u64 1 (n : Int)) - 1)) = ((Lm n).toNat : Int) := by
  have p : (2 : Nat) ^ n ≤ 2 ^ 32 := Nat.pow_le_pow_right (by decide) h
  have q : 0 < (2 : Nat) ^ n := Nat.two_pow_pos n
  unfold X.shl Lm
  have e1 : min (n : Int).toNat IntKind.u64.bits = n := by
    show min n 64 = n
    omega
  rw [e1, IntKind.wrap_u64, IntKind.wrap_u64, IntKind.wrap_u32', BitVec.toNat_ofNat]
  have e2 : (1 : Int) * 2 ^ n = ((2 ^ n : Nat) : Int) := by simp
  rw [e2]
  generalize 2 ^ n = z at *
  omega
theorem and_pow {m : B} {n : Nat} : (m &&& BitVec.twoPow 32 n = 0) ↔ m.getLsbD n = false := by
  constructor
  · intro h
    by_cases c : n < 32
    · have e := congrArg (fun z : B => z.getLsbD n) h
      simp only [BitVec.getLsbD_and, BitVec.getLsbD_twoPow, c, decide_true, Bool.true_and, Bool.and_true] at e
      rw [e]
      exact BitVec.getLsbD_zero
    · exact BitVec.getLsbD_of_ge _ _ (by omega)
  · intro h
    refine bitx fun i => ?_
    simp only [BitVec.getLsbD_and, BitVec.getLsbD_twoPow, BitVec.getLsbD_zero]
    by_cases c : n = i
    · subst c; rw [h]; simp
    · simp [c]
theorem shl_pow {n : Nat} (h : n < 32) : X.shl .u32 ((BitVec.twoPow 32 n).toNat : Int) 1 = ((BitVec.twoPow 32 (n + 1)).toNat : Int) := by
  unfold X.shl
  rw [IntKind.wrap_u32', BitVec.toNat_twoPow, BitVec.toNat_twoPow]
  have p : (2 : Nat) ^ n < 2 ^ 32 := Nat.pow_lt_pow_right (by decide) h
  rw [Nat.mod_eq_of_lt p, Nat.pow_succ]
  show ((2 ^ n : Nat) : Int) * 2 % 4294967296 = _
  omega
theorem car_loop (op : Int) (K O Q M : B) : ∀ (f n : Nat), n ≤ 32 → 33 - n ≤ f → (∀ i, i < n → (K &&& Q).getLsbD i = true) →
    known_carried.l5 100 K.toNat O.toNat Q.toNat M.toNat op f (n : Int) ((BitVec.twoPow 32 n).toNat : Int) = (word_Do.f op O.toNat M.toNat).bind fun t => some (((Lm (rn (K &&& Q))).toNat : Int), bitw .and .u32 t.1 ((Lm (rn (K &&& Q))).toNat : Int))
  | 0, n, h1, h2, _ => by omega
  | f + 1, n, h1, h2, h3 => by
    rw [known_carried.l5]
    unfold known_carried.b_l5
    have nn : ¬ (n : Int) < 0 := by omega
    rw [lt_f nn]
    simp only [br_f, low_is h1]
    by_cases c : n = 32
    · have e : rn (K &&& Q) = 32 := rn_eq (fun i hi => h3 i (by omega)) (BitVec.getLsbD_of_ge _ _ (by omega))
      subst c
      rw [eq_t (by omega : ((32 : Nat) : Int) = 32), br_t, br_t, e]
    · rw [eq_f (by omega : (n : Int) ≠ 32), br_f, w_and, w_and, eqI_0]
      by_cases d : (K &&& Q).getLsbD n = false
      · rw [decide_eq_true (and_pow.2 d), br_t, rn_eq h3 d]
      · rw [decide_eq_false (fun h => d (and_pow.1 h)), br_f, shl_pow (by omega), show IntKind.i64.wrap ((n : Int) + 1) = ((n + 1 : Nat) : Int) by rw [IntKind.wrap_i64]; omega]
        exact car_loop op K O Q M f (n + 1) (by omega) (by omega) fun i hi => by
          by_cases q : i = n
          · rw [q]; simpa using d
          · exact h3 i (by omega)
theorem car_is (op : Int) (K O Q M : B) : known_carried.f 100 K.toNat O.toNat Q.toNat M.toNat op = (word_Do.f op O.toNat M.toNat).bind fun t => some (((Lm (rn (K &&& Q))).toNat : Int), bitw .and .u32 t.1 ((Lm (rn (K &&& Q))).toNat : Int)) := by
  have z := car_loop op K O Q M 100 0 (by decide) (by decide) (fun i hi => by omega)
  exact z
theorem neg_is (x : B) : IntKind.u32.wrap (0 - (x.toNat : Int)) = ((-x).toNat : Int) := by
  rw [IntKind.wrap_u32', BitVec.toNat_neg]
  have := x.isLt
  omega
theorem low_bit {x : B} {n : Nat} (h : ∀ i, i < n → x.getLsbD i = false) (e : x.getLsbD n = true) : x &&& -x = BitVec.twoPow 32 n := by
  refine BitVec.eq_of_getLsbD_eq fun i hi => ?_
  rw [BitVec.getLsbD_and, BitVec.getLsbD_neg, BitVec.getLsbD_twoPow]
  have hn := lt32 e
  rcases Nat.lt_trichotomy i n with c | c | c
  · rw [h i c]; simp; omega
  · subst c
    have q : ¬ ∃ j, j < i ∧ x.getLsbD j = true := fun ⟨j, h1, h2⟩ => by rw [h j h1] at h2; cases h2
    simp only [e, hi, decide_eq_false q, decide_true, Bool.and_false, Bool.xor_false, Bool.and_self]
  · have q : ∃ j, j < i ∧ x.getLsbD j = true := ⟨n, c, e⟩
    have c2 : ¬ n = i := by omega
    simp only [q, decide_true, Bool.and_true, hi, c2, decide_false, Bool.and_false, hn]
    cases x.getLsbD i <;> rfl
theorem tz_tab : ∀ n : Nat, n < 32 → inI (X.shr .u32 (IntKind.u32.wrap (((BitVec.twoPow 32 n).toNat : Int) * 125613361)) 27) 32 = true ∧ ltN (atN 0 (X.shr .u32 (IntKind.u32.wrap (((BitVec.twoPow 32 n).toNat : Int) * 125613361)) 27) 1) 32 = true ∧ IntKind.i64.wrap (tabAt [0, 1, 28, 2, 29, 14, 24, 3, 30, 22, 20, 15, 25, 17, 4, 8, 31, 27, 13, 23, 21, 19, 16, 7, 26, 12, 18, 6, 11, 5, 10, 9] (atN 0 (X.shr .u32 (IntKind.u32.wrap (((BitVec.twoPow 32 n).toNat : Int) * 125613361)) 27) 1)) = (n : Int) := by decide +kernel
/-- Noughts from the lowest bit on. -/
theorem tz_is (x : B) : bits_TrailingZeros32.f x.toNat = some ((rn (~~~x) : Nat) : Int) := by
  unfold bits_TrailingZeros32.f
  rw [eqI_0]
  by_cases c : x = 0
  · subst c
    rfl
  · rw [decide_eq_false c, br_f]
    have h : ∀ i, i < rn (~~~x) → x.getLsbD i = false := fun i hi => by
      have := rn_one hi
      simp only [BitVec.getLsbD_not, Bool.and_eq_true, decide_eq_true_eq] at this
      simpa using this.2
    have lt : rn (~~~x) < 32 := by
      have := rn_le (~~~x)
      rcases Nat.lt_or_ge (rn (~~~x)) 32 with q | q
      · exact q
      · exact absurd (bitx (x := x) (y := 0#32) fun i => by
          by_cases w : i < 32
          · rw [h i (by omega), BitVec.getLsbD_zero]
          · rw [BitVec.getLsbD_of_ge _ _ (by omega), BitVec.getLsbD_zero]) c
    have e : x.getLsbD (rn (~~~x)) = true := by
      have := rn_end (~~~x)
      simp only [BitVec.getLsbD_not, lt, decide_true, Bool.true_and] at this
      simpa using this
    rw [neg_is, w_and, low_bit h e]
    obtain ⟨t1, t2, t3⟩ := tz_tab _ lt
    rw [t1, t2, br_t, br_t, t3]
theorem pop_tab : ∀ n : Nat, n < 256 → (byteAt bits_OnesCount32.S1 (n : Int) = 0 ↔ n = 0) ∧ (byteAt bits_OnesCount32.S1 (n : Int) = 1 ↔ n = 1 ∨ n = 2 ∨ n = 4 ∨ n = 8 ∨ n = 16 ∨ n = 32 ∨ n = 64 ∨ n = 128) ∧ 0 ≤ byteAt bits_OnesCount32.S1 (n : Int) ∧ byteAt bits_OnesCount32.S1 (n : Int) ≤ 8 := by decide +kernel
theorem and255 (n : Nat) (h : n < 4294967296) : bitw .and .u32 (n : Int) 255 = ((n % 256 : Nat) : Int) := by
  have e : (n : Int) = ((BitVec.ofNat 32 n).toNat : Int) := by rw [BitVec.toNat_ofNat, Nat.mod_eq_of_lt h]
  rw [e, show (255 : Int) = ((255#32 : B).toNat : Int) from rfl, w_and]
  have q : (BitVec.ofNat 32 n &&& 255#32).toNat = n % 256 := by
    rw [BitVec.toNat_and, BitVec.toNat_ofNat, Nat.mod_eq_of_lt h]
    exact Nat.and_two_pow_sub_one_eq_mod n 8
  rw [q]
theorem count_is (x : B) : ∃ c : Int, bits_OnesCount32.f x.toNat = some c ∧ (c = 1 ↔ ∃ j, j < 32 ∧ x.toNat = 2 ^ j) := by
  have hx := x.isLt
  unfold bits_OnesCount32.f
  generalize x.toNat = n at *
  have s24 : X.shr .u32 (n : Int) 24 = ((n / 16777216 : Nat) : Int) := shr32 n 24 (by decide)
  have s16 : X.shr .u32 (n : Int) 16 = ((n / 65536 : Nat) : Int) := shr32 n 16 (by decide)
  have s8 : X.shr .u32 (n : Int) 8 = ((n / 256 : Nat) : Int) := shr32 n 8 (by decide)
  rw [s24, s16, s8, and255 _ (by omega), and255 _ (by omega), and255 _ hx]
  have l3 : n / 16777216 < 256 := by omega
  rw [show inI ((n / 16777216 : Nat) : Int) 256 = true from inI_n (n := 256) l3, br_t, show inI ((n / 65536 % 256 : Nat) : Int) 256 = true from inI_n (n := 256) (by omega), br_t, show inI ((n / 256 % 256 : Nat) : Int) 256 = true from inI_n (n := 256) (by omega), br_t, show inI ((n % 256 : Nat) : Int) 256 = true from inI_n (n := 256) (by omega), br_t]
  obtain ⟨a1, a2, a3, a4⟩ := pop_tab _ l3
  obtain ⟨b1, b2, b3, b4⟩ := pop_tab (n / 65536 % 256) (by omega)
  obtain ⟨c1, c2, c3, c4⟩ := pop_tab (n / 256 % 256) (by omega)
  obtain ⟨d1, d2, d3, d4⟩ := pop_tab (n % 256) (by omega)
  generalize byteAt bits_OnesCount32.S1 ((n / 16777216 : Nat) : Int) = a at *
  generalize byteAt bits_OnesCount32.S1 ((n / 65536 % 256 : Nat) : Int) = b at *
  generalize byteAt bits_OnesCount32.S1 ((n / 256 % 256 : Nat) : Int) = c at *
  generalize byteAt bits_OnesCount32.S1 ((n % 256 : Nat) : Int) = d at *
  have e : IntKind.i64.wrap (IntKind.u8.wrap (IntKind.u8.wrap (IntKind.u8.wrap (a + b) + c) + d)) = a + b + c + d := by
    rw [IntKind.wrap_u8', IntKind.wrap_u8', IntKind.wrap_u8', IntKind.wrap_i64]
    omega
  rw [e]
  refine ⟨_, rfl, ?_⟩
  have z : (a + b + c + d = 1) ↔ (a = 1 ∧ b = 0 ∧ c = 0 ∧ d = 0) ∨ (a = 0 ∧ b = 1 ∧ c = 0 ∧ d = 0) ∨ (a = 0 ∧ b = 0 ∧ c = 1 ∧ d = 0) ∨ (a = 0 ∧ b = 0 ∧ c = 0 ∧ d = 1) := by omega
  have p8 : ∀ v : Nat, v < 256 → ((v = 1 ∨ v = 2 ∨ v = 4 ∨ v = 8 ∨ v = 16 ∨ v = 32 ∨ v = 64 ∨ v = 128) ↔ ∃ i, i < 8 ∧ v = 2 ^ i) := fun v _ => by
    constructor
    · rintro (h | h | h | h | h | h | h | h)
      · exact ⟨0, by decide, h⟩
      · exact ⟨1, by decide, h⟩
      · exact ⟨2, by decide, h⟩
      · exact ⟨3, by decide, h⟩
      · exact ⟨4, by decide, h⟩
      · exact ⟨5, by decide, h⟩
      · exact ⟨6, by decide, h⟩
      · exact ⟨7, by decide, h⟩
    · rintro ⟨i, hi, rfl⟩
      have : ∀ i : Nat, i < 8 → (2 ^ i = 1 ∨ 2 ^ i = 2 ∨ 2 ^ i = 4 ∨ 2 ^ i = 8 ∨ 2 ^ i = 16 ∨ 2 ^ i = 32 ∨ 2 ^ i = 64 ∨ 2 ^ i = 128) := by decide +kernel
      exact this i hi
  rw [z, a1, a2, b1, b2, c1, c2, d1, d2]
  constructor
  · rintro (⟨h, h1, h2, h3⟩ | ⟨h1, h, h2, h3⟩ | ⟨h1, h2, h, h3⟩ | ⟨h1, h2, h3, h⟩)
    · obtain ⟨i, hi, e⟩ := (p8 _ l3).1 h
      refine ⟨i + 24, by omega, ?_⟩
      rw [Nat.pow_add]
      generalize 2 ^ i = p at *
      omega
    · obtain ⟨i, hi, e⟩ := (p8 _ (by omega)).1 h
      refine ⟨i + 16, by omega, ?_⟩
      rw [Nat.pow_add]
      generalize 2 ^ i = p at *
      omega
    · obtain ⟨i, hi, e⟩ := (p8 _ (by omega)).1 h
      refine ⟨i + 8, by omega, ?_⟩
      rw [Nat.pow_add]
      generalize 2 ^ i = p at *
      omega
    · obtain ⟨i, hi, e⟩ := (p8 _ (by omega)).1 h
      refine ⟨i, by omega, ?_⟩
      generalize 2 ^ i = p at *
      omega
  · rintro ⟨j, hj, e⟩
    have lt8 : ∀ i : Nat, i < 8 → 2 ^ i < 256 := fun i hi => Nat.pow_lt_pow_right (n := 8) (by decide) hi
    by_cases c1 : j < 8
    · have l := lt8 j c1
      refine .inr (.inr (.inr ⟨by omega, by omega, by omega, (p8 _ (by omega)).2 ⟨j, c1, by omega⟩⟩))
    · by_cases c2 : j < 16
      · have l := lt8 (j - 8) (by omega)
        rw [show j = (j - 8) + 8 by omega, Nat.pow_add] at e
        refine .inr (.inr (.inl ⟨by omega, by omega, (p8 _ (by omega)).2 ⟨j - 8, by omega, by omega⟩, by omega⟩))
      · by_cases c3 : j < 24
        · have l := lt8 (j - 16) (by omega)
          rw [show j = (j - 16) + 16 by omega, Nat.pow_add] at e
          refine .inr (.inl ⟨by omega, (p8 _ (by omega)).2 ⟨j - 16, by omega, by omega⟩, by omega, by omega⟩)
        · have l := lt8 (j - 24) (by omega)
          rw [show j = (j - 24) + 24 by omega, Nat.pow_add] at e
          refine .inl ⟨(p8 _ (by omega)).2 ⟨j - 24, by omega, by omega⟩, by omega, by omega, by omega⟩
/-! ### known.Do at each operator -/
theorem kg_1 (K O Q M : Int) : known_Do.f 100 1 K O Q M = br (!eqI (bitw .andNot .u32 O K) 0) (some (0, 0, false, 2)) (br (!eqI (bitw .andNot .u32 M Q) 0) (some (0, 0, false, 2)) ((known_carried.f 100 K O Q M 1).bind fun t => some (t.1, t.2, true, 0))) := by kernel_rfl
theorem kg_2 (K O Q M : Int) : known_Do.f 100 2 K O Q M = br (!eqI (bitw .andNot .u32 O K) 0) (some (0, 0, false, 2)) (br (!eqI (bitw .andNot .u32 M Q) 0) (some (0, 0, false, 2)) ((known_carried.f 100 K O Q M 2).bind fun t => some (t.1, t.2, true, 0))) := by kernel_rfl
theorem kg_3 (K O Q M : Int) : known_Do.f 100 3 K O Q M = br (!eqI (bitw .andNot .u32 O K) 0) (some (0, 0, false, 2)) (br (!eqI (bitw .andNot .u32 M Q) 0) (some (0, 0, false, 2)) (br (eqI (bitw .and .u32 K Q) 4294967295) (some (4294967295, IntKind.u32.wrap (O * M), true, 0)) ((bits_TrailingZeros32.f (bitw .xor .u32 IntKind.u32.max (bitw .andNot .u32 K O))).bind fun t7 => ((bits_TrailingZeros32.f (bitw .xor .u32 IntKind.u32.max (bitw .andNot .u32 Q M))).bind fun t9 => ((known_low.f (if 32 < (IntKind.i64.wrap (t7 + t9)) then 32 else (IntKind.i64.wrap (t7 + t9))) 0).bind fun t10 => some (t10.1, t10.2, true, 0)))))) := by kernel_rfl
theorem kg_4 (K O Q M : Int) : known_Do.f 100 4 K O Q M = br (!eqI (bitw .andNot .u32 O K) 0) (some (0, 0, false, 2)) (br (!eqI (bitw .andNot .u32 M Q) 0) (some (0, 0, false, 2)) ((known_divided.f 4 K O Q M).bind fun t => some (t.1, t.2.1, t.2.2, 0))) := by kernel_rfl
theorem kg_5 (K O Q M : Int) : known_Do.f 100 5 K O Q M = br (!eqI (bitw .andNot .u32 O K) 0) (some (0, 0, false, 2)) (br (!eqI (bitw .andNot .u32 M Q) 0) (some (0, 0, false, 2)) ((known_divided.f 5 K O Q M).bind fun t => some (t.1, t.2.1, t.2.2, 0))) := by kernel_rfl
theorem kg_6 (K O Q M : Int) : known_Do.f 100 6 K O Q M = br (!eqI (bitw .andNot .u32 O K) 0) (some (0, 0, false, 2)) (br (!eqI (bitw .andNot .u32 M Q) 0) (some (0, 0, false, 2)) ((known_divided.f 6 K O Q M).bind fun t => some (t.1, t.2.1, t.2.2, 0))) := by kernel_rfl
theorem kg_7 (K O Q M : Int) : known_Do.f 100 7 K O Q M = br (!eqI (bitw .andNot .u32 O K) 0) (some (0, 0, false, 2)) (br (!eqI (bitw .andNot .u32 M Q) 0) (some (0, 0, false, 2)) ((known_divided.f 7 K O Q M).bind fun t => some (t.1, t.2.1, t.2.2, 0))) := by kernel_rfl
theorem kg_8 (K O Q M : Int) : known_Do.f 100 8 K O Q M = br (!eqI (bitw .andNot .u32 O K) 0) (some (0, 0, false, 2)) (br (!eqI (bitw .andNot .u32 M Q) 0) (some (0, 0, false, 2)) (some ((bitw .or .u32 (bitw .or .u32 (bitw .and .u32 K Q) (bitw .andNot .u32 K O)) (bitw .andNot .u32 Q M)), (bitw .and .u32 O M), true, 0))) := by kernel_rfl
theorem kg_9 (K O Q M : Int) : known_Do.f 100 9 K O Q M = br (!eqI (bitw .andNot .u32 O K) 0) (some (0, 0, false, 2)) (br (!eqI (bitw .andNot .u32 M Q) 0) (some (0, 0, false, 2)) (some ((bitw .or .u32 (bitw .or .u32 (bitw .and .u32 K Q) O) M), (bitw .or .u32 O M), true, 0))) := by kernel_rfl
theorem kg_10 (K O Q M : Int) : known_Do.f 100 10 K O Q M = br (!eqI (bitw .andNot .u32 O K) 0) (some (0, 0, false, 2)) (br (!eqI (bitw .andNot .u32 M Q) 0) (some (0, 0, false, 2)) (some ((bitw .and .u32 K Q), (bitw .and .u32 (bitw .xor .u32 O M) (bitw .and .u32 K Q)), true, 0))) := by kernel_rfl
theorem kg_11 (K O Q M : Int) : known_Do.f 100 11 K O Q M = br (!eqI (bitw .andNot .u32 O K) 0) (some (0, 0, false, 2)) (br (!eqI (bitw .andNot .u32 M Q) 0) (some (0, 0, false, 2)) (br (!eqI Q 4294967295) (some (0, 0, true, 0)) ((known_shift.f K O M 11).bind fun t => some (t.1, t.2, true, 0)))) := by kernel_rfl
theorem kg_12 (K O Q M : Int) : known_Do.f 100 12 K O Q M = br (!eqI (bitw .andNot .u32 O K) 0) (some (0, 0, false, 2)) (br (!eqI (bitw .andNot .u32 M Q) 0) (some (0, 0, false, 2)) (br (!eqI Q 4294967295) (some (0, 0, true, 0)) ((known_shift.f K O M 12).bind fun t => some (t.1, t.2, true, 0)))) := by kernel_rfl
theorem kg_13 (K O Q M : Int) : known_Do.f 100 13 K O Q M = br (!eqI (bitw .andNot .u32 O K) 0) (some (0, 0, false, 2)) (br (!eqI (bitw .andNot .u32 M Q) 0) (some (0, 0, false, 2)) (br (!eqI Q 4294967295) (some (0, 0, true, 0)) ((known_shift.f K O M 13).bind fun t => some (t.1, t.2, true, 0)))) := by kernel_rfl
theorem kg_14 (K O Q M : Int) : known_Do.f 100 14 K O Q M = br (!eqI (bitw .andNot .u32 O K) 0) (some (0, 0, false, 2)) (br (!eqI (bitw .andNot .u32 M Q) 0) (some (0, 0, false, 2)) ((known_compared.f 14 K O Q M).bind fun t => some (t.1, t.2, true, 0))) := by kernel_rfl
theorem kg_15 (K O Q M : Int) : known_Do.f 100 15 K O Q M = br (!eqI (bitw .andNot .u32 O K) 0) (some (0, 0, false, 2)) (br (!eqI (bitw .andNot .u32 M Q) 0) (some (0, 0, false, 2)) ((known_compared.f 15 K O Q M).bind fun t => some (t.1, t.2, true, 0))) := by kernel_rfl
theorem kg_16 (K O Q M : Int) : known_Do.f 100 16 K O Q M = br (!eqI (bitw .andNot .u32 O K) 0) (some (0, 0, false, 2)) (br (!eqI (bitw .andNot .u32 M Q) 0) (some (0, 0, false, 2)) ((known_compared.f 16 K O Q M).bind fun t => some (t.1, t.2, true, 0))) := by kernel_rfl
theorem kg_17 (K O Q M : Int) : known_Do.f 100 17 K O Q M = br (!eqI (bitw .andNot .u32 O K) 0) (some (0, 0, false, 2)) (br (!eqI (bitw .andNot .u32 M Q) 0) (some (0, 0, false, 2)) ((known_compared.f 17 K O Q M).bind fun t => some (t.1, t.2, true, 0))) := by kernel_rfl
theorem kg_18 (K O Q M : Int) : known_Do.f 100 18 K O Q M = br (!eqI (bitw .andNot .u32 O K) 0) (some (0, 0, false, 2)) (br (!eqI (bitw .andNot .u32 M Q) 0) (some (0, 0, false, 2)) ((known_compared.f 18 K O Q M).bind fun t => some (t.1, t.2, true, 0))) := by kernel_rfl
theorem kg_19 (K O Q M : Int) : known_Do.f 100 19 K O Q M = br (!eqI (bitw .andNot .u32 O K) 0) (some (0, 0, false, 2)) (br (!eqI (bitw .andNot .u32 M Q) 0) (some (0, 0, false, 2)) ((known_compared.f 19 K O Q M).bind fun t => some (t.1, t.2, true, 0))) := by kernel_rfl
theorem kdiv_4 (K O Q M : Int) : known_divided.f 4 K O Q M = br (eqI Q 4294967295) (br (eqI M 0) (some (0, 0, false)) (br (eqI (bitw .and .u32 K Q) 4294967295) ((word_Do.f 4 O M).bind fun t => some (4294967295, t.1, true)) (some (0, 0, true)))) (br (eqI (bitw .and .u32 K Q) 4294967295) ((word_Do.f 4 O M).bind fun t => some (4294967295, t.1, true)) (some (0, 0, true))) := by kernel_rfl
theorem kdiv_6 (K O Q M : Int) : known_divided.f 6 K O Q M = br (eqI Q 4294967295) (br (eqI M 0) (some (0, 0, false)) (br (eqI (bitw .and .u32 K Q) 4294967295) ((word_Do.f 6 O M).bind fun t => some (4294967295, t.1, true)) (some (0, 0, true)))) (br (eqI (bitw .and .u32 K Q) 4294967295) ((word_Do.f 6 O M).bind fun t => some (4294967295, t.1, true)) (some (0, 0, true))) := by kernel_rfl
theorem kdiv_7 (K O Q M : Int) : known_divided.f 7 K O Q M = br (eqI Q 4294967295) (br (eqI M 0) (some (0, 0, false)) (br (eqI (bitw .and .u32 K Q) 4294967295) ((word_Do.f 7 O M).bind fun t => some (4294967295, t.1, true)) (some (0, 0, true)))) (br (eqI (bitw .and .u32 K Q) 4294967295) ((word_Do.f 7 O M).bind fun t => some (4294967295, t.1, true)) (some (0, 0, true))) := by kernel_rfl
theorem kdiv_5 (K O Q M : Int) : known_divided.f 5 K O Q M = br (eqI Q 4294967295) (br (eqI M 0) (some (0, 0, false)) (br (eqI (bitw .and .u32 K Q) 4294967295) ((word_Do.f 5 O M).bind fun t => some (4294967295, t.1, true)) (br (eqI Q 4294967295) ((bits_OnesCount32.f M).bind fun t3 => (br (eqI t3 1) (some ((bitw .or .u32 (bitw .and .u32 K (IntKind.u32.wrap (M - 1))) (bitw .xor .u32 IntKind.u32.max (IntKind.u32.wrap (M - 1)))), (bitw .and .u32 O (IntKind.u32.wrap (M - 1))), true)) (some (0, 0, true)))) (some (0, 0, true))))) (br (eqI (bitw .and .u32 K Q) 4294967295) ((word_Do.f 5 O M).bind fun t => some (4294967295, t.1, true)) (br (eqI Q 4294967295) ((bits_OnesCount32.f M).bind fun t3 => (br (eqI t3 1) (some ((bitw .or .u32 (bitw .and .u32 K (IntKind.u32.wrap (M - 1))) (bitw .xor .u32 IntKind.u32.max (IntKind.u32.wrap (M - 1)))), (bitw .and .u32 O (IntKind.u32.wrap (M - 1))), true)) (some (0, 0, true)))) (some (0, 0, true)))) := by kernel_rfl
theorem ksh_11 (K O n : Int) : known_shift.f K O n 11 = (word_Do.f 11 K n).bind fun t1 => (word_Do.f 11 O n).bind fun t2 => (br (ltI (if 32 < n then 32 else n) 0) none (some ((bitw .or .u32 t1.1 (IntKind.u32.wrap (IntKind.u64.wrap ((X.shl .u64 1 (if 32 < n then 32 else n)) - 1)))), (bitw .and .u32 t2.1 (bitw .or .u32 t1.1 (IntKind.u32.wrap (IntKind.u64.wrap ((X.shl .u64 1 (if 32 < n then 32 else n)) - 1)))))))) := by kernel_rfl
theorem ksh_12 (K O n : Int) : known_shift.f K O n 12 = (word_Do.f 12 K n).bind fun t1 => (word_Do.f 12 O n).bind fun t2 => (br (ltI (if 32 < n then 32 else n) 0) none (some ((bitw .or .u32 t1.1 (bitw .xor .u32 IntKind.u32.max (IntKind.u32.wrap (X.shr .u64 4294967295 (if 32 < n then 32 else n))))), (bitw .and .u32 t2.1 (bitw .or .u32 t1.1 (bitw .xor .u32 IntKind.u32.max (IntKind.u32.wrap (X.shr .u64 4294967295 (if 32 < n then 32 else n))))))))) := by kernel_rfl
theorem ksh_13 (K O n : Int) : known_shift.f K O n 13 = (word_Do.f 13 K n).bind fun t1 => (word_Do.f 13 O n).bind fun t2 => (some (t1.1, (bitw .and .u32 t2.1 t1.1))) := by kernel_rfl
theorem kcm_14 (K O Q M : Int) : known_compared.f 14 K O Q M = (known_Meet.f K O Q M).bind fun t1 => br (eqI (bitw .and .u32 K Q) 4294967295) ((word_Do.f 14 O M).bind fun t2 => some (4294967295, t2.1)) (br (!t1.2.2) (some (4294967295, 0)) (some (4294967294, 0))) := by kernel_rfl
theorem kcm_15 (K O Q M : Int) : known_compared.f 15 K O Q M = (known_Meet.f K O Q M).bind fun t1 => br (eqI (bitw .and .u32 K Q) 4294967295) ((word_Do.f 15 O M).bind fun t2 => some (4294967295, t2.1)) (br (!t1.2.2) (some (4294967295, 1)) (some (4294967294, 0))) := by kernel_rfl
theorem kcm_16 (K O Q M : Int) : known_compared.f 16 K O Q M = (known_Meet.f K O Q M).bind fun t1 => br (eqI (bitw .and .u32 K Q) 4294967295) ((word_Do.f 16 O M).bind fun t2 => some (4294967295, t2.1)) (some (4294967294, 0)) := by kernel_rfl
theorem kcm_17 (K O Q M : Int) : known_compared.f 17 K O Q M = (known_Meet.f K O Q M).bind fun t1 => br (eqI (bitw .and .u32 K Q) 4294967295) ((word_Do.f 17 O M).bind fun t2 => some (4294967295, t2.1)) (some (4294967294, 0)) := by kernel_rfl
theorem kcm_18 (K O Q M : Int) : known_compared.f 18 K O Q M = (known_Meet.f K O Q M).bind fun t1 => br (eqI (bitw .and .u32 K Q) 4294967295) ((word_Do.f 18 O M).bind fun t2 => some (4294967295, t2.1)) (some (4294967294, 0)) := by kernel_rfl
theorem kcm_19 (K O Q M : Int) : known_compared.f 19 K O Q M = (known_Meet.f K O Q M).bind fun t1 => br (eqI (bitw .and .u32 K Q) 4294967295) ((word_Do.f 19 O M).bind fun t2 => some (4294967295, t2.1)) (some (4294967294, 0)) := by kernel_rfl
/-- What an operator makes of known bits: bits that are known, and right of every word that it makes. -/
def KD (op : Int) : Prop := ∀ K O Q M : B, Kok K O → Kok Q M → ∃ (K' O' : B) (b : Bool), known_Do.f 100 op K.toNat O.toNat Q.toNat M.toNat = some ((K'.toNat : Int), (O'.toNat : Int), b, 0) ∧ Kok K' O' ∧ ∀ x y w : B, Kh K O x → Kh Q M y → word_Do.f op x.toNat y.toNat = some ((w.toNat : Int), 0) → b = true ∧ Kh K' O' w
theorem kg_pre {K O Q M : B} (h : Kok K O) (g : Kok Q M) {R : Option (Int × Int × Bool × Int)} : br (!eqI (bitw .andNot .u32 (O.toNat : Int) K.toNat) 0) (some (0, 0, false, 2)) (br (!eqI (bitw .andNot .u32 (M.toNat : Int) Q.toNat) 0) (some (0, 0, false, 2)) R) = R := by
  rw [w_andNot, w_andNot, kok_iff.2 h, kok_iff.2 g]
  rfl
theorem KD.mk {op : Int} {K O Q M K' O' : B} (e : known_Do.f 100 op K.toNat O.toNat Q.toNat M.toNat = some ((K'.toNat : Int), (O'.toNat : Int), true, 0)) (k : Kok K' O') (h : ∀ x y w : B, Kh K O x → Kh Q M y → word_Do.f op x.toNat y.toNat = some ((w.toNat : Int), 0) → Kh K' O' w) :
    ∃ (K' O' : B) (b : Bool), known_Do.f 100 op K.toNat O.toNat Q.toNat M.toNat = some ((K'.toNat : Int), (O'.toNat : Int), b, 0) ∧ Kok K' O' ∧ ∀ x y w : B, Kh K O x → Kh Q M y → word_Do.f op x.toNat y.toNat = some ((w.toNat : Int), 0) → b = true ∧ Kh K' O' w :=
  ⟨K', O', true, e, k, fun x y w a b c => ⟨rfl, h x y w a b c⟩⟩
theorem wadd (x y : B) : IntKind.u32.wrap ((x.toNat : Int) + y.toNat) = ((x + y).toNat : Int) := by
  rw [IntKind.wrap_u32', BitVec.toNat_add]
  omega
theorem wsub (x y : B) : IntKind.u32.wrap ((x.toNat : Int) - y.toNat) = ((x - y).toNat : Int) := by
  have := x.isLt
  have := y.isLt
  rw [IntKind.wrap_u32', BitVec.toNat_sub]
  omega
theorem wmul (x y : B) : IntKind.u32.wrap ((x.toNat : Int) * y.toNat) = ((x * y).toNat : Int) := by
  rw [IntKind.wrap_u32', BitVec.toNat_mul]
  simp
theorem someB {a b : B} {f : Int} (h : some ((a.toNat : Int), f) = some ((b.toNat : Int), f)) : b = a := by
  simp only [Option.some.injEq, Prod.mk.injEq, and_true] at h
  exact (b_inj.1 h).symm
theorem KD1 : KD 1 := fun K O Q M h g => by
  refine KD.mk (K' := Lm (rn (K &&& Q))) (O' := (O + M) &&& Lm (rn (K &&& Q))) ?_ kok_meet fun x y w a b hw => ?_
  · rw [kg_1, kg_pre h g, car_is, word_1, Option.bind_some, Option.bind_some, wadd, w_and]
  · rw [word_1, wadd] at hw
    rw [someB hw]
    exact kh_add a b
theorem KD2 : KD 2 := fun K O Q M h g => by
  refine KD.mk (K' := Lm (rn (K &&& Q))) (O' := (O - M) &&& Lm (rn (K &&& Q))) ?_ kok_meet fun x y w a b hw => ?_
  · rw [kg_2, kg_pre h g, car_is, word_2, Option.bind_some, Option.bind_some, wsub, w_and]
  · rw [word_2, wsub] at hw
    rw [someB hw]
    exact kh_sub a b
theorem both_iff {K Q : B} : K &&& Q = BitVec.allOnes 32 ↔ K = BitVec.allOnes 32 ∧ Q = BitVec.allOnes 32 := by
  constructor
  · intro h
    have key : ∀ i, i < 32 → K.getLsbD i = true ∧ Q.getLsbD i = true := fun i hi => by
      have e := congrArg (fun z : B => z.getLsbD i) h
      have e : (K &&& Q).getLsbD i = (BitVec.allOnes 32).getLsbD i := e
      rw [ones_bit hi] at e
      simpa using e
    exact ⟨BitVec.eq_of_getLsbD_eq fun i hi => by rw [(key i hi).1, ones_bit hi], BitVec.eq_of_getLsbD_eq fun i hi => by rw [(key i hi).2, ones_bit hi]⟩
  · rintro ⟨rfl, rfl⟩
    exact BitVec.and_allOnes
theorem eqI_all (x : B) : eqI (x.toNat : Int) 4294967295 = decide (x = BitVec.allOnes 32) := eqI_b x (BitVec.allOnes 32)
theorem kok_all {O : B} : Kok (BitVec.allOnes 32) O := fun i h => ones_bit (lt32 h)
theorem zz : ((0 : B).toNat : Int) = 0 := rfl
theorem KD3 : KD 3 := fun K O Q M h g => by
  by_cases c : K &&& Q = BitVec.allOnes 32
  · obtain ⟨rfl, rfl⟩ := both_iff.1 c
    refine KD.mk (K' := BitVec.allOnes 32) (O' := O * M) ?_ kok_all fun x y w a b hw => ?_
    · rw [kg_3, kg_pre h g, w_and, eqI_all, decide_eq_true c, br_t, wmul]
      rfl
    · rw [word_3, wmul] at hw
      rw [someB hw, kh_all.1 a, kh_all.1 b]
      exact kh_all.2 rfl
  · refine KD.mk (K' := Lm (min (nz K O + nz Q M) 32)) (O' := 0) ?_ kok_zero fun x y w a b hw => ?_
    · have l1 := rn_le (K &&& ~~~O)
      have l2 := rn_le (Q &&& ~~~M)
      rw [kg_3, kg_pre h g, w_and, eqI_all, decide_eq_false c, br_f, w_andNot, w_not, tz_is, Option.bind_some, w_andNot, w_not, tz_is, Option.bind_some, BitVec.not_not, BitVec.not_not]
      have e : (if 32 < IntKind.i64.wrap (((rn (K &&& ~~~O) : Nat) : Int) + ((rn (Q &&& ~~~M) : Nat) : Int)) then 32 else IntKind.i64.wrap (((rn (K &&& ~~~O) : Nat) : Int) + ((rn (Q &&& ~~~M) : Nat) : Int))) = ((min (nz K O + nz Q M) 32 : Nat) : Int) := by
        unfold nz
        rw [IntKind.wrap_i64]
        omega
      rw [e]
      unfold known_low.f
      rw [lt_f (by omega), br_f, low_is (by omega), ← zz, w_and, show (0 : B) &&& Lm (min (nz K O + nz Q M) 32) = 0 from BitVec.zero_and]
      rfl
    · rw [word_3, wmul] at hw
      rw [someB hw]
      exact kh_mul a b
theorem KD8 : KD 8 := fun K O Q M h g => by
  refine KD.mk (K' := ((K &&& Q) ||| (K &&& ~~~O)) ||| (Q &&& ~~~M)) (O' := O &&& M) ?_ (kok_and h g) fun x y w a b hw => ?_
  · rw [kg_8, kg_pre h g]
    simp only [w_and, w_or, w_andNot]
  · rw [word_8, w_and] at hw
    rw [someB hw]
    exact kh_and a b
theorem KD9 : KD 9 := fun K O Q M h g => by
  refine KD.mk (K' := ((K &&& Q) ||| O) ||| M) (O' := O ||| M) ?_ kok_or fun x y w a b hw => ?_
  · rw [kg_9, kg_pre h g]
    simp only [w_and, w_or]
  · rw [word_9, w_or] at hw
    rw [someB hw]
    exact kh_or h g a b
theorem KD10 : KD 10 := fun K O Q M h g => by
  refine KD.mk (K' := K &&& Q) (O' := (O ^^^ M) &&& (K &&& Q)) ?_ kok_meet fun x y w a b hw => ?_
  · rw [kg_10, kg_pre h g]
    simp only [w_and, w_xor]
  · rw [word_10, w_xor] at hw
    rw [someB hw]
    exact kh_xor a b
/-! ### Divisions -/
theorem word_nz {op : Int} (h4 : 4 ≤ op) (h7 : op ≤ 7) {x y : Int} {w : Int} (hw : word_Do.f op x y = some (w, 0)) : y ≠ 0 := by
  rintro rfl
  obtain rfl | rfl | rfl | rfl : op = 4 ∨ op = 5 ∨ op = 6 ∨ op = 7 := by omega
  · rw [word_4, eq_t rfl, br_t] at hw; simp at hw
  · rw [word_5, eq_t rfl, br_t] at hw; simp at hw
  · rw [word_6, eq_t rfl, br_t] at hw; simp at hw
  · rw [word_7, eq_t rfl, br_t] at hw; simp at hw
/-- Of two words that are known whole a word is made. -/
theorem word_some {op : Int} (h1 : 1 ≤ op) (h2 : op ≤ 19) (x y : B) : ∃ (v : B) (f : Int), word_Do.f op x.toNat y.toNat = some ((v.toNat : Int), f) ∧ (f = 0 ∨ (f = 12 ∧ (y.toNat : Int) = 0 ∧ 4 ≤ op ∧ op ≤ 7)) := by
  obtain ⟨v, f, hr, hw, uv, c⟩ := in_all h1 h2 x y
  obtain ⟨V, rfl⟩ := b_of' uv
  refine ⟨V, f, hw, ?_⟩
  rcases c with ⟨rfl, hy, h4, h7, _⟩ | ⟨rfl, _⟩
  · exact .inr ⟨rfl, hy, h4, h7⟩
  · exact .inl rfl
theorem kdiv_gen {op : Int} (h4 : 4 ≤ op) (h7 : op ≤ 7) (kd : ∀ K O Q M : Int, known_divided.f op K O Q M = br (eqI Q 4294967295) (br (eqI M 0) (some (0, 0, false)) (br (eqI (bitw .and .u32 K Q) 4294967295) ((word_Do.f op O M).bind fun t => some (4294967295, t.1, true)) (some (0, 0, true)))) (br (eqI (bitw .and .u32 K Q) 4294967295) ((word_Do.f op O M).bind fun t => some (4294967295, t.1, true)) (some (0, 0, true))))
    (kg : ∀ K O Q M : Int, known_Do.f 100 op K O Q M = br (!eqI (bitw .andNot .u32 O K) 0) (some (0, 0, false, 2)) (br (!eqI (bitw .andNot .u32 M Q) 0) (some (0, 0, false, 2)) ((known_divided.f op K O Q M).bind fun t => some (t.1, t.2.1, t.2.2, 0)))) : KD op := fun K O Q M h g => by
  rw [kg, kg_pre h g, kd, w_and, eqI_all, eqI_all, eqI_0]
  by_cases c : Q = BitVec.allOnes 32
  · rw [decide_eq_true c, br_t]
    by_cases d : M = 0
    · rw [decide_eq_true d, br_t]
      refine ⟨0, 0, false, rfl, kok_zero, fun x y w a b hw => ?_⟩
      subst c d
      rw [kh_all.1 b] at hw
      exact absurd rfl (word_nz h4 h7 hw)
    · rw [decide_eq_false d, br_f]
      by_cases e : K &&& Q = BitVec.allOnes 32
      · obtain ⟨rfl, rfl⟩ := both_iff.1 e
        obtain ⟨v, f, hv, _⟩ := word_some (op := op) (by omega) (by omega) O M
        rw [decide_eq_true e, br_t, hv]
        refine ⟨BitVec.allOnes 32, v, true, rfl, kok_all, fun x y w a b hw => ⟨rfl, ?_⟩⟩
        rw [kh_all.1 a, kh_all.1 b, hv] at hw
        simp only [Option.some.injEq, Prod.mk.injEq] at hw
        rw [b_inj.1 hw.1]
        exact kh_all.2 rfl
      · rw [decide_eq_false e, br_f]
        exact ⟨0, 0, true, rfl, kok_zero, fun x y w a b hw => ⟨rfl, fun i k => by simp at k⟩⟩
  · rw [decide_eq_false c, br_f, decide_eq_false (fun e => c (both_iff.1 e).2), br_f]
    exact ⟨0, 0, true, rfl, kok_zero, fun x y w a b hw => ⟨rfl, fun i k => by simp at k⟩⟩
theorem KD4 : KD 4 := kdiv_gen (by decide) (by decide) kdiv_4 kg_4
theorem KD6 : KD 6 := kdiv_gen (by decide) (by decide) kdiv_6 kg_6
theorem KD7 : KD 7 := kdiv_gen (by decide) (by decide) kdiv_7 kg_7
theorem one_n : (1 : Int) = ((1 : B).toNat : Int) := rfl
theorem KD5 : KD 5 := fun K O Q M h g => by
  rw [kg_5, kg_pre h g, kdiv_5, w_and, eqI_all, eqI_all, eqI_0]
  by_cases c : Q = BitVec.allOnes 32
  · rw [decide_eq_true c, br_t]
    by_cases d : M = 0
    · rw [decide_eq_true d, br_t]
      refine ⟨0, 0, false, rfl, kok_zero, fun x y w a b hw => ?_⟩
      subst c d
      rw [kh_all.1 b] at hw
      exact absurd rfl (word_nz (op := 5) (by decide) (by decide) hw)
    · rw [decide_eq_false d, br_f]
      by_cases e : K &&& Q = BitVec.allOnes 32
      · obtain ⟨rfl, rfl⟩ := both_iff.1 e
        obtain ⟨v, f, hv, _⟩ := word_some (op := 5) (by omega) (by omega) O M
        rw [decide_eq_true e, br_t, hv]
        refine ⟨BitVec.allOnes 32, v, true, rfl, kok_all, fun x y w a b hw => ⟨rfl, ?_⟩⟩
        rw [kh_all.1 a, kh_all.1 b, hv] at hw
        simp only [Option.some.injEq, Prod.mk.injEq] at hw
        rw [b_inj.1 hw.1]
        exact kh_all.2 rfl
      · rw [decide_eq_false e, br_f, br_t]
        obtain ⟨n, hn, hp⟩ := count_is M
        rw [hn, Option.bind_some]
        by_cases f : n = 1
        · obtain ⟨j, hj, hM⟩ := hp.1 f
          rw [eq_t f, br_t, one_n, wsub, w_and, w_not, w_or, w_and]
          refine ⟨(K &&& (M - 1)) ||| ~~~(M - 1), O &&& (M - 1), true, rfl, kok_rem h, fun x y w a b hw => ⟨rfl, ?_⟩⟩
          subst c
          rw [kh_all.1 b, word_5] at hw
          have nz : (M.toNat : Int) ≠ 0 := by
            have := Nat.two_pow_pos j
            omega
          rw [eq_f nz, br_f, br_f, Int.tmod_eq_emod_of_nonneg (by omega)] at hw
          have e : ((x.toNat : Int) % M.toNat) = ((x % M).toNat : Int) := by
            rw [BitVec.toNat_umod]
            simp
          rw [e] at hw
          rw [someB hw]
          exact kh_rem hj hM a
        · rw [eq_f f, br_f]
          exact ⟨0, 0, true, rfl, kok_zero, fun x y w a b hw => ⟨rfl, fun i k => by simp at k⟩⟩
  · rw [decide_eq_false c, br_f, decide_eq_false (fun e => c (both_iff.1 e).2), br_f, br_f]
    exact ⟨0, 0, true, rfl, kok_zero, fun x y w a b hw => ⟨rfl, fun i k => by simp at k⟩⟩
/-! ### Shifts -/
theorem shlB (x : B) (n : Nat) : X.shl .u32 (x.toNat : Int) (n : Int) = ((x <<< n).toNat : Int) := by
  unfold X.shl
  rw [IntKind.wrap_u32', BitVec.toNat_shiftLeft, Nat.shiftLeft_eq]
  show ((x.toNat : Int) * 2 ^ (min n 32)) % 4294967296 = _
  have e : ((2 : Int) ^ (min n 32)) = ((2 ^ (min n 32) : Nat) : Int) := by simp
  rw [e]
  by_cases c : n ≤ 32
  · rw [Nat.min_eq_left c]
    simp
  · rw [Nat.min_eq_right (by omega)]
    have d : x.toNat * 2 ^ n % 2 ^ 32 = 0 := by
      rw [show n = 32 + (n - 32) by omega, Nat.pow_add, Nat.mul_comm, Nat.mul_assoc]
      exact Nat.mul_mod_right _ _
    rw [d]
    omega
theorem shrB (x : B) (n : Nat) : X.shr .u32 (x.toNat : Int) (n : Int) = ((x >>> n).toNat : Int) := by
  have hx := x.isLt
  unfold X.shr
  rw [Int.fdiv_eq_ediv_of_nonneg _ (Int.le_of_lt (Int.pow_pos (by decide))), BitVec.toNat_ushiftRight, Nat.shiftRight_eq_div_pow]
  show (x.toNat : Int) / 2 ^ (min n 32) = _
  have e : ((2 : Int) ^ (min n 32)) = ((2 ^ (min n 32) : Nat) : Int) := by simp
  rw [e]
  by_cases c : n ≤ 32
  · rw [Nat.min_eq_left c]
    simp
  · rw [Nat.min_eq_right (by omega)]
    have p : 2 ^ 32 ≤ 2 ^ n := Nat.pow_le_pow_right (by decide) (by omega)
    rw [Nat.div_eq_of_lt (by omega)]
    omega
theorem sgI (x : B) : sg (x.toNat : Int) = x.toInt := by
  have hx := x.isLt
  unfold sg
  rw [BitVec.toInt_eq_toNat_cond]
  split <;> split <;> omega
theorem sarB (x : B) (n : Nat) : IntKind.u32.wrap (X.shr .i32 (IntKind.i32.wrap (x.toNat : Int)) (n : Int)) = ((x.sshiftRight n).toNat : Int) := by
  rw [sg_i32 (u_b x), sgI]
  have h1 : (x.sshiftRight n).toInt = x.toInt >>> n := BitVec.toInt_sshiftRight
  have h2 : ((x.sshiftRight n).toNat : Int) = (x.sshiftRight n).toInt % 4294967296 := by
    have := (x.sshiftRight n).isLt
    rw [BitVec.toInt_eq_toNat_cond]
    split <;> omega
  rw [h2, h1, IntKind.wrap_u32']
  congr 1
  unfold X.shr
  rw [Int.fdiv_eq_ediv_of_nonneg _ (Int.le_of_lt (Int.pow_pos (by decide))), Int.shiftRight_eq_div_pow]
  show x.toInt / 2 ^ (min n 32) = x.toInt / ((2 ^ n : Nat) : Int)
  have e : ((2 : Int) ^ (min n 32)) = ((2 ^ (min n 32) : Nat) : Int) := by simp
  rw [e]
  by_cases c : n ≤ 32
  · rw [Nat.min_eq_left c]
  · rw [Nat.min_eq_right (by omega)]
    have b1 : -2147483648 ≤ x.toInt ∧ x.toInt < 2147483648 := by
      have := BitVec.le_toInt x
      have := BitVec.toInt_lt (x := x)
      omega
    have p : 2 ^ 32 ≤ 2 ^ n := Nat.pow_le_pow_right (by decide) (by omega)
    rcases Int.lt_or_le x.toInt 0 with q | q
    · have a1 : x.toInt / ((2 ^ 32 : Nat) : Int) = -1 := by omega
      have a2 : x.toInt / ((2 ^ n : Nat) : Int) = -1 := by
        generalize 2 ^ n = z at *
        have : (0 : Int) < (z : Int) := by omega
        rw [Int.ediv_eq_iff_of_pos this]
        omega
      rw [a1, a2]
    · rw [Int.ediv_eq_zero_of_lt q (by omega), Int.ediv_eq_zero_of_lt q (by generalize 2 ^ n = z at *; omega)]
theorem min32 (n : Nat) : (if 32 < (n : Int) then 32 else (n : Int)) = ((min n 32 : Nat) : Int) := by omega
theorem word11 (x : B) (n : Nat) : word_Do.f 11 x.toNat (n : Int) = some (((x <<< n).toNat : Int), 0) := by
  rw [word_11, lt_f (by omega), br_f, shlB]
theorem word12 (x : B) (n : Nat) : word_Do.f 12 x.toNat (n : Int) = some (((x >>> n).toNat : Int), 0) := by
  rw [word_12, lt_f (by omega), br_f, shrB]
theorem word13 (x : B) (n : Nat) : word_Do.f 13 x.toNat (n : Int) = some (((x.sshiftRight n).toNat : Int), 0) := by
  rw [word_13, lt_f (by omega), br_f, sarB]
theorem shr_min (n : Nat) : BitVec.allOnes 32 >>> (min n 32) = BitVec.allOnes 32 >>> n := by
  by_cases c : n ≤ 32
  · rw [Nat.min_eq_left c]
  · refine BitVec.eq_of_getLsbD_eq fun i hi => ?_
    rw [BitVec.getLsbD_ushiftRight, BitVec.getLsbD_ushiftRight, BitVec.getLsbD_of_ge _ _ (by omega), BitVec.getLsbD_of_ge _ _ (by omega)]
theorem shr64 {n : Nat} (h : n ≤ 32) : IntKind.u32.wrap (X.shr .u64 4294967295 (n : Int)) = ((BitVec.allOnes 32 >>> n).toNat : Int) := by
  have e : ∀ n : Nat, n < 33 → IntKind.u32.wrap (X.shr .u64 4294967295 (n : Int)) = ((BitVec.allOnes 32 >>> n).toNat : Int) := by decide +kernel
  exact e n (by omega)
theorem ksh_gen {op : Int} (kg : ∀ K O Q M : Int, known_Do.f 100 op K O Q M = br (!eqI (bitw .andNot .u32 O K) 0) (some (0, 0, false, 2)) (br (!eqI (bitw .andNot .u32 M Q) 0) (some (0, 0, false, 2)) (br (!eqI Q 4294967295) (some (0, 0, true, 0)) ((known_shift.f K O M op).bind fun t => some (t.1, t.2, true, 0)))))
    (sh : ∀ K O M : B, Kok K O → ∃ K' O' : B, known_shift.f K.toNat O.toNat M.toNat op = some ((K'.toNat : Int), (O'.toNat : Int)) ∧ Kok K' O' ∧ ∀ x w : B, Kh K O x → word_Do.f op x.toNat M.toNat = some ((w.toNat : Int), 0) → Kh K' O' w) : KD op := fun K O Q M h g => by
  rw [kg, kg_pre h g, eqI_all]
  by_cases c : Q = BitVec.allOnes 32
  · obtain ⟨K', O', e, k, s⟩ := sh K O M h
    rw [decide_eq_true c, Bool.not_true, br_f, e]
    refine ⟨K', O', true, rfl, k, fun x y w a b hw => ⟨rfl, s x w a ?_⟩⟩
    subst c
    rw [kh_all.1 b] at hw
    exact hw
  · rw [decide_eq_false c]
    exact ⟨0, 0, true, rfl, kok_zero, fun x y w a b hw => ⟨rfl, fun i k => by simp at k⟩⟩
theorem KD11 : KD 11 := ksh_gen kg_11 fun K O M h => by
  refine ⟨(K <<< M.toNat) ||| Lm (min M.toNat 32), (O <<< M.toNat) &&& ((K <<< M.toNat) ||| Lm (min M.toNat 32)), ?_, kok_meet, fun x w a hw => ?_⟩
  · rw [ksh_11, word11, word11, Option.bind_some, Option.bind_some, min32, lt_f (by omega), br_f, low_is (by omega), w_or, w_and]
  · rw [word11] at hw
    rw [someB hw]
    exact kh_shl _ a
theorem KD12 : KD 12 := ksh_gen kg_12 fun K O M h => by
  refine ⟨(K >>> M.toNat) ||| ~~~(BitVec.allOnes 32 >>> M.toNat), (O >>> M.toNat) &&& ((K >>> M.toNat) ||| ~~~(BitVec.allOnes 32 >>> M.toNat)), ?_, kok_meet, fun x w a hw => ?_⟩
  · rw [ksh_12, word12, word12, Option.bind_some, Option.bind_some, min32, lt_f (by omega), br_f, shr64 (by omega), shr_min, w_not, w_or, w_and]
  · rw [word12] at hw
    rw [someB hw]
    exact kh_shr _ a
theorem KD13 : KD 13 := ksh_gen kg_13 fun K O M h => by
  refine ⟨K.sshiftRight M.toNat, (O.sshiftRight M.toNat) &&& (K.sshiftRight M.toNat), ?_, kok_meet, fun x w a hw => ?_⟩
  · rw [ksh_13, word13, word13, Option.bind_some, Option.bind_some, w_and]
  · rw [word13] at hw
    rw [someB hw]
    exact kh_sar _ a
/-! ### Comparisons -/
theorem kcm_gen {op : Int} (h1 : 14 ≤ op) (h2 : op ≤ 19) {d e : Option (Int × Int)} (kg : ∀ K O Q M : Int, known_Do.f 100 op K O Q M = br (!eqI (bitw .andNot .u32 O K) 0) (some (0, 0, false, 2)) (br (!eqI (bitw .andNot .u32 M Q) 0) (some (0, 0, false, 2)) ((known_compared.f op K O Q M).bind fun t => some (t.1, t.2, true, 0))))
    (kc : ∀ K O Q M : Int, known_compared.f op K O Q M = (known_Meet.f K O Q M).bind fun t1 => br (eqI (bitw .and .u32 K Q) 4294967295) ((word_Do.f op O M).bind fun t2 => some (4294967295, t2.1)) (br (!t1.2.2) d e))
    (hd : ∃ K' O' : B, d = some ((K'.toNat : Int), (O'.toNat : Int)) ∧ Kok K' O' ∧ ∀ x y w : B, x ≠ y → word_Do.f op x.toNat y.toNat = some ((w.toNat : Int), 0) → Kh K' O' w)
    (he : ∃ K' O' : B, e = some ((K'.toNat : Int), (O'.toNat : Int)) ∧ Kok K' O' ∧ ∀ x y w : B, word_Do.f op x.toNat y.toNat = some ((w.toNat : Int), 0) → Kh K' O' w) : KD op := fun K O Q M h g => by
  rw [kg, kg_pre h g, kc, meet_is _ _ _ _ (kok_iff.2 h) (kok_iff.2 g), Option.bind_some, w_and, eqI_all]
  by_cases c : K &&& Q = BitVec.allOnes 32
  · obtain ⟨rfl, rfl⟩ := both_iff.1 c
    obtain ⟨v, f, hv, _⟩ := word_some (op := op) (by omega) (by omega) O M
    rw [decide_eq_true c, br_t, hv]
    refine ⟨BitVec.allOnes 32, v, true, rfl, kok_all, fun x y w a b hw => ⟨rfl, ?_⟩⟩
    rw [kh_all.1 a, kh_all.1 b, hv] at hw
    simp only [Option.some.injEq, Prod.mk.injEq] at hw
    rw [b_inj.1 hw.1]
    exact kh_all.2 rfl
  · rw [decide_eq_false c, br_f]
    obtain ⟨K', O', rfl, k, s⟩ := he
    obtain ⟨K2, O2, rfl, k2, s2⟩ := hd
    by_cases m : (O ^^^ M) &&& K &&& Q = 0
    · rw [if_pos m]
      exact ⟨K', O', true, rfl, k, fun x y w a b hw => ⟨rfl, s x y w hw⟩⟩
    · rw [if_neg m]
      exact ⟨K2, O2, true, rfl, k2, fun x y w a b hw => ⟨rfl, s2 x y w (meet_ne a b m) hw⟩⟩
theorem flag_n : (4294967294 : Int) = ((BitVec.allOnes 32 &&& ~~~1 : B).toNat : Int) := by decide
theorem yes_flag {b : Bool} {w : B} (h : br b (some ((1 : Int), (0 : Int))) (some (0, 0)) = some ((w.toNat : Int), 0)) : w = 0 ∨ w = 1 := by
  cases b with
  | true =>
    rw [br_t] at h
    simp only [Option.some.injEq, Prod.mk.injEq, and_true] at h
    exact .inr (b_inj.1 h.symm)
  | false =>
    rw [br_f] at h
    simp only [Option.some.injEq, Prod.mk.injEq, and_true] at h
    exact .inl (b_inj.1 h.symm)
theorem flagged {op : Int} (hw : ∀ x y : Int, ∃ b : Bool, word_Do.f op x y = br b (some (1, 0)) (some (0, 0))) : ∃ K' O' : B, (some ((4294967294 : Int), (0 : Int))) = some ((K'.toNat : Int), (O'.toNat : Int)) ∧ Kok K' O' ∧ ∀ x y w : B, word_Do.f op x.toNat y.toNat = some ((w.toNat : Int), 0) → Kh K' O' w :=
  ⟨BitVec.allOnes 32 &&& ~~~1, 0, rfl, kok_zero, fun x y w h => by
    obtain ⟨b, e⟩ := hw x.toNat y.toNat
    rw [e] at h
    exact kh_flag (yes_flag h)⟩
theorem KD14 : KD 14 := kcm_gen (by decide) (by decide) kg_14 kcm_14 ⟨BitVec.allOnes 32, 0, rfl, kok_all, fun x y w ne hw => by
    rw [word_14, eqI_b, decide_eq_false ne, br_f] at hw
    simp only [Option.some.injEq, Prod.mk.injEq, and_true] at hw
    exact kh_all.2 (b_inj.1 hw.symm)⟩ (flagged fun x y => ⟨_, word_14 x y⟩)
theorem KD15 : KD 15 := kcm_gen (by decide) (by decide) kg_15 kcm_15 ⟨BitVec.allOnes 32, 1, rfl, kok_all, fun x y w ne hw => by
    rw [word_15, eqI_b, decide_eq_false ne, Bool.not_false, br_t] at hw
    simp only [Option.some.injEq, Prod.mk.injEq, and_true] at hw
    exact kh_all.2 (b_inj.1 hw.symm)⟩ (flagged fun x y => ⟨_, word_15 x y⟩)
theorem br_same {R : Type} {b : Bool} {x : Option R} : br b x x = x := by cases b <;> rfl
theorem kcm_same {op : Int} (h1 : 14 ≤ op) (h2 : op ≤ 19) (kg : ∀ K O Q M : Int, known_Do.f 100 op K O Q M = br (!eqI (bitw .andNot .u32 O K) 0) (some (0, 0, false, 2)) (br (!eqI (bitw .andNot .u32 M Q) 0) (some (0, 0, false, 2)) ((known_compared.f op K O Q M).bind fun t => some (t.1, t.2, true, 0))))
    (kc : ∀ K O Q M : Int, known_compared.f op K O Q M = (known_Meet.f K O Q M).bind fun t1 => br (eqI (bitw .and .u32 K Q) 4294967295) ((word_Do.f op O M).bind fun t2 => some (4294967295, t2.1)) (some (4294967294, 0)))
    (hw : ∀ x y : Int, ∃ b : Bool, word_Do.f op x y = br b (some (1, 0)) (some (0, 0))) : KD op :=
  kcm_gen (d := some (4294967294, 0)) (e := some (4294967294, 0)) h1 h2 kg (fun K O Q M => by rw [kc]; simp only [br_same]) (by
    obtain ⟨K', O', a, b, c⟩ := flagged hw
    exact ⟨K', O', a, b, fun x y w _ h => c x y w h⟩) (flagged hw)
theorem KD16 : KD 16 := kcm_same (by decide) (by decide) kg_16 kcm_16 fun x y => ⟨_, word_16 x y⟩
theorem KD17 : KD 17 := kcm_same (by decide) (by decide) kg_17 kcm_17 fun x y => ⟨_, word_17 x y⟩
theorem KD18 : KD 18 := kcm_same (by decide) (by decide) kg_18 kcm_18 fun x y => ⟨_, word_18 x y⟩
theorem KD19 : KD 19 := kcm_same (by decide) (by decide) kg_19 kcm_19 fun x y => ⟨_, word_19 x y⟩
theorem KDall {op : Int} (h1 : 1 ≤ op) (h2 : op ≤ 19) : KD op := by
  rcases ops19 h1 h2 with rfl | rfl | rfl | rfl | rfl | rfl | rfl | rfl | rfl | rfl | rfl | rfl | rfl | rfl | rfl | rfl | rfl | rfl | rfl
  · exact KD1
  · exact KD2
  · exact KD3
  · exact KD4
  · exact KD5
  · exact KD6
  · exact KD7
  · exact KD8
  · exact KD9
  · exact KD10
  · exact KD11
  · exact KD12
  · exact KD13
  · exact KD14
  · exact KD15
  · exact KD16
  · exact KD17
  · exact KD18
  · exact KD19
/-! ### Values: what belongs to them -/
theorem and_eq {K O x : B} (h : Kok K O) : x &&& K = O ↔ Kh K O x := by
  constructor
  · rintro rfl i k
    simp [k]
  · intro g
    refine bitx fun i => ?_
    have a := h i
    have b := g i
    rw [BitVec.getLsbD_and]
    revert a b
    cases K.getLsbD i <;> cases O.getLsbD i <;> cases x.getLsbD i <;> simp
theorem Ok_kok {s : S} : s.Ok ↔ Kok s.K s.O := Iff.rfl
theorem has_kh {s : S} {x : B} : s.Has x ↔ s.lo.toNat ≤ x.toNat ∧ x.toNat ≤ s.hi.toNat ∧ Kh s.K s.O x := Iff.rfl
theorem Has_is (s : S) (x : B) : ∃ b, value_Has.f 100 s.lo.toNat s.hi.toNat s.K.toNat s.O.toNat x.toNat = some b ∧ (b = true ↔ s.Fx ∧ s.Has x) := by
  obtain ⟨e, h, f⟩ := Check_is (k := 100) (by decide) s
  unfold value_Has.f value_of.f
  simp only [Option.bind_some, h]
  by_cases c : e = 0
  · have fx := f.1 c
    rw [eq_t c, Bool.not_true, br_f]
    unfold interval_Has.f known_Has.f
    have le := fx.le
    rw [lt_f (by omega), br_f, leI_d, br_ite]
    by_cases c1 : (s.lo.toNat : Int) ≤ x.toNat
    · rw [if_pos c1, Option.bind_some, leI_d, br_ite]
      by_cases c2 : (x.toNat : Int) ≤ s.hi.toNat
      · rw [if_pos c2, w_andNot, kok_iff.2 fx.ok, eqI_0, decide_eq_true rfl, Bool.not_true, br_f, w_and, eqI_b]
        refine ⟨_, rfl, ?_⟩
        rw [decide_eq_true_eq, and_eq fx.ok, has_kh]
        exact ⟨fun q => ⟨fx, by omega, by omega, q⟩, fun q => q.2.2.2⟩
      · rw [if_neg c2]
        exact ⟨false, rfl, by simp [has_kh]; omega⟩
    · rw [if_neg c1]
      exact ⟨false, rfl, by simp [has_kh]; omega⟩
  · rw [eq_f c]
    exact ⟨false, rfl, ⟨fun h => (by cases h), fun g => absurd (f.2 g.1) c⟩⟩
theorem Has_t {s : S} {x : B} (f : s.Fx) (h : s.Has x) : value_Has.f 100 s.lo.toNat s.hi.toNat s.K.toNat s.O.toNat x.toNat = some true := by
  obtain ⟨b, e, g⟩ := Has_is s x
  rw [e, g.2 ⟨f, h⟩]
theorem Check_t {s : S} (f : s.Fx) : value_Check.f 100 s.lo.toNat s.hi.toNat s.K.toNat s.O.toNat = some 0 := by
  obtain ⟨e, h, g⟩ := Check_is (k := 100) (by decide) s
  rw [h, g.2 f]
/-- A word of both parts is in the fitted value. -/
theorem fit_has {s : S} {x : B} (k : Kok s.K s.O) (h : s.Has x) : ∃ t, fitV s = some t ∧ t.Fx ∧ t.Has x ∧ t.W s := by
  obtain ⟨t, e, fx, w1, w2, _⟩ := fit_some (a := one x) (s := s) k (one_fx x) (has_iff.1 h)
  refine ⟨t, ?_, fx, has_iff.2 w1, w2⟩
  unfold fitV
  rw [if_neg (by have := h.1; have := h.2.1; omega), if_pos (kok_iff.2 k), e]
theorem fit_in {s t : S} (h : fitV s = some t) : t.Fx ∧ t.W s := by
  unfold fitV at h
  split at h
  · cases h
  · split at h
    · rename_i c
      have f := fit_found (ok_of c)
      rw [h] at f
      exact ⟨f.1, f.2.1⟩
    · cases h
theorem V_of {s : S} (f : s.Fx) : V (s.lo.toNat : Int) s.hi.toNat := ⟨by omega, by have := f.le; omega, by have := s.hi.isLt; omega⟩
/-- What the operators make of words. -/
theorem word_wd {op : Int} (h1 : 1 ≤ op) (h2 : op ≤ 19) {x y : Int} (hx : U x) (hy : U y) (hn : ¬ (4 ≤ op ∧ op ≤ 7 ∧ y = 0)) : word_Do.f op x y = some (wd op x y, 0) := by
  rcases ops19 h1 h2 with rfl | rfl | rfl | rfl | rfl | rfl | rfl | rfl | rfl | rfl | rfl | rfl | rfl | rfl | rfl | rfl | rfl | rfl | rfl
  · rw [word_1, IntKind.wrap_u32']; rfl
  · rw [word_2, IntKind.wrap_u32']; rfl
  · rw [word_3, IntKind.wrap_u32']; rfl
  · rw [word_4, eq_f (by omega), br_f, br_f, w_u (u_div hx hy), Int.tdiv_eq_ediv_of_nonneg hx.1]; rfl
  · rw [word_5, eq_f (by omega), br_f, br_f, Int.tmod_eq_emod_of_nonneg hx.1]; rfl
  · have z : sg y ≠ 0 := fun e => by rw [sg_0 hy] at e; omega
    rw [word_6, sg_i32 hx, sg_i32 hy, eq_f (by omega), eq_f z, br_f, br_f, u_i32, ← u_i64, IntKind.wrap_u32']; rfl
  · have z : sg y ≠ 0 := fun e => by rw [sg_0 hy] at e; omega
    rw [word_7, sg_i32 hx, sg_i32 hy, eq_f (by omega), eq_f z, br_f, br_f, IntKind.wrap_u32']; rfl
  · rw [word_8, bitw_eq]; rfl
  · rw [word_9, bitw_eq]; rfl
  · rw [word_10, bitw_eq]; rfl
  · rw [word_11, lt_f (by have := hy.1; omega), br_f]
    show _ = some (if y > 31 then 0 else X.shl .u32 x y, 0)
    split
    · obtain ⟨X, rfl⟩ := b_of' hx
      obtain ⟨n, rfl⟩ : ∃ n : Nat, y = n := ⟨y.toNat, by have := hy.1; omega⟩
      rw [shlB]
      have : X <<< n = 0 := BitVec.shiftLeft_eq_zero (by omega)
      rw [this]; rfl
    · rfl
  · rw [word_12, lt_f (by have := hy.1; omega), br_f, shr_sr]
    show _ = some (if y > 31 then 0 else X.shr .u32 x y, 0)
    split
    · rename_i h; rw [sr_big hx h]
    · rw [shr_sr]
  · rw [word_13, lt_f (by have := hy.1; omega), br_f, sg_i32 hx, IntKind.wrap_u32']
    show _ = some ((sg x / 2 ^ (min y 32).toNat) % 4294967296, 0)
    unfold X.shr
    rw [Int.fdiv_eq_ediv_of_nonneg _ (Int.le_of_lt (Int.pow_pos (by decide)))]
    have e : min y.toNat IntKind.i32.bits = (min y 32).toNat := by
      show min y.toNat 32 = _
      omega
    rw [e]
  · rw [word_14, eqI_d, br_ite]
    show _ = some (if x = y then 1 else 0, 0)
    split <;> rfl
  · rw [word_15, eqI_d, br_nite]
    show _ = some (if x = y then 0 else 1, 0)
    split <;> rfl
  · rw [word_16, ltI_d, br_ite]
    show _ = some (if x < y then 1 else 0, 0)
    split <;> rfl
  · rw [word_17, leI_d, br_ite]
    show _ = some (if x ≤ y then 1 else 0, 0)
    split <;> rfl
  · rw [word_18, sg_i32 hx, sg_i32 hy, ltI_d, br_ite]
    show _ = some (if sg x < sg y then 1 else 0, 0)
    split <;> rfl
  · rw [word_19, sg_i32 hx, sg_i32 hy, leI_d, br_ite]
    show _ = some (if sg x ≤ sg y then 1 else 0, 0)
    split <;> rfl
/-- An operator on two values: it never fails, and what it makes of their words is in the result. -/
theorem Do_sound {op : Int} (h1 : 1 ≤ op) (h2 : op ≤ 19) {a b : S} (fa : a.Fx) (fb : b.Fx) {x y : B} (hx : a.Has x) (hy : b.Has y) : ∃ (z : S) (ok : Bool) (w : B) (g : Int),
    value_Do.f 100 op a.lo.toNat a.hi.toNat a.K.toNat a.O.toNat b.lo.toNat b.hi.toNat b.K.toNat b.O.toNat = some ((z.lo.toNat : Int), (z.hi.toNat : Int), (z.K.toNat : Int), (z.O.toNat : Int), ok, 0) ∧ lamplighterref01_Do.f op x.toNat y.toNat = some ((w.toNat : Int), g) ∧ (g = 0 → ok = true ∧ z.Fx ∧ z.Has w) := by
  obtain ⟨v, g, hr, hw, uv, _⟩ := in_all h1 h2 x y
  obtain ⟨w, rfl⟩ := b_of' uv
  have hz : g = 0 → ¬ (4 ≤ op ∧ op ≤ 7 ∧ (y.toNat : Int) = 0) := by
    rintro rfl ⟨q1, q2, q3⟩
    exact word_nz q1 q2 hw q3
  have va := V_of fa
  have vb := V_of fb
  have vd := V.ado h1 h2 va vb
  obtain ⟨K', O', kb, hk, kk, ks⟩ := KDall h1 h2 a.K a.O b.K b.O fa.ok fb.ok
  obtain ⟨lo, el⟩ := b_of' vd.ul
  obtain ⟨hi, eh⟩ := b_of' vd.uh
  have inw : g = 0 → lo.toNat ≤ w.toNat ∧ w.toNat ≤ hi.toNat ∧ (doS op a.lo.toNat a.hi.toNat b.lo.toNat b.hi.toNat).2.2 = true ∧ kb = true ∧ Kh K' O' w := by
    rintro rfl
    have s := sound h1 h2 va vb (p := x.toNat) (q := y.toNat) (by have := hx.1; omega) (by have := hx.2.1; omega) (by have := hy.1; omega) (by have := hy.2.1; omega) (by have := hz rfl; omega)
    have e : wd op x.toNat y.toNat = (w.toNat : Int) := by
      have q := word_wd h1 h2 (u_b x) (u_b y) (hz rfl)
      rw [hw] at q
      simp only [Option.some.injEq, Prod.mk.injEq, and_true] at q
      exact q.symm
    rw [e] at s
    obtain ⟨s1, s2, s3⟩ := s
    rw [el] at s1
    rw [eh] at s2
    obtain ⟨k1, k2⟩ := ks x y w hx.2.2 hy.2.2 hw
    exact ⟨by omega, by omega, s3, k1, k2⟩
  unfold value_Do.f
  rw [Check_t fa, Check_t fb, do_is h1 h2 va vb, hk]
  unfold Yd
  rw [el, eh]
  simp only [Option.bind_some, eq_t rfl, Bool.not_true, br_f]
  cases hb : (doS op a.lo.toNat a.hi.toNat b.lo.toNat b.hi.toNat).2.2 with
  | false =>
    refine ⟨⟨0, 0, 0, 0⟩, false, w, g, rfl, hr, fun h => ?_⟩
    have := (inw h).2.2.1
    rw [hb] at this
    cases this
  | true =>
    cases kb with
    | false => exact ⟨⟨0, 0, 0, 0⟩, false, w, g, rfl, hr, fun h => by cases (inw h).2.2.2.1⟩
    | true =>
      simp only [Bool.not_true, br_f]
      have fi := Fit_is (k := 100) (by decide) ⟨lo, hi, K', O'⟩
      simp only at fi
      rw [fi]
      cases ft : fitV ⟨lo, hi, K', O'⟩ with
      | none =>
        refine ⟨⟨0, 0, 0, 0⟩, false, w, g, rfl, hr, fun h => ?_⟩
        have i := inw h
        obtain ⟨t, e, _⟩ := fit_has (s := ⟨lo, hi, K', O'⟩) kk (x := w) ⟨i.1, i.2.1, i.2.2.2.2⟩
        rw [ft] at e
        cases e
      | some t =>
        refine ⟨t, true, w, g, rfl, hr, fun h => ?_⟩
        have i := inw h
        obtain ⟨t', e, fx, hs, _⟩ := fit_has (s := ⟨lo, hi, K', O'⟩) kk (x := w) ⟨i.1, i.2.1, i.2.2.2.2⟩
        rw [ft] at e
        cases e
        exact ⟨rfl, fx, hs⟩
/-- Both parts, fitted: a word of both is there. -/
theorem fitted_has {s : S} {x : B} (k : Kok s.K s.O) (h : s.Has x) : ∃ t : S, value_fitted.f 100 s.lo.toNat s.hi.toNat s.K.toNat s.O.toNat = some ((t.lo.toNat : Int), (t.hi.toNat : Int), (t.K.toNat : Int), (t.O.toNat : Int)) ∧ t.Fx ∧ t.Has x ∧ fitV s = some t := by
  obtain ⟨t, e, fx, hs, w⟩ := fit_has k h
  refine ⟨t, ?_, fx, hs, e⟩
  unfold value_fitted.f
  rw [Fit_is (k := 100) (by decide) s, e]
  rfl
theorem mnB (x y : B) : (if (y.toNat : Int) < (x.toNat : Int) then (y.toNat : Int) else (x.toNat : Int)) = ((bmin x y).toNat : Int) := bmin_int x y
theorem Join_raw {a b : S} (fa : a.Fx) (fb : b.Fx) : value_Join.f 100 a.lo.toNat a.hi.toNat a.K.toNat a.O.toNat b.lo.toNat b.hi.toNat b.K.toNat b.O.toNat = (value_fitted.f 100 (raw a b).lo.toNat (raw a b).hi.toNat (raw a b).K.toNat (raw a b).O.toNat).bind fun t => some (t.1, t.2.1, t.2.2.1, t.2.2.2) := by
  have ha := (V_of fa).o
  have hb := (V_of fb).o
  unfold value_Join.f interval_Join.f known_Join.f
  rw [Check_t fa, Check_t fb, lt_f (by omega), lt_f (by omega), w_andNot, w_andNot, kok_iff.2 fa.ok, kok_iff.2 fb.ok]
  simp only [Option.bind_some, eq_t rfl, Bool.not_true, br_f, eqI_0, decide_true, bmin_int, bmax_int, w_and, w_xor, w_andNot]
  rfl
theorem has_mono {a s : S} {x : B} (h : a.Has x) (w : a.W s) : s.Has x := has_iff.2 (W_trans (has_iff.1 h) w)
theorem Join_has {a b : S} (fa : a.Fx) (fb : b.Fx) {x : B} (h : a.Has x ∨ b.Has x) : ∃ t : S, value_Join.f 100 a.lo.toNat a.hi.toNat a.K.toNat a.O.toNat b.lo.toNat b.hi.toNat b.K.toNat b.O.toNat = some ((t.lo.toNat : Int), (t.hi.toNat : Int), (t.K.toNat : Int), (t.O.toNat : Int)) ∧ t.Fx ∧ t.Has x ∧ fitV (raw a b) = some t := by
  have hx : (raw a b).Has x := h.elim (fun h => has_mono h raw_l) fun h => has_mono h raw_r
  obtain ⟨t, e, fx, hs, w⟩ := fitted_has (s := raw a b) raw_ok hx
  refine ⟨t, ?_, fx, hs, w⟩
  rw [Join_raw fa fb, e]
  rfl
/-- Widening's parts, not fitted. -/
def wlo (a d : B) : Int := if (d.toNat : Int) < a.toNat then dn d.toNat else a.toNat
def whi (b e : B) : Int := if (e.toNat : Int) > b.toNat then up e.toNat else b.toNat
theorem Widen_has {a b : S} (fa : a.Fx) (fb : b.Fx) {x : B} (h : a.Has x ∨ b.Has x) : ∃ t : S, value_Widen.f 100 a.lo.toNat a.hi.toNat a.K.toNat a.O.toNat b.lo.toNat b.hi.toNat b.K.toNat b.O.toNat = some ((t.lo.toNat : Int), (t.hi.toNat : Int), (t.K.toNat : Int), (t.O.toNat : Int)) ∧ t.Fx ∧ t.Has x := by
  obtain ⟨j, ej, fj, hj, _⟩ := Join_has fa fb h
  have va := V_of fa
  have vj := V_of fj
  have d1 := dn_le vj.ul
  have d2 := le_up vj.uh
  obtain ⟨lo, el⟩ := b_of' (x := if (j.lo.toNat : Int) < a.lo.toNat then dn j.lo.toNat else a.lo.toNat) (by have := va.ul; unfold U at *; split <;> omega)
  obtain ⟨hi, eh⟩ := b_of' (x := if (j.hi.toNat : Int) > a.hi.toNat then up j.hi.toNat else a.hi.toNat) (by have := va.uh; unfold U at *; split <;> omega)
  have hs : S.Has ⟨lo, hi, jK a j, a.O &&& jK a j⟩ x := by
    refine ⟨?_, ?_, (has_mono hj raw_r (a := j) (s := raw a j)).2.2⟩
    · have := hj.1
      have : (lo.toNat : Int) ≤ j.lo.toNat := by rw [← el]; split <;> omega
      show lo.toNat ≤ _
      omega
    · have := hj.2.1
      have : (j.hi.toNat : Int) ≤ hi.toNat := by rw [← eh]; split <;> omega
      show _ ≤ hi.toNat
      omega
  obtain ⟨t, e, fx, ht, w⟩ := fitted_has (s := ⟨lo, hi, jK a j, a.O &&& jK a j⟩) (raw_ok (a := a) (b := j)) hs
  refine ⟨t, ?_, fx, ht⟩
  unfold value_Widen.f known_Join.f
  rw [Check_t fa, Check_t fb, ej]
  simp only [Option.bind_some, eq_t rfl, Bool.not_true, br_f]
  rw [widenI va vj, el, eh, w_andNot, w_andNot, kok_iff.2 fa.ok, kok_iff.2 fj.ok]
  simp only [Option.bind_some, Bool.not_true, br_f, eqI_0, decide_true, w_and, w_xor, w_andNot]
  simp only [jK] at e
  rw [e]
  rfl
/-! ### Operators of one word, cuts, truth -/
theorem Un_mk {u : Int} {a : S} (fa : a.Fx) {lo hi K' O' : B} {x w : B} (hi' : interval_Un.f u a.lo.toNat a.hi.toNat = some ((lo.toNat : Int), (hi.toNat : Int), 0)) (hk : known_Un.f 100 u a.K.toNat a.O.toNat = some ((K'.toNat : Int), (O'.toNat : Int), 0)) (k : Kok K' O') (hw : S.Has ⟨lo, hi, K', O'⟩ w) (hr : lamplighterref01_One.f u x.toNat = some ((w.toNat : Int), 0)) :
    ∃ (t : S) (w : B), value_Un.f 100 u a.lo.toNat a.hi.toNat a.K.toNat a.O.toNat = some ((t.lo.toNat : Int), (t.hi.toNat : Int), (t.K.toNat : Int), (t.O.toNat : Int), 0) ∧ lamplighterref01_One.f u x.toNat = some ((w.toNat : Int), 0) ∧ t.Fx ∧ t.Has w := by
  obtain ⟨t, e, fx, ht, _⟩ := fitted_has (s := ⟨lo, hi, K', O'⟩) k hw
  refine ⟨t, w, ?_, hr, fx, ht⟩
  unfold value_Un.f
  rw [hi', hk, Check_t fa]
  simp only [Option.bind_some, eq_t rfl, Bool.not_true, br_f]
  rw [e]
  rfl
theorem ku1 (K O : Int) : known_Un.f 100 1 K O = br (!eqI (bitw .andNot .u32 O K) 0) (some (0, 0, 2)) ((known_carried.f 100 4294967295 0 K O 2).bind fun t => some (t.1, t.2, 0)) := by kernel_rfl
theorem ku2 (K O : Int) : known_Un.f 100 2 K O = br (!eqI (bitw .andNot .u32 O K) 0) (some (0, 0, 2)) (some (K, bitw .andNot .u32 K O, 0)) := by kernel_rfl
theorem ku3 (K O : Int) : known_Un.f 100 3 K O = br (!eqI (bitw .andNot .u32 O K) 0) (some (0, 0, 2)) (br (!eqI O 0) (some (4294967295, 0, 0)) (br (eqI K 4294967295) (some (4294967295, 1, 0)) (some (4294967294, 0, 0)))) := by kernel_rfl
theorem ui1 (lo hi : Int) : interval_Un.f 1 lo hi = br (ltI hi lo) (some (0, 0, 2)) (br (eqI hi 0) (some (0, 0, 0)) (br (ltI 0 lo) (some (IntKind.u32.wrap (0 - hi), IntKind.u32.wrap (0 - lo), 0)) (some (0, 4294967295, 0)))) := by kernel_rfl
theorem ui2 (lo hi : Int) : interval_Un.f 2 lo hi = br (ltI hi lo) (some (0, 0, 2)) (some (bitw .xor .u32 IntKind.u32.max hi, bitw .xor .u32 IntKind.u32.max lo, 0)) := by kernel_rfl
theorem ui3 (lo hi : Int) : interval_Un.f 3 lo hi = br (ltI hi lo) (some (0, 0, 2)) ((interval_yes.f (eqI hi 0) (ltI 0 lo)).bind fun t => some (t.1, t.2, 0)) := by kernel_rfl
theorem kpre {K O : B} (h : Kok K O) {R : Option (Int × Int × Int)} : br (!eqI (bitw .andNot .u32 (O.toNat : Int) K.toNat) 0) (some (0, 0, 2)) R = R := by
  rw [w_andNot, kok_iff.2 h]
  rfl
theorem Un_sound {u : Int} (h1 : 1 ≤ u) (h2 : u ≤ 3) {a : S} (fa : a.Fx) {x : B} (hx : a.Has x) : ∃ (t : S) (w : B), value_Un.f 100 u a.lo.toNat a.hi.toNat a.K.toNat a.O.toNat = some ((t.lo.toNat : Int), (t.hi.toNat : Int), (t.K.toNat : Int), (t.O.toNat : Int), 0) ∧ lamplighterref01_One.f u x.toNat = some ((w.toNat : Int), 0) ∧ t.Fx ∧ t.Has w := by
  have va := V_of fa
  have ko : Kok a.K a.O := fa.ok
  obtain ⟨x1, x2, x3⟩ := hx
  have x3 : Kh a.K a.O x := x3
  obtain h | h | h : u = 1 ∨ u = 2 ∨ u = 3 := by omega
  · subst h
    have hk : known_Un.f 100 1 a.K.toNat a.O.toNat = some (((Lm (rn (BitVec.allOnes 32 &&& a.K))).toNat : Int), (((0 - a.O) &&& Lm (rn (BitVec.allOnes 32 &&& a.K)) : B).toNat : Int), 0) := by
      rw [ku1, kpre ko, all_n, ← zz, car_is, word_2, wsub, Option.bind_some, Option.bind_some, w_and]
    have ks : Kh (Lm (rn (BitVec.allOnes 32 &&& a.K))) ((0 - a.O) &&& Lm (rn (BitVec.allOnes 32 &&& a.K))) (-x) := by
      have := kh_sub (K := BitVec.allOnes 32) (O := 0) (x := 0) (kh_all.2 rfl) x3
      rwa [show (0 : B) - x = -x from BitVec.zero_sub x] at this
    have hr : lamplighterref01_One.f 1 x.toNat = some (((-x).toNat : Int), 0) := by
      rw [← neg_is]; rfl
    have key : ∀ lo hi : B, interval_Un.f 1 a.lo.toNat a.hi.toNat = some ((lo.toNat : Int), (hi.toNat : Int), 0) → lo.toNat ≤ (-x).toNat → (-x).toNat ≤ hi.toNat → _ := fun lo hi e p q => Un_mk fa e hk kok_meet ⟨p, q, ks⟩ hr
    have ax := x.isLt
    have ah := a.hi.isLt
    have nx : (-x).toNat = (2 ^ 32 - x.toNat) % 2 ^ 32 := BitVec.toNat_neg _
    by_cases c : (a.hi.toNat : Int) = 0
    · refine key 0 0 ?_ ?_ ?_
      · rw [ui1, lt_f (by have := va.o; omega), br_f, eq_t c, br_t]; rfl
      · simp
      · rw [nx]; show _ ≤ 0; omega
    · by_cases d : (0 : Int) < a.lo.toNat
      · refine key (-a.hi) (-a.lo) ?_ ?_ ?_
        · rw [ui1, lt_f (by have := va.o; omega), br_f, eq_f c, br_f, lt_t d, br_t, neg_is, neg_is]
        · rw [nx, BitVec.toNat_neg]; omega
        · rw [nx, BitVec.toNat_neg]; omega
      · refine key 0 (BitVec.allOnes 32) ?_ ?_ ?_
        · rw [ui1, lt_f (by have := va.o; omega), br_f, eq_f c, br_f, lt_f d, br_f]; rfl
        · simp
        · have := (-x).isLt; show _ ≤ 4294967295; omega
  · subst h
    refine Un_mk fa (lo := ~~~a.hi) (hi := ~~~a.lo) (K' := a.K) (O' := a.K &&& ~~~a.O) (w := ~~~x) ?_ ?_ kok_not ⟨?_, ?_, kh_not x3⟩ ?_
    · rw [ui2, lt_f (by have := va.o; omega), br_f, w_not, w_not]
    · rw [ku2, kpre ko, w_andNot]
    · simp only [BitVec.toNat_not]; omega
    · simp only [BitVec.toNat_not]; omega
    · rw [← w_not]; rfl
  · subst h
    have hk : ∀ w : B, (w = if x = 0 then 1 else 0) → ∃ K' O' : B, known_Un.f 100 3 a.K.toNat a.O.toNat = some ((K'.toNat : Int), (O'.toNat : Int), 0) ∧ Kok K' O' ∧ Kh K' O' w := fun w ew => by
      rw [ku3, kpre ko, eqI_0, eqI_all]
      by_cases c : a.O = 0
      · rw [decide_eq_true c, Bool.not_true, br_f]
        by_cases d : a.K = BitVec.allOnes 32
        · rw [decide_eq_true d, br_t]
          rw [d, c] at x3
          refine ⟨BitVec.allOnes 32, 1, rfl, kok_all, kh_all.2 ?_⟩
          rw [ew, if_pos (kh_all.1 x3)]
        · rw [decide_eq_false d, br_f]
          refine ⟨BitVec.allOnes 32 &&& ~~~1, 0, rfl, kok_zero, kh_flag ?_⟩
          rw [ew]
          split
          · exact .inr rfl
          · exact .inl rfl
      · rw [decide_eq_false c, Bool.not_false, br_t]
        refine ⟨BitVec.allOnes 32, 0, rfl, kok_all, kh_all.2 ?_⟩
        rw [ew, if_neg]
        rintro rfl
        apply c
        refine bitx (y := 0#32) fun i => ?_
        cases q : a.O.getLsbD i with
        | false => rw [BitVec.getLsbD_zero]
        | true =>
          have := x3 i (ko i q)
          rw [q] at this
          exact this.symm
    obtain ⟨K', O', ek, kk, ks⟩ := hk _ rfl
    have hr : lamplighterref01_One.f 3 x.toNat = some (((if x = 0 then 1 else 0 : B).toNat : Int), 0) := by
      have e : lamplighterref01_One.f 3 x.toNat = (lamplighterref01_yes.f (eqI x.toNat 0)).bind fun t => some (t, 0) := by kernel_rfl
      rw [e, eqI_0, yes_is]
      by_cases c : x = 0
      · rw [decide_eq_true c, if_pos c]; rfl
      · rw [decide_eq_false c, if_neg c]; rfl
    have hiv : interval_Un.f 3 a.lo.toNat a.hi.toNat = some ((yesS ((a.hi.toNat : Int) = 0) ((0 : Int) < a.lo.toNat)).1, (yesS ((a.hi.toNat : Int) = 0) ((0 : Int) < a.lo.toNat)).2, 0) := by
      rw [ui3, lt_f (by have := va.o; omega), br_f, eqI_d, ltI_d, yesD]; rfl
    have x0 : x = 0 ↔ x.toNat = 0 := ⟨fun h => by rw [h]; rfl, fun h => BitVec.eq_of_toNat_eq h⟩
    unfold yesS at hiv
    by_cases c : (a.hi.toNat : Int) = 0
    · rw [if_pos c] at hiv
      refine Un_mk fa (lo := 1) (hi := 1) (K' := K') (O' := O') hiv ek kk ⟨?_, ?_, ks⟩ hr
      · rw [if_pos (x0.2 (by omega))]; exact Nat.le_refl _
      · rw [if_pos (x0.2 (by omega))]; exact Nat.le_refl _
    · rw [if_neg c] at hiv
      by_cases d : (0 : Int) < a.lo.toNat
      · rw [if_pos d] at hiv
        have nz : ¬ x = 0 := fun h => by have := x0.1 h; omega
        refine Un_mk fa (lo := 0) (hi := 0) (K' := K') (O' := O') hiv ek kk ⟨?_, ?_, ks⟩ hr
        · rw [if_neg nz]; exact Nat.le_refl _
        · rw [if_neg nz]; exact Nat.le_refl _
      · rw [if_neg d] at hiv
        refine Un_mk fa (lo := 0) (hi := 1) (K' := K') (O' := O') hiv ek kk ⟨?_, ?_, ks⟩ hr
        · exact Nat.zero_le _
        · show (if x = 0 then 1 else 0 : B).toNat ≤ 1
          split <;> decide
theorem Lm_mod (x : B) {n : Nat} (h : n ≤ 32) : (x &&& Lm n).toNat = x.toNat % 2 ^ n := by
  apply Nat.eq_of_testBit_eq
  intro i
  rw [Nat.testBit_mod_two_pow]
  have e : (x &&& Lm n).getLsbD i = (decide (i < n) && x.getLsbD i) := by
    rw [BitVec.getLsbD_and, Lm_bit]
    by_cases c : i < n
    · have : i < 32 := by omega
      simp [c, this]
    · simp [c]
  exact e
theorem cut_w {w : Int} (hw : w = 8 ∨ w = 16 ∨ w = 32) (x : B) : word_Cut.f x.toNat w = some (((x &&& Lm w.toNat).toNat : Int), 0) ∧ lamplighterref01_Cut.f x.toNat w = some (((x &&& Lm w.toNat).toNat : Int), 0) := by
  have hx := x.isLt
  rw [Lm_mod x (by omega)]
  obtain rfl | rfl | rfl := hw
  · constructor
    · unfold word_Cut.f
      rw [eq_t rfl, br_t, IntKind.wrap_u8', IntKind.wrap_u32']
      show some (_, (0 : Int)) = some (((x.toNat % 256 : Nat) : Int), 0)
      congr 2
      omega
    · unfold lamplighterref01_Cut.f
      rw [eq_t rfl, br_t, Int.tmod_eq_emod_of_nonneg (by omega)]
      rfl
  · constructor
    · unfold word_Cut.f
      rw [eq_f (by decide), br_f, eq_t rfl, br_t, IntKind.wrap_u16, IntKind.wrap_u32']
      show some (_, (0 : Int)) = some (((x.toNat % 65536 : Nat) : Int), 0)
      congr 2
      omega
    · unfold lamplighterref01_Cut.f
      rw [eq_f (by decide), br_f, eq_t rfl, br_t, Int.tmod_eq_emod_of_nonneg (by omega)]
      rfl
  · constructor
    · unfold word_Cut.f
      rw [eq_f (by decide), br_f, eq_f (by decide), br_f, eq_t rfl, br_t]
      show some (_, (0 : Int)) = some (((x.toNat % 4294967296 : Nat) : Int), 0)
      congr 2
      omega
    · unfold lamplighterref01_Cut.f
      rw [eq_f (by decide), br_f, eq_f (by decide), br_f, eq_t rfl, br_t]
      show some (_, (0 : Int)) = some (((x.toNat % 4294967296 : Nat) : Int), 0)
      congr 2
      omega
theorem cut_no {w : Int} (hw : ¬ (w = 8 ∨ w = 16 ∨ w = 32)) (x : Int) : word_Cut.f x w = some (0, 2) ∧ lamplighterref01_Cut.f x w = some (0, 2) := by
  have h1 : w ≠ 8 := fun e => hw (.inl e)
  have h2 : w ≠ 16 := fun e => hw (.inr (.inl e))
  have h3 : w ≠ 32 := fun e => hw (.inr (.inr e))
  constructor
  · unfold word_Cut.f
    rw [eq_f h1, eq_f h2, eq_f h3]; rfl
  · unfold lamplighterref01_Cut.f
    rw [eq_f h1, eq_f h2, eq_f h3]; rfl
theorem icut_is {w : Nat} (hw : w = 8 ∨ w = 16 ∨ w = 32) {a : S} (fa : a.Fx) : ∃ lo hi : B, interval_Cut.f a.lo.toNat a.hi.toNat (w : Int) = some ((lo.toNat : Int), (hi.toNat : Int), 0) ∧ ∀ x : B, a.lo.toNat ≤ x.toNat → x.toNat ≤ a.hi.toNat → lo.toNat ≤ (x &&& Lm w).toNat ∧ (x &&& Lm w).toNat ≤ hi.toNat := by
  have hw' : (w : Int) = 8 ∨ (w : Int) = 16 ∨ (w : Int) = 32 := by omega
  have le : w ≤ 32 := by omega
  have va := V_of fa
  have p : 0 < 2 ^ w := Nat.two_pow_pos w
  have sh : ∀ x : B, X.shr .u64 (IntKind.u64.wrap (x.toNat : Int)) (w : Int) = ((x.toNat / 2 ^ w : Nat) : Int) := fun x => by
    have := x.isLt
    unfold X.shr
    have e1 : min (w : Int).toNat IntKind.u64.bits = w := by
      show min w 64 = w
      omega
    rw [w64 (by omega) (by omega), e1, Int.fdiv_eq_ediv_of_nonneg _ (Int.le_of_lt (Int.pow_pos (by decide)))]
    simp
  have top : IntKind.u32.wrap (X.shl .u32 1 (w : Int) - 1) = ((Lm w).toNat : Int) := by
    rcases hw with rfl | rfl | rfl <;> decide
  unfold interval_Cut.f
  rw [(cut_w hw' a.lo).1, (cut_w hw' a.hi).1, sh, sh, top, lt_f (by have := va.o; omega), lt_f (by omega)]
  simp only [Option.bind_some, eq_t rfl, Bool.not_true, br_f, Int.toNat_natCast, eqI_d, br_ite]
  by_cases c : ((a.lo.toNat / 2 ^ w : Nat) : Int) = ((a.hi.toNat / 2 ^ w : Nat) : Int)
  · rw [if_pos c]
    refine ⟨a.lo &&& Lm w, a.hi &&& Lm w, rfl, fun x h1 h2 => ?_⟩
    rw [Lm_mod _ le, Lm_mod _ le, Lm_mod _ le]
    have c : a.lo.toNat / 2 ^ w = a.hi.toNat / 2 ^ w := by omega
    have d1 := Nat.div_le_div_right (c := 2 ^ w) h1
    have d2 := Nat.div_le_div_right (c := 2 ^ w) h2
    have m0 := Nat.div_add_mod a.lo.toNat (2 ^ w)
    have m1 := Nat.div_add_mod a.hi.toNat (2 ^ w)
    have m2 := Nat.div_add_mod x.toNat (2 ^ w)
    have e2 : x.toNat / 2 ^ w = a.lo.toNat / 2 ^ w := by omega
    rw [e2] at m2
    rw [← c] at m1
    omega
  · rw [if_neg c]
    refine ⟨0, Lm w, rfl, fun x h1 h2 => ⟨Nat.zero_le _, ?_⟩⟩
    rw [BitVec.toNat_and]
    exact Nat.and_le_right
theorem Cut_sound {a : S} (fa : a.Fx) {x : B} (hx : a.Has x) (w : Int) : ∃ (t : S) (v : B) (e : Int), value_Cut.f 100 a.lo.toNat a.hi.toNat a.K.toNat a.O.toNat w = some ((t.lo.toNat : Int), (t.hi.toNat : Int), (t.K.toNat : Int), (t.O.toNat : Int), e) ∧ lamplighterref01_Cut.f x.toNat w = some ((v.toNat : Int), e) ∧ (e = 0 → t.Fx ∧ t.Has v) := by
  by_cases hw : w = 8 ∨ w = 16 ∨ w = 32
  · obtain ⟨n, rfl⟩ : ∃ n : Nat, w = n := ⟨w.toNat, by omega⟩
    have hn : n = 8 ∨ n = 16 ∨ n = 32 := by omega
    obtain ⟨lo, hi, ei, es⟩ := icut_is hn fa
    have ko : Kok a.K a.O := fa.ok
    have hk : known_Cut.f a.K.toNat a.O.toNat (n : Int) = some (((a.K ||| ~~~(Lm n) : B).toNat : Int), ((a.O &&& Lm n : B).toNat : Int), 0) := by
      unfold known_Cut.f
      rw [(cut_w hw a.O).1, all_n, (cut_w hw (BitVec.allOnes 32)).1, w_andNot, kok_iff.2 ko]
      simp only [Option.bind_some, eq_t rfl, Bool.not_true, br_f, eqI_0, decide_true, Int.toNat_natCast, BitVec.allOnes_and, w_not, w_or]
    obtain ⟨q1, q2⟩ := es x hx.1 hx.2.1
    obtain ⟨t, e, fx, ht, _⟩ := fitted_has (s := ⟨lo, hi, a.K ||| ~~~(Lm n), a.O &&& Lm n⟩) (x := x &&& Lm n) (kok_cut ko) ⟨q1, q2, kh_cut hx.2.2⟩
    refine ⟨t, x &&& Lm n, 0, ?_, (cut_w hw x).2, fun _ => ⟨fx, ht⟩⟩
    unfold value_Cut.f
    rw [ei, hk, Check_t fa]
    simp only [Option.bind_some, eq_t rfl, Bool.not_true, br_f]
    rw [e]
    rfl
  · refine ⟨⟨0, 0, 0, 0⟩, 0, 2, ?_, (cut_no hw _).2, fun h => by cases h⟩
    unfold value_Cut.f interval_Cut.f known_Cut.f
    simp only [fun x => (cut_no hw x).1, Option.bind_some]
    rfl
theorem Truth_sound {a : S} (fa : a.Fx) {x : B} (hx : a.Has x) : ∃ may must : Bool, value_Truth.f 100 a.lo.toNat a.hi.toNat a.K.toNat a.O.toNat = some (may, must) ∧ (x ≠ 0 → may = true) ∧ (x = 0 → must = false) := by
  obtain ⟨b, e, f⟩ := Has_is a 0
  refine ⟨ltI 0 a.hi.toNat, !b, ?_, fun h => ?_, fun h => ?_⟩
  · unfold value_Truth.f
    rw [Check_t fa, ← zz, e]
    rfl
  · refine lt_t ?_
    have : x.toNat ≠ 0 := fun q => h (BitVec.eq_of_toNat_eq q)
    have := hx.2.1
    omega
  · subst h
    rw [f.2 ⟨fa, hx⟩]
    rfl
end Go.Proofs.YtdmondofdlkopaaGreatDoor.V.Snd
