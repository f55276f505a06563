/- The plain law of IntervalTurns: the Lean function of the law answers true. Conditions: each number is of its kind. -/
import Derived.Test.YtmhmfnjbioplhaaPIntervalTurnsx8
import Derived.OpenShut
import Derived.KernelRfl
namespace Go.Proofs.Ytmhmfnjbioplhaa.Pure
open Go.RowKit Go.Proofs.Ytmhmfnjbioplhaa.PIntervalTurns Go.Proofs.YtmhmfnjbioplhaaW.PrintWords Go.Proofs.YtmhmfnjbioplhaaW.PrintLast Go.Proofs.YtmhmfnjbioplhaaW.PrintMore
set_option linter.unusedVariables false
set_option linter.unusedSimpArgs false
/-! ### What the printed functions of layer 19 come to -/
def U (x : Int) : Prop := 0 ≤ x ∧ x ≤ 4294967295
theorem u_of {x : Int} (h : (Lit.int .u32 x).wf = true) : U x := bounds_u32 h
theorem may1 {k : Nat} (hk : 4 ≤ k) (a b : Int) : interval_may.f k [(⟨a, b⟩ : S24)] = some (decide (a ≤ b)) := by
  obtain ⟨m, rfl⟩ : ∃ m, k = m + 4 := ⟨k - 4, by omega⟩
  simp only [interval_may.f, interval_may.l0]
  simp [rd_T24, wrap64]
  by_cases h : a ≤ b
  · rw [if_neg (by omega), decide_eq_true h]
  · rw [if_pos (by omega), decide_eq_false h]
theorem may2 {k : Nat} (hk : 4 ≤ k) (a b c d : Int) : interval_may.f k [(⟨a, b⟩ : S24), (⟨c, d⟩ : S24)] = some (decide (a ≤ b ∧ c ≤ d)) := by
  obtain ⟨m, rfl⟩ : ∃ m, k = m + 4 := ⟨k - 4, by omega⟩
  simp only [interval_may.f, interval_may.l0]
  simp [rd_T24, wrap64]
  by_cases h : a ≤ b
  · rw [if_neg (by omega)]
    by_cases h2 : c ≤ d
    · rw [if_neg (by omega)]; simp [h, h2]
    · rw [if_pos (by omega)]; simp [h2]
  · rw [if_pos (by omega)]; simp [h]
theorem may3 {k : Nat} (hk : 4 ≤ k) (a b c d e f : Int) : interval_may.f k [(⟨a, b⟩ : S24), (⟨c, d⟩ : S24), (⟨e, f⟩ : S24)] = some (decide (a ≤ b ∧ c ≤ d ∧ e ≤ f)) := by
  obtain ⟨m, rfl⟩ : ∃ m, k = m + 4 := ⟨k - 4, by omega⟩
  simp only [interval_may.f, interval_may.l0]
  simp [rd_T24, wrap64]
  by_cases h : a ≤ b
  · rw [if_neg (by omega)]
    by_cases h2 : c ≤ d
    · rw [if_neg (by omega)]
      by_cases h3 : e ≤ f
      · rw [if_neg (by omega)]; simp [h, h2, h3]
      · rw [if_pos (by omega)]; simp [h3]
    · rw [if_pos (by omega)]; simp [h2]
  · rw [if_pos (by omega)]; simp [h]
/-! ### The operators -/
theorem ofu {x : Int} (h : U x) : IntKind.u64.wrap x = x := by unfold U at h; rw [IntKind.wrap_u64]; omega
theorem bnot {x : Int} (h : U x) : Go.bits .xor .u32 IntKind.u32.max x = 4294967295 - x := by
  obtain ⟨h0, h1⟩ := h
  have e : IntKind.u32.max = 4294967295 := rfl
  rw [e, u32_xor _ _ (by decide) (by decide) h0 (by omega)]
  have q : (BitVec.allOnes 32 ^^^ BitVec.ofNat 32 x.toNat).toNat = 4294967295 - x.toNat := by
    rw [BitVec.allOnes_xor, BitVec.toNat_not, BitVec.toNat_ofNat, Nat.mod_eq_of_lt (by omega)]
  rw [BitVec.toNat_xor, BitVec.toNat_allOnes, BitVec.toNat_ofNat, Nat.mod_eq_of_lt (by omega)] at q
  have e2 : (4294967295 : Int).toNat = 2 ^ 32 - 1 := by decide
  rw [e2, q]
  omega
theorem add_is {al ah bl bh : Int} (h1 : U al) (h2 : U ah) (h3 : U bl) (h4 : U bh) : interval_add.f al ah bl bh = some (if (al + bl) / 4294967296 = (ah + bh) / 4294967296 then ((al + bl) % 4294967296, (ah + bh) % 4294967296) else (0, 4294967295)) := by
  have e : ∀ {a b : Int}, U a → U b → bits_Add32.f a b 0 = some ((a + b) % 4294967296, (a + b) / 4294967296) := by
    intro a b ha hb
    unfold bits_Add32.f
    have z : IntKind.u64.wrap 0 = 0 := by decide
    rw [ofu ha, ofu hb, z]
    unfold U at ha hb
    simp only [IntKind.wrap_u64, Int.add_zero]
    rw [Int.emod_eq_of_lt (by omega : (0 : Int) ≤ a + b) (by omega), Int.emod_eq_of_lt (by omega : (0 : Int) ≤ a + b) (by omega), Int.emod_eq_of_lt (by omega : (0 : Int) ≤ (a + b) / 4294967296) (by omega)]
  unfold interval_add.f
  rw [e h1 h3, e h2 h4]
  simp only [Option.bind_some, interval_All.f]
  split <;> rfl
theorem top_bit (x : Nat) (h : x < 4294967296) : x.testBit 31 = decide (2147483648 ≤ x) := by
  rw [Nat.testBit_eq_decide_div_mod_eq]
  by_cases g : 2147483648 ≤ x
  · rw [decide_eq_true g, decide_eq_true]; omega
  · rw [decide_eq_false g, decide_eq_false]; omega
theorem borrow {a b : Int} (h1 : U a) (h2 : U b) : bits_Sub32.f a b 0 = some ((a - b) % 4294967296, if a < b then 1 else 0) := by
  unfold bits_Sub32.f
  unfold U at h1 h2
  have d0 : (a - b) % 4294967296 - 0 = (a - b) % 4294967296 := by omega
  rw [d0, Int.emod_eq_of_lt (by omega : 0 ≤ (a - b) % 4294967296) (by omega)]
  obtain ⟨d, hd⟩ : ∃ d, (a - b) % 4294967296 = d := ⟨_, rfl⟩
  rw [hd]
  have ux := u32_xor a b h1.1 (by omega) h2.1 (by omega)
  have hxlt : a.toNat ^^^ b.toNat < 2 ^ 32 := Nat.xor_lt_two_pow (by omega) (by omega)
  rw [bnot h1, ux, bnot ⟨by omega, by omega⟩]
  rw [u32_and _ _ (by omega) (by omega) h2.1 (by omega), u32_and _ _ (by omega) (by omega) (by omega) (by omega)]
  have l1 : (4294967295 - a).toNat &&& b.toNat < 2 ^ 32 := Nat.and_lt_two_pow _ (by omega)
  have l2 : (4294967295 - ((a.toNat ^^^ b.toNat : Nat) : Int)).toNat &&& d.toNat < 2 ^ 32 := Nat.and_lt_two_pow _ (by omega)
  rw [u32_or _ _ (by omega) (by omega) (by omega) (by omega)]
  simp only [Int.toNat_natCast]
  obtain ⟨t, ht⟩ : ∃ t, ((4294967295 - a).toNat &&& b.toNat ||| (4294967295 - ((a.toNat ^^^ b.toNat : Nat) : Int)).toNat &&& d.toNat) = t := ⟨_, rfl⟩
  have htl : t < 2 ^ 32 := by rw [← ht]; exact Nat.or_lt_two_pow l1 l2
  have hb : t.testBit 31 = decide (a < b) := by
    rw [← ht, Nat.testBit_or, Nat.testBit_and, Nat.testBit_and, top_bit _ (by omega), top_bit _ (by omega), top_bit _ (by omega), top_bit _ (by omega)]
    have hx := top_bit (a.toNat ^^^ b.toNat) (by omega)
    rw [Nat.testBit_xor, top_bit _ (by omega), top_bit _ (by omega)] at hx
    by_cases ha : 2147483648 ≤ a.toNat <;> by_cases hb : 2147483648 ≤ b.toNat
    all_goals
      simp only [ha, hb, decide_true, decide_false, Bool.xor_self, Bool.xor_false, Bool.false_xor, Bool.true_xor, Bool.xor_true, Bool.not_true, Bool.not_false] at hx
      first | have hx := of_decide_eq_true hx.symm | have hx := of_decide_eq_false hx.symm
      rw [Bool.eq_iff_iff]
      simp only [Bool.or_eq_true, Bool.and_eq_true, decide_eq_true_eq]
      omega
  rw [ht]
  rw [top_bit t htl] at hb
  by_cases g : a < b
  · rw [if_pos g]
    rw [decide_eq_true g] at hb
    have := of_decide_eq_true hb
    congr 2
    omega
  · rw [if_neg g]
    rw [decide_eq_false g] at hb
    have := of_decide_eq_false hb
    congr 2
    omega
theorem sub_is {al ah bl bh : Int} (h1 : U al) (h2 : U ah) (h3 : U bl) (h4 : U bh) : interval_sub.f al ah bl bh = some (if (decide (al < bh)) = (decide (ah < bl)) then ((al - bh) % 4294967296, (ah - bl) % 4294967296) else (0, 4294967295)) := by
  unfold interval_sub.f
  rw [borrow h1 h4, borrow h2 h3]
  simp only [Option.bind_some, interval_All.f]
  by_cases p : al < bh <;> by_cases q : ah < bl <;> simp [p, q]
theorem mul_lt {a b : Int} (h1 : U a) (h2 : U b) : 0 ≤ a * b ∧ a * b < 18446744073709551616 := by
  obtain ⟨a0, a1⟩ := h1
  obtain ⟨b0, b1⟩ := h2
  refine ⟨Int.mul_nonneg a0 b0, ?_⟩
  have := Int.mul_le_mul a1 b1 b0 (by decide)
  omega
theorem mul_is {al ah bl bh : Int} (h1 : U al) (h2 : U ah) (h3 : U bl) (h4 : U bh) : interval_mul.f al ah bl bh = some (if ah * bh < 4294967296 then ((al * bl) % 4294967296, (ah * bh) % 4294967296) else (0, 4294967295)) := by
  unfold interval_mul.f bits_Mul32.f
  have h := mul_lt h2 h4
  rw [ofu h2, ofu h4, IntKind.wrap_u64, Int.emod_eq_of_lt h.1 h.2]
  simp only [Option.bind_some, interval_All.f]
  obtain ⟨p, hp⟩ : ∃ p, ah * bh = p := ⟨_, rfl⟩
  rw [hp] at h ⊢
  by_cases g : p < 4294967296
  · rw [if_pos g, if_pos (by omega)]
  · rw [if_neg g, if_neg (by omega)]
theorem div_le {a b : Int} (h : U a) (hb : 0 < b) : U (a / b) := ⟨Int.ediv_nonneg h.1 (by omega), Int.le_trans (Int.ediv_le_self _ h.1) h.2⟩
theorem mx_is (a b : Int) : mx a b = max a b := by unfold mx; omega
theorem mn_is (a b : Int) : mn a b = min a b := by unfold mn; omega
theorem div_is {al ah bl bh : Int} (h1 : U al) (h2 : U ah) (h3 : U bl) (h4 : U bh) (hb : bl ≤ bh) : interval_div.f al ah bl bh = some (if bh = 0 then (0, 0, false) else (al / bh, ah / max 1 bl, true)) := by
  unfold interval_div.f interval_noZero.f
  by_cases g : bh = 0
  · rw [if_pos g, if_pos g]; rfl
  · rw [if_neg g, if_neg g]
    simp only [Option.bind_some, if_true, mx_is]
    unfold U at h3 h4
    rw [if_neg g, if_neg (by omega : ¬ max 1 bl = 0)]
    have e1 : Int.tdiv al bh = al / bh := Int.tdiv_eq_ediv_of_nonneg h1.1
    have e2 : Int.tdiv ah (max 1 bl) = ah / max 1 bl := Int.tdiv_eq_ediv_of_nonneg h2.1
    have u1 := div_le h1 (by omega : 0 < bh)
    have u2 := div_le h2 (by omega : 0 < max 1 bl)
    unfold U at u1 u2
    rw [e1, e2, Int.emod_eq_of_lt u1.1 (by omega), Int.emod_eq_of_lt u2.1 (by omega)]
theorem rem_is {al ah bl bh : Int} (h1 : U al) (h2 : U ah) (h3 : U bl) (h4 : U bh) (hb : bl ≤ bh) : interval_rem.f al ah bl bh = some (if bh = 0 then (0, 0, false) else if ah < max 1 bl then (al, ah, true) else (0, min ah (bh - 1), true)) := by
  unfold interval_rem.f interval_noZero.f
  by_cases g : bh = 0
  · rw [if_pos g, if_pos g]; rfl
  · rw [if_neg g, if_neg g]
    simp only [Option.bind_some, if_true, mx_is, mn_is]
    unfold U at h3 h4
    rw [Int.emod_eq_of_lt (by omega : 0 ≤ bh - 1) (by omega)]
    split <;> rfl
/-! ### How many bits; shifts; comparisons -/
def TAB : ByteArray := ⟨#[0, 1, 2, 2, 3, 3, 3, 3, 4, 4, 4, 4, 4, 4, 4, 4, 5, 5, 5, 5, 5, 5, 5, 5, 5, 5, 5, 5, 5, 5, 5, 5, 6, 6, 6, 6, 6, 6, 6, 6, 6, 6, 6, 6, 6, 6, 6, 6, 6, 6, 6, 6, 6, 6, 6, 6, 6, 6, 6, 6, 6, 6, 6, 6, 7, 7, 7, 7, 7, 7, 7, 7, 7, 7, 7, 7, 7, 7, 7, 7, 7, 7, 7, 7, 7, 7, 7, 7, 7, 7, 7, 7, 7, 7, 7, 7, 7, 7, 7, 7, 7, 7, 7, 7, 7, 7, 7, 7, 7, 7, 7, 7, 7, 7, 7, 7, 7, 7, 7, 7, 7, 7, 7, 7, 7, 7, 7, 7, 8, 8, 8, 8, 8, 8, 8, 8, 8, 8, 8, 8, 8, 8, 8, 8, 8, 8, 8, 8, 8, 8, 8, 8, 8, 8, 8, 8, 8, 8, 8, 8, 8, 8, 8, 8, 8, 8, 8, 8, 8, 8, 8, 8, 8, 8, 8, 8, 8, 8, 8, 8, 8, 8, 8, 8, 8, 8, 8, 8, 8, 8, 8, 8, 8, 8, 8, 8, 8, 8, 8, 8, 8, 8, 8, 8, 8, 8, 8, 8, 8, 8, 8, 8, 8, 8, 8, 8, 8, 8, 8, 8, 8, 8, 8, 8, 8, 8, 8, 8, 8, 8, 8, 8, 8, 8, 8, 8, 8, 8, 8, 8, 8, 8, 8, 8, 8, 8, 8, 8, 8, 8, 8, 8, 8, 8, 8, 8]⟩
/-- how many bits a number below 256 has. -/
def bl8 (x : Int) : Int := if x < 1 then 0 else if x < 2 then 1 else if x < 4 then 2 else if x < 8 then 3 else if x < 16 then 4 else if x < 32 then 5 else if x < 64 then 6 else if x < 128 then 7 else 8
theorem tab_is {x : Int} (h0 : 0 ≤ x) (h1 : x < 256) : bt TAB x = bl8 x := by
  have h : ∀ n : Nat, n < 256 → bt TAB (n : Int) = bl8 n := by decide +kernel
  have := h x.toNat (by omega)
  rwa [Int.toNat_of_nonneg h0] at this
/-- how many bits a word has. -/
def bl (x : Int) : Int := if x ≥ 65536 then (if x / 65536 ≥ 256 then 24 + bl8 (x / 16777216) else 16 + bl8 (x / 65536)) else if x ≥ 256 then 8 + bl8 (x / 256) else bl8 x
theorem bl8_le (x : Int) : 0 ≤ bl8 x ∧ bl8 x ≤ 8 := by unfold bl8; omega
theorem len_is {x : Int} (h : U x) : bits_Len32.f x = some (bl x) := by
  unfold U at h
  have b1 := bl8_le (x / 16777216)
  have b2 := bl8_le (x / 65536)
  have b3 := bl8_le (x / 256)
  have b4 := bl8_le x
  have w : ∀ {a : Int}, 0 ≤ a → a ≤ 40 → wrap64 a = a := by intro a p q; unfold wrap64; omega
  unfold bits_Len32.f bl
  change (if x ≥ 65536 then (if (x / 65536) ≥ 256 then (if 0 ≤ (((x / 65536) / 256) % 256) then (if (((x / 65536) / 256) % 256) < 256 then (some (wrap64 ((16 + 8) + (wrap64 (bt TAB (((x / 65536) / 256) % 256)))))) else (none)) else (none)) else (if 0 ≤ ((x / 65536) % 256) then (if ((x / 65536) % 256) < 256 then (some (wrap64 (16 + (wrap64 (bt TAB ((x / 65536) % 256)))))) else (none)) else (none))) else (if x ≥ 256 then (if 0 ≤ ((x / 256) % 256) then (if ((x / 256) % 256) < 256 then (some (wrap64 ((0 + 8) + (wrap64 (bt TAB ((x / 256) % 256)))))) else (none)) else (none)) else (if 0 ≤ (x % 256) then (if (x % 256) < 256 then (some (wrap64 (0 + (wrap64 (bt TAB (x % 256)))))) else (none)) else (none)))) = _
  by_cases c1 : x ≥ 65536
  · rw [if_pos c1, if_pos c1]
    by_cases c2 : x / 65536 ≥ 256
    · rw [if_pos c2, if_pos c2, if_pos (by omega), if_pos (by omega), show x / 65536 / 256 % 256 = x / 16777216 by omega, tab_is (by omega) (by omega), w b1.1 (by omega), w (by omega) (by omega)]
      rfl
    · rw [if_neg c2, if_neg c2, if_pos (by omega), if_pos (by omega), show x / 65536 % 256 = x / 65536 by omega, tab_is (by omega) (by omega), w b2.1 (by omega), w (by omega) (by omega)]
  · rw [if_neg c1, if_neg c1]
    by_cases c2 : x ≥ 256
    · rw [if_pos c2, if_pos c2, if_pos (by omega), if_pos (by omega), show x / 256 % 256 = x / 256 by omega, tab_is (by omega) (by omega), w b3.1 (by omega), w (by omega) (by omega)]
      rfl
    · rw [if_neg c2, if_neg c2, if_pos (by omega), if_pos (by omega), show x % 256 = x by omega, tab_is (by omega) (by omega), w b4.1 (by omega), Int.zero_add, w b4.1 (by omega)]
/-- n bits are what x wants. -/
def Bl (x : Int) (n : Nat) : Prop := x < 2 ^ n ∧ (n = 0 ∨ (2 : Int) ^ (n - 1) ≤ x)
theorem bl8_spec {y : Int} (h0 : 0 ≤ y) (h1 : y < 256) : ∃ n : Nat, bl8 y = n ∧ n ≤ 8 ∧ Bl y n := by
  unfold bl8 Bl
  repeat' split
  · exact ⟨0, rfl, by decide, by omega, .inl rfl⟩
  · exact ⟨1, rfl, by decide, by omega, .inr (by omega)⟩
  · exact ⟨2, rfl, by decide, by omega, .inr (by omega)⟩
  · exact ⟨3, rfl, by decide, by omega, .inr (by omega)⟩
  · exact ⟨4, rfl, by decide, by omega, .inr (by omega)⟩
  · exact ⟨5, rfl, by decide, by omega, .inr (by omega)⟩
  · exact ⟨6, rfl, by decide, by omega, .inr (by omega)⟩
  · exact ⟨7, rfl, by decide, by omega, .inr (by omega)⟩
  · exact ⟨8, rfl, by decide, by omega, .inr (by omega)⟩
theorem bl_up {x y : Int} {k n : Nat} {K : Int} (hK : (2 : Int) ^ k = K) (hy : 1 ≤ y) (h1 : y * K ≤ x) (h2 : x < y * K + K) (hK0 : 0 < K) (h : Bl y n) : Bl x (k + n) := by
  obtain ⟨a, b⟩ := h
  have hn : n ≠ 0 := by
    intro e
    subst e
    simp at a
    omega
  obtain ⟨m, rfl⟩ : ∃ m, n = m + 1 := ⟨n - 1, by omega⟩
  rcases b with b | b
  · cases b
  refine ⟨?_, .inr ?_⟩
  · rw [Int.pow_add, hK]
    have := Int.mul_le_mul_of_nonneg_right (by omega : y + 1 ≤ 2 ^ (m + 1)) (by omega : 0 ≤ K)
    rw [Int.mul_comm K]
    rw [Int.add_mul] at this
    omega
  · rw [show k + (m + 1) - 1 = k + m by omega, Int.pow_add, hK]
    simp only [Nat.add_sub_cancel] at b
    have := Int.mul_le_mul_of_nonneg_right b (by omega : 0 ≤ K)
    rw [Int.mul_comm K]
    omega
theorem bl_spec {x : Int} (h : U x) : ∃ n : Nat, bl x = n ∧ n ≤ 32 ∧ Bl x n := by
  unfold U at h
  unfold bl
  split
  · split
    · obtain ⟨n, e, l, s⟩ := bl8_spec (y := x / 16777216) (by omega) (by omega)
      exact ⟨24 + n, by rw [e]; omega, by omega, bl_up (K := 16777216) rfl (by omega) (by omega) (by omega) (by decide) s⟩
    · obtain ⟨n, e, l, s⟩ := bl8_spec (y := x / 65536) (by omega) (by omega)
      exact ⟨16 + n, by rw [e]; omega, by omega, bl_up (K := 65536) rfl (by omega) (by omega) (by omega) (by decide) s⟩
  · split
    · obtain ⟨n, e, l, s⟩ := bl8_spec (y := x / 256) (by omega) (by omega)
      exact ⟨8 + n, by rw [e]; omega, by omega, bl_up (K := 256) rfl (by omega) (by omega) (by omega) (by decide) s⟩
    · obtain ⟨n, e, l, s⟩ := bl8_spec (y := x) (by omega) (by omega)
      exact ⟨n, e, by omega, s⟩
/-- the least power of two less 1 that is not below. -/
def cap (x : Int) : Int := 2 ^ (bl x).toNat - 1
theorem pow_le {m n : Nat} (h : m ≤ n) : (2 : Int) ^ m ≤ 2 ^ n := by
  have := Nat.pow_le_pow_right (n := 2) (by decide) h
  have e : ∀ k : Nat, ((2 ^ k : Nat) : Int) = (2 : Int) ^ k := fun k => by rw [Int.natCast_pow]; rfl
  rw [← e, ← e]
  omega
theorem pow_32 {n : Nat} (h : n ≤ 32) : 1 ≤ (2 : Int) ^ n ∧ (2 : Int) ^ n ≤ 4294967296 := ⟨pow_le (Nat.zero_le n), pow_le h⟩
theorem upto_is {x : Int} (h : U x) : interval_upto.f x = some (cap x) := by
  obtain ⟨n, e, l, s⟩ := bl_spec h
  unfold interval_upto.f cap
  rw [len_is h]
  simp only [Option.bind_some]
  rw [e, if_pos (by omega), Int.toNat_natCast]
  unfold shl
  have p := pow_32 l
  rw [IntKind.wrap_u32, Int.toNat_natCast, Nat.min_eq_left (by exact l), Int.one_mul]
  generalize (2 : Int) ^ n = q at *
  congr 1
  omega
theorem cap_ge {x : Int} (h : U x) : x ≤ cap x ∧ cap x ≤ 4294967295 ∧ 0 ≤ cap x := by
  obtain ⟨n, e, l, s⟩ := bl_spec h
  unfold cap
  rw [e, Int.toNat_natCast]
  have p := pow_32 l
  have q := s.1
  omega
theorem cap_mono {x y : Int} (hx : U x) (hy : U y) (h : x ≤ y) : cap x ≤ cap y := by
  obtain ⟨n, e, l, s⟩ := bl_spec hx
  obtain ⟨m, f, _, t⟩ := bl_spec hy
  unfold cap
  rw [e, f, Int.toNat_natCast, Int.toNat_natCast]
  by_cases g : n ≤ m
  · have := pow_le g
    omega
  · rcases s.2 with z | z
    · omega
    · have := pow_le (by omega : m ≤ n - 1)
      have := t.1
      omega
/-! ### The other operators -/
theorem and_is (al ah bl bh : Int) : interval_maker_1.f al ah bl bh = some (0, min ah bh) := by
  unfold interval_maker_1.f
  rw [mn_is]
theorem umax {a b : Int} (h1 : U a) (h2 : U b) : U (max a b) := by unfold U at *; omega
theorem or_is {al ah bl bh : Int} (h2 : U ah) (h4 : U bh) : interval_maker_2.f al ah bl bh = some (max al bl, cap (max ah bh)) := by
  unfold interval_maker_2.f
  rw [mx_is, mx_is, upto_is (umax h2 h4)]
  rfl
theorem xor_is {al ah bl bh : Int} (h2 : U ah) (h4 : U bh) : interval_maker_3.f al ah bl bh = some (0, cap (max ah bh)) := by
  unfold interval_maker_3.f
  rw [mx_is, upto_is (umax h2 h4)]
  rfl
/-- a comparison's range. -/
def yesS (a b : Prop) [Decidable a] [Decidable b] : Int × Int := if a then (1, 1) else if b then (0, 0) else (0, 1)
theorem yes_is (a b : Prop) [Decidable a] [Decidable b] : interval_yes.f (decide a) (decide b) = some (yesS a b) := by
  unfold interval_yes.f yesS interval_One.f
  by_cases p : a <;> by_cases q : b <;> simp [p, q]
theorem yes_bool (a b : Bool) : interval_yes.f a b = some (yesS (a = true) (b = true)) := by
  have := yes_is (a = true) (b = true)
  rwa [Bool.decide_eq_true, Bool.decide_eq_true] at this
theorem lt_is (al ah bl bh : Int) : interval_maker_4.f al ah bl bh = some (yesS (ah < bl) (al ≥ bh)) := by
  unfold interval_maker_4.f
  rw [yes_is]
  rfl
theorem le_is (al ah bl bh : Int) : interval_maker_5.f al ah bl bh = some (yesS (ah ≤ bl) (al > bh)) := by
  unfold interval_maker_5.f
  rw [yes_is]
  rfl
theorem meet_is {k : Nat} (hk : 4 ≤ k) (al ah bl bh : Int) : interval_Meet.f k al ah bl bh = some (if al ≤ ah ∧ bl ≤ bh ∧ max al bl ≤ min ah bh then (max al bl, min ah bh, true) else (0, 0, false)) := by
  unfold interval_Meet.f
  rw [may3 hk, mx_is, mn_is]
  simp only [Option.bind_some]
  by_cases h : al ≤ ah ∧ bl ≤ bh ∧ max al bl ≤ min ah bh
  · rw [decide_eq_true h, if_pos rfl, if_pos h]
  · rw [decide_eq_false h, if_neg (by decide), if_neg h]
theorem eq_is {k : Nat} (hk : 4 ≤ k) {al ah bl bh : Int} (ha : al ≤ ah) (hb : bl ≤ bh) : interval_eq.f k al ah bl bh = some (yesS (al = ah ∧ al = bl ∧ ah = bh) (ah < bl ∨ bh < al)) := by
  unfold interval_eq.f
  rw [meet_is hk]
  simp only [Option.bind_some, yes_bool]
  by_cases h : al ≤ ah ∧ bl ≤ bh ∧ max al bl ≤ min ah bh
  · rw [if_pos h]
    have e : ¬ (ah < bl ∨ bh < al) := by omega
    simp only [yesS, e, Bool.not_true]
    by_cases p : al = bl <;> by_cases q : ah = bh <;> by_cases r : al = ah <;> simp [p, q, r]
    all_goals first | omega | (split <;> rfl)
  · rw [if_neg h]
    have e : ah < bl ∨ bh < al := by omega
    simp only [yesS, e, Bool.not_false]
    by_cases p : al = bl <;> by_cases q : ah = bh <;> by_cases r : al = ah <;> simp [p, q, r]
    all_goals first | omega | (split <;> rfl)
theorem ne_is {k : Nat} (hk : 4 ≤ k) {al ah bl bh : Int} (ha : al ≤ ah) (hb : bl ≤ bh) : interval_ne.f k al ah bl bh = some (yesS (ah < bl ∨ bh < al) (al = ah ∧ al = bl ∧ ah = bh)) := by
  unfold interval_ne.f
  rw [meet_is hk]
  simp only [Option.bind_some, yes_bool]
  by_cases h : al ≤ ah ∧ bl ≤ bh ∧ max al bl ≤ min ah bh
  · rw [if_pos h]
    have e : ¬ (ah < bl ∨ bh < al) := by omega
    simp only [yesS, e, Bool.not_true]
    by_cases p : al = bl <;> by_cases q : ah = bh <;> by_cases r : al = ah <;> simp [p, q, r]
    all_goals first | omega | (split <;> rfl)
  · rw [if_neg h]
    have e : ah < bl ∨ bh < al := by omega
    simp only [yesS, e, Bool.not_false]
    by_cases p : al = bl <;> by_cases q : ah = bh <;> by_cases r : al = ah <;> simp [p, q, r]
    all_goals first | omega | (split <;> rfl)
/-- a word as a signed number. -/
def sg (x : Int) : Int := if x < 2147483648 then x else x - 4294967296
def sgl (al ah : Int) : Int := if ah < 2147483648 ∨ al ≥ 2147483648 then sg al else -2147483648
def sgh (al ah : Int) : Int := if ah < 2147483648 ∨ al ≥ 2147483648 then sg ah else 2147483647
theorem word_signed_is {x : Int} (h : U x) : word_Signed.f x = some (sg x) := by
  unfold U at h
  unfold word_Signed.f wrap64 wrap32 sg
  congr 1
  split <;> omega
theorem signed_is {k : Nat} (hk : 1 ≤ k) {al ah : Int} (h1 : U al) (h2 : U ah) : interval_signed.f k al ah = some (sgl al ah, sgh al ah) := by
  obtain ⟨m, rfl⟩ : ∃ m, k = m + 1 := ⟨k - 1, by omega⟩
  unfold interval_signed.f sgl sgh
  by_cases p : ah < 2147483648
  · rw [if_pos p, if_pos (.inl p), if_pos (.inl p), interval_signed.j0, if_pos rfl, word_signed_is h1, word_signed_is h2]
    rfl
  · rw [if_neg p]
    by_cases q : al ≥ 2147483648
    · rw [decide_eq_true q, if_pos (.inr q), if_pos (.inr q), interval_signed.j0, if_pos rfl, word_signed_is h1, word_signed_is h2]
      rfl
    · rw [decide_eq_false q, if_neg (by omega), if_neg (by omega), interval_signed.j0, if_neg (by decide)]
theorem lts_is {k : Nat} (hk : 1 ≤ k) {al ah bl bh : Int} (h1 : U al) (h2 : U ah) (h3 : U bl) (h4 : U bh) : interval_maker_6.f k al ah bl bh = some (yesS (sgh al ah < sgl bl bh) (sgl al ah ≥ sgh bl bh)) := by
  unfold interval_maker_6.f
  rw [signed_is hk h1 h2, signed_is hk h3 h4]
  simp only [Option.bind_some, yes_is]
theorem les_is {k : Nat} (hk : 1 ≤ k) {al ah bl bh : Int} (h1 : U al) (h2 : U ah) (h3 : U bl) (h4 : U bh) : interval_maker_7.f k al ah bl bh = some (yesS (sgh al ah ≤ sgl bl bh) (sgl al ah > sgh bl bh)) := by
  unfold interval_maker_7.f
  rw [signed_is hk h1 h2, signed_is hk h3 h4]
  simp only [Option.bind_some, yes_is]
/-- a word moved to the right. -/
def sr (x y : Int) : Int := x / 2 ^ min y.toNat 32
theorem shr_is {al ah bl bh : Int} (h3 : U bl) (h4 : U bh) : interval_shr.f al ah bl bh = some (sr al bh, sr ah bl) := by
  unfold interval_shr.f
  rw [if_pos h4.1, if_pos h3.1]
  rfl
theorem sar_is {al ah bl bh : Int} (h3 : U bl) (h4 : U bh) : interval_sar.f al ah bl bh = some (if ah ≥ 2147483648 then (0, 4294967295) else (sr al bh, sr ah bl)) := by
  unfold interval_sar.f
  rw [shr_is h3 h4]
  simp only [Option.bind_some, interval_All.f]
  split <;> rfl
theorem shl_is {al ah bl bh : Int} (h1 : U al) (h2 : U ah) (h3 : U bl) (h4 : U bh) (ha : al ≤ ah) : interval_shl.f al ah bl bh = some (if bl ≥ 32 then (0, 0) else if bl = bh ∧ ah * 2 ^ bl.toNat < 4294967296 then (al * 2 ^ bl.toNat, ah * 2 ^ bl.toNat) else (0, 4294967295)) := by
  unfold interval_shl.f
  by_cases g : bl ≥ 32
  · rw [if_pos g, if_pos g]; rfl
  · rw [if_neg g, if_neg g]
    by_cases e : bl = bh
    · rw [if_pos e, if_pos h3.1, ofu h2]
      have p := pow_32 (n := bl.toNat) (by omega)
      have e64 : shl .u64 ah bl = ah * 2 ^ bl.toNat := by
        unfold shl
        have q : min bl.toNat IntKind.u64.bits = bl.toNat := Nat.min_eq_left (by show bl.toNat ≤ 64; omega)
        rw [q, IntKind.wrap_u64]
        have z := mul_lt h2 (b := 2 ^ bl.toNat - 1) ⟨by omega, by omega⟩
        have z2 : ah * 2 ^ bl.toNat = ah * (2 ^ bl.toNat - 1) + ah := by rw [Int.mul_sub, Int.mul_one]; omega
        have h2' := h2
        unfold U at h2'
        generalize (2 : Int) ^ bl.toNat = w at *
        have z3 : ah * (w - 1) ≤ 4294967295 * (w - 1) := Int.mul_le_mul_of_nonneg_right h2'.2 (by omega)
        rw [Int.emod_eq_of_lt (by omega) (by omega)]
      rw [e64]
      by_cases c : ah * 2 ^ bl.toNat < 4294967296
      · rw [if_neg (by omega), if_pos ⟨e, c⟩]
        have f : ∀ x, 0 ≤ x → x ≤ ah → shl .u32 x bl = x * 2 ^ bl.toNat := by
          intro x x0 x1
          unfold shl
          have q : min bl.toNat IntKind.u32.bits = bl.toNat := Nat.min_eq_left (by show bl.toNat ≤ 32; omega)
          rw [q, IntKind.wrap_u32]
          have y1 := Int.mul_le_mul_of_nonneg_right x1 (by omega : (0 : Int) ≤ 2 ^ bl.toNat)
          have y2 := Int.mul_nonneg x0 (by omega : (0 : Int) ≤ 2 ^ bl.toNat)
          rw [Int.emod_eq_of_lt y2 (by omega)]
        rw [f al h1.1 ha, f ah h2.1 (Int.le_refl _)]
      · rw [if_pos (by omega), if_neg (by intro h; exact c h.2)]
        rfl
    · rw [if_neg e, if_neg (by intro h; exact e h.1)]
      rfl
/-! ### Do, Un, Cut and the rest -/
/-- A range that may be, of words. -/
structure V (lo hi : Int) : Prop where
  l : 0 ≤ lo
  o : lo ≤ hi
  h : hi ≤ 4294967295
theorem V.ul {a b : Int} (v : V a b) : U a := ⟨v.l, Int.le_trans v.o v.h⟩
theorem V.uh {a b : Int} (v : V a b) : U b := ⟨Int.le_trans v.l v.o, v.h⟩
def sureS (r : Int × Int) : Int × Int × Bool := (r.1, r.2, true)
def divS (al ah bl bh : Int) : Int × Int × Bool := if bh = 0 then (0, 0, false) else (al / bh, ah / max 1 bl, true)
def remS (al ah bl bh : Int) : Int × Int × Bool := if bh = 0 then (0, 0, false) else if ah < max 1 bl then (al, ah, true) else (0, min ah (bh - 1), true)
def plainS (g : Int → Int → Int → Int → Int × Int × Bool) (al ah bl bh : Int) : Int × Int × Bool := if bh = 0 then (0, 0, false) else if ah ≥ 2147483648 then (0, 4294967295, true) else if bh ≥ 2147483648 then (0, 4294967295, true) else g al ah bl bh
def addS (al ah bl bh : Int) : Int × Int := if (al + bl) / 4294967296 = (ah + bh) / 4294967296 then ((al + bl) % 4294967296, (ah + bh) % 4294967296) else (0, 4294967295)
def subS (al ah bl bh : Int) : Int × Int := if (decide (al < bh)) = (decide (ah < bl)) then ((al - bh) % 4294967296, (ah - bl) % 4294967296) else (0, 4294967295)
def mulS (al ah bl bh : Int) : Int × Int := if ah * bh < 4294967296 then ((al * bl) % 4294967296, (ah * bh) % 4294967296) else (0, 4294967295)
def shlS (al ah bl bh : Int) : Int × Int := if bl ≥ 32 then (0, 0) else if bl = bh ∧ ah * 2 ^ bl.toNat < 4294967296 then (al * 2 ^ bl.toNat, ah * 2 ^ bl.toNat) else (0, 4294967295)
def sarS (al ah bl bh : Int) : Int × Int := if ah ≥ 2147483648 then (0, 4294967295) else (sr al bh, sr ah bl)
/-- What an operator makes of two ranges that may be. -/
def doS (op al ah bl bh : Int) : Int × Int × Bool :=
  if op = 1 then sureS (addS al ah bl bh) else if op = 2 then sureS (subS al ah bl bh) else if op = 3 then sureS (mulS al ah bl bh) else if op = 4 then divS al ah bl bh else if op = 5 then remS al ah bl bh
  else if op = 6 then plainS divS al ah bl bh else if op = 7 then plainS remS al ah bl bh else if op = 8 then (0, min ah bh, true) else if op = 9 then (max al bl, cap (max ah bh), true) else if op = 10 then (0, cap (max ah bh), true)
  else if op = 11 then sureS (shlS al ah bl bh) else if op = 12 then (sr al bh, sr ah bl, true) else if op = 13 then sureS (sarS al ah bl bh) else if op = 14 then sureS (yesS (al = ah ∧ al = bl ∧ ah = bh) (ah < bl ∨ bh < al)) else if op = 15 then sureS (yesS (ah < bl ∨ bh < al) (al = ah ∧ al = bl ∧ ah = bh))
  else if op = 16 then sureS (yesS (ah < bl) (al ≥ bh)) else if op = 17 then sureS (yesS (ah ≤ bl) (al > bh)) else if op = 18 then sureS (yesS (sgh al ah < sgl bl bh) (sgl al ah ≥ sgh bl bh)) else sureS (yesS (sgh al ah ≤ sgl bl bh) (sgl al ah > sgh bl bh))
theorem sureF_of {g : Int → Int → Int → Int → Option (Int × Int)} {al ah bl bh : Int} {r : Int × Int} (h : g al ah bl bh = some r) : sureF g al ah bl bh = some (sureS r) := by
  unfold sureF
  rw [h]
  rfl
theorem plainF_of {g : Int → Int → Int → Int → Option (Int × Int × Bool)} {s : Int → Int → Int → Int → Int × Int × Bool} {al ah bl bh : Int} (h : g al ah bl bh = some (s al ah bl bh)) : plainF g al ah bl bh = some (plainS s al ah bl bh) := by
  unfold plainF plainS
  rw [h]
  repeat' split
  all_goals first | rfl | omega
theorem make_is {k : Nat} (hk : 4 ≤ k) {op al ah bl bh : Int} (h1 : 1 ≤ op) (h2 : op ≤ 19) (va : V al ah) (vb : V bl bh) : makeF k op al ah bl bh = some (doS op al ah bl bh) := by
  have e : op = 1 ∨ op = 2 ∨ op = 3 ∨ op = 4 ∨ op = 5 ∨ op = 6 ∨ op = 7 ∨ op = 8 ∨ op = 9 ∨ op = 10 ∨ op = 11 ∨ op = 12 ∨ op = 13 ∨ op = 14 ∨ op = 15 ∨ op = 16 ∨ op = 17 ∨ op = 18 ∨ op = 19 := by omega
  have a1 := va.ul
  have a2 := va.uh
  have b1 := vb.ul
  have b2 := vb.uh
  rcases e with rfl | rfl | rfl | rfl | rfl | rfl | rfl | rfl | rfl | rfl | rfl | rfl | rfl | rfl | rfl | rfl | rfl | rfl | rfl
  · exact sureF_of (add_is a1 a2 b1 b2)
  · exact sureF_of (sub_is a1 a2 b1 b2)
  · exact sureF_of (mul_is a1 a2 b1 b2)
  · exact div_is a1 a2 b1 b2 vb.o
  · exact rem_is a1 a2 b1 b2 vb.o
  · exact plainF_of (div_is a1 a2 b1 b2 vb.o)
  · exact plainF_of (rem_is a1 a2 b1 b2 vb.o)
  · exact sureF_of (and_is al ah bl bh)
  · exact sureF_of (or_is a2 b2)
  · exact sureF_of (xor_is (al := al) (bl := bl) a2 b2)
  · exact sureF_of (shl_is a1 a2 b1 b2 va.o)
  · exact sureF_of (shr_is b1 b2)
  · exact sureF_of (sar_is b1 b2)
  · exact sureF_of (eq_is hk va.o vb.o)
  · exact sureF_of (ne_is hk va.o vb.o)
  · exact sureF_of (lt_is al ah bl bh)
  · exact sureF_of (le_is al ah bl bh)
  · exact sureF_of (lts_is (by omega) a1 a2 b1 b2)
  · exact sureF_of (les_is (by omega) a1 a2 b1 b2)
theorem do_is {k : Nat} (hk : 4 ≤ k) {op al ah bl bh : Int} (h1 : 1 ≤ op) (h2 : op ≤ 19) (va : V al ah) (vb : V bl bh) : interval_Do.f k op al ah bl bh = some ((doS op al ah bl bh).1, (doS op al ah bl bh).2.1, (doS op al ah bl bh).2.2, 0) := by
  unfold interval_Do.f
  rw [if_pos ⟨h1, h2⟩, may2 hk, decide_eq_true ⟨va.o, vb.o⟩, make_is hk h1 h2 va vb]
  rfl
/-- What an operator of one word makes. -/
def unS (op al ah : Int) : Int × Int := if op = 1 then (if ah = 0 then (0, 0) else if al > 0 then (4294967296 - ah, 4294967296 - al) else (0, 4294967295)) else if op = 2 then (4294967295 - ah, 4294967295 - al) else yesS (ah = 0) (al > 0)
theorem un_is {k : Nat} (hk : 4 ≤ k) {op al ah : Int} (h1 : 1 ≤ op) (h2 : op ≤ 3) (va : V al ah) : interval_Un.f k op al ah = some ((unS op al ah).1, (unS op al ah).2, 0) := by
  obtain ⟨l, o, h⟩ := va
  unfold interval_Un.f unS
  rw [may1 hk, decide_eq_true o]
  simp only [Option.bind_some, if_true, interval_One.f, interval_All.f]
  have e : op = 1 ∨ op = 2 ∨ op = 3 := by omega
  rcases e with rfl | rfl | rfl
  · rw [if_pos rfl, if_pos rfl]
    by_cases p : ah = 0
    · rw [if_pos p, if_pos p]
    · rw [if_neg p, if_neg p]
      by_cases q : al > 0
      · rw [if_pos q, if_pos q, show -ah % 4294967296 = 4294967296 - ah by omega, show -al % 4294967296 = 4294967296 - al by omega]
      · rw [if_neg q, if_neg q]
  · rw [if_neg (by decide), if_pos rfl, if_neg (by decide), if_pos rfl, bnot ⟨l, by omega⟩, bnot ⟨by omega, h⟩]
  · rw [if_neg (by decide), if_neg (by decide), if_pos rfl, if_neg (by decide), if_neg (by decide), yes_bool]
    simp only [Option.bind_some, beq_iff_eq, decide_eq_true_eq, yesS]
/-- What a cut makes: m is 2^width. -/
def cutS (m al ah : Int) : Int × Int := if al / m = ah / m then (al % m, ah % m) else (0, m - 1)
theorem cut_is {k : Nat} (hk : 5 ≤ k) {al ah w : Int} (va : V al ah) (hw : w = 8 ∨ w = 16 ∨ w = 32) : interval_Cut.f k al ah w = some ((cutS (2 ^ w.toNat) al ah).1, (cutS (2 ^ w.toNat) al ah).2, 0) := by
  obtain ⟨l, o, h⟩ := va
  obtain ⟨m, rfl⟩ : ∃ m, k = m + 1 := ⟨k - 1, by omega⟩
  have u1 : U al := ⟨l, by omega⟩
  have u2 : U ah := ⟨by omega, h⟩
  unfold interval_Cut.f cutS
  rcases hw with rfl | rfl | rfl
  · simp only [word_Cut.f, Option.bind_some, if_true, reduceIte]
    rw [may1 (by omega), decide_eq_true o]
    simp only [Option.bind_some, interval_Cut.j0, word_Cut.f, Bool.not_true]
    rw [ofu u1, ofu u2]
    have e : ∀ x : Int, shr .u64 x 8 = x / 256 := fun x => rfl
    have e2 : (shl .u32 1 8 - 1) % 4294967296 = 255 := by decide
    rw [e, e, e2]
    show (if al / 256 = ah / 256 then some (al % 256, ah % 256, 0) else some (0, 255, 0)) = some (Prod.fst (if al / 256 = ah / 256 then (al % 256, ah % 256) else (0, 255)), Prod.snd (if al / 256 = ah / 256 then (al % 256, ah % 256) else (0, 255)), 0)
    split <;> rfl
  · simp only [word_Cut.f, Option.bind_some, if_true, reduceIte, Int.reduceEq]
    rw [may1 (by omega), decide_eq_true o]
    simp only [Option.bind_some, interval_Cut.j0, word_Cut.f, Bool.not_true]
    rw [ofu u1, ofu u2]
    have e : ∀ x : Int, shr .u64 x 16 = x / 65536 := fun x => rfl
    have e2 : (shl .u32 1 16 - 1) % 4294967296 = 65535 := by decide
    rw [e, e, e2]
    have z : ∀ x : Int, U x → IntKind.u16.wrap x % 4294967296 = x % 65536 := by
      intro x hx
      unfold U at hx
      rw [IntKind.wrap_u16]; omega
    simp only [reduceIte, Option.bind_some, Int.reduceEq, Bool.false_eq_true, Int.reduceLE]
    show (if al / 65536 = ah / 65536 then some (IntKind.u16.wrap al % 4294967296, IntKind.u16.wrap ah % 4294967296, 0) else some (0, 65535, 0)) = some (Prod.fst (if al / 65536 = ah / 65536 then (al % 65536, ah % 65536) else (0, 65535)), Prod.snd (if al / 65536 = ah / 65536 then (al % 65536, ah % 65536) else (0, 65535)), 0)
    rw [z _ u1, z _ u2]
    split <;> rfl
  · simp only [word_Cut.f, Option.bind_some, if_true, reduceIte, Int.reduceEq]
    rw [may1 (by omega), decide_eq_true o]
    simp only [Option.bind_some, interval_Cut.j0, word_Cut.f, Bool.not_true]
    rw [ofu u1, ofu u2]
    have e : ∀ x : Int, shr .u64 x 32 = x / 4294967296 := fun x => rfl
    have e2 : (shl .u32 1 32 - 1) % 4294967296 = 4294967295 := by decide
    rw [e, e, e2]
    have z : ∀ x : Int, U x → x = x % 4294967296 := by
      intro x hx
      unfold U at hx
      omega
    simp only [reduceIte, Option.bind_some, Int.reduceEq, Bool.false_eq_true, Int.reduceLE]
    show (if al / 4294967296 = ah / 4294967296 then some (al, ah, 0) else some (0, 4294967295, 0)) = some (Prod.fst (if al / 4294967296 = ah / 4294967296 then (al % 4294967296, ah % 4294967296) else (0, 4294967295)), Prod.snd (if al / 4294967296 = ah / 4294967296 then (al % 4294967296, ah % 4294967296) else (0, 4294967295)), 0)
    rw [← z _ u1, ← z _ u2]
    split <;> rfl
theorem within_is {k : Nat} (hk : 4 ≤ k) {al ah bl bh : Int} (va : V al ah) (vb : V bl bh) : interval_Within.f k al ah bl bh = some (decide (bl ≤ al ∧ ah ≤ bh)) := by
  unfold interval_Within.f
  rw [may2 hk, decide_eq_true ⟨va.o, vb.o⟩]
  simp only [Option.bind_some, if_true]
  by_cases p : bl ≤ al <;> simp [p]
theorem check_is {al ah : Int} : interval_Check.f al ah = some (if al ≤ ah then 0 else 2) := by
  unfold interval_Check.f
  split <;> split <;> first | rfl | omega
theorem pick_is (n : Int) {m : Int} (h0 : 1 ≤ m) (h1 : m ≤ 1000) : ∃ r, lamplighterkit_Pick.f n m = some r ∧ 0 ≤ r ∧ r < m := by
  unfold lamplighterkit_Pick.f
  rw [if_neg (by omega), if_neg (by omega)]
  have a1 := Int.tmod_lt_of_pos n (by omega : 0 < m)
  have a2 : -m < Int.tmod n m := by
    have := Int.tmod_lt_of_pos (-n) (by omega : 0 < m)
    rw [Int.neg_tmod] at this
    omega
  split
  · exact ⟨_, rfl, by unfold wrap64; omega, by unfold wrap64; omega⟩
  · exact ⟨_, rfl, by omega, a1⟩
theorem V.un {op al ah : Int} (v : V al ah) : V (unS op al ah).1 (unS op al ah).2 := by
  obtain ⟨l, o, h⟩ := v
  unfold unS yesS
  repeat' split
  all_goals exact ⟨by simp; try omega, by simp; try omega, by simp; try omega⟩
theorem V.cut {m al ah : Int} (v : V al ah) (h0 : 0 < m) (h1 : m ≤ 4294967296) : V (cutS m al ah).1 (cutS m al ah).2 := by
  obtain ⟨l, o, h⟩ := v
  unfold cutS
  split
  · rename_i e
    have a1 := Int.emod_nonneg al (by omega : m ≠ 0)
    have a2 := Int.emod_lt_of_pos ah h0
    have b1 := Int.mul_ediv_add_emod al m
    have b2 := Int.mul_ediv_add_emod ah m
    rw [e] at b1
    exact ⟨a1, by simp only; omega, by simp only; omega⟩
  · exact ⟨by simp only; omega, by simp only; omega, by simp only; omega⟩
theorem lives_is {k : Nat} (hk : 40 ≤ k) : lamplighterlaw19_lives.f k = some true := by
  obtain ⟨d, rfl⟩ : ∃ d, k = 40 + d := ⟨k - 40, by omega⟩
  induction d with
  | zero => kernel_rfl
  | succ d ih => exact lamplighterlaw19_lives.mono _ _ (ih (by omega))
/-! ### The law -/
theorem do_comm {o al ah bl bh : Int} (h : o = 1 ∨ o = 3 ∨ o = 8 ∨ o = 9 ∨ o = 10 ∨ o = 14 ∨ o = 15) : doS o al ah bl bh = doS o bl bh al ah ∧ (doS o al ah bl bh).2.2 = true := by
  rcases h with rfl | rfl | rfl | rfl | rfl | rfl | rfl
  · refine ⟨?_, rfl⟩
    show sureS (addS al ah bl bh) = sureS (addS bl bh al ah)
    unfold addS
    rw [Int.add_comm al bl, Int.add_comm ah bh]
  · refine ⟨?_, rfl⟩
    show sureS (mulS al ah bl bh) = sureS (mulS bl bh al ah)
    unfold mulS
    rw [Int.mul_comm al bl, Int.mul_comm ah bh]
  · refine ⟨?_, rfl⟩
    show ((0 : Int), min ah bh, true) = (0, min bh ah, true)
    rw [Int.min_comm]
  · refine ⟨?_, rfl⟩
    show (max al bl, cap (max ah bh), true) = (max bl al, cap (max bh ah), true)
    rw [Int.max_comm al, Int.max_comm ah]
  · refine ⟨?_, rfl⟩
    show ((0 : Int), cap (max ah bh), true) = (0, cap (max bh ah), true)
    rw [Int.max_comm ah]
  · refine ⟨?_, rfl⟩
    show sureS (yesS (al = ah ∧ al = bl ∧ ah = bh) (ah < bl ∨ bh < al)) = sureS (yesS (bl = bh ∧ bl = al ∧ bh = ah) (bh < al ∨ ah < bl))
    have e1 : (al = ah ∧ al = bl ∧ ah = bh) ↔ (bl = bh ∧ bl = al ∧ bh = ah) := by omega
    have e2 : (ah < bl ∨ bh < al) ↔ (bh < al ∨ ah < bl) := by omega
    unfold yesS
    simp only [e1, e2]
  · refine ⟨?_, rfl⟩
    show sureS (yesS (ah < bl ∨ bh < al) (al = ah ∧ al = bl ∧ ah = bh)) = sureS (yesS (bh < al ∨ ah < bl) (bl = bh ∧ bl = al ∧ bh = ah))
    have e1 : (al = ah ∧ al = bl ∧ ah = bh) ↔ (bl = bh ∧ bl = al ∧ bh = ah) := by omega
    have e2 : (ah < bl ∨ bh < al) ↔ (bh < al ∨ ah < bl) := by omega
    unfold yesS
    simp only [e1, e2]
theorem cut_cut {m al ah : Int} (v : V al ah) (h0 : m = 256 ∨ m = 65536 ∨ m = 4294967296) : cutS m (cutS m al ah).1 (cutS m al ah).2 = cutS m al ah ∧ cutS 4294967296 (cutS m al ah).1 (cutS m al ah).2 = cutS m al ah := by
  have w := V.cut v (m := m) (by omega) (by omega)
  have lt : (cutS m al ah).2 < m := by
    unfold cutS
    split
    · exact Int.emod_lt_of_pos _ (by omega)
    · show m - 1 < m
      omega
  obtain ⟨p, q⟩ : ∃ p q, cutS m al ah = (p, q) := ⟨_, _, rfl⟩
  obtain ⟨q, e⟩ := q
  rw [e] at w lt ⊢
  obtain ⟨l, o, h⟩ := w
  simp only at l o h lt ⊢
  constructor
  · unfold cutS
    rw [Int.ediv_eq_zero_of_lt l (by omega), Int.ediv_eq_zero_of_lt (by omega) lt, if_pos rfl, Int.emod_eq_of_lt l (by omega), Int.emod_eq_of_lt (by omega) lt]
  · unfold cutS
    rw [Int.ediv_eq_zero_of_lt l (by omega), Int.ediv_eq_zero_of_lt (by omega) (by omega), if_pos rfl, Int.emod_eq_of_lt l (by omega), Int.emod_eq_of_lt (by omega) (by omega)]
theorem IntervalTurns : ∀ (a0_0 : Int) (a0_1 : Int) (a1_0 : Int) (a1_1 : Int) (a2 : Int) (a3 : Int), (Lit.int .u32 a0_0).wf = true → (Lit.int .u32 a0_1).wf = true → (Lit.int .u32 a1_0).wf = true → (Lit.int .u32 a1_1).wf = true → (Lit.int .i64 a2).wf = true → (Lit.int .i64 a3).wf = true → ∃ k, lamplighterlaw19_IntervalTurns.f k a0_0 a0_1 a1_0 a1_1 a2 a3 = some true := by
  intro al ah bl bh op w h1 h2 h3 h4 _ _
  refine ⟨100, ?_⟩
  have u1 := u_of h1
  have u2 := u_of h2
  have u3 := u_of h3
  have u4 := u_of h4
  unfold lamplighterlaw19_IntervalTurns.f
  rw [lives_is (by decide), check_is, check_is]
  simp only [Option.bind_some, if_true]
  by_cases ca : al ≤ ah
  · rw [if_pos ca, if_pos rfl]
    by_cases cb : bl ≤ bh
    · rw [if_pos cb]
      have va : V al ah := ⟨u1.1, ca, u2.2⟩
      have vb : V bl bh := ⟨u3.1, cb, u4.2⟩
      obtain ⟨t, ht, t0, t1⟩ := pick_is op (m := 7) (by decide) (by decide)
      rw [show (100 : Nat) = 99 + 1 from rfl, lamplighterlaw19_IntervalTurns.j0, if_neg (by decide), ht]
      simp only [Option.bind_some]
      have ho : ∃ o, rd [1, 3, 8, 9, 10, 14, 15] t = o ∧ (o = 1 ∨ o = 3 ∨ o = 8 ∨ o = 9 ∨ o = 10 ∨ o = 14 ∨ o = 15) := by
        refine ⟨_, rfl, ?_⟩
        have : t = 0 ∨ t = 1 ∨ t = 2 ∨ t = 3 ∨ t = 4 ∨ t = 5 ∨ t = 6 := by omega
        rcases this with rfl | rfl | rfl | rfl | rfl | rfl | rfl <;> decide
      obtain ⟨o, eo, ho⟩ := ho
      have hc := do_comm (al := al) (ah := ah) (bl := bl) (bh := bh) ho
      have hc2 := do_comm (al := bl) (ah := bh) (bl := al) (bh := ah) ho
      rw [if_pos t0, if_pos (by simpa using t1), eo, do_is (by decide) (by omega) (by omega) va vb, do_is (by decide) (by omega) (by omega) vb va]
      simp only [Option.bind_some]
      rw [hc.2, hc2.2, hc.1]
      simp only [beq_self_eq_true, Bool.not_true, Bool.or_self, Bool.false_eq_true, if_false, if_true, bne_self_eq_false]
      obtain ⟨s, hs, s0, s1⟩ := pick_is w (m := 3) (by decide) (by decide)
      rw [show (99 : Nat) = 98 + 1 from rfl, lamplighterlaw19_IntervalTurns.j1, if_neg (by decide), hs]
      simp only [Option.bind_some]
      have hw : ∃ v, rd [8, 16, 32] s = v ∧ (v = 8 ∨ v = 16 ∨ v = 32) := by
        refine ⟨_, rfl, ?_⟩
        have : s = 0 ∨ s = 1 ∨ s = 2 := by omega
        rcases this with rfl | rfl | rfl <;> decide
      obtain ⟨v, ev, hv⟩ := hw
      have hm : (2 : Int) ^ v.toNat = 256 ∨ (2 : Int) ^ v.toNat = 65536 ∨ (2 : Int) ^ v.toNat = 4294967296 := by
        rcases hv with rfl | rfl | rfl
        · exact .inl rfl
        · exact .inr (.inl rfl)
        · exact .inr (.inr rfl)
      have vc := V.cut va (m := 2 ^ v.toNat) (by omega) (by omega)
      have cc := cut_cut va hm
      have e32 : (2 : Int) ^ (32 : Int).toNat = 4294967296 := rfl
      rw [if_pos s0, if_pos (by simpa using s1), ev, cut_is (by decide) va hv]
      simp only [Option.bind_some]
      rw [cut_is (by decide) vc hv]
      simp only [Option.bind_some]
      rw [cut_is (by decide) vc (.inr (.inr rfl)), e32, cc.1, cc.2]
      simp only [Option.bind_some]
      have vn := V.un (op := 2) va
      have vp := V.un (op := 1) va
      have vq := V.un (op := 1) vp
      rw [un_is (by decide) (by decide) (by decide) va]
      simp only [Option.bind_some]
      rw [un_is (by decide) (by decide) (by decide) vn]
      simp only [Option.bind_some]
      rw [un_is (by decide) (by decide) (by decide) va]
      simp only [Option.bind_some]
      rw [un_is (by decide) (by decide) (by decide) vp]
      simp only [Option.bind_some]
      rw [within_is (by decide) va vq]
      have e1 : unS 2 (unS 2 al ah).1 (unS 2 al ah).2 = (al, ah) := by
        unfold unS
        simp only [Int.reduceEq, if_false, if_true]
        rw [Int.sub_sub_self, Int.sub_sub_self]
      have e2 : (unS 1 (unS 1 al ah).1 (unS 1 al ah).2).1 ≤ al ∧ ah ≤ (unS 1 (unS 1 al ah).1 (unS 1 al ah).2).2 := by
        unfold U at u1 u2
        by_cases p : ah = 0
        · have : al = 0 := by omega
          subst p this
          decide
        · by_cases q : al > 0
          · have z : unS 1 al ah = (4294967296 - ah, 4294967296 - al) := by unfold unS; rw [if_pos rfl, if_neg p, if_pos q]
            rw [z]
            unfold unS
            simp only
            rw [if_pos trivial, if_neg (by omega), if_pos (by omega)]
            simp only
            omega
          · have z : unS 1 al ah = (0, 4294967295) := by unfold unS; rw [if_pos rfl, if_neg p, if_neg q]
            rw [z]
            unfold unS
            simp only
            rw [if_pos trivial, if_neg (by decide), if_neg (by decide)]
            simp only
            omega
      rw [e1, decide_eq_true e2]
      simp
    · rw [if_neg cb, show (100 : Nat) = 99 + 1 from rfl, lamplighterlaw19_IntervalTurns.j0, if_pos (by decide)]
  · rw [if_neg ca, if_neg (by decide), show (100 : Nat) = 99 + 1 from rfl, lamplighterlaw19_IntervalTurns.j0, if_pos rfl]
end Go.Proofs.Ytmhmfnjbioplhaa.Pure
