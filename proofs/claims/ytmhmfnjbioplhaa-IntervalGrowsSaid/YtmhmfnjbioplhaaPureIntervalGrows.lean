/- The plain law of IntervalGrows: the Lean function of the law answers true. Conditions: each number is of its kind. -/
import Derived.Test.YtmhmfnjbioplhaaPIntervalGrowsx8
import Derived.OpenShut
import Derived.KernelRfl
namespace Go.Proofs.Ytmhmfnjbioplhaa.Pure
open Go.RowKit Go.Proofs.Ytmhmfnjbioplhaa.PIntervalGrows Go.Proofs.YtmhmfnjbioplhaaW.PrintWords Go.Proofs.YtmhmfnjbioplhaaW.PrintLast Go.Proofs.YtmhmfnjbioplhaaW.PrintMore
set_option linter.unusedVariables false
set_option linter.unusedSimpArgs false
def U (x : Int) : Prop := 0 ≤ x ∧ x ≤ 4294967295
theorem u_of {x : Int} (h : (Lit.int .u32 x).wf = true) : U x := bounds_u32 h
theorem may1 {k : Nat} (hk : 4 ≤ k) (a b : Int) : interval_may.f k [(⟨a, b⟩ : S24)] = some (decide (a ≤ b)) := by
  obtain ⟨m, rfl⟩ : ∃ m, k = m + 4 := ⟨k - 4, by omega⟩
  simp only [interval_may.f, interval_may.l0]
  simp [rd_T24, wrap64]
  by_cases h : a ≤ b
  · rw [if_neg (by omega), decide_eq_true h]
  · rw [if_pos (by omega), decide_eq_false h]
theorem may2 {k : Nat} (hk : 4 ≤ k) (a b c d : Int) : interval_may.f k [(⟨a, b⟩ : S24), (⟨c, d⟩ : S24)] = some (decide (a ≤ b ∧ c ≤ d)) := by
  obtain ⟨m, rfl⟩ : ∃ m, k = m + 4 := ⟨k - 4, by omega⟩
  simp only [interval_may.f, interval_may.l0]
  simp [rd_T24, wrap64]
  by_cases h : a ≤ b
  · rw [if_neg (by omega)]
    by_cases h2 : c ≤ d
    · rw [if_neg (by omega)]; simp [h, h2]
    · rw [if_pos (by omega)]; simp [h2]
  · rw [if_pos (by omega)]; simp [h]
theorem may3 {k : Nat} (hk : 4 ≤ k) (a b c d e f : Int) : interval_may.f k [(⟨a, b⟩ : S24), (⟨c, d⟩ : S24), (⟨e, f⟩ : S24)] = some (decide (a ≤ b ∧ c ≤ d ∧ e ≤ f)) := by
  obtain ⟨m, rfl⟩ : ∃ m, k = m + 4 := ⟨k - 4, by omega⟩
  simp only [interval_may.f, interval_may.l0]
  simp [rd_T24, wrap64]
  by_cases h : a ≤ b
  · rw [if_neg (by omega)]
    by_cases h2 : c ≤ d
    · rw [if_neg (by omega)]
      by_cases h3 : e ≤ f
      · rw [if_neg (by omega)]; simp [h, h2, h3]
      · rw [if_pos (by omega)]; simp [h3]
    · rw [if_pos (by omega)]; simp [h2]
  · rw [if_pos (by omega)]; simp [h]
def dn (x : Int) : Int := if 4294967295 ≤ x then 4294967295 else if 2147483648 ≤ x then 2147483648 else if 2147483647 ≤ x then 2147483647 else if 65536 ≤ x then 65536 else if 65535 ≤ x then 65535 else if 256 ≤ x then 256 else if 255 ≤ x then 255 else if 1 ≤ x then 1 else 0
def up (x : Int) : Int := if 0 ≥ x then 0 else if 1 ≥ x then 1 else if 255 ≥ x then 255 else if 256 ≥ x then 256 else if 65535 ≥ x then 65535 else if 65536 ≥ x then 65536 else if 2147483647 ≥ x then 2147483647 else if 2147483648 ≥ x then 2147483648 else 4294967295
abbrev STEPS : List Int := [0, 1, 255, 256, 65535, 65536, 2147483647, 2147483648, 4294967295]
theorem step0 {k : Nat} {i : Int} (s : Int) (a b d e p r : Int) (h0 : 0 ≤ i) (h1 : i < 9) (hs : rd STEPS i = s) : interval_Widen.l0 (k + 1) STEPS 9 i a b d e p r = interval_Widen.l0 k STEPS 9 (i + 1) a b d e (if s ≤ d then s else p) r := by
  rw [interval_Widen.l0, if_pos h1, if_pos h0, if_pos (by simpa using h1), hs, show wrap64 (i + 1) = i + 1 by unfold wrap64; omega]
  split <;> rfl
theorem step1 {k : Nat} {i : Int} (s : Int) (d e p r : Int) (h0 : 0 ≤ i) (h1 : i < 9) (hs : rd STEPS i = s) : interval_Widen.l1 (k + 1) STEPS i d e r p = interval_Widen.l1 k STEPS (i - 1) d e r (if s ≥ e then s else p) := by
  rw [interval_Widen.l1, if_pos (by omega), if_pos h0, if_pos (by simpa using h1), hs, show wrap64 (i - 1) = i - 1 by unfold wrap64; omega]
  split <;> rfl
theorem up_loop {k : Nat} (d e r p : Int) (he : U e) : interval_Widen.l1 (k + 10) STEPS 8 d e r p = some (r, up e) := by
  rw [step1 4294967295 _ _ _ _ (by decide) (by decide) rfl, step1 2147483648 _ _ _ _ (by decide) (by decide) rfl, step1 2147483647 _ _ _ _ (by decide) (by decide) rfl, step1 65536 _ _ _ _ (by decide) (by decide) rfl, step1 65535 _ _ _ _ (by decide) (by decide) rfl, step1 256 _ _ _ _ (by decide) (by decide) rfl, step1 255 _ _ _ _ (by decide) (by decide) rfl, step1 1 _ _ _ _ (by decide) (by decide) rfl, step1 0 _ _ _ _ (by decide) (by decide) rfl]
  rw [interval_Widen.l1, if_neg (by decide)]
  have h := he.2
  unfold up
  rw [if_pos (by omega : (4294967295 : Int) ≥ e)]
theorem dn_loop {k : Nat} (a b d e r p : Int) (hd : U d) : interval_Widen.l0 (k + 10) STEPS 9 0 a b d e p r = interval_Widen.j1 k a b d e (dn d) r := by
  rw [step0 0 _ _ _ _ _ _ (by decide) (by decide) rfl, step0 1 _ _ _ _ _ _ (by decide) (by decide) rfl, step0 255 _ _ _ _ _ _ (by decide) (by decide) rfl, step0 256 _ _ _ _ _ _ (by decide) (by decide) rfl, step0 65535 _ _ _ _ _ _ (by decide) (by decide) rfl, step0 65536 _ _ _ _ _ _ (by decide) (by decide) rfl, step0 2147483647 _ _ _ _ _ _ (by decide) (by decide) rfl, step0 2147483648 _ _ _ _ _ _ (by decide) (by decide) rfl, step0 4294967295 _ _ _ _ _ _ (by decide) (by decide) rfl]
  rw [interval_Widen.l0, if_neg (by decide)]
  have h := hd.1
  unfold dn
  rw [if_pos (by omega : (0 : Int) ≤ d)]
theorem j1_is {k : Nat} (hk : 11 ≤ k) (a b d e p r : Int) (he : U e) : interval_Widen.j1 k a b d e p r = some (p, if e > b then up e else r) := by
  obtain ⟨m, rfl⟩ : ∃ m, k = m + 10 + 1 := ⟨k - 11, by omega⟩
  rw [interval_Widen.j1]
  split
  · simp only [interval_steps.f, Option.bind_some]
    show interval_Widen.l1 (m + 10) STEPS (wrap64 ((STEPS.length : Int) - 1)) d e p r = _
    rw [show wrap64 ((STEPS.length : Int) - 1) = 8 by simp [wrap64]]
    exact up_loop _ _ _ _ he
  · rfl
theorem widen_is {k : Nat} (hk : 30 ≤ k) (a b d e : Int) (hd : U d) (he : U e) (h : a ≤ b ∧ d ≤ e) : interval_Widen.f k a b d e = some (if d < a then dn d else a, if e > b then up e else b) := by
  unfold interval_Widen.f
  rw [may2 (by omega), decide_eq_true h]
  simp only [Option.bind_some, if_true]
  obtain ⟨m, rfl⟩ : ∃ m, k = m + 10 := ⟨k - 10, by omega⟩
  split
  · simp only [interval_steps.f, Option.bind_some]
    have z := dn_loop (k := m) a b d e b a hd
    rw [j1_is (by omega) _ _ _ _ _ _ he] at z
    exact z
  · exact j1_is (by omega) _ _ _ _ _ _ he
theorem dn_le {x : Int} (h : U x) : 0 ≤ dn x ∧ dn x ≤ x := by
  unfold U at h
  unfold dn
  repeat' split
  all_goals omega
theorem le_up {x : Int} (h : U x) : x ≤ up x ∧ up x ≤ 4294967295 := by
  unfold U at h
  unfold up
  repeat' split
  all_goals omega
theorem ofu {x : Int} (h : U x) : IntKind.u64.wrap x = x := by unfold U at h; rw [IntKind.wrap_u64]; omega
theorem bnot {x : Int} (h : U x) : Go.bits .xor .u32 IntKind.u32.max x = 4294967295 - x := by
  obtain ⟨h0, h1⟩ := h
  have e : IntKind.u32.max = 4294967295 := rfl
  rw [e, u32_xor _ _ (by decide) (by decide) h0 (by omega)]
  have q : (BitVec.allOnes 32 ^^^ BitVec.ofNat 32 x.toNat).toNat = 4294967295 - x.toNat := by
    rw [BitVec.allOnes_xor, BitVec.toNat_not, BitVec.toNat_ofNat, Nat.mod_eq_of_lt (by omega)]
  rw [BitVec.toNat_xor, BitVec.toNat_allOnes, BitVec.toNat_ofNat, Nat.mod_eq_of_lt (by omega)] at q
  have e2 : (4294967295 : Int).toNat = 2 ^ 32 - 1 := by decide
  rw [e2, q]
  omega
theorem add_is {al ah bl bh : Int} (h1 : U al) (h2 : U ah) (h3 : U bl) (h4 : U bh) : interval_add.f al ah bl bh = some (if (al + bl) / 4294967296 = (ah + bh) / 4294967296 then ((al + bl) % 4294967296, (ah + bh) % 4294967296) else (0, 4294967295)) := by
  have e : ∀ {a b : Int}, U a → U b → bits_Add32.f a b 0 = some ((a + b) % 4294967296, (a + b) / 4294967296) := by
    intro a b ha hb
    unfold bits_Add32.f
    have z : IntKind.u64.wrap 0 = 0 := by decide
    rw [ofu ha, ofu hb, z]
    unfold U at ha hb
    simp only [IntKind.wrap_u64, Int.add_zero]
    rw [Int.emod_eq_of_lt (by omega : (0 : Int) ≤ a + b) (by omega), Int.emod_eq_of_lt (by omega : (0 : Int) ≤ a + b) (by omega), Int.emod_eq_of_lt (by omega : (0 : Int) ≤ (a + b) / 4294967296) (by omega)]
  unfold interval_add.f
  rw [e h1 h3, e h2 h4]
  simp only [Option.bind_some, interval_All.f]
  split <;> rfl
theorem top_bit (x : Nat) (h : x < 4294967296) : x.testBit 31 = decide (2147483648 ≤ x) := by
  rw [Nat.testBit_eq_decide_div_mod_eq]
  by_cases g : 2147483648 ≤ x
  · rw [decide_eq_true g, decide_eq_true]; omega
  · rw [decide_eq_false g, decide_eq_false]; omega
theorem borrow {a b : Int} (h1 : U a) (h2 : U b) : bits_Sub32.f a b 0 = some ((a - b) % 4294967296, if a < b then 1 else 0) := by
  unfold bits_Sub32.f
  unfold U at h1 h2
  have d0 : (a - b) % 4294967296 - 0 = (a - b) % 4294967296 := by omega
  rw [d0, Int.emod_eq_of_lt (by omega : 0 ≤ (a - b) % 4294967296) (by omega)]
  obtain ⟨d, hd⟩ : ∃ d, (a - b) % 4294967296 = d := ⟨_, rfl⟩
  rw [hd]
  have ux := u32_xor a b h1.1 (by omega) h2.1 (by omega)
  have hxlt : a.toNat ^^^ b.toNat < 2 ^ 32 := Nat.xor_lt_two_pow (by omega) (by omega)
  rw [bnot h1, ux, bnot ⟨by omega, by omega⟩]
  rw [u32_and _ _ (by omega) (by omega) h2.1 (by omega), u32_and _ _ (by omega) (by omega) (by omega) (by omega)]
  have l1 : (4294967295 - a).toNat &&& b.toNat < 2 ^ 32 := Nat.and_lt_two_pow _ (by omega)
  have l2 : (4294967295 - ((a.toNat ^^^ b.toNat : Nat) : Int)).toNat &&& d.toNat < 2 ^ 32 := Nat.and_lt_two_pow _ (by omega)
  rw [u32_or _ _ (by omega) (by omega) (by omega) (by omega)]
  simp only [Int.toNat_natCast]
  obtain ⟨t, ht⟩ : ∃ t, ((4294967295 - a).toNat &&& b.toNat ||| (4294967295 - ((a.toNat ^^^ b.toNat : Nat) : Int)).toNat &&& d.toNat) = t := ⟨_, rfl⟩
  have htl : t < 2 ^ 32 := by rw [← ht]; exact Nat.or_lt_two_pow l1 l2
  have hb : t.testBit 31 = decide (a < b) := by
    rw [← ht, Nat.testBit_or, Nat.testBit_and, Nat.testBit_and, top_bit _ (by omega), top_bit _ (by omega), top_bit _ (by omega), top_bit _ (by omega)]
    have hx := top_bit (a.toNat ^^^ b.toNat) (by omega)
    rw [Nat.testBit_xor, top_bit _ (by omega), top_bit _ (by omega)] at hx
    by_cases ha : 2147483648 ≤ a.toNat <;> by_cases hb : 2147483648 ≤ b.toNat
    all_goals
      simp only [ha, hb, decide_true, decide_false, Bool.xor_self, Bool.xor_false, Bool.false_xor, Bool.true_xor, Bool.xor_true, Bool.not_true, Bool.not_false] at hx
      first | have hx := of_decide_eq_true hx.symm | have hx := of_decide_eq_false hx.symm
      rw [Bool.eq_iff_iff]
      simp only [Bool.or_eq_true, Bool.and_eq_true, decide_eq_true_eq]
      omega
  rw [ht]
  rw [top_bit t htl] at hb
  by_cases g : a < b
  · rw [if_pos g]
    rw [decide_eq_true g] at hb
    have := of_decide_eq_true hb
    congr 2
    omega
  · rw [if_neg g]
    rw [decide_eq_false g] at hb
    have := of_decide_eq_false hb
    congr 2
    omega
theorem sub_is {al ah bl bh : Int} (h1 : U al) (h2 : U ah) (h3 : U bl) (h4 : U bh) : interval_sub.f al ah bl bh = some (if (decide (al < bh)) = (decide (ah < bl)) then ((al - bh) % 4294967296, (ah - bl) % 4294967296) else (0, 4294967295)) := by
  unfold interval_sub.f
  rw [borrow h1 h4, borrow h2 h3]
  simp only [Option.bind_some, interval_All.f]
  by_cases p : al < bh <;> by_cases q : ah < bl <;> simp [p, q]
theorem mul_lt {a b : Int} (h1 : U a) (h2 : U b) : 0 ≤ a * b ∧ a * b < 18446744073709551616 := by
  obtain ⟨a0, a1⟩ := h1
  obtain ⟨b0, b1⟩ := h2
  refine ⟨Int.mul_nonneg a0 b0, ?_⟩
  have := Int.mul_le_mul a1 b1 b0 (by decide)
  omega
theorem mul_is {al ah bl bh : Int} (h1 : U al) (h2 : U ah) (h3 : U bl) (h4 : U bh) : interval_mul.f al ah bl bh = some (if ah * bh < 4294967296 then ((al * bl) % 4294967296, (ah * bh) % 4294967296) else (0, 4294967295)) := by
  unfold interval_mul.f bits_Mul32.f
  have h := mul_lt h2 h4
  rw [ofu h2, ofu h4, IntKind.wrap_u64, Int.emod_eq_of_lt h.1 h.2]
  simp only [Option.bind_some, interval_All.f]
  obtain ⟨p, hp⟩ : ∃ p, ah * bh = p := ⟨_, rfl⟩
  rw [hp] at h ⊢
  by_cases g : p < 4294967296
  · rw [if_pos g, if_pos (by omega)]
  · rw [if_neg g, if_neg (by omega)]
theorem div_le {a b : Int} (h : U a) (hb : 0 < b) : U (a / b) := ⟨Int.ediv_nonneg h.1 (by omega), Int.le_trans (Int.ediv_le_self _ h.1) h.2⟩
theorem mx_is (a b : Int) : mx a b = max a b := by unfold mx; omega
theorem mn_is (a b : Int) : mn a b = min a b := by unfold mn; omega
theorem div_is {al ah bl bh : Int} (h1 : U al) (h2 : U ah) (h3 : U bl) (h4 : U bh) (hb : bl ≤ bh) : interval_div.f al ah bl bh = some (if bh = 0 then (0, 0, false) else (al / bh, ah / max 1 bl, true)) := by
  unfold interval_div.f interval_noZero.f
  by_cases g : bh = 0
  · rw [if_pos g, if_pos g]; rfl
  · rw [if_neg g, if_neg g]
    simp only [Option.bind_some, if_true, mx_is]
    unfold U at h3 h4
    rw [if_neg g, if_neg (by omega : ¬ max 1 bl = 0)]
    have e1 : Int.tdiv al bh = al / bh := Int.tdiv_eq_ediv_of_nonneg h1.1
    have e2 : Int.tdiv ah (max 1 bl) = ah / max 1 bl := Int.tdiv_eq_ediv_of_nonneg h2.1
    have u1 := div_le h1 (by omega : 0 < bh)
    have u2 := div_le h2 (by omega : 0 < max 1 bl)
    unfold U at u1 u2
    rw [e1, e2, Int.emod_eq_of_lt u1.1 (by omega), Int.emod_eq_of_lt u2.1 (by omega)]
theorem rem_is {al ah bl bh : Int} (h1 : U al) (h2 : U ah) (h3 : U bl) (h4 : U bh) (hb : bl ≤ bh) : interval_rem.f al ah bl bh = some (if bh = 0 then (0, 0, false) else if ah < max 1 bl then (al, ah, true) else (0, min ah (bh - 1), true)) := by
  unfold interval_rem.f interval_noZero.f
  by_cases g : bh = 0
  · rw [if_pos g, if_pos g]; rfl
  · rw [if_neg g, if_neg g]
    simp only [Option.bind_some, if_true, mx_is, mn_is]
    unfold U at h3 h4
    rw [Int.emod_eq_of_lt (by omega : 0 ≤ bh - 1) (by omega)]
    split <;> rfl
def TAB : ByteArray := ⟨#[0, 1, 2, 2, 3, 3, 3, 3, 4, 4, 4, 4, 4, 4, 4, 4, 5, 5, 5, 5, 5, 5, 5, 5, 5, 5, 5, 5, 5, 5, 5, 5, 6, 6, 6, 6, 6, 6, 6, 6, 6, 6, 6, 6, 6, 6, 6, 6, 6, 6, 6, 6, 6, 6, 6, 6, 6, 6, 6, 6, 6, 6, 6, 6, 7, 7, 7, 7, 7, 7, 7, 7, 7, 7, 7, 7, 7, 7, 7, 7, 7, 7, 7, 7, 7, 7, 7, 7, 7, 7, 7, 7, 7, 7, 7, 7, 7, 7, 7, 7, 7, 7, 7, 7, 7, 7, 7, 7, 7, 7, 7, 7, 7, 7, 7, 7, 7, 7, 7, 7, 7, 7, 7, 7, 7, 7, 7, 7, 8, 8, 8, 8, 8, 8, 8, 8, 8, 8, 8, 8, 8, 8, 8, 8, 8, 8, 8, 8, 8, 8, 8, 8, 8, 8, 8, 8, 8, 8, 8, 8, 8, 8, 8, 8, 8, 8, 8, 8, 8, 8, 8, 8, 8, 8, 8, 8, 8, 8, 8, 8, 8, 8, 8, 8, 8, 8, 8, 8, 8, 8, 8, 8, 8, 8, 8, 8, 8, 8, 8, 8, 8, 8, 8, 8, 8, 8, 8, 8, 8, 8, 8, 8, 8, 8, 8, 8, 8, 8, 8, 8, 8, 8, 8, 8, 8, 8, 8, 8, 8, 8, 8, 8, 8, 8, 8, 8, 8, 8, 8, 8, 8, 8, 8, 8, 8, 8, 8, 8, 8, 8, 8, 8, 8, 8, 8, 8]⟩
def bl8 (x : Int) : Int := if x < 1 then 0 else if x < 2 then 1 else if x < 4 then 2 else if x < 8 then 3 else if x < 16 then 4 else if x < 32 then 5 else if x < 64 then 6 else if x < 128 then 7 else 8
theorem tab_is {x : Int} (h0 : 0 ≤ x) (h1 : x < 256) : bt TAB x = bl8 x := by
  have h : ∀ n : Nat, n < 256 → bt TAB (n : Int) = bl8 n := by decide +kernel
  have := h x.toNat (by omega)
  rwa [Int.toNat_of_nonneg h0] at this
def bl (x : Int) : Int := if x ≥ 65536 then (if x / 65536 ≥ 256 then 24 + bl8 (x / 16777216) else 16 + bl8 (x / 65536)) else if x ≥ 256 then 8 + bl8 (x / 256) else bl8 x
theorem bl8_le (x : Int) : 0 ≤ bl8 x ∧ bl8 x ≤ 8 := by unfold bl8; omega
theorem len_is {x : Int} (h : U x) : bits_Len32.f x = some (bl x) := by
  unfold U at h
  have b1 := bl8_le (x / 16777216)
  have b2 := bl8_le (x / 65536)
  have b3 := bl8_le (x / 256)
  have b4 := bl8_le x
  have w : ∀ {a : Int}, 0 ≤ a → a ≤ 40 → wrap64 a = a := by intro a p q; unfold wrap64; omega
  unfold bits_Len32.f bl
  change (if x ≥ 65536 then (if (x / 65536) ≥ 256 then (if 0 ≤ (((x / 65536) / 256) % 256) then (if (((x / 65536) / 256) % 256) < 256 then (some (wrap64 ((16 + 8) + (wrap64 (bt TAB (((x / 65536) / 256) % 256)))))) else (none)) else (none)) else (if 0 ≤ ((x / 65536) % 256) then (if ((x / 65536) % 256) < 256 then (some (wrap64 (16 + (wrap64 (bt TAB ((x / 65536) % 256)))))) else (none)) else (none))) else (if x ≥ 256 then (if 0 ≤ ((x / 256) % 256) then (if ((x / 256) % 256) < 256 then (some (wrap64 ((0 + 8) + (wrap64 (bt TAB ((x / 256) % 256)))))) else (none)) else (none)) else (if 0 ≤ (x % 256) then (if (x % 256) < 256 then (some (wrap64 (0 + (wrap64 (bt TAB (x % 256)))))) else (none)) else (none)))) = _
  by_cases c1 : x ≥ 65536
  · rw [if_pos c1, if_pos c1]
    by_cases c2 : x / 65536 ≥ 256
    · rw [if_pos c2, if_pos c2, if_pos (by omega), if_pos (by omega), show x / 65536 / 256 % 256 = x / 16777216 by omega, tab_is (by omega) (by omega), w b1.1 (by omega), w (by omega) (by omega)]
      rfl
    · rw [if_neg c2, if_neg c2, if_pos (by omega), if_pos (by omega), show x / 65536 % 256 = x / 65536 by omega, tab_is (by omega) (by omega), w b2.1 (by omega), w (by omega) (by omega)]
  · rw [if_neg c1, if_neg c1]
    by_cases c2 : x ≥ 256
    · rw [if_pos c2, if_pos c2, if_pos (by omega), if_pos (by omega), show x / 256 % 256 = x / 256 by omega, tab_is (by omega) (by omega), w b3.1 (by omega), w (by omega) (by omega)]
      rfl
    · rw [if_neg c2, if_neg c2, if_pos (by omega), if_pos (by omega), show x % 256 = x by omega, tab_is (by omega) (by omega), w b4.1 (by omega), Int.zero_add, w b4.1 (by omega)]
def Bl (x : Int) (n : Nat) : Prop := x < 2 ^ n ∧ (n = 0 ∨ (2 : Int) ^ (n - 1) ≤ x)
theorem bl8_spec {y : Int} (h0 : 0 ≤ y) (h1 : y < 256) : ∃ n : Nat, bl8 y = n ∧ n ≤ 8 ∧ Bl y n := by
  unfold bl8 Bl
  repeat' split
  · exact ⟨0, rfl, by decide, by omega, .inl rfl⟩
  · exact ⟨1, rfl, by decide, by omega, .inr (by omega)⟩
  · exact ⟨2, rfl, by decide, by omega, .inr (by omega)⟩
  · exact ⟨3, rfl, by decide, by omega, .inr (by omega)⟩
  · exact ⟨4, rfl, by decide, by omega, .inr (by omega)⟩
  · exact ⟨5, rfl, by decide, by omega, .inr (by omega)⟩
  · exact ⟨6, rfl, by decide, by omega, .inr (by omega)⟩
  · exact ⟨7, rfl, by decide, by omega, .inr (by omega)⟩
  · exact ⟨8, rfl, by decide, by omega, .inr (by omega)⟩
theorem bl_up {x y : Int} {k n : Nat} {K : Int} (hK : (2 : Int) ^ k = K) (hy : 1 ≤ y) (h1 : y * K ≤ x) (h2 : x < y * K + K) (hK0 : 0 < K) (h : Bl y n) : Bl x (k + n) := by
  obtain ⟨a, b⟩ := h
  have hn : n ≠ 0 := by
    intro e
    subst e
    simp at a
    omega
  obtain ⟨m, rfl⟩ : ∃ m, n = m + 1 := ⟨n - 1, by omega⟩
  rcases b with b | b
  · cases b
  refine ⟨?_, .inr ?_⟩
  · rw [Int.pow_add, hK]
    have := Int.mul_le_mul_of_nonneg_right (by omega : y + 1 ≤ 2 ^ (m + 1)) (by omega : 0 ≤ K)
    rw [Int.mul_comm K]
    rw [Int.add_mul] at this
    omega
  · rw [show k + (m + 1) - 1 = k + m by omega, Int.pow_add, hK]
    simp only [Nat.add_sub_cancel] at b
    have := Int.mul_le_mul_of_nonneg_right b (by omega : 0 ≤ K)
    rw [Int.mul_comm K]
    omega
theorem bl_spec {x : Int} (h : U x) : ∃ n : Nat, bl x = n ∧ n ≤ 32 ∧ Bl x n := by
  unfold U at h
  unfold bl
  split
  · split
    · obtain ⟨n, e, l, s⟩ := bl8_spec (y := x / 16777216) (by omega) (by omega)
      exact ⟨24 + n, by rw [e]; omega, by omega, bl_up (K := 16777216) rfl (by omega) (by omega) (by omega) (by decide) s⟩
    · obtain ⟨n, e, l, s⟩ := bl8_spec (y := x / 65536) (by omega) (by omega)
      exact ⟨16 + n, by rw [e]; omega, by omega, bl_up (K := 65536) rfl (by omega) (by omega) (by omega) (by decide) s⟩
  · split
    · obtain ⟨n, e, l, s⟩ := bl8_spec (y := x / 256) (by omega) (by omega)
      exact ⟨8 + n, by rw [e]; omega, by omega, bl_up (K := 256) rfl (by omega) (by omega) (by omega) (by decide) s⟩
    · obtain ⟨n, e, l, s⟩ := bl8_spec (y := x) (by omega) (by omega)
      exact ⟨n, e, by omega, s⟩
def cap (x : Int) : Int := 2 ^ (bl x).toNat - 1
theorem pow_le {m n : Nat} (h : m ≤ n) : (2 : Int) ^ m ≤ 2 ^ n := by
  have := Nat.pow_le_pow_right (n := 2) (by decide) h
  have e : ∀ k : Nat, ((2 ^ k : Nat) : Int) = (2 : Int) ^ k := fun k => by rw [Int.natCast_pow]; rfl
  rw [← e, ← e]
  omega
theorem pow_32 {n : Nat} (h : n ≤ 32) : 1 ≤ (2 : Int) ^ n ∧ (2 : Int) ^ n ≤ 4294967296 := ⟨pow_le (Nat.zero_le n), pow_le h⟩
theorem upto_is {x : Int} (h : U x) : interval_upto.f x = some (cap x) := by
  obtain ⟨n, e, l, s⟩ := bl_spec h
  unfold interval_upto.f cap
  rw [len_is h]
  simp only [Option.bind_some]
  rw [e, if_pos (by omega), Int.toNat_natCast]
  unfold shl
  have p := pow_32 l
  rw [IntKind.wrap_u32, Int.toNat_natCast, Nat.min_eq_left (by exact l), Int.one_mul]
  generalize (2 : Int) ^ n = q at *
  congr 1
  omega
theorem cap_ge {x : Int} (h : U x) : x ≤ cap x ∧ cap x ≤ 4294967295 ∧ 0 ≤ cap x := by
  obtain ⟨n, e, l, s⟩ := bl_spec h
  unfold cap
  rw [e, Int.toNat_natCast]
  have p := pow_32 l
  have q := s.1
  omega
theorem cap_mono {x y : Int} (hx : U x) (hy : U y) (h : x ≤ y) : cap x ≤ cap y := by
  obtain ⟨n, e, l, s⟩ := bl_spec hx
  obtain ⟨m, f, _, t⟩ := bl_spec hy
  unfold cap
  rw [e, f, Int.toNat_natCast, Int.toNat_natCast]
  by_cases g : n ≤ m
  · have := pow_le g
    omega
  · rcases s.2 with z | z
    · omega
    · have := pow_le (by omega : m ≤ n - 1)
      have := t.1
      omega
theorem and_is (al ah bl bh : Int) : interval_maker_1.f al ah bl bh = some (0, min ah bh) := by
  unfold interval_maker_1.f
  rw [mn_is]
theorem umax {a b : Int} (h1 : U a) (h2 : U b) : U (max a b) := by unfold U at *; omega
theorem or_is {al ah bl bh : Int} (h2 : U ah) (h4 : U bh) : interval_maker_2.f al ah bl bh = some (max al bl, cap (max ah bh)) := by
  unfold interval_maker_2.f
  rw [mx_is, mx_is, upto_is (umax h2 h4)]
  rfl
theorem xor_is {al ah bl bh : Int} (h2 : U ah) (h4 : U bh) : interval_maker_3.f al ah bl bh = some (0, cap (max ah bh)) := by
  unfold interval_maker_3.f
  rw [mx_is, upto_is (umax h2 h4)]
  rfl
def yesS (a b : Prop) [Decidable a] [Decidable b] : Int × Int := if a then (1, 1) else if b then (0, 0) else (0, 1)
theorem yes_is (a b : Prop) [Decidable a] [Decidable b] : interval_yes.f (decide a) (decide b) = some (yesS a b) := by
  unfold interval_yes.f yesS interval_One.f
  by_cases p : a <;> by_cases q : b <;> simp [p, q]
theorem yes_bool (a b : Bool) : interval_yes.f a b = some (yesS (a = true) (b = true)) := by
  have := yes_is (a = true) (b = true)
  rwa [Bool.decide_eq_true, Bool.decide_eq_true] at this
theorem lt_is (al ah bl bh : Int) : interval_maker_4.f al ah bl bh = some (yesS (ah < bl) (al ≥ bh)) := by
  unfold interval_maker_4.f
  rw [yes_is]
  rfl
theorem le_is (al ah bl bh : Int) : interval_maker_5.f al ah bl bh = some (yesS (ah ≤ bl) (al > bh)) := by
  unfold interval_maker_5.f
  rw [yes_is]
  rfl
theorem meet_is {k : Nat} (hk : 4 ≤ k) (al ah bl bh : Int) : interval_Meet.f k al ah bl bh = some (if al ≤ ah ∧ bl ≤ bh ∧ max al bl ≤ min ah bh then (max al bl, min ah bh, true) else (0, 0, false)) := by
  unfold interval_Meet.f
  rw [may3 hk, mx_is, mn_is]
  simp only [Option.bind_some]
  by_cases h : al ≤ ah ∧ bl ≤ bh ∧ max al bl ≤ min ah bh
  · rw [decide_eq_true h, if_pos rfl, if_pos h]
  · rw [decide_eq_false h, if_neg (by decide), if_neg h]
theorem eq_is {k : Nat} (hk : 4 ≤ k) {al ah bl bh : Int} (ha : al ≤ ah) (hb : bl ≤ bh) : interval_eq.f k al ah bl bh = some (yesS (al = ah ∧ al = bl ∧ ah = bh) (ah < bl ∨ bh < al)) := by
  unfold interval_eq.f
  rw [meet_is hk]
  simp only [Option.bind_some, yes_bool]
  by_cases h : al ≤ ah ∧ bl ≤ bh ∧ max al bl ≤ min ah bh
  · rw [if_pos h]
    have e : ¬ (ah < bl ∨ bh < al) := by omega
    simp only [yesS, e, Bool.not_true]
    by_cases p : al = bl <;> by_cases q : ah = bh <;> by_cases r : al = ah <;> simp [p, q, r]
    all_goals first | omega | (split <;> rfl)
  · rw [if_neg h]
    have e : ah < bl ∨ bh < al := by omega
    simp only [yesS, e, Bool.not_false]
    by_cases p : al = bl <;> by_cases q : ah = bh <;> by_cases r : al = ah <;> simp [p, q, r]
    all_goals first | omega | (split <;> rfl)
theorem ne_is {k : Nat} (hk : 4 ≤ k) {al ah bl bh : Int} (ha : al ≤ ah) (hb : bl ≤ bh) : interval_ne.f k al ah bl bh = some (yesS (ah < bl ∨ bh < al) (al = ah ∧ al = bl ∧ ah = bh)) := by
  unfold interval_ne.f
  rw [meet_is hk]
  simp only [Option.bind_some, yes_bool]
  by_cases h : al ≤ ah ∧ bl ≤ bh ∧ max al bl ≤ min ah bh
  · rw [if_pos h]
    have e : ¬ (ah < bl ∨ bh < al) := by omega
    simp only [yesS, e, Bool.not_true]
    by_cases p : al = bl <;> by_cases q : ah = bh <;> by_cases r : al = ah <;> simp [p, q, r]
    all_goals first | omega | (split <;> rfl)
  · rw [if_neg h]
    have e : ah < bl ∨ bh < al := by omega
    simp only [yesS, e, Bool.not_false]
    by_cases p : al = bl <;> by_cases q : ah = bh <;> by_cases r : al = ah <;> simp [p, q, r]
    all_goals first | omega | (split <;> rfl)
def sg (x : Int) : Int := if x < 2147483648 then x else x - 4294967296
def sgl (al ah : Int) : Int := if ah < 2147483648 ∨ al ≥ 2147483648 then sg al else -2147483648
def sgh (al ah : Int) : Int := if ah < 2147483648 ∨ al ≥ 2147483648 then sg ah else 2147483647
theorem word_signed_is {x : Int} (h : U x) : word_Signed.f x = some (sg x) := by
  unfold U at h
  unfold word_Signed.f wrap64 wrap32 sg
  congr 1
  split <;> omega
theorem signed_is {k : Nat} (hk : 1 ≤ k) {al ah : Int} (h1 : U al) (h2 : U ah) : interval_signed.f k al ah = some (sgl al ah, sgh al ah) := by
  obtain ⟨m, rfl⟩ : ∃ m, k = m + 1 := ⟨k - 1, by omega⟩
  unfold interval_signed.f sgl sgh
  by_cases p : ah < 2147483648
  · rw [if_pos p, if_pos (.inl p), if_pos (.inl p), interval_signed.j0, if_pos rfl, word_signed_is h1, word_signed_is h2]
    rfl
  · rw [if_neg p]
    by_cases q : al ≥ 2147483648
    · rw [decide_eq_true q, if_pos (.inr q), if_pos (.inr q), interval_signed.j0, if_pos rfl, word_signed_is h1, word_signed_is h2]
      rfl
    · rw [decide_eq_false q, if_neg (by omega), if_neg (by omega), interval_signed.j0, if_neg (by decide)]
theorem lts_is {k : Nat} (hk : 1 ≤ k) {al ah bl bh : Int} (h1 : U al) (h2 : U ah) (h3 : U bl) (h4 : U bh) : interval_maker_6.f k al ah bl bh = some (yesS (sgh al ah < sgl bl bh) (sgl al ah ≥ sgh bl bh)) := by
  unfold interval_maker_6.f
  rw [signed_is hk h1 h2, signed_is hk h3 h4]
  simp only [Option.bind_some, yes_is]
theorem les_is {k : Nat} (hk : 1 ≤ k) {al ah bl bh : Int} (h1 : U al) (h2 : U ah) (h3 : U bl) (h4 : U bh) : interval_maker_7.f k al ah bl bh = some (yesS (sgh al ah ≤ sgl bl bh) (sgl al ah > sgh bl bh)) := by
  unfold interval_maker_7.f
  rw [signed_is hk h1 h2, signed_is hk h3 h4]
  simp only [Option.bind_some, yes_is]
def sr (x y : Int) : Int := x / 2 ^ min y.toNat 32
theorem shr_is {al ah bl bh : Int} (h3 : U bl) (h4 : U bh) : interval_shr.f al ah bl bh = some (sr al bh, sr ah bl) := by
  unfold interval_shr.f
  rw [if_pos h4.1, if_pos h3.1]
  rfl
theorem sar_is {al ah bl bh : Int} (h3 : U bl) (h4 : U bh) : interval_sar.f al ah bl bh = some (if ah ≥ 2147483648 then (0, 4294967295) else (sr al bh, sr ah bl)) := by
  unfold interval_sar.f
  rw [shr_is h3 h4]
  simp only [Option.bind_some, interval_All.f]
  split <;> rfl
theorem shl_is {al ah bl bh : Int} (h1 : U al) (h2 : U ah) (h3 : U bl) (h4 : U bh) (ha : al ≤ ah) : interval_shl.f al ah bl bh = some (if bl ≥ 32 then (0, 0) else if bl = bh ∧ ah * 2 ^ bl.toNat < 4294967296 then (al * 2 ^ bl.toNat, ah * 2 ^ bl.toNat) else (0, 4294967295)) := by
  unfold interval_shl.f
  by_cases g : bl ≥ 32
  · rw [if_pos g, if_pos g]; rfl
  · rw [if_neg g, if_neg g]
    by_cases e : bl = bh
    · rw [if_pos e, if_pos h3.1, ofu h2]
      have p := pow_32 (n := bl.toNat) (by omega)
      have e64 : shl .u64 ah bl = ah * 2 ^ bl.toNat := by
        unfold shl
        have q : min bl.toNat IntKind.u64.bits = bl.toNat := Nat.min_eq_left (by show bl.toNat ≤ 64; omega)
        rw [q, IntKind.wrap_u64]
        have z := mul_lt h2 (b := 2 ^ bl.toNat - 1) ⟨by omega, by omega⟩
        have z2 : ah * 2 ^ bl.toNat = ah * (2 ^ bl.toNat - 1) + ah := by rw [Int.mul_sub, Int.mul_one]; omega
        have h2' := h2
        unfold U at h2'
        generalize (2 : Int) ^ bl.toNat = w at *
        have z3 : ah * (w - 1) ≤ 4294967295 * (w - 1) := Int.mul_le_mul_of_nonneg_right h2'.2 (by omega)
        rw [Int.emod_eq_of_lt (by omega) (by omega)]
      rw [e64]
      by_cases c : ah * 2 ^ bl.toNat < 4294967296
      · rw [if_neg (by omega), if_pos ⟨e, c⟩]
        have f : ∀ x, 0 ≤ x → x ≤ ah → shl .u32 x bl = x * 2 ^ bl.toNat := by
          intro x x0 x1
          unfold shl
          have q : min bl.toNat IntKind.u32.bits = bl.toNat := Nat.min_eq_left (by show bl.toNat ≤ 32; omega)
          rw [q, IntKind.wrap_u32]
          have y1 := Int.mul_le_mul_of_nonneg_right x1 (by omega : (0 : Int) ≤ 2 ^ bl.toNat)
          have y2 := Int.mul_nonneg x0 (by omega : (0 : Int) ≤ 2 ^ bl.toNat)
          rw [Int.emod_eq_of_lt y2 (by omega)]
        rw [f al h1.1 ha, f ah h2.1 (Int.le_refl _)]
      · rw [if_pos (by omega), if_neg (by intro h; exact c h.2)]
        rfl
    · rw [if_neg e, if_neg (by intro h; exact e h.1)]
      rfl
structure V (lo hi : Int) : Prop where
  l : 0 ≤ lo
  o : lo ≤ hi
  h : hi ≤ 4294967295
theorem V.ul {a b : Int} (v : V a b) : U a := ⟨v.l, Int.le_trans v.o v.h⟩
theorem V.uh {a b : Int} (v : V a b) : U b := ⟨Int.le_trans v.l v.o, v.h⟩
def sureS (r : Int × Int) : Int × Int × Bool := (r.1, r.2, true)
def divS (al ah bl bh : Int) : Int × Int × Bool := if bh = 0 then (0, 0, false) else (al / bh, ah / max 1 bl, true)
def remS (al ah bl bh : Int) : Int × Int × Bool := if bh = 0 then (0, 0, false) else if ah < max 1 bl then (al, ah, true) else (0, min ah (bh - 1), true)
def plainS (g : Int → Int → Int → Int → Int × Int × Bool) (al ah bl bh : Int) : Int × Int × Bool := if bh = 0 then (0, 0, false) else if ah ≥ 2147483648 then (0, 4294967295, true) else if bh ≥ 2147483648 then (0, 4294967295, true) else g al ah bl bh
def addS (al ah bl bh : Int) : Int × Int := if (al + bl) / 4294967296 = (ah + bh) / 4294967296 then ((al + bl) % 4294967296, (ah + bh) % 4294967296) else (0, 4294967295)
def subS (al ah bl bh : Int) : Int × Int := if (decide (al < bh)) = (decide (ah < bl)) then ((al - bh) % 4294967296, (ah - bl) % 4294967296) else (0, 4294967295)
def mulS (al ah bl bh : Int) : Int × Int := if ah * bh < 4294967296 then ((al * bl) % 4294967296, (ah * bh) % 4294967296) else (0, 4294967295)
def shlS (al ah bl bh : Int) : Int × Int := if bl ≥ 32 then (0, 0) else if bl = bh ∧ ah * 2 ^ bl.toNat < 4294967296 then (al * 2 ^ bl.toNat, ah * 2 ^ bl.toNat) else (0, 4294967295)
def sarS (al ah bl bh : Int) : Int × Int := if ah ≥ 2147483648 then (0, 4294967295) else (sr al bh, sr ah bl)
def doS (op al ah bl bh : Int) : Int × Int × Bool :=
  if op = 1 then sureS (addS al ah bl bh) else if op = 2 then sureS (subS al ah bl bh) else if op = 3 then sureS (mulS al ah bl bh) else if op = 4 then divS al ah bl bh else if op = 5 then remS al ah bl bh
  else if op = 6 then plainS divS al ah bl bh else if op = 7 then plainS remS al ah bl bh else if op = 8 then (0, min ah bh, true) else if op = 9 then (max al bl, cap (max ah bh), true) else if op = 10 then (0, cap (max ah bh), true)
  else if op = 11 then sureS (shlS al ah bl bh) else if op = 12 then (sr al bh, sr ah bl, true) else if op = 13 then sureS (sarS al ah bl bh) else if op = 14 then sureS (yesS (al = ah ∧ al = bl ∧ ah = bh) (ah < bl ∨ bh < al)) else if op = 15 then sureS (yesS (ah < bl ∨ bh < al) (al = ah ∧ al = bl ∧ ah = bh))
  else if op = 16 then sureS (yesS (ah < bl) (al ≥ bh)) else if op = 17 then sureS (yesS (ah ≤ bl) (al > bh)) else if op = 18 then sureS (yesS (sgh al ah < sgl bl bh) (sgl al ah ≥ sgh bl bh)) else sureS (yesS (sgh al ah ≤ sgl bl bh) (sgl al ah > sgh bl bh))
theorem sureF_of {g : Int → Int → Int → Int → Option (Int × Int)} {al ah bl bh : Int} {r : Int × Int} (h : g al ah bl bh = some r) : sureF g al ah bl bh = some (sureS r) := by
  unfold sureF
  rw [h]
  rfl
theorem plainF_of {g : Int → Int → Int → Int → Option (Int × Int × Bool)} {s : Int → Int → Int → Int → Int × Int × Bool} {al ah bl bh : Int} (h : g al ah bl bh = some (s al ah bl bh)) : plainF g al ah bl bh = some (plainS s al ah bl bh) := by
  unfold plainF plainS
  rw [h]
  repeat' split
  all_goals first | rfl | omega
theorem make_is {k : Nat} (hk : 4 ≤ k) {op al ah bl bh : Int} (h1 : 1 ≤ op) (h2 : op ≤ 19) (va : V al ah) (vb : V bl bh) : makeF k op al ah bl bh = some (doS op al ah bl bh) := by
  have e : op = 1 ∨ op = 2 ∨ op = 3 ∨ op = 4 ∨ op = 5 ∨ op = 6 ∨ op = 7 ∨ op = 8 ∨ op = 9 ∨ op = 10 ∨ op = 11 ∨ op = 12 ∨ op = 13 ∨ op = 14 ∨ op = 15 ∨ op = 16 ∨ op = 17 ∨ op = 18 ∨ op = 19 := by omega
  have a1 := va.ul
  have a2 := va.uh
  have b1 := vb.ul
  have b2 := vb.uh
  rcases e with rfl | rfl | rfl | rfl | rfl | rfl | rfl | rfl | rfl | rfl | rfl | rfl | rfl | rfl | rfl | rfl | rfl | rfl | rfl
  · exact sureF_of (add_is a1 a2 b1 b2)
  · exact sureF_of (sub_is a1 a2 b1 b2)
  · exact sureF_of (mul_is a1 a2 b1 b2)
  · exact div_is a1 a2 b1 b2 vb.o
  · exact rem_is a1 a2 b1 b2 vb.o
  · exact plainF_of (div_is a1 a2 b1 b2 vb.o)
  · exact plainF_of (rem_is a1 a2 b1 b2 vb.o)
  · exact sureF_of (and_is al ah bl bh)
  · exact sureF_of (or_is a2 b2)
  · exact sureF_of (xor_is (al := al) (bl := bl) a2 b2)
  · exact sureF_of (shl_is a1 a2 b1 b2 va.o)
  · exact sureF_of (shr_is b1 b2)
  · exact sureF_of (sar_is b1 b2)
  · exact sureF_of (eq_is hk va.o vb.o)
  · exact sureF_of (ne_is hk va.o vb.o)
  · exact sureF_of (lt_is al ah bl bh)
  · exact sureF_of (le_is al ah bl bh)
  · exact sureF_of (lts_is (by omega) a1 a2 b1 b2)
  · exact sureF_of (les_is (by omega) a1 a2 b1 b2)
theorem do_is {k : Nat} (hk : 4 ≤ k) {op al ah bl bh : Int} (h1 : 1 ≤ op) (h2 : op ≤ 19) (va : V al ah) (vb : V bl bh) : interval_Do.f k op al ah bl bh = some ((doS op al ah bl bh).1, (doS op al ah bl bh).2.1, (doS op al ah bl bh).2.2, 0) := by
  unfold interval_Do.f
  rw [if_pos ⟨h1, h2⟩, may2 hk, decide_eq_true ⟨va.o, vb.o⟩, make_is hk h1 h2 va vb]
  rfl
def unS (op al ah : Int) : Int × Int := if op = 1 then (if ah = 0 then (0, 0) else if al > 0 then (4294967296 - ah, 4294967296 - al) else (0, 4294967295)) else if op = 2 then (4294967295 - ah, 4294967295 - al) else yesS (ah = 0) (al > 0)
theorem un_is {k : Nat} (hk : 4 ≤ k) {op al ah : Int} (h1 : 1 ≤ op) (h2 : op ≤ 3) (va : V al ah) : interval_Un.f k op al ah = some ((unS op al ah).1, (unS op al ah).2, 0) := by
  obtain ⟨l, o, h⟩ := va
  unfold interval_Un.f unS
  rw [may1 hk, decide_eq_true o]
  simp only [Option.bind_some, if_true, interval_One.f, interval_All.f]
  have e : op = 1 ∨ op = 2 ∨ op = 3 := by omega
  rcases e with rfl | rfl | rfl
  · rw [if_pos rfl, if_pos rfl]
    by_cases p : ah = 0
    · rw [if_pos p, if_pos p]
    · rw [if_neg p, if_neg p]
      by_cases q : al > 0
      · rw [if_pos q, if_pos q, show -ah % 4294967296 = 4294967296 - ah by omega, show -al % 4294967296 = 4294967296 - al by omega]
      · rw [if_neg q, if_neg q]
  · rw [if_neg (by decide), if_pos rfl, if_neg (by decide), if_pos rfl, bnot ⟨l, by omega⟩, bnot ⟨by omega, h⟩]
  · rw [if_neg (by decide), if_neg (by decide), if_pos rfl, if_neg (by decide), if_neg (by decide), yes_bool]
    simp only [Option.bind_some, beq_iff_eq, decide_eq_true_eq, yesS]
theorem check_is {al ah : Int} : interval_Check.f al ah = some (if al ≤ ah then 0 else 2) := by
  unfold interval_Check.f
  split <;> split <;> first | rfl | omega
theorem pick_is (n : Int) {m : Int} (h0 : 1 ≤ m) (h1 : m ≤ 1000) : ∃ r, lamplighterkit_Pick.f n m = some r ∧ 0 ≤ r ∧ r < m := by
  unfold lamplighterkit_Pick.f
  rw [if_neg (by omega), if_neg (by omega)]
  have a1 := Int.tmod_lt_of_pos n (by omega : 0 < m)
  have a2 : -m < Int.tmod n m := by
    have := Int.tmod_lt_of_pos (-n) (by omega : 0 < m)
    rw [Int.neg_tmod] at this
    omega
  split
  · exact ⟨_, rfl, by unfold wrap64; omega, by unfold wrap64; omega⟩
  · exact ⟨_, rfl, by omega, a1⟩
theorem V.un {op al ah : Int} (v : V al ah) : V (unS op al ah).1 (unS op al ah).2 := by
  obtain ⟨l, o, h⟩ := v
  unfold unS yesS
  repeat' split
  all_goals exact ⟨by simp; try omega, by simp; try omega, by simp; try omega⟩
theorem lives_is {k : Nat} (hk : 40 ≤ k) : lamplighterlaw19_lives.f k = some true := by
  obtain ⟨d, rfl⟩ : ∃ d, k = 40 + d := ⟨k - 40, by omega⟩
  induction d with
  | zero => kernel_rfl
  | succ d ih => exact lamplighterlaw19_lives.mono _ _ (ih (by omega))
theorem join_is {k : Nat} (hk : 4 ≤ k) {al ah bl bh : Int} (va : V al ah) (vb : V bl bh) : interval_Join.f k al ah bl bh = some (min al bl, max ah bh) := by
  unfold interval_Join.f
  rw [may2 hk, decide_eq_true ⟨va.o, vb.o⟩, mn_is, mx_is]
  rfl
theorem within_is {k : Nat} (hk : 4 ≤ k) {al ah bl bh : Int} (va : V al ah) (vb : V bl bh) : interval_Within.f k al ah bl bh = some (decide (bl ≤ al ∧ ah ≤ bh)) := by
  unfold interval_Within.f
  rw [may2 hk, decide_eq_true ⟨va.o, vb.o⟩]
  simp only [Option.bind_some, if_true]
  by_cases p : bl ≤ al <;> simp [p]
def wd (op p q : Int) : Int :=
  if op = 1 then (p + q) % 4294967296 else if op = 2 then (p - q) % 4294967296 else if op = 3 then (p * q) % 4294967296 else if op = 4 then p / q else if op = 5 then p % q
  else if op = 6 then (wrap64 (Int.tdiv (sg p) (sg q))) % 4294967296 else if op = 7 then (Int.tmod (sg p) (sg q)) % 4294967296 else if op = 8 then Go.bits .and .u32 p q else if op = 9 then Go.bits .or .u32 p q else if op = 10 then Go.bits .xor .u32 p q
  else if op = 11 then (if q > 31 then 0 else shl .u32 p q) else if op = 12 then (if q > 31 then 0 else shr .u32 p q) else if op = 13 then (sg p / 2 ^ (min q 32).toNat) % 4294967296
  else if op = 14 then (if p = q then 1 else 0) else if op = 15 then (if p = q then 0 else 1) else if op = 16 then (if p < q then 1 else 0) else if op = 17 then (if p ≤ q then 1 else 0) else if op = 18 then (if sg p < sg q then 1 else 0) else (if sg p ≤ sg q then 1 else 0)
def In (x : Int) (r : Int × Int × Bool) : Prop := r.1 ≤ x ∧ x ≤ r.2.1 ∧ r.2.2 = true
theorem ediv_mono {a b c d : Int} (h0 : 0 ≤ a) (h : a ≤ b) (hd : 0 < d) (hc : d ≤ c) : a / c ≤ b / d := by
  rw [Int.le_ediv_iff_mul_le hd]
  have h1 : a / c * d ≤ a / c * c := Int.mul_le_mul_of_nonneg_left hc (Int.ediv_nonneg h0 (by omega))
  have h2 : a / c * c ≤ a := Int.ediv_mul_le a (by omega)
  omega
theorem s_sub {al ah bl bh p q : Int} (va : V al ah) (vb : V bl bh) (p0 : al ≤ p) (p1 : p ≤ ah) (q0 : bl ≤ q) (q1 : q ≤ bh) : In (wd 2 p q) (doS 2 al ah bl bh) := by
  obtain ⟨a1, a2, a3⟩ := va
  obtain ⟨b1, b2, b3⟩ := vb
  show In ((p - q) % 4294967296) (sureS (subS al ah bl bh))
  unfold subS
  split
  · rename_i e
    have e2 : al < bh ↔ ah < bl := by
      constructor
      · intro h; rw [decide_eq_true h] at e; exact of_decide_eq_true e.symm
      · intro h; rw [decide_eq_true h] at e; exact of_decide_eq_true e
    exact ⟨by simp only [sureS]; omega, by simp only [sureS]; omega, rfl⟩
  · exact ⟨by simp only [sureS]; omega, by simp only [sureS]; omega, rfl⟩
theorem s_mul {al ah bl bh p q : Int} (va : V al ah) (vb : V bl bh) (p0 : al ≤ p) (p1 : p ≤ ah) (q0 : bl ≤ q) (q1 : q ≤ bh) : In (wd 3 p q) (doS 3 al ah bl bh) := by
  obtain ⟨a1, a2, a3⟩ := va
  obtain ⟨b1, b2, b3⟩ := vb
  show In ((p * q) % 4294967296) (sureS (mulS al ah bl bh))
  unfold mulS
  have h1 : p * q ≤ ah * bh := Int.mul_le_mul p1 q1 (by omega) (by omega)
  have h2 : al * bl ≤ p * q := Int.mul_le_mul p0 q0 b1 (by omega)
  have h3 : 0 ≤ al * bl := Int.mul_nonneg a1 b1
  split
  · refine ⟨?_, ?_, rfl⟩ <;> simp only [sureS]
    · rw [Int.emod_eq_of_lt h3 (by omega), Int.emod_eq_of_lt (by omega) (by omega)]; exact h2
    · rw [Int.emod_eq_of_lt (by omega) (by omega), Int.emod_eq_of_lt (by omega) (by omega)]; exact h1
  · exact ⟨by simp only [sureS]; omega, by simp only [sureS]; omega, rfl⟩
theorem modU (x : Int) : U (x % 4294967296) := ⟨by omega, by omega⟩
theorem s_shl {al ah bl bh p q : Int} (va : V al ah) (vb : V bl bh) (p0 : al ≤ p) (p1 : p ≤ ah) (q0 : bl ≤ q) (q1 : q ≤ bh) : In (wd 11 p q) (doS 11 al ah bl bh) := by
  obtain ⟨a1, a2, a3⟩ := va
  obtain ⟨b1, b2, b3⟩ := vb
  show In (if q > 31 then 0 else shl .u32 p q) (sureS (shlS al ah bl bh))
  have hU : U (if q > 31 then 0 else shl .u32 p q) := by
    split
    · exact ⟨by omega, by omega⟩
    · unfold shl; rw [IntKind.wrap_u32]; exact modU _
  unfold shlS
  by_cases g : bl ≥ 32
  · rw [if_pos g, if_pos (by omega)]
    exact ⟨Int.le_refl _, Int.le_refl _, rfl⟩
  · rw [if_neg g]
    by_cases h : bl = bh ∧ ah * 2 ^ bl.toNat < 4294967296
    · rw [if_pos h]
      obtain ⟨e, h⟩ := h
      obtain rfl : q = bl := by omega
      rw [if_neg (by omega)]
      have w := pow_32 (n := q.toNat) (by omega)
      have y1 := Int.mul_le_mul_of_nonneg_right p1 (by omega : (0 : Int) ≤ 2 ^ q.toNat)
      have y0 := Int.mul_le_mul_of_nonneg_right p0 (by omega : (0 : Int) ≤ 2 ^ q.toNat)
      have y2 := Int.mul_nonneg a1 (by omega : (0 : Int) ≤ 2 ^ q.toNat)
      have f : shl .u32 p q = p * 2 ^ q.toNat := by
        unfold shl
        have z : min q.toNat IntKind.u32.bits = q.toNat := Nat.min_eq_left (by show q.toNat ≤ 32; omega)
        rw [z, IntKind.wrap_u32, Int.emod_eq_of_lt (by omega) (by omega)]
      rw [f]
      exact ⟨y0, y1, rfl⟩
    · rw [if_neg h]
      exact ⟨hU.1, hU.2, rfl⟩
theorem in_shr {al ah bl bh p q : Int} (va : V al ah) (vb : V bl bh) (p0 : al ≤ p) (p1 : p ≤ ah) (q0 : bl ≤ q) (q1 : q ≤ bh) : sr al bh ≤ sr p q ∧ sr p q ≤ sr ah bl := by
  obtain ⟨a1, a2, a3⟩ := va
  obtain ⟨b1, b2, b3⟩ := vb
  have k1 : min q.toNat 32 ≤ min bh.toNat 32 := by omega
  have k2 : min bl.toNat 32 ≤ min q.toNat 32 := by omega
  have w1 := pow_le (Nat.zero_le (min q.toNat 32))
  have w2 := pow_le (Nat.zero_le (min bl.toNat 32))
  exact ⟨ediv_mono a1 p0 (by omega) (pow_le k1), ediv_mono (by omega) p1 (by omega) (pow_le k2)⟩
theorem in_sg {al ah p : Int} (va : V al ah) (p0 : al ≤ p) (p1 : p ≤ ah) : sgl al ah ≤ sg p ∧ sg p ≤ sgh al ah := by
  obtain ⟨a1, a2, a3⟩ := va
  unfold sgl sgh sg
  repeat' split
  all_goals omega
theorem V.yes (a b : Prop) [Decidable a] [Decidable b] : V (yesS a b).1 (yesS a b).2 := by
  unfold yesS
  repeat' split
  all_goals exact ⟨by decide, by decide, by decide⟩
theorem V.all : V 0 4294967295 := ⟨by decide, by decide, by decide⟩
theorem V.none : V 0 0 := ⟨by decide, by decide, by decide⟩
theorem V.div {al ah bl bh : Int} (va : V al ah) (vb : V bl bh) : V (divS al ah bl bh).1 (divS al ah bl bh).2.1 := by
  obtain ⟨a1, a2, a3⟩ := va
  obtain ⟨b1, b2, b3⟩ := vb
  unfold divS
  by_cases h : bh = 0
  · rw [if_pos h]; exact V.none
  · rw [if_neg h]
    exact ⟨Int.ediv_nonneg a1 (by omega), ediv_mono a1 a2 (by omega) (by omega), Int.le_trans (Int.ediv_le_self _ (by omega)) a3⟩
theorem V.rem {al ah bl bh : Int} (va : V al ah) (vb : V bl bh) : V (remS al ah bl bh).1 (remS al ah bl bh).2.1 := by
  obtain ⟨a1, a2, a3⟩ := va
  obtain ⟨b1, b2, b3⟩ := vb
  unfold remS
  by_cases h : bh = 0
  · rw [if_pos h]; exact V.none
  · rw [if_neg h]
    split
    · exact ⟨a1, a2, a3⟩
    · exact ⟨Int.le_refl _, by simp only; omega, by simp only; omega⟩
theorem V.plain {g : Int → Int → Int → Int → Int × Int × Bool} {al ah bl bh : Int} (h : V (g al ah bl bh).1 (g al ah bl bh).2.1) : V (plainS g al ah bl bh).1 (plainS g al ah bl bh).2.1 := by
  unfold plainS
  repeat' split
  · exact V.none
  · exact V.all
  · exact V.all
  · exact h
theorem sr_le {x y : Int} (h : U x) : U (sr x y) := by
  have w := pow_le (Nat.zero_le (min y.toNat 32))
  exact div_le h (by omega)
theorem V.ado {op al ah bl bh : Int} (h1 : 1 ≤ op) (h2 : op ≤ 19) (va : V al ah) (vb : V bl bh) : V (doS op al ah bl bh).1 (doS op al ah bl bh).2.1 := by
  have e : op = 1 ∨ op = 2 ∨ op = 3 ∨ op = 4 ∨ op = 5 ∨ op = 6 ∨ op = 7 ∨ op = 8 ∨ op = 9 ∨ op = 10 ∨ op = 11 ∨ op = 12 ∨ op = 13 ∨ op = 14 ∨ op = 15 ∨ op = 16 ∨ op = 17 ∨ op = 18 ∨ op = 19 := by omega
  have sh := in_shr va vb (Int.le_refl al) va.o vb.o (Int.le_refl bh)
  obtain ⟨a1, a2, a3⟩ := id va
  obtain ⟨b1, b2, b3⟩ := id vb
  have um : U (max ah bh) := ⟨by omega, by omega⟩
  have cg := cap_ge um
  rcases e with rfl | rfl | rfl | rfl | rfl | rfl | rfl | rfl | rfl | rfl | rfl | rfl | rfl | rfl | rfl | rfl | rfl | rfl | rfl
  · show V (addS al ah bl bh).1 (addS al ah bl bh).2
    unfold addS
    split
    · exact ⟨by simp only; omega, by simp only; omega, by simp only; omega⟩
    · exact V.all
  · have z := s_sub va vb (Int.le_refl al) va.o vb.o (Int.le_refl bh)
    show V (subS al ah bl bh).1 (subS al ah bl bh).2
    refine ⟨?_, Int.le_trans z.1 z.2.1, ?_⟩ <;> unfold subS <;> split <;> simp only <;> omega
  · have z := s_mul va vb (Int.le_refl al) va.o (Int.le_refl bl) vb.o
    show V (mulS al ah bl bh).1 (mulS al ah bl bh).2
    refine ⟨?_, Int.le_trans z.1 z.2.1, ?_⟩
    · unfold mulS
      split
      · exact (modU _).1
      · decide
    · unfold mulS
      split
      · exact (modU _).2
      · decide
  · exact V.div va vb
  · exact V.rem va vb
  · exact V.plain (V.div va vb)
  · exact V.plain (V.rem va vb)
  · exact ⟨Int.le_refl _, by show 0 ≤ min ah bh; omega, by show min ah bh ≤ 4294967295; omega⟩
  · exact ⟨by show 0 ≤ max al bl; omega, by show max al bl ≤ cap (max ah bh); omega, cg.2.1⟩
  · exact ⟨Int.le_refl _, cg.2.2, cg.2.1⟩
  · have z := s_shl va vb (Int.le_refl al) va.o (Int.le_refl bl) vb.o
    show V (shlS al ah bl bh).1 (shlS al ah bl bh).2
    refine ⟨?_, Int.le_trans z.1 z.2.1, ?_⟩
    · unfold shlS
      by_cases g : bl ≥ 32
      · rw [if_pos g]; decide
      · rw [if_neg g]
        have w := pow_32 (n := bl.toNat) (by omega)
        split
        · exact Int.mul_nonneg a1 (by omega)
        · decide
    · unfold shlS
      by_cases g : bl ≥ 32
      · rw [if_pos g]; decide
      · rw [if_neg g]
        split
        · rename_i h; have := h.2; show ah * 2 ^ bl.toNat ≤ 4294967295; omega
        · decide
  · exact ⟨(sr_le va.ul).1, Int.le_trans sh.1 sh.2, (sr_le va.uh).2⟩
  · show V (sarS al ah bl bh).1 (sarS al ah bl bh).2
    unfold sarS
    split
    · exact V.all
    · exact ⟨(sr_le va.ul).1, Int.le_trans sh.1 sh.2, (sr_le va.uh).2⟩
  · exact V.yes _ _
  · exact V.yes _ _
  · exact V.yes _ _
  · exact V.yes _ _
  · exact V.yes _ _
  · exact V.yes _ _
def Le (r s : Int × Int × Bool) : Prop := s.2.2 = true ∧ s.1 ≤ r.1 ∧ r.2.1 ≤ s.2.1
theorem le_all {r : Int × Int × Bool} (v : V r.1 r.2.1) : Le r (0, 4294967295, true) := ⟨rfl, v.l, v.h⟩
theorem g_yes {a b a' b' : Prop} [Decidable a] [Decidable b] [Decidable a'] [Decidable b'] (h1 : a' → a) (h2 : b' → b) (h3 : ¬ (a ∧ b)) : Le (sureS (yesS a b)) (sureS (yesS a' b')) := by
  unfold yesS
  by_cases p : a' <;> by_cases q : b' <;> by_cases r : a <;> by_cases s : b <;> simp [p, q, r, s, Le, sureS] <;> first | omega | (exfalso; first | exact r (h1 p) | exact s (h2 q) | exact h3 ⟨r, s⟩)
section
variable {al ah bl bh cl ch dl dh : Int}
theorem g_add (va : V al ah) (vb : V bl bh) (vc : V cl ch) (vd : V dl dh) (a0 : cl ≤ al) (a1 : ah ≤ ch) (b0 : dl ≤ bl) (b1 : bh ≤ dh) : Le (doS 1 al ah bl bh) (doS 1 cl ch dl dh) := by
  have w := V.ado (op := 1) (by decide) (by decide) va vb
  show Le (doS 1 al ah bl bh) (sureS (addS cl ch dl dh))
  unfold addS
  split
  · rename_i e
    have a2 := va.o; have b2 := vb.o; have c := vc.l; have d := vd.l
    show Le (sureS (addS al ah bl bh)) _
    unfold addS
    rw [if_pos (by omega)]
    exact ⟨rfl, by simp only [sureS]; omega, by simp only [sureS]; omega⟩
  · exact le_all w
theorem g_sub (va : V al ah) (vb : V bl bh) (vc : V cl ch) (vd : V dl dh) (a0 : cl ≤ al) (a1 : ah ≤ ch) (b0 : dl ≤ bl) (b1 : bh ≤ dh) : Le (doS 2 al ah bl bh) (doS 2 cl ch dl dh) := by
  have w := V.ado (op := 2) (by decide) (by decide) va vb
  show Le (doS 2 al ah bl bh) (sureS (subS cl ch dl dh))
  unfold subS
  split
  · rename_i e
    have e2 : cl < dh ↔ ch < dl := by
      constructor
      · intro h; rw [decide_eq_true h] at e; exact of_decide_eq_true e.symm
      · intro h; rw [decide_eq_true h] at e; exact of_decide_eq_true e
    have a2 := va.o; have b2 := vb.o; have a3 := va.l; have a4 := va.h; have b3 := vb.l; have b4 := vb.h; have c := vc.l; have d := vd.l; have c2 := vc.h; have d2 := vd.h
    show Le (sureS (subS al ah bl bh)) _
    unfold subS
    rw [if_pos (by rw [decide_eq_decide]; omega)]
    exact ⟨rfl, by simp only [sureS]; omega, by simp only [sureS]; omega⟩
  · exact le_all w
theorem g_mul (va : V al ah) (vb : V bl bh) (vc : V cl ch) (vd : V dl dh) (a0 : cl ≤ al) (a1 : ah ≤ ch) (b0 : dl ≤ bl) (b1 : bh ≤ dh) : Le (doS 3 al ah bl bh) (doS 3 cl ch dl dh) := by
  have w := V.ado (op := 3) (by decide) (by decide) va vb
  show Le (doS 3 al ah bl bh) (sureS (mulS cl ch dl dh))
  unfold mulS
  split
  · rename_i e
    have a2 := va.o; have b2 := vb.o; have a3 := va.l; have b3 := vb.l; have c := vc.l; have d := vd.l
    have h1 : ah * bh ≤ ch * dh := Int.mul_le_mul a1 b1 (by omega) (by omega)
    have h2 : cl * dl ≤ al * bl := Int.mul_le_mul a0 b0 d (by omega)
    have h3 : 0 ≤ cl * dl := Int.mul_nonneg c d
    have h4 : al * bl ≤ ah * bh := Int.mul_le_mul a2 b2 b3 (by omega)
    show Le (sureS (mulS al ah bl bh)) _
    unfold mulS
    rw [if_pos (by omega)]
    refine ⟨rfl, ?_, ?_⟩ <;> simp only [sureS]
    · rw [Int.emod_eq_of_lt h3 (by omega), Int.emod_eq_of_lt (by omega) (by omega)]; exact h2
    · rw [Int.emod_eq_of_lt (by omega) (by omega), Int.emod_eq_of_lt (by omega) (by omega)]; exact h1
  · exact le_all w
theorem g_div (va : V al ah) (vb : V bl bh) (vc : V cl ch) (vd : V dl dh) (a0 : cl ≤ al) (a1 : ah ≤ ch) (b0 : dl ≤ bl) (b1 : bh ≤ dh) (hok : (divS al ah bl bh).2.2 = true) : Le (divS al ah bl bh) (divS cl ch dl dh) := by
  have b3 := vb.l; have b2 := vb.o; have c := vc.l; have a3 := va.l; have a2 := va.o
  by_cases h : bh = 0
  · unfold divS at hok; rw [if_pos h] at hok; cases hok
  · unfold divS
    rw [if_neg h, if_neg (by omega)]
    exact ⟨rfl, ediv_mono c a0 (by omega) b1, ediv_mono (by omega) a1 (by omega) (by omega)⟩
theorem g_rem (va : V al ah) (vb : V bl bh) (vc : V cl ch) (vd : V dl dh) (a0 : cl ≤ al) (a1 : ah ≤ ch) (b0 : dl ≤ bl) (b1 : bh ≤ dh) (hok : (remS al ah bl bh).2.2 = true) : Le (remS al ah bl bh) (remS cl ch dl dh) := by
  have b3 := vb.l; have b2 := vb.o; have c := vc.l; have a3 := va.l; have a2 := va.o
  by_cases h : bh = 0
  · unfold remS at hok; rw [if_pos h] at hok; cases hok
  · have e1 : remS al ah bl bh = if ah < max 1 bl then (al, ah, true) else (0, min ah (bh - 1), true) := by
      unfold remS
      rw [if_neg h]
    have e2 : remS cl ch dl dh = if ch < max 1 dl then (cl, ch, true) else (0, min ch (dh - 1), true) := by
      unfold remS
      rw [if_neg (by omega)]
    rw [e1, e2]
    by_cases p : ch < max 1 dl
    · rw [if_pos p, if_pos (by omega)]
      exact ⟨rfl, a0, a1⟩
    · rw [if_neg p]
      by_cases q : ah < max 1 bl
      · rw [if_pos q]
        exact ⟨rfl, a3, by simp only; omega⟩
      · rw [if_neg q]
        exact ⟨rfl, Int.le_refl _, by simp only; omega⟩
theorem g_plain {g : Int → Int → Int → Int → Int × Int × Bool} (w : V (plainS g al ah bl bh).1 (plainS g al ah bl bh).2.1) (vb : V bl bh) (a1 : ah ≤ ch) (b1 : bh ≤ dh) (hok : (plainS g al ah bl bh).2.2 = true) (h : (g al ah bl bh).2.2 = true → Le (g al ah bl bh) (g cl ch dl dh)) : Le (plainS g al ah bl bh) (plainS g cl ch dl dh) := by
  have b3 := vb.l; have b2 := vb.o
  by_cases z : bh = 0
  · unfold plainS at hok; rw [if_pos z] at hok; cases hok
  · have e : plainS g cl ch dl dh = if ch ≥ 2147483648 then (0, 4294967295, true) else if dh ≥ 2147483648 then (0, 4294967295, true) else g cl ch dl dh := by
      unfold plainS
      rw [if_neg (by omega)]
    rw [e]
    by_cases p : ch ≥ 2147483648
    · rw [if_pos p]; exact le_all w
    · rw [if_neg p]
      by_cases q : dh ≥ 2147483648
      · rw [if_pos q]; exact le_all w
      · rw [if_neg q]
        have e2 : plainS g al ah bl bh = g al ah bl bh := by
          unfold plainS
          rw [if_neg z, if_neg (by omega), if_neg (by omega)]
        rw [e2] at hok ⊢
        exact h hok
theorem g_shl (va : V al ah) (vb : V bl bh) (vc : V cl ch) (vd : V dl dh) (a0 : cl ≤ al) (a1 : ah ≤ ch) (b0 : dl ≤ bl) (b1 : bh ≤ dh) : Le (doS 11 al ah bl bh) (doS 11 cl ch dl dh) := by
  have w := V.ado (op := 11) (by decide) (by decide) va vb
  have b2 := vb.o; have d := vd.l; have c := vc.l
  show Le (doS 11 al ah bl bh) (sureS (shlS cl ch dl dh))
  unfold shlS
  by_cases g : dl ≥ 32
  · rw [if_pos g]
    show Le (sureS (shlS al ah bl bh)) _
    unfold shlS
    rw [if_pos (by omega)]
    exact ⟨rfl, Int.le_refl _, Int.le_refl _⟩
  · rw [if_neg g]
    by_cases h : dl = dh ∧ ch * 2 ^ dl.toNat < 4294967296
    · rw [if_pos h]
      obtain ⟨e, h⟩ := h
      have e1 : bl = dl := by omega
      have e2 : bh = dl := by omega
      subst e1
      have w2 := pow_32 (n := bl.toNat) (by omega)
      have y1 := Int.mul_le_mul_of_nonneg_right a1 (by omega : (0 : Int) ≤ 2 ^ bl.toNat)
      have y0 := Int.mul_le_mul_of_nonneg_right a0 (by omega : (0 : Int) ≤ 2 ^ bl.toNat)
      show Le (sureS (shlS al ah bl bh)) _
      unfold shlS
      rw [if_neg g, if_pos ⟨by omega, by omega⟩]
      exact ⟨rfl, y0, y1⟩
    · rw [if_neg h]
      exact le_all w
theorem g_shr (va : V al ah) (vb : V bl bh) (vc : V cl ch) (vd : V dl dh) (a0 : cl ≤ al) (a1 : ah ≤ ch) (b0 : dl ≤ bl) (b1 : bh ≤ dh) : sr cl dh ≤ sr al bh ∧ sr ah bl ≤ sr ch dl := by
  have c := vc.l; have a3 := va.l; have a2 := va.o
  have k1 : min bh.toNat 32 ≤ min dh.toNat 32 := by omega
  have k2 : min dl.toNat 32 ≤ min bl.toNat 32 := by omega
  have w1 := pow_le (Nat.zero_le (min bh.toNat 32))
  have w2 := pow_le (Nat.zero_le (min dl.toNat 32))
  exact ⟨ediv_mono c a0 (by omega) (pow_le k1), ediv_mono (by omega) a1 (by omega) (pow_le k2)⟩
theorem g_sar (va : V al ah) (vb : V bl bh) (vc : V cl ch) (vd : V dl dh) (a0 : cl ≤ al) (a1 : ah ≤ ch) (b0 : dl ≤ bl) (b1 : bh ≤ dh) : Le (doS 13 al ah bl bh) (doS 13 cl ch dl dh) := by
  have w := V.ado (op := 13) (by decide) (by decide) va vb
  have z := g_shr va vb vc vd a0 a1 b0 b1
  show Le (doS 13 al ah bl bh) (sureS (sarS cl ch dl dh))
  unfold sarS
  by_cases h : ch ≥ 2147483648
  · rw [if_pos h]; exact le_all w
  · rw [if_neg h]
    show Le (sureS (sarS al ah bl bh)) _
    unfold sarS
    rw [if_neg (by omega)]
    exact ⟨rfl, z.1, z.2⟩
theorem g_sg (va : V al ah) (vc : V cl ch) (a0 : cl ≤ al) (a1 : ah ≤ ch) : sgl cl ch ≤ sgl al ah ∧ sgh al ah ≤ sgh cl ch ∧ sgl al ah ≤ sgh al ah := by
  have x1 := in_sg vc (p := al) a0 (by have := va.o; omega)
  have x2 := in_sg vc (p := ah) (by have := va.o; omega) a1
  obtain ⟨v1, v2, v3⟩ := va
  obtain ⟨v4, v5, v6⟩ := vc
  unfold sgl sgh sg
  refine ⟨?_, ?_, ?_⟩ <;> repeat' split
  all_goals omega
theorem grows {op : Int} (h1 : 1 ≤ op) (h2 : op ≤ 19) (va : V al ah) (vb : V bl bh) (vc : V cl ch) (vd : V dl dh) (a0 : cl ≤ al) (a1 : ah ≤ ch) (b0 : dl ≤ bl) (b1 : bh ≤ dh) (hok : (doS op al ah bl bh).2.2 = true) : Le (doS op al ah bl bh) (doS op cl ch dl dh) := by
  have e : op = 1 ∨ op = 2 ∨ op = 3 ∨ op = 4 ∨ op = 5 ∨ op = 6 ∨ op = 7 ∨ op = 8 ∨ op = 9 ∨ op = 10 ∨ op = 11 ∨ op = 12 ∨ op = 13 ∨ op = 14 ∨ op = 15 ∨ op = 16 ∨ op = 17 ∨ op = 18 ∨ op = 19 := by omega
  have w := V.ado h1 h2 va vb
  have ga := g_sg va vc a0 a1
  have gb := g_sg vb vd b0 b1
  have a2 := va.o; have b2 := vb.o; have c := vc.l; have d := vd.l; have a3 := va.l; have a4 := va.h; have b3 := vb.l; have b4 := vb.h; have c5 := vc.h; have d5 := vd.h; have c6 := vc.o; have d6 := vd.o
  have cm := cap_mono (x := max ah bh) (y := max ch dh) ⟨by omega, by omega⟩ ⟨by omega, by omega⟩ (by omega)
  rcases e with rfl | rfl | rfl | rfl | rfl | rfl | rfl | rfl | rfl | rfl | rfl | rfl | rfl | rfl | rfl | rfl | rfl | rfl | rfl
  · exact g_add va vb vc vd a0 a1 b0 b1
  · exact g_sub va vb vc vd a0 a1 b0 b1
  · exact g_mul va vb vc vd a0 a1 b0 b1
  · exact g_div va vb vc vd a0 a1 b0 b1 hok
  · exact g_rem va vb vc vd a0 a1 b0 b1 hok
  · exact g_plain w vb a1 b1 hok (g_div va vb vc vd a0 a1 b0 b1)
  · exact g_plain w vb a1 b1 hok (g_rem va vb vc vd a0 a1 b0 b1)
  · exact ⟨rfl, Int.le_refl _, by show min ah bh ≤ min ch dh; omega⟩
  · exact ⟨rfl, by show max cl dl ≤ max al bl; omega, cm⟩
  · exact ⟨rfl, Int.le_refl _, cm⟩
  · exact g_shl va vb vc vd a0 a1 b0 b1
  · exact ⟨rfl, (g_shr va vb vc vd a0 a1 b0 b1).1, (g_shr va vb vc vd a0 a1 b0 b1).2⟩
  · exact g_sar va vb vc vd a0 a1 b0 b1
  · exact g_yes (by omega) (by omega) (by omega)
  · exact g_yes (by omega) (by omega) (by omega)
  · exact g_yes (by omega) (by omega) (by omega)
  · exact g_yes (by omega) (by omega) (by omega)
  · exact g_yes (by omega) (by omega) (by omega)
  · exact g_yes (by omega) (by omega) (by omega)
theorem un_grows {u : Int} (h1 : 1 ≤ u) (h2 : u ≤ 3) (va : V al ah) (vc : V cl ch) (a0 : cl ≤ al) (a1 : ah ≤ ch) : (unS u cl ch).1 ≤ (unS u al ah).1 ∧ (unS u al ah).2 ≤ (unS u cl ch).2 := by
  obtain ⟨v1, v2, v3⟩ := va
  obtain ⟨v4, v5, v6⟩ := vc
  have e : u = 1 ∨ u = 2 ∨ u = 3 := by omega
  unfold unS yesS
  rcases e with rfl | rfl | rfl <;> simp only [Int.reduceEq, if_false, if_true]
  · refine ⟨?_, ?_⟩ <;> repeat' split
    all_goals (simp only; omega)
  · omega
  · refine ⟨?_, ?_⟩ <;> repeat' split
    all_goals (simp only; omega)
end
def nlo (x : Int) : Int := if x ≤ 0 then 0 else if x ≤ 1 then 1 else if x ≤ 255 then 2 else if x ≤ 256 then 3 else if x ≤ 65535 then 4 else if x ≤ 65536 then 5 else if x ≤ 2147483647 then 6 else if x ≤ 2147483648 then 7 else 8
def nhi (x : Int) : Int := if x ≥ 4294967295 then 0 else if x ≥ 2147483648 then 1 else if x ≥ 2147483647 then 2 else if x ≥ 65536 then 3 else if x ≥ 65535 then 4 else if x ≥ 256 then 5 else if x ≥ 255 then 6 else if x ≥ 1 then 7 else if x ≥ 0 then 8 else 9
set_option maxHeartbeats 4000000 in
theorem nlo_mono {x y : Int} (h : x ≤ y) : nlo x ≤ nlo y := by
  unfold nlo
  repeat' split
  all_goals omega
set_option maxHeartbeats 4000000 in
theorem nhi_mono {x y : Int} (h : x ≤ y) : nhi y ≤ nhi x := by
  unfold nhi
  repeat' split
  all_goals omega
theorem nlo_dn {d lo : Int} (hd : 0 ≤ d) (h : d < lo) (hl : lo ≤ 4294967295) : nlo (dn d) < nlo lo := by
  have a : nlo (dn d) + 1 ≤ nlo (dn d + 1) := by
    unfold dn
    rw [if_neg (by omega : ¬ 4294967295 ≤ d)]
    repeat' split
    all_goals decide
  have b : dn d ≤ d := by
    unfold dn
    repeat' split
    all_goals omega
  have := nlo_mono (x := dn d + 1) (y := lo) (by omega)
  omega
theorem nhi_up {e hi : Int} (h0 : 0 ≤ hi) (h : hi < e) (he : e ≤ 4294967295) : nhi (up e) < nhi hi := by
  have a : nhi (up e) + 1 ≤ nhi (up e - 1) := by
    unfold up
    repeat' split
    · omega
    all_goals decide
  have b : e ≤ up e := by
    unfold up
    repeat' split
    all_goals omega
  have := nhi_mono (x := hi) (y := up e - 1) (by omega)
  omega
set_option maxHeartbeats 4000000 in
theorem nsum {lo hi : Int} (v : V lo hi) : nlo lo + nhi hi ≤ 9 := by
  obtain ⟨a, b, c⟩ := v
  have := nhi_mono b
  have z : nlo lo + nhi lo ≤ 9 := by
    unfold nlo nhi
    repeat' split
    all_goals omega
  omega
theorem n0 (x : Int) : 0 ≤ nlo x ∧ 0 ≤ nhi x := by
  unfold nlo nhi
  constructor <;> repeat' split
  all_goals omega
section
variable {l : List S24}
theorem gl0 (hl : l.length ≤ 60) (hw : ∀ x ∈ l, (Lit.int .u32 x.f0).wf = true ∧ (Lit.int .u32 x.f1).wf = true) :
    ∀ (d : Nat) (i c lo hi : Int) (k : Nat), 0 ≤ i → (l.length : Int) - i = d → V lo hi → 0 ≤ c → c + nlo lo + nhi hi ≤ 9 → 60 + 2 * d ≤ k → lamplighterlaw19_IntervalGrows.l0 k l c i lo hi = some true := by
  intro d
  induction d with
  | zero =>
    intro i c lo hi k h0 hd v hc hs hk
    obtain ⟨m, rfl⟩ : ∃ m, k = m + 1 := ⟨k - 1, by omega⟩
    have := n0 lo
    have := n0 hi
    rw [lamplighterlaw19_IntervalGrows.l0, if_neg (by omega), decide_eq_true (by omega)]
  | succ d ih =>
    intro i c lo hi k h0 hd v hc hs hk
    obtain ⟨m, rfl⟩ : ∃ m, k = m + 1 := ⟨k - 1, by omega⟩
    have hi2 : i < (l.length : Int) := by omega
    have wi : wrap64 (i + 1) = i + 1 := by unfold wrap64; omega
    have hx : rd_T24 l i ∈ l := by
      unfold rd_T24
      rw [List.getD_eq_getElem?_getD, List.getElem?_eq_getElem (by omega)]
      exact List.getElem_mem _
    obtain ⟨w1, w2⟩ := hw _ hx
    have u1 := u_of w1
    have u2 := u_of w2
    obtain ⟨s, es⟩ : ∃ s, rd_T24 l i = s := ⟨_, rfl⟩
    rw [lamplighterlaw19_IntervalGrows.l0, if_pos hi2, if_pos h0]
    rw [es] at u1 u2 ⊢
    rw [check_is]
    simp only [Option.bind_some]
    by_cases g : s.f0 ≤ s.f1
    · rw [if_pos g, if_pos rfl, widen_is (by omega) _ _ _ _ u1 u2 ⟨v.o, g⟩]
      simp only [Option.bind_some]
      have vs : V s.f0 s.f1 := ⟨u1.1, g, u2.2⟩
      obtain ⟨b1, b2, b3⟩ := id v
      have dl := dn_le u1
      have lu := le_up u2
      have s1 := u1.1
      have s2 := u2.2
      obtain ⟨lo', e1⟩ : ∃ x, (if s.f0 < lo then dn s.f0 else lo) = x := ⟨_, rfl⟩
      obtain ⟨hi', e2⟩ : ∃ x, (if s.f1 > hi then up s.f1 else hi) = x := ⟨_, rfl⟩
      have f1 : lo' ≤ lo ∧ lo' ≤ s.f0 ∧ 0 ≤ lo' ∧ (lo' = lo ∨ nlo lo' < nlo lo) := by
        rw [← e1]
        by_cases q : s.f0 < lo
        · rw [if_pos q]
          exact ⟨by omega, by omega, by omega, .inr (nlo_dn u1.1 q (by omega))⟩
        · rw [if_neg q]
          exact ⟨by omega, by omega, by omega, .inl rfl⟩
      have f2 : hi ≤ hi' ∧ s.f1 ≤ hi' ∧ hi' ≤ 4294967295 ∧ (hi' = hi ∨ nhi hi' < nhi hi) := by
        rw [← e2]
        by_cases q : s.f1 > hi
        · rw [if_pos q]
          exact ⟨by omega, by omega, by omega, .inr (nhi_up (by omega) q u2.2)⟩
        · rw [if_neg q]
          exact ⟨by omega, by omega, by omega, .inl rfl⟩
      rw [e1, e2]
      have v' : V lo' hi' := ⟨by omega, by omega, by omega⟩
      have tail : ∀ c', 0 ≤ c' → c' ≤ 9 → c' + nlo lo' + nhi hi' ≤ 9 → lamplighterlaw19_IntervalGrows.j3 m l c' i lo hi lo' hi' = some true := by
        intro c' c0 c9 cs
        obtain ⟨n, rfl⟩ : ∃ n, m = n + 1 := ⟨m - 1, by omega⟩
        rw [lamplighterlaw19_IntervalGrows.j3, if_pos h0, if_pos hi2, es, within_is (by omega) vs v', within_is (by omega) v v', decide_eq_true ⟨f1.2.1, f2.2.1⟩, decide_eq_true ⟨f1.1, f2.1⟩]
        simp only [Option.bind_some, if_true]
        rw [wi]
        exact ih (i + 1) c' lo' hi' n (by omega) (by omega) v' c0 cs (by omega)
      have m1 := n0 lo'
      have m2 := n0 hi'
      have m3 := n0 lo
      have m4 := n0 hi
      by_cases q1 : lo' = lo
      · by_cases q2 : hi' = hi
        · subst q1 q2
          simp only [beq_self_eq_true, Bool.not_true, Bool.or_self, Bool.false_eq_true, if_false]
          exact tail c hc (by omega) (by omega)
        · have z : (!(lo' == lo) || !(hi' == hi)) = true := by simp [q2]
          rw [if_pos z, show wrap64 (c + 1) = c + 1 by unfold wrap64; omega]
          rcases f2.2.2.2 with q | q
          · exact absurd q q2
          · subst q1
            exact tail (c + 1) (by omega) (by omega) (by omega)
      · have z : (!(lo' == lo) || !(hi' == hi)) = true := by simp [q1]
        rw [if_pos z, show wrap64 (c + 1) = c + 1 by unfold wrap64; omega]
        have r1 : nlo lo' < nlo lo := by
          rcases f1.2.2.2 with q | q
          · exact absurd q q1
          · exact q
        have r2 : nhi hi' ≤ nhi hi := by
          rcases f2.2.2.2 with q | q
          · rw [q]; exact Int.le_refl _
          · omega
        exact tail (c + 1) (by omega) (by omega) (by omega)
    · rw [if_neg g]
      simp only [Int.reduceEq, if_false]
      rw [wi]
      exact ih (i + 1) c lo hi m (by omega) (by omega) v hc hs (by omega)
end
theorem IntervalGrows : ∀ (a0_0 : Int) (a0_1 : Int) (a1_0 : Int) (a1_1 : Int) (a2_0 : Int) (a2_1 : Int) (a3_0 : Int) (a3_1 : Int) (a4 : Int) (l5 : List S24), (Lit.int .u32 a0_0).wf = true → (Lit.int .u32 a0_1).wf = true → (Lit.int .u32 a1_0).wf = true → (Lit.int .u32 a1_1).wf = true → (Lit.int .u32 a2_0).wf = true → (Lit.int .u32 a2_1).wf = true → (Lit.int .u32 a3_0).wf = true → (Lit.int .u32 a3_1).wf = true → (Lit.int .i64 a4).wf = true → (∀ x ∈ l5, (Lit.int .u32 x.f0).wf = true ∧ (Lit.int .u32 x.f1).wf = true) → ∃ k, lamplighterlaw19_IntervalGrows.f k a0_0 a0_1 a1_0 a1_1 a2_0 a2_1 a3_0 a3_1 a4 l5 = some true := by
  intro al ah bl bh cl ch dl dh op l h1 h2 h3 h4 h5 h6 h7 h8 _ hw
  refine ⟨300, ?_⟩
  have u1 := u_of h1
  have u2 := u_of h2
  have u3 := u_of h3
  have u4 := u_of h4
  have u5 := u_of h5
  have u6 := u_of h6
  have u7 := u_of h7
  have u8 := u_of h8
  unfold lamplighterlaw19_IntervalGrows.f
  rw [lives_is (by decide), check_is, check_is, check_is, check_is]
  simp only [Option.bind_some, if_true]
  have skip : lamplighterlaw19_IntervalGrows.j0 300 op l true al ah bl bh cl ch dl dh = some true := by
    rw [show (300 : Nat) = 299 + 1 from rfl, lamplighterlaw19_IntervalGrows.j0, if_pos rfl]
  by_cases ca : al ≤ ah
  · rw [if_pos ca, if_pos rfl]
    by_cases cb : bl ≤ bh
    · rw [if_pos cb, if_pos rfl]
      by_cases cc : cl ≤ ch
      · rw [if_pos cc, if_pos rfl]
        by_cases cd : dl ≤ dh
        · rw [if_pos cd, if_pos rfl]
          by_cases cl60 : (l.length : Int) > 60
          · rw [decide_eq_true cl60]
            exact skip
          · rw [decide_eq_false cl60]
            have va : V al ah := ⟨u1.1, ca, u2.2⟩
            have vb : V bl bh := ⟨u3.1, cb, u4.2⟩
            have vc : V cl ch := ⟨u5.1, cc, u6.2⟩
            have vd : V dl dh := ⟨u7.1, cd, u8.2⟩
            unfold U at u1 u2 u3 u4 u5 u6 u7 u8
            have vj : V (min al cl) (max ah ch) := ⟨by omega, by omega, by omega⟩
            have vk : V (min bl dl) (max bh dh) := ⟨by omega, by omega, by omega⟩
            obtain ⟨t, ht, t0, t1⟩ := pick_is op (m := 19) (by decide) (by decide)
            have wt : wrap64 (1 + t) = 1 + t := by unfold wrap64; omega
            rw [show (300 : Nat) = 299 + 1 from rfl, lamplighterlaw19_IntervalGrows.j0, if_neg (by decide), ht]
            simp only [Option.bind_some]
            rw [wt, do_is (by decide) (by omega) (by omega) va vb, join_is (by decide) va vc, join_is (by decide) vb vd]
            simp only [Option.bind_some]
            rw [do_is (by decide) (by omega) (by omega) vj vk]
            simp only [Option.bind_some]
            have j1 : lamplighterlaw19_IntervalGrows.j1 299 (1 + t) l false al ah cl ch = some true := by
              obtain ⟨u, hu, p0, p1⟩ := pick_is (1 + t) (m := 3) (by decide) (by decide)
              have wu : wrap64 (1 + u) = 1 + u := by unfold wrap64; omega
              rw [show (299 : Nat) = 298 + 1 from rfl, lamplighterlaw19_IntervalGrows.j1, if_neg (by decide), hu]
              simp only [Option.bind_some]
              rw [wu, un_is (by decide) (by omega) (by omega) va, join_is (by decide) va vc]
              simp only [Option.bind_some]
              rw [un_is (by decide) (by omega) (by omega) vj]
              simp only [Option.bind_some]
              rw [within_is (by decide) (V.un va) (V.un vj), decide_eq_true (un_grows (by omega) (by omega) va vj (by omega) (by omega))]
              simp only [Option.bind_some, if_true]
              have := nsum va
              exact gl0 (by omega) hw l.length 0 0 al ah 298 (by decide) (by omega) va (by decide) (by omega) (by omega)
            by_cases hok : (doS (1 + t) al ah bl bh).2.2 = true
            · have gr := grows (by omega) (by omega) va vb vj vk (by omega) (by omega) (by omega) (by omega) hok
              rw [if_pos hok, if_pos gr.1, within_is (by decide) (V.ado (by omega) (by omega) va vb) (V.ado (by omega) (by omega) vj vk), decide_eq_true ⟨gr.2.1, gr.2.2⟩]
              simp only [Option.bind_some, Bool.not_true]
              exact j1
            · rw [if_neg hok]
              exact j1
        · rw [if_neg cd, if_neg (by decide)]
          exact skip
      · rw [if_neg cc, if_neg (by decide)]
        exact skip
    · rw [if_neg cb, if_neg (by decide)]
      exact skip
  · rw [if_neg ca, if_neg (by decide)]
    exact skip
end Go.Proofs.Ytmhmfnjbioplhaa.Pure
