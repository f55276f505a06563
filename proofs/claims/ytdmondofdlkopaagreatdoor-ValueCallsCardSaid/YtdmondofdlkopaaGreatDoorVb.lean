/- Values of 32 bits: ranges and known bits, and how the one is fitted to the other. Conditions: those each theorem names. -/
import Derived.Laws.BitsAllLaws
import Derived.Laws.Entries
namespace Go.Vb
/-! ### Words as bit vectors -/
abbrev B := BitVec 32
theorem wrapN (x : B) : IntKind.u32.wrap (x.toNat : Int) = x.toNat := by
  rw [IntKind.wrap_u32']
  have := x.isLt
  omega
theorem ofI (x : B) : BitVec.ofInt 32 (x.toNat : Int) = x := by
  apply BitVec.eq_of_toNat_eq
  rw [BitVec.toNat_ofInt]
  have := x.isLt
  omega
theorem b_and (x y : B) : Go.bits .and .u32 (x.toNat : Int) (y.toNat : Int) = ((x &&& y).toNat : Int) := by
  show IntKind.u32.wrap ((BitVec.ofInt 32 (x.toNat : Int) &&& BitVec.ofInt 32 (y.toNat : Int)).toNat) = _
  rw [ofI, ofI, wrapN]
theorem b_or (x y : B) : Go.bits .or .u32 (x.toNat : Int) (y.toNat : Int) = ((x ||| y).toNat : Int) := by
  show IntKind.u32.wrap ((BitVec.ofInt 32 (x.toNat : Int) ||| BitVec.ofInt 32 (y.toNat : Int)).toNat) = _
  rw [ofI, ofI, wrapN]
theorem b_xor (x y : B) : Go.bits .xor .u32 (x.toNat : Int) (y.toNat : Int) = ((x ^^^ y).toNat : Int) := by
  show IntKind.u32.wrap ((BitVec.ofInt 32 (x.toNat : Int) ^^^ BitVec.ofInt 32 (y.toNat : Int)).toNat) = _
  rw [ofI, ofI, wrapN]
theorem b_andNot (x y : B) : Go.bits .andNot .u32 (x.toNat : Int) (y.toNat : Int) = ((x &&& ~~~y).toNat : Int) := by
  show IntKind.u32.wrap ((BitVec.ofInt 32 (x.toNat : Int) &&& ~~~BitVec.ofInt 32 (y.toNat : Int)).toNat) = _
  rw [ofI, ofI, wrapN]
theorem b_not (x : B) : Go.bits .xor .u32 IntKind.u32.max (x.toNat : Int) = ((~~~x).toNat : Int) := by
  show IntKind.u32.wrap ((BitVec.ofInt 32 IntKind.u32.max ^^^ BitVec.ofInt 32 (x.toNat : Int)).toNat) = _
  rw [ofI, wrapN, show BitVec.ofInt 32 IntKind.u32.max = BitVec.allOnes 32 by decide, BitVec.allOnes_xor]
theorem b_of {x : Int} (h : 0 ≤ x ∧ x ≤ 4294967295) : ∃ X : B, x = (X.toNat : Int) :=
  ⟨BitVec.ofNat 32 x.toNat, by rw [BitVec.toNat_ofNat]; omega⟩
theorem b_inj {x y : B} : ((x.toNat : Int) = (y.toNat : Int)) ↔ x = y := by
  rw [Int.ofNat_inj]
  exact ⟨BitVec.eq_of_toNat_eq, congrArg _⟩
theorem b_zero {x : B} : ((x.toNat : Int) = 0) ↔ x = 0#32 := by
  rw [show (0 : Int) = ((0#32 : B).toNat : Int) from rfl]
  exact b_inj
/-- The bits from the n-th on. -/
def P (n : Nat) : B := ~~~(BitVec.ofNat 32 (2 ^ n - 1))
theorem P_bit {n i : Nat} : (P n).getLsbD i = (decide (n ≤ i) && decide (i < 32)) := by
  unfold P
  rw [BitVec.getLsbD_not, BitVec.getLsbD_ofNat, Nat.testBit_two_pow_sub_one]
  by_cases h1 : n ≤ i <;> by_cases h2 : i < 32 <;> simp [h1, h2] <;> omega
theorem bitx {x y : B} (h : ∀ i, x.getLsbD i = y.getLsbD i) : x = y := BitVec.eq_of_getLsbD_eq fun i _ => h i
/-- Two words agree from the n-th bit on. -/
theorem agree_iff {x y : B} {n : Nat} : x.toNat / 2 ^ n = y.toNat / 2 ^ n ↔ ∀ i, n ≤ i → x.getLsbD i = y.getLsbD i := by
  constructor
  · intro h i hi
    have := congrArg (fun z => z.testBit (i - n)) h
    simp only [Nat.testBit_div_two_pow] at this
    rw [show i - n + n = i by omega] at this
    exact this
  · intro h
    apply Nat.eq_of_testBit_eq
    intro i
    rw [Nat.testBit_div_two_pow, Nat.testBit_div_two_pow]
    exact h (i + n) (by omega)
theorem len_iff {x y : B} {n : Nat} : (x ^^^ y).toNat < 2 ^ n ↔ x.toNat / 2 ^ n = y.toNat / 2 ^ n := by
  rw [agree_iff]
  constructor
  · intro h i hi
    have z := Nat.testBit_lt_two_pow (Nat.lt_of_lt_of_le h (Nat.pow_le_pow_right (by decide) hi))
    have z2 : (x ^^^ y).getLsbD i = false := z
    rw [BitVec.getLsbD_xor] at z2
    revert z2
    cases x.getLsbD i <;> cases y.getLsbD i <;> simp
  · intro h
    apply Nat.lt_pow_two_of_testBit
    intro i hi
    show (x ^^^ y).getLsbD i = false
    rw [BitVec.getLsbD_xor, h i hi]
    simp
theorem between {x y z : B} {n : Nat} (h : x.toNat / 2 ^ n = y.toNat / 2 ^ n) (h1 : x.toNat ≤ z.toNat) (h2 : z.toNat ≤ y.toNat) : ∀ i, n ≤ i → z.getLsbD i = x.getLsbD i := by
  rw [← agree_iff]
  have a := Nat.div_le_div_right (c := 2 ^ n) h1
  have b := Nat.div_le_div_right (c := 2 ^ n) h2
  omega
/-- A subset is not greater. -/
theorem sub_le {x y : B} (h : ∀ i, x.getLsbD i = true → y.getLsbD i = true) : x.toNat ≤ y.toNat := by
  have e : x = x &&& y := bitx fun i => by
    rw [BitVec.getLsbD_and]
    have := h i
    revert this
    cases x.getLsbD i <;> cases y.getLsbD i <;> simp
  rw [e, BitVec.toNat_and]
  exact Nat.and_le_right

/-! ### Values -/
structure S where
  lo : B
  hi : B
  K : B
  O : B
deriving DecidableEq
namespace S
/-- Ones are known. -/
def Ok (s : S) : Prop := ∀ i, s.O.getLsbD i = true → s.K.getLsbD i = true
def W (a b : S) : Prop := b.lo.toNat ≤ a.lo.toNat ∧ a.hi.toNat ≤ b.hi.toNat ∧ ∀ i, b.K.getLsbD i = true → a.K.getLsbD i = true ∧ a.O.getLsbD i = b.O.getLsbD i
/-- Each part fits the other. -/
structure Fx (s : S) : Prop where
  ok : s.Ok
  le : s.lo.toNat ≤ s.hi.toNat
  l : s.O.toNat ≤ s.lo.toNat
  h : s.hi.toNat ≤ (s.O ||| ~~~s.K).toNat
  p : ∀ n, s.lo.toNat / 2 ^ n = s.hi.toNat / 2 ^ n → ∀ i, n ≤ i → i < 32 → s.K.getLsbD i = true ∧ s.O.getLsbD i = s.lo.getLsbD i
end S
theorem lt32 {x : B} {i : Nat} (h : x.getLsbD i = true) : i < 32 := by
  by_cases c : i < 32
  · exact c
  · rw [BitVec.getLsbD_of_ge _ _ (by omega)] at h
    cases h
theorem W_refl {a : S} : a.W a := ⟨Nat.le_refl _, Nat.le_refl _, fun _ h => ⟨h, rfl⟩⟩
theorem W_trans {a b c : S} (h : a.W b) (g : b.W c) : a.W c :=
  ⟨Nat.le_trans g.1 h.1, Nat.le_trans h.2.1 g.2.1, fun i k => ⟨(h.2.2 i (g.2.2 i k).1).1, (h.2.2 i (g.2.2 i k).1).2.trans (g.2.2 i k).2⟩⟩
theorem W_anti {a b : S} (ha : a.Ok) (hb : b.Ok) (h : a.W b) (g : b.W a) : a = b := by
  obtain ⟨al, ah, aK, aO⟩ := a
  obtain ⟨bl, bh, bK, bO⟩ := b
  have e1 : al = bl := BitVec.eq_of_toNat_eq (Nat.le_antisymm g.1 h.1)
  have e2 : ah = bh := BitVec.eq_of_toNat_eq (Nat.le_antisymm h.2.1 g.2.1)
  have e3 : aK = bK := bitx fun i => by
    have p := h.2.2 i
    have q := g.2.2 i
    simp only at p q
    cases c : bK.getLsbD i <;> cases d : aK.getLsbD i <;> simp_all
  have e4 : aO = bO := bitx fun i => by
    have p := h.2.2 i
    have q := ha i
    have r := hb i
    simp only at p q r
    cases c : bK.getLsbD i
    · rw [e3] at q
      rw [c] at q r
      cases d : aO.getLsbD i <;> cases e : bO.getLsbD i <;> simp_all
    · exact (p c).2
  rw [e1, e2, e3, e4]
/-! ### Fitting -/
def bmax (x y : B) : B := if x.toNat < y.toNat then y else x
def bmin (x y : B) : B := if y.toNat < x.toNat then y else x
theorem bmax_le {x y : B} : x.toNat ≤ (bmax x y).toNat ∧ y.toNat ≤ (bmax x y).toNat := by
  unfold bmax
  split <;> omega
theorem bmax_lub {x y : B} {n : Nat} (h1 : x.toNat ≤ n) (h2 : y.toNat ≤ n) : (bmax x y).toNat ≤ n := by
  unfold bmax
  split <;> omega
theorem bmin_le {x y : B} : (bmin x y).toNat ≤ x.toNat ∧ (bmin x y).toNat ≤ y.toNat := by
  unfold bmin
  split <;> omega
theorem bmin_glb {x y : B} {n : Nat} (h1 : n ≤ x.toNat) (h2 : n ≤ y.toNat) : n ≤ (bmin x y).toNat := by
  unfold bmin
  split <;> omega
theorem bmax_eq {x y : B} (h : y.toNat ≤ x.toNat) : bmax x y = x := by
  unfold bmax
  rw [if_neg (by omega)]
theorem bmin_eq {x y : B} (h : x.toNat ≤ y.toNat) : bmin x y = x := by
  unfold bmin
  rw [if_neg (by omega)]
/-- How many bits it takes. -/
def len (x : B) : Nat := if x.toNat = 0 then 0 else x.toNat.log2 + 1
theorem len_spec {x : B} {n : Nat} : len x ≤ n ↔ x.toNat < 2 ^ n := by
  unfold len
  by_cases h : x.toNat = 0
  · rw [if_pos h, h]
    simp [Nat.two_pow_pos]
  · rw [if_neg h, Nat.succ_le_iff, Nat.log2_lt h]
theorem len_le {x : B} : len x ≤ 32 := len_spec.2 x.isLt
/-- One round of fitting. -/
def step (s : S) : Option S :=
  let lo := bmax s.lo s.O
  let hi := bmin s.hi (s.O ||| ~~~s.K)
  if hi.toNat < lo.toNat then none
  else
    let m := P (len (lo ^^^ hi))
    if (s.O ^^^ (lo &&& m)) &&& s.K &&& m = 0 then some ⟨lo, hi, s.K ||| m, s.O ||| (lo &&& m)⟩ else none
theorem meet0 {O L K m : B} : ((O ^^^ (L &&& m)) &&& K &&& m = 0) ↔ ∀ i, K.getLsbD i = true → m.getLsbD i = true → O.getLsbD i = L.getLsbD i := by
  constructor
  · intro h i hk hm
    have z := congrArg (fun x : B => x.getLsbD i) h
    simp only [BitVec.getLsbD_and, BitVec.getLsbD_xor, hk, hm, Bool.and_true] at z
    revert z
    cases O.getLsbD i <;> cases L.getLsbD i <;> simp
  · intro h
    refine bitx fun i => ?_
    have := h i
    simp only [BitVec.getLsbD_and, BitVec.getLsbD_xor]
    revert this
    cases O.getLsbD i <;> cases L.getLsbD i <;> cases K.getLsbD i <;> cases m.getLsbD i <;> simp
/-- What a round makes is within, and ones stay known. -/
theorem step_in {s t : S} (hs : s.Ok) (h : step s = some t) : t.W s ∧ t.Ok ∧ t.lo.toNat ≤ t.hi.toNat ∧ t.lo = bmax s.lo s.O ∧ t.hi = bmin s.hi (s.O ||| ~~~s.K) := by
  unfold step at h
  simp only at h
  by_cases c : (bmin s.hi (s.O ||| ~~~s.K)).toNat < (bmax s.lo s.O).toNat
  · rw [if_pos c] at h
    cases h
  · rw [if_neg c] at h
    split at h
    · rename_i m0
      rw [meet0] at m0
      obtain rfl := Option.some.inj h
      refine ⟨⟨bmax_le.1, bmin_le.1, fun i k => ⟨?_, ?_⟩⟩, fun i k => ?_, Nat.not_lt.1 c, rfl, rfl⟩
      · simp [k]
      · have := m0 i k
        simp only [BitVec.getLsbD_or, BitVec.getLsbD_and]
        revert this
        cases s.O.getLsbD i <;> cases (bmax s.lo s.O).getLsbD i <;> cases (P (len (bmax s.lo s.O ^^^ bmin s.hi (s.O ||| ~~~s.K)))).getLsbD i <;> simp
      · have := hs i
        simp only [BitVec.getLsbD_or, BitVec.getLsbD_and] at k ⊢
        revert this k
        cases s.O.getLsbD i <;> cases s.K.getLsbD i <;> cases (P (len (bmax s.lo s.O ^^^ bmin s.hi (s.O ||| ~~~s.K)))).getLsbD i <;> simp
    · cases h
/-- A value that fits, and is within, is within what a round makes. -/
theorem step_keeps {a s : S} (hs : s.Ok) (ha : a.Fx) (h : a.W s) : ∃ t, step s = some t ∧ a.W t := by
  obtain ⟨w1, w2, w3⟩ := h
  have o1 : s.O.toNat ≤ a.O.toNat := sub_le fun i k => by
    have := w3 i (hs i k)
    rw [this.2, k]
  have o2 : (a.O ||| ~~~a.K).toNat ≤ (s.O ||| ~~~s.K).toNat := sub_le fun i k => by
    have p := w3 i
    have q := ha.ok i
    have z := lt32 k
    simp only [BitVec.getLsbD_or, BitVec.getLsbD_not] at k ⊢
    revert p q k
    cases a.O.getLsbD i <;> cases a.K.getLsbD i <;> cases s.O.getLsbD i <;> cases s.K.getLsbD i <;> simp [z]
  have l1 : (bmax s.lo s.O).toNat ≤ a.lo.toNat := bmax_lub w1 (Nat.le_trans o1 ha.l)
  have l2 : a.hi.toNat ≤ (bmin s.hi (s.O ||| ~~~s.K)).toNat := bmin_glb w2 (Nat.le_trans ha.h o2)
  unfold step
  simp only
  obtain ⟨L, eL⟩ : ∃ L, bmax s.lo s.O = L := ⟨_, rfl⟩
  obtain ⟨H, eH⟩ : ∃ H, bmin s.hi (s.O ||| ~~~s.K) = H := ⟨_, rfl⟩
  obtain ⟨n, en⟩ : ∃ n, len (L ^^^ H) = n := ⟨_, rfl⟩
  rw [eL] at l1
  rw [eH] at l2
  rw [eL, eH, en, if_neg (by have := ha.le; omega)]
  have ag : L.toNat / 2 ^ n = H.toNat / 2 ^ n := len_iff.1 (len_spec.1 (Nat.le_of_eq en))
  have b1 := between ag l1 (Nat.le_trans ha.le l2)
  have b2 := between ag (Nat.le_trans l1 ha.le) l2
  have p := ha.p n (agree_iff.2 fun i k => (b1 i k).trans (b2 i k).symm)
  have q : ∀ i, (P n).getLsbD i = true → a.K.getLsbD i = true ∧ a.O.getLsbD i = L.getLsbD i := by
    intro i k
    rw [P_bit, Bool.and_eq_true, decide_eq_true_eq, decide_eq_true_eq] at k
    exact ⟨(p i k.1 k.2).1, (p i k.1 k.2).2.trans (b1 i k.1)⟩
  rw [if_pos (meet0.2 fun i k m => ((w3 i k).2.symm.trans (q i m).2))]
  refine ⟨_, rfl, l1, l2, fun i k => ?_⟩
  simp only [BitVec.getLsbD_or, BitVec.getLsbD_and] at k ⊢
  have q1 := q i
  have w := w3 i
  have o := hs i
  revert k q1 w o
  cases a.O.getLsbD i <;> cases a.K.getLsbD i <;> cases s.O.getLsbD i <;> cases s.K.getLsbD i <;> cases L.getLsbD i <;> cases (P n).getLsbD i <;> simp
/-- What a round leaves as it is fits, and the other way. -/
theorem step_self {s : S} (hs : s.Ok) : step s = some s ↔ s.Fx := by
  constructor
  · intro h
    obtain ⟨_, _, le, l, r⟩ := step_in hs h
    have l1 : s.O.toNat ≤ s.lo.toNat := by rw [l]; exact bmax_le.2
    have r1 : s.hi.toNat ≤ (s.O ||| ~~~s.K).toNat := by rw [r]; exact bmin_le.2
    refine ⟨hs, le, l1, r1, fun n hn i ni i32 => ?_⟩
    unfold step at h
    simp only [bmax_eq l1, bmin_eq r1] at h
    rw [if_neg (by omega)] at h
    split at h
    · rename_i m0
      rw [meet0] at m0
      have e := Option.some.inj h
      have eK : (s.K ||| P (len (s.lo ^^^ s.hi))).getLsbD i = s.K.getLsbD i := by
        conv => rhs; rw [← e]
      have pb : (P (len (s.lo ^^^ s.hi))).getLsbD i = true := by
        rw [P_bit]
        have := len_spec.2 (len_iff.2 hn)
        simp [i32]
        omega
      rw [BitVec.getLsbD_or, pb, Bool.or_true] at eK
      exact ⟨eK.symm, m0 i eK.symm pb⟩
    · cases h
  · intro h
    obtain ⟨t, e, w⟩ := step_keeps hs h W_refl
    obtain ⟨w2, o2, _⟩ := step_in hs e
    rw [e, W_anti hs o2 w w2]
/-- How many bits are known. -/
def pc (x : B) : Nat := ((List.range 32).filter fun i => x.getLsbD i).length
theorem filt_le {l : List Nat} {p q : Nat → Bool} (h : ∀ i, p i = true → q i = true) : (l.filter p).length ≤ (l.filter q).length := by
  induction l with
  | nil => exact Nat.le_refl _
  | cons a l ih =>
    have := h a
    by_cases c : p a = true
    · rw [List.filter_cons_of_pos c, List.filter_cons_of_pos (this c)]
      exact Nat.succ_le_succ ih
    · rw [List.filter_cons_of_neg c]
      by_cases d : q a = true
      · rw [List.filter_cons_of_pos d]
        exact Nat.le_succ_of_le ih
      · rw [List.filter_cons_of_neg d]
        exact ih
theorem filt_lt {l : List Nat} {p q : Nat → Bool} (h : ∀ i, p i = true → q i = true) {j : Nat} (hj : j ∈ l) (hp : p j = false) (hq : q j = true) : (l.filter p).length < (l.filter q).length := by
  induction l with
  | nil => cases hj
  | cons a l ih =>
    by_cases e : j = a
    · subst e
      rw [List.filter_cons_of_neg (by simp [hp]), List.filter_cons_of_pos hq]
      exact Nat.lt_succ_of_le (filt_le h)
    · have ih := ih (by simpa [e] using hj)
      have := h a
      by_cases c : p a = true
      · rw [List.filter_cons_of_pos c, List.filter_cons_of_pos (this c)]
        exact Nat.succ_lt_succ ih
      · rw [List.filter_cons_of_neg c]
        by_cases d : q a = true
        · rw [List.filter_cons_of_pos d]
          exact Nat.lt_succ_of_lt ih
        · rw [List.filter_cons_of_neg d]
          exact ih
theorem pc_le {x : B} : pc x ≤ 32 := Nat.le_trans (List.length_filter_le _ _) (by simp)
theorem pc_mono {x y : B} (h : ∀ i, x.getLsbD i = true → y.getLsbD i = true) : pc x ≤ pc y := filt_le h
theorem pc_lt {x y : B} (h : ∀ i, x.getLsbD i = true → y.getLsbD i = true) (hne : x ≠ y) : pc x < pc y := by
  have : ∃ i, x.getLsbD i = false ∧ y.getLsbD i = true := by
    apply Classical.byContradiction
    intro c
    apply hne
    refine bitx fun i => ?_
    have a := h i
    have b : ¬ (x.getLsbD i = false ∧ y.getLsbD i = true) := fun k => c ⟨i, k⟩
    revert a b
    cases x.getLsbD i <;> cases y.getLsbD i <;> simp
  obtain ⟨i, a, b⟩ := this
  exact filt_lt h (List.mem_range.2 (lt32 b)) a b
/-- A round that learns no bit is the last but one. -/
theorem step_last {s t : S} (hs : s.Ok) (h : step s = some t) (hK : t.K = s.K) : t.O = s.O ∧ step t = some t := by
  have ⟨w, o, le, l, r⟩ := step_in hs h
  have eO : t.O = s.O := by
    refine bitx fun i => ?_
    have a := w.2.2 i
    have b := o i
    have c := hs i
    rw [hK] at a b
    revert a b c
    cases s.K.getLsbD i <;> cases s.O.getLsbD i <;> cases t.O.getLsbD i <;> simp
  refine ⟨eO, ?_⟩
  have e1 : bmax t.lo t.O = t.lo := bmax_eq (by rw [l, eO]; exact bmax_le.2)
  have e2 : bmin t.hi (t.O ||| ~~~t.K) = t.hi := bmin_eq (by rw [r, eO, hK]; exact bmin_le.2)
  unfold step at h ⊢
  simp only [e1, e2, ← l, ← r] at h ⊢
  rw [hK, eO]
  by_cases c : t.hi.toNat < t.lo.toNat
  · omega
  · rw [if_neg c] at h ⊢
    split at h
    · rename_i m0
      rw [if_pos m0]
      have e := Option.some.inj h
      rw [e]
    · cases h
def fitN : Nat → S → Option S
  | 0, _ => none
  | n + 1, s => match step s with
    | none => none
    | some t => if t = s then some s else fitN n t
theorem sub_O {t s : S} (h : t.W s) (hs : s.Ok) : s.O.toNat ≤ t.O.toNat := sub_le fun i k => by
  rw [(h.2.2 i (hs i k)).2, k]
theorem sub_H {t s : S} (h : t.W s) (ht : t.Ok) : (t.O ||| ~~~t.K).toNat ≤ (s.O ||| ~~~s.K).toNat := sub_le fun i k => by
  have p := h.2.2 i
  have q := ht i
  have z := lt32 k
  simp only [BitVec.getLsbD_or, BitVec.getLsbD_not] at k ⊢
  revert p q k
  cases t.O.getLsbD i <;> cases t.K.getLsbD i <;> cases s.O.getLsbD i <;> cases s.K.getLsbD i <;> simp [z]
theorem bmax_up {x y z : B} (h : y.toNat ≤ z.toNat) : bmax (bmax x y) z = bmax x z := by
  apply BitVec.eq_of_toNat_eq
  unfold bmax
  repeat' split
  all_goals omega
theorem bmin_dn {x y z : B} (h : z.toNat ≤ y.toNat) : bmin (bmin x y) z = bmin x z := by
  apply BitVec.eq_of_toNat_eq
  unfold bmin
  repeat' split
  all_goals omega
/-- What fitting finds: the greatest value within that fits. -/
def Found (s : S) : Option S → Prop
  | none => ∀ a : S, a.Fx → ¬ a.W s
  | some t => t.Fx ∧ t.W s ∧ (∀ a : S, a.Fx → a.W s → a.W t) ∧ t.lo = bmax s.lo t.O ∧ t.hi = bmin s.hi (t.O ||| ~~~t.K)
/-- Rounds enough: the answer is whole. -/
theorem fitN_spec : ∀ (d : Nat) (s : S), s.Ok → 32 - pc s.K ≤ d → ∃ r, (∀ m, 2 * d + 2 ≤ m → fitN m s = r) ∧ Found s r := by
  intro d
  induction d with
  | zero =>
    intro s hs hd
    cases e : step s with
    | none =>
      refine ⟨none, fun m hm => ?_, fun a ha w => ?_⟩
      · obtain ⟨j, rfl⟩ : ∃ j, m = j + 1 := ⟨m - 1, by omega⟩
        rw [fitN, e]
      · obtain ⟨t, et, _⟩ := step_keeps hs ha w
        rw [e] at et
        cases et
    | some t =>
      obtain ⟨w, o, le, l, r⟩ := step_in hs e
      have eK : t.K = s.K := Classical.byContradiction fun c => by
        have := pc_lt (fun i k => (w.2.2 i k).1) (Ne.symm c)
        have := pc_le (x := t.K)
        omega
      obtain ⟨eO, e2⟩ := step_last hs e eK
      have fx := (step_self o).1 e2
      refine ⟨some t, fun m hm => ?_, fx, w, fun a ha wa => ?_, by rw [l, eO], by rw [r, eO, eK]⟩
      · obtain ⟨j, rfl⟩ : ∃ j, m = j + 2 := ⟨m - 2, by omega⟩
        rw [fitN, e]
        simp only
        by_cases c : t = s
        · rw [if_pos c, c]
        · rw [if_neg c, fitN, e2]
          simp
      · obtain ⟨t', et, wt⟩ := step_keeps hs ha wa
        obtain rfl := Option.some.inj (e.symm.trans et)
        exact wt
  | succ d ih =>
    intro s hs hd
    cases e : step s with
    | none =>
      refine ⟨none, fun m hm => ?_, fun a ha w => ?_⟩
      · obtain ⟨j, rfl⟩ : ∃ j, m = j + 1 := ⟨m - 1, by omega⟩
        rw [fitN, e]
      · obtain ⟨t, et, _⟩ := step_keeps hs ha w
        rw [e] at et
        cases et
    | some t =>
      obtain ⟨w, o, le, l, r⟩ := step_in hs e
      have keep : ∀ a : S, a.Fx → a.W s → a.W t := fun a ha wa => by
        obtain ⟨t', et, wt⟩ := step_keeps hs ha wa
        obtain rfl := Option.some.inj (e.symm.trans et)
        exact wt
      by_cases eK : t.K = s.K
      · obtain ⟨eO, e2⟩ := step_last hs e eK
        have fx := (step_self o).1 e2
        refine ⟨some t, fun m hm => ?_, fx, w, keep, by rw [l, eO], by rw [r, eO, eK]⟩
        obtain ⟨j, rfl⟩ : ∃ j, m = j + 2 := ⟨m - 2, by omega⟩
        rw [fitN, e]
        simp only
        by_cases c : t = s
        · rw [if_pos c, c]
        · rw [if_neg c, fitN, e2]
          simp
      · have lt := pc_lt (fun i k => (w.2.2 i k).1) (Ne.symm eK)
        obtain ⟨r', f, g⟩ := ih t o (by omega)
        have c : ¬ t = s := fun c => eK (by rw [c])
        refine ⟨r', fun m hm => ?_, ?_⟩
        · obtain ⟨j, rfl⟩ : ∃ j, m = j + 1 := ⟨m - 1, by omega⟩
          rw [fitN, e]
          simp only
          rw [if_neg c]
          exact f j (by omega)
        · cases r' with
          | none => exact fun a ha wa => g a ha (keep a ha wa)
          | some u =>
            obtain ⟨fx, wu, k, ul, uh⟩ := g
            have ws := W_trans wu w
            refine ⟨fx, ws, fun a ha wa => k a ha (keep a ha wa), ?_, ?_⟩
            · rw [ul, l, bmax_up (sub_O ws hs)]
            · rw [uh, r, bmin_dn (sub_H ws fx.ok)]
/-- Fitting. -/
def fit (s : S) : Option S := fitN 70 s
theorem fit_found {s : S} (hs : s.Ok) : Found s (fit s) := by
  obtain ⟨r, f, g⟩ := fitN_spec 32 s hs (by omega)
  rw [fit, f 70 (by decide)]
  exact g
theorem fitN_fit {s : S} (hs : s.Ok) {n : Nat} (h : 70 ≤ n) : fitN n s = fit s := by
  obtain ⟨r, f, g⟩ := fitN_spec 32 s hs (by omega)
  rw [fit, f 70 (by decide), f n (by omega)]
theorem fit_fx {s : S} (h : s.Fx) : fit s = some s := by
  have f := fit_found h.ok
  cases e : fit s with
  | none => rw [e] at f; exact absurd W_refl (f s h)
  | some t => rw [e] at f; rw [W_anti f.1.ok h.ok f.2.1 (f.2.2.1 s h W_refl)]
/-- The word alone. -/
def one (x : B) : S := ⟨x, x, BitVec.allOnes 32, x⟩
theorem ones_bit {i : Nat} (h : i < 32) : (BitVec.allOnes 32).getLsbD i = true := by
  rw [BitVec.getLsbD_allOnes, decide_eq_true h]
theorem one_fx (x : B) : (one x).Fx := by
  refine ⟨fun i h => ones_bit (lt32 h), Nat.le_refl _, Nat.le_refl _, ?_, fun n _ i _ h => ⟨ones_bit h, rfl⟩⟩
  simp [one]
theorem fx_in_one {a : S} (h : a.Fx) {x : B} (w : a.W (one x)) : a = one x := by
  refine W_anti h.ok (one_fx x).ok w ⟨?_, ?_, ?_⟩
  · exact Nat.le_trans h.le w.2.1
  · exact Nat.le_trans w.1 h.le
  · intro i k
    have z := lt32 k
    exact ⟨ones_bit z, (w.2.2 i (ones_bit z)).2.symm⟩
/-- A word of a value. -/
def S.Has (s : S) (x : B) : Prop := s.lo.toNat ≤ x.toNat ∧ x.toNat ≤ s.hi.toNat ∧ ∀ i, s.K.getLsbD i = true → x.getLsbD i = s.O.getLsbD i
theorem has_iff {s : S} {x : B} : s.Has x ↔ (one x).W s := by
  constructor
  · intro h
    exact ⟨h.1, h.2.1, fun i k => ⟨ones_bit (lt32 k), h.2.2 i k⟩⟩
  · intro h
    exact ⟨h.1, h.2.1, fun i k => (h.2.2 i k).2⟩
/-! ### Joining, widening -/
def jK (a b : S) : B := a.K &&& b.K &&& ~~~(a.O ^^^ b.O)
/-- Both parts joined, not fitted. -/
def raw (a b : S) : S := ⟨bmin a.lo b.lo, bmax a.hi b.hi, jK a b, a.O &&& jK a b⟩
theorem raw_ok {a b : S} : (raw a b).Ok := fun i h => by
  simp only [raw, BitVec.getLsbD_and, Bool.and_eq_true] at h
  exact h.2
theorem jK_bit {a b : S} {i : Nat} : (jK a b).getLsbD i = true ↔ a.K.getLsbD i = true ∧ b.K.getLsbD i = true ∧ a.O.getLsbD i = b.O.getLsbD i := by
  unfold jK
  simp only [BitVec.getLsbD_and, BitVec.getLsbD_not, BitVec.getLsbD_xor, Bool.and_eq_true]
  constructor
  · rintro ⟨⟨h1, h2⟩, h3⟩
    refine ⟨h1, h2, ?_⟩
    revert h3
    cases a.O.getLsbD i <;> cases b.O.getLsbD i <;> simp
  · rintro ⟨h1, h2, h3⟩
    refine ⟨⟨h1, h2⟩, lt32 h1 |> fun z => ?_⟩
    rw [h3]
    simp [z]
theorem raw_l {a b : S} : a.W (raw a b) := ⟨bmin_le.1, bmax_le.1, fun i h => by
  have h' := jK_bit.1 h
  have h2 : (jK a b).getLsbD i = true := h
  refine ⟨h'.1, ?_⟩
  show _ = (a.O &&& jK a b).getLsbD i
  rw [BitVec.getLsbD_and, h2, Bool.and_true]⟩
theorem raw_r {a b : S} : b.W (raw a b) := ⟨bmin_le.2, bmax_le.2, fun i h => by
  have h' := jK_bit.1 h
  have h2 : (jK a b).getLsbD i = true := h
  refine ⟨h'.2.1, ?_⟩
  show _ = (a.O &&& jK a b).getLsbD i
  rw [BitVec.getLsbD_and, h2, Bool.and_true, h'.2.2]⟩
theorem raw_least {a b c : S} (h : a.W c) (g : b.W c) : (raw a b).W c := by
  refine ⟨bmin_glb h.1 g.1, bmax_lub h.2.1 g.2.1, fun i k => ?_⟩
  obtain ⟨h1, h2⟩ := h.2.2 i k
  obtain ⟨g1, g2⟩ := g.2.2 i k
  have j : (jK a b).getLsbD i = true := jK_bit.2 ⟨h1, g1, h2.trans g2.symm⟩
  refine ⟨j, ?_⟩
  show (a.O &&& jK a b).getLsbD i = _
  rw [BitVec.getLsbD_and, j, Bool.and_true, h2]
theorem bmin_comm {x y : B} : bmin x y = bmin y x := by
  apply BitVec.eq_of_toNat_eq
  unfold bmin
  repeat' split
  all_goals omega
theorem bmax_comm {x y : B} : bmax x y = bmax y x := by
  apply BitVec.eq_of_toNat_eq
  unfold bmax
  repeat' split
  all_goals omega
theorem raw_comm {a b : S} : raw a b = raw b a := by
  have e : jK a b = jK b a := by
    unfold jK
    rw [BitVec.and_comm a.K, BitVec.xor_comm]
  have e2 : a.O &&& jK a b = b.O &&& jK b a := by
    refine bitx fun i => ?_
    have := jK_bit (a := a) (b := b) (i := i)
    rw [BitVec.getLsbD_and, BitVec.getLsbD_and, ← e]
    cases c : (jK a b).getLsbD i
    · simp
    · rw [(this.1 c).2.2]
  unfold raw
  rw [bmin_comm, bmax_comm, e2, e]
/-- The rest of what a fitted value within is. -/
theorem fit_some {a s : S} (hs : s.Ok) (ha : a.Fx) (w : a.W s) : ∃ t, fit s = some t ∧ t.Fx ∧ a.W t ∧ t.W s ∧ t.lo = bmax s.lo t.O ∧ t.hi = bmin s.hi (t.O ||| ~~~t.K) := by
  have f := fit_found hs
  cases e : fit s with
  | none => rw [e] at f; exact absurd w (f a ha)
  | some t =>
    rw [e] at f
    exact ⟨t, rfl, f.1, f.2.2.1 a ha w, f.2.1, f.2.2.2⟩
abbrev STP : List Nat := [0, 1, 255, 256, 65535, 65536, 2147483647, 2147483648, 4294967295]
def nlo (x : B) : Nat := (STP.filter fun s => decide (s < x.toNat)).length
def nhi (x : B) : Nat := (STP.filter fun s => decide (x.toNat < s)).length
/-- What falls with each change. -/
def phi (s : S) : Nat := 3 * pc s.K + (nlo s.lo + (if s.lo = s.O then 0 else 1)) + (nhi s.hi + (if s.hi = (s.O ||| ~~~s.K) then 0 else 1))
theorem phi_le {s : S} : phi s ≤ 116 := by
  have a := pc_le (x := s.K)
  have b : nlo s.lo ≤ 9 := List.length_filter_le _ _
  have c : nhi s.hi ≤ 9 := List.length_filter_le _ _
  unfold phi
  split <;> split <;> omega
theorem phi_lt {a s t : S} (ha : a.Fx) (hs : s.Ok) (w : a.W s) (hl : s.lo = a.lo ∨ s.lo.toNat ∈ STP) (hh : s.hi = a.hi ∨ s.hi.toNat ∈ STP) (ht : fit s = some t) (hne : t ≠ a) : phi t < phi a := by
  obtain ⟨t', e, fx, wt, ws, el, eh⟩ := fit_some hs ha w
  obtain rfl := Option.some.inj (ht.symm.trans e)
  have n1 : nlo t.lo ≤ nlo a.lo := filt_le fun i h => by
    have := wt.1
    simp only [decide_eq_true_eq] at h ⊢
    omega
  have n2 : nhi t.hi ≤ nhi a.hi := filt_le fun i h => by
    have := wt.2.1
    simp only [decide_eq_true_eq] at h ⊢
    omega
  by_cases eK : t.K = a.K
  · have eO : t.O = a.O := bitx fun i => by
      have p := wt.2.2 i
      have q := fx.ok i
      have r := ha.ok i
      rw [eK] at p q
      revert p q r
      cases a.K.getLsbD i <;> cases a.O.getLsbD i <;> cases t.O.getLsbD i <;> simp
    have c1 : nlo t.lo + (if t.lo = t.O then 0 else 1) ≤ nlo a.lo + (if a.lo = a.O then 0 else 1) ∧ (t.lo ≠ a.lo → nlo t.lo + (if t.lo = t.O then 0 else 1) < nlo a.lo + (if a.lo = a.O then 0 else 1)) := by
      by_cases c : t.lo = a.lo
      · rw [c, eO]
        exact ⟨Nat.le_refl _, fun h => absurd rfl h⟩
      · have lt : t.lo.toNat < a.lo.toNat := by
          have := wt.1
          have : t.lo.toNat ≠ a.lo.toNat := fun h => c (BitVec.eq_of_toNat_eq h)
          omega
        have z : a.lo ≠ a.O := fun h => by
          have := fx.l
          rw [eO, ← h] at this
          omega
        rw [if_neg z]
        by_cases d : t.lo = t.O
        · rw [if_pos d]
          exact ⟨by omega, fun _ => by omega⟩
        · rw [if_neg d]
          have e : t.lo = s.lo := by
            rw [el] at d ⊢
            unfold bmax at d ⊢
            split at d
            · exact absurd rfl d
            · rename_i k; rw [if_neg k]
          have m : s.lo.toNat ∈ STP := by
            rcases hl with h | h
            · exact absurd (e.trans h) c
            · exact h
          have : nlo t.lo < nlo a.lo := filt_lt (j := s.lo.toNat) (fun i h => by
            have := wt.1
            simp only [decide_eq_true_eq] at h ⊢
            omega) m (by rw [e]; simp) (by rw [← e]; simpa using lt)
          exact ⟨by omega, fun _ => by omega⟩
    have c2 : nhi t.hi + (if t.hi = (t.O ||| ~~~t.K) then 0 else 1) ≤ nhi a.hi + (if a.hi = (a.O ||| ~~~a.K) then 0 else 1) ∧ (t.hi ≠ a.hi → nhi t.hi + (if t.hi = (t.O ||| ~~~t.K) then 0 else 1) < nhi a.hi + (if a.hi = (a.O ||| ~~~a.K) then 0 else 1)) := by
      by_cases c : t.hi = a.hi
      · rw [c, eO, eK]
        exact ⟨Nat.le_refl _, fun h => absurd rfl h⟩
      · have lt : a.hi.toNat < t.hi.toNat := by
          have := wt.2.1
          have : t.hi.toNat ≠ a.hi.toNat := fun h => c (BitVec.eq_of_toNat_eq h)
          omega
        have z : a.hi ≠ (a.O ||| ~~~a.K) := fun h => by
          have := fx.h
          rw [eO, eK, ← h] at this
          omega
        rw [if_neg z]
        by_cases d : t.hi = (t.O ||| ~~~t.K)
        · rw [if_pos d]
          exact ⟨by omega, fun _ => by omega⟩
        · rw [if_neg d]
          have e : t.hi = s.hi := by
            rw [eh] at d ⊢
            unfold bmin at d ⊢
            split at d
            · exact absurd rfl d
            · rename_i k; rw [if_neg k]
          have m : s.hi.toNat ∈ STP := by
            rcases hh with h | h
            · exact absurd (e.trans h) c
            · exact h
          have : nhi t.hi < nhi a.hi := filt_lt (j := s.hi.toNat) (fun i h => by
            have := wt.2.1
            simp only [decide_eq_true_eq] at h ⊢
            omega) m (by rw [e]; simp) (by rw [← e]; simpa using lt)
          exact ⟨by omega, fun _ => by omega⟩
    have d : t.lo ≠ a.lo ∨ t.hi ≠ a.hi := by
      apply Classical.byContradiction
      intro k
      apply hne
      have k1 : t.lo = a.lo := Classical.byContradiction fun h => k (.inl h)
      have k2 : t.hi = a.hi := Classical.byContradiction fun h => k (.inr h)
      cases t
      cases a
      simp only at k1 k2 eK eO
      rw [k1, k2, eK, eO]
    unfold phi
    rw [eK] at c2 ⊢
    rcases d with d | d
    · have := c1.2 d
      omega
    · have := c2.2 d
      omega
  · have lt := pc_lt (fun i k => (wt.2.2 i k).1) eK
    unfold phi
    repeat' split
    all_goals omega
end Go.Vb
