/- The plain law ValueOrder. Conditions: those each theorem names. -/
import Derived.Test.YtdmondofdlkopaaGreatDoorPlainVal
import Derived.Test.YtdmondofdlkopaaGreatDoorVOrder
namespace Go.Proofs.YtdmondofdlkopaaGreatDoor.V.Snd
open Go Go.RowKit Go.Proofs.YtdmondofdlkopaaGreatDoor.X Go.Proofs.YtdmondofdlkopaaGreatDoor.V Go.Vb
set_option linter.unusedVariables false
set_option linter.unusedSimpArgs false
namespace Ord
/-! ### The same, with more rounds -/
theorem Check_t {s : S} (f : s.Fx) : value_Check.f 300 s.lo.toNat s.hi.toNat s.K.toNat s.O.toNat = some 0 := by
  obtain ⟨e, h, g⟩ := Check_is (k := 300) (by decide) s
  rw [h, g.2 f]
theorem Join_raw {a b : S} (fa : a.Fx) (fb : b.Fx) : value_Join.f 300 a.lo.toNat a.hi.toNat a.K.toNat a.O.toNat b.lo.toNat b.hi.toNat b.K.toNat b.O.toNat = (value_fitted.f 300 (raw a b).lo.toNat (raw a b).hi.toNat (raw a b).K.toNat (raw a b).O.toNat).bind fun t => some (t.1, t.2.1, t.2.2.1, t.2.2.2) := by
  have ha := (V_of fa).o
  have hb := (V_of fb).o
  unfold value_Join.f interval_Join.f known_Join.f
  rw [Check_t fa, Check_t fb, lt_f (by omega), lt_f (by omega), w_andNot, w_andNot, kok_iff.2 fa.ok, kok_iff.2 fb.ok]
  simp only [Option.bind_some, eq_t rfl, Bool.not_true, br_f, eqI_0, decide_true, bmin_int, bmax_int, w_and, w_xor, w_andNot]
  rfl
theorem widenI {a b d e : Int} (va : V a b) (vb : V d e) : interval_Widen.f 300 a b d e = some (if d < a then dn d else a, if e > b then up e else b) := by
  unfold interval_Widen.f interval_Widen.g
  rw [lt_f (by have := va.o; omega), lt_f (by have := vb.o; omega), br_f, br_f, ltI_d, br_ite]
  split
  · rw [w7_all 300 290 a b d e a vb.ul, ltI_d, br_ite]
    split
    · rw [wl12_all 300 290 a b d e 9 _ _ vb.uh]
    · rfl
  · rw [ltI_d, br_ite]
    split
    · rw [wl17_all 300 290 a b d e _ vb.uh]
    · rfl
theorem le_b (x y : B) : leI (x.toNat : Int) (y.toNat : Int) = decide (x.toNat ≤ y.toNat) := leI_n
/-- What Join makes: the fitted value of both. -/
theorem Join_fit {a b : S} (fa : a.Fx) (fb : b.Fx) : ∃ t : S, value_Join.f 300 a.lo.toNat a.hi.toNat a.K.toNat a.O.toNat b.lo.toNat b.hi.toNat b.K.toNat b.O.toNat = some ((t.lo.toNat : Int), (t.hi.toNat : Int), (t.K.toNat : Int), (t.O.toNat : Int)) ∧ fit (raw a b) = some t ∧ t.Fx ∧ a.W t ∧ b.W t ∧ t.W (raw a b) := by
  obtain ⟨t, e, fx, w1, w2, _⟩ := fit_some (a := a) (s := raw a b) raw_ok fa raw_l
  have g := fit_found (s := raw a b) raw_ok
  rw [e] at g
  refine ⟨t, ?_, e, fx, w1, g.2.2.1 b fb raw_r, w2⟩
  rw [Join_raw fa fb]
  unfold value_fitted.f
  have le : ¬ (raw a b).hi.toNat < (raw a b).lo.toNat := by
    have h1 := (raw_l (a := a) (b := b)).1
    have h2 := (raw_l (a := a) (b := b)).2.1
    have := fa.le
    omega
  have ev : fitV (raw a b) = some t := by
    unfold fitV
    rw [if_neg le, if_pos (kok_iff.2 raw_ok), e]
  rw [Fit_is (k := 300) (by decide) (raw a b), ev]
  rfl
theorem Within_is {a b : S} (fa : a.Fx) (fb : b.Fx) : ∃ r, value_Within.f 300 a.lo.toNat a.hi.toNat a.K.toNat a.O.toNat b.lo.toNat b.hi.toNat b.K.toNat b.O.toNat = some r ∧ (r = true ↔ a.W b) := by
  have ha := (V_of fa).o
  have hb := (V_of fb).o
  have ka : Kok a.K a.O := fa.ok
  have kb : Kok b.K b.O := fb.ok
  unfold value_Within.f value_of.f interval_Within.f known_Within.f
  simp only [Option.bind_some, Check_t fa, Check_t fb, eq_t rfl, Bool.not_true, br_f]
  rw [lt_f (by omega), lt_f (by omega), br_f, br_f, le_b, le_b, w_andNot, w_andNot, kok_iff.2 ka, kok_iff.2 kb, w_andNot, w_and, eqI_0, eqI_0, eqI_b]
  have key : (b.K &&& ~~~a.K = 0 ∧ a.O &&& b.K = b.O) ↔ ∀ i, b.K.getLsbD i = true → a.K.getLsbD i = true ∧ a.O.getLsbD i = b.O.getLsbD i := by
    constructor
    · rintro ⟨h1, h2⟩ i hi
      have g1 := congrArg (fun z : B => z.getLsbD i) h1
      have g2 := congrArg (fun z : B => z.getLsbD i) h2
      have l := lt32 hi
      simp only [BitVec.getLsbD_and, BitVec.getLsbD_not, hi, l, decide_true, Bool.true_and, Bool.and_true] at g1 g2
      refine ⟨?_, g2⟩
      have g3 : (0 : B).getLsbD i = false := BitVec.getLsbD_zero
      rw [g3] at g1
      simpa using g1
    · intro h
      constructor
      · refine bitx (y := 0#32) fun i => ?_
        have := h i
        rw [BitVec.getLsbD_and, BitVec.getLsbD_not, BitVec.getLsbD_zero]
        cases q : b.K.getLsbD i with
        | false => rfl
        | true => rw [(this q).1]; simp
      · refine bitx fun i => ?_
        have := h i
        have k := kb i
        rw [BitVec.getLsbD_and]
        revert this k
        cases b.K.getLsbD i <;> cases b.O.getLsbD i <;> cases a.O.getLsbD i <;> simp
  by_cases c1 : b.lo.toNat ≤ a.lo.toNat
  · rw [decide_eq_true c1, br_t, Option.bind_some]
    by_cases c2 : a.hi.toNat ≤ b.hi.toNat
    · rw [decide_eq_true c2, br_t]
      simp only [decide_true, Bool.not_true, br_f]
      by_cases c3 : b.K &&& ~~~a.K = 0
      · rw [decide_eq_true c3, br_t, Option.bind_some]
        refine ⟨_, rfl, ?_⟩
        rw [decide_eq_true_eq]
        exact ⟨fun q => ⟨c1, c2, key.1 ⟨c3, q⟩⟩, fun q => (key.2 q.2.2).2⟩
      · rw [decide_eq_false c3, br_f, Option.bind_some]
        exact ⟨false, rfl, ⟨(fun h => by cases h), fun q => absurd (key.2 q.2.2).1 c3⟩⟩
    · rw [decide_eq_false c2, br_f]
      exact ⟨false, rfl, ⟨(fun h => by cases h), fun q => absurd q.2.1 c2⟩⟩
  · rw [decide_eq_false c1, br_f, Option.bind_some, br_f]
    exact ⟨false, rfl, ⟨(fun h => by cases h), fun q => absurd q.1 c1⟩⟩
theorem Within_t {a b : S} (fa : a.Fx) (fb : b.Fx) (w : a.W b) : value_Within.f 300 a.lo.toNat a.hi.toNat a.K.toNat a.O.toNat b.lo.toNat b.hi.toNat b.K.toNat b.O.toNat = some true := by
  obtain ⟨r, e, h⟩ := Within_is fa fb
  rw [e, h.2 w]
theorem dn_mem {x : Int} : (dn x).toNat ∈ STP := by
  unfold dn
  repeat' split
  all_goals decide
theorem up_mem {x : Int} : (up x).toNat ∈ STP := by
  unfold up
  repeat' split
  all_goals decide
/-- A widening: both are within it; where it changes, the potential falls. -/
theorem Widen_fit {a b : S} (fa : a.Fx) (fb : b.Fx) : ∃ t : S, value_Widen.f 300 a.lo.toNat a.hi.toNat a.K.toNat a.O.toNat b.lo.toNat b.hi.toNat b.K.toNat b.O.toNat = some ((t.lo.toNat : Int), (t.hi.toNat : Int), (t.K.toNat : Int), (t.O.toNat : Int)) ∧ t.Fx ∧ a.W t ∧ b.W t ∧ (t ≠ a → phi t < phi a) := by
  obtain ⟨j, ej, _, fj, aj, bj, _⟩ := Join_fit fa fb
  have va := V_of fa
  have vj := V_of fj
  have d1 := dn_le vj.ul
  have d2 := le_up vj.uh
  obtain ⟨lo, el⟩ := b_of' (x := if (j.lo.toNat : Int) < a.lo.toNat then dn j.lo.toNat else a.lo.toNat) (by have := va.ul; unfold U at *; split <;> omega)
  obtain ⟨hi, eh⟩ := b_of' (x := if (j.hi.toNat : Int) > a.hi.toNat then up j.hi.toNat else a.hi.toNat) (by have := va.uh; unfold U at *; split <;> omega)
  have hl : lo = a.lo ∨ lo.toNat ∈ STP := by
    by_cases c : (j.lo.toNat : Int) < a.lo.toNat
    · rw [if_pos c] at el
      refine .inr ?_
      have := dn_mem (x := (j.lo.toNat : Int))
      rw [el] at this
      simpa using this
    · rw [if_neg c] at el
      exact .inl (b_inj.1 el.symm)
  have hh : hi = a.hi ∨ hi.toNat ∈ STP := by
    by_cases c : (j.hi.toNat : Int) > a.hi.toNat
    · rw [if_pos c] at eh
      refine .inr ?_
      have := up_mem (x := (j.hi.toNat : Int))
      rw [eh] at this
      simpa using this
    · rw [if_neg c] at eh
      exact .inl (b_inj.1 eh.symm)
  have l1 : (lo.toNat : Int) ≤ a.lo.toNat ∧ (lo.toNat : Int) ≤ j.lo.toNat := by rw [← el]; split <;> omega
  have h1 : (a.hi.toNat : Int) ≤ hi.toNat ∧ (j.hi.toNat : Int) ≤ hi.toNat := by rw [← eh]; split <;> omega
  have so : S.Ok ⟨lo, hi, jK a j, a.O &&& jK a j⟩ := raw_ok (a := a) (b := j)
  have wa : a.W ⟨lo, hi, jK a j, a.O &&& jK a j⟩ := ⟨by show lo.toNat ≤ _; omega, by show _ ≤ hi.toNat; omega, (raw_l (a := a) (b := j)).2.2⟩
  have wj : j.W ⟨lo, hi, jK a j, a.O &&& jK a j⟩ := ⟨by show lo.toNat ≤ _; omega, by show _ ≤ hi.toNat; omega, (raw_r (a := a) (b := j)).2.2⟩
  obtain ⟨t, e, fx, w1, w2, _⟩ := fit_some (a := a) so fa wa
  have g := fit_found so
  rw [e] at g
  refine ⟨t, ?_, fx, w1, g.2.2.1 b fb (W_trans bj wj), fun ne => phi_lt fa so wa hl hh e ne⟩
  have le : ¬ hi.toNat < lo.toNat := by have := fa.le; omega
  have ev : fitV ⟨lo, hi, jK a j, a.O &&& jK a j⟩ = some t := by
    unfold fitV
    rw [if_neg le, if_pos (kok_iff.2 so), e]
  unfold value_Widen.f known_Join.f
  rw [Check_t fa, Check_t fb, ej]
  simp only [Option.bind_some, eq_t rfl, Bool.not_true, br_f]
  rw [widenI va vj, el, eh, w_andNot, w_andNot, kok_iff.2 fa.ok, kok_iff.2 fj.ok]
  simp only [Option.bind_some, Bool.not_true, br_f, eqI_0, decide_true, w_and, w_xor, w_andNot]
  unfold value_fitted.f
  have fi := Fit_is (k := 300) (by decide) ⟨lo, hi, jK a j, a.O &&& jK a j⟩
  rw [ev] at fi
  simp only [jK] at fi
  rw [fi]
  rfl
theorem Check_n (s : S) : ∃ e : Int, value_Check.f 300 s.lo.toNat s.hi.toNat s.K.toNat s.O.toNat = some e ∧ (e = 0 ↔ s.Fx) := Check_is (k := 300) (by decide) s
def RowU (t : Int × Int × Int × Int) : Prop := U t.1 ∧ U t.2.1 ∧ U t.2.2.1 ∧ U t.2.2.2
theorem i64w {n : Int} (h0 : 0 ≤ n) (h1 : n < 1000) : IntKind.i64.wrap n = n := by rw [IntKind.wrap_i64]; omega
theorem ord_loop (z0 z1 z2 z3 z4 z5 z6 z7 z8 z9 z10 z11 : Int) (l : List (Int × Int × Int × Int)) (t6 : Int × Int × Int × Int) (hl : ∀ x ∈ l, RowU x) (hn : l.length ≤ 200) : ∀ (n i : Nat) (c : Int) (r : S), r.Fx → 0 ≤ c → c + phi r ≤ 116 → i ≤ l.length → l.length - i < n →
    lamplighterlaw21_ValueOrder.l1014 300 z0 z1 z2 z3 z4 z5 z6 z7 z8 z9 z10 z11 l t6 n c (i : Int) r.lo.toNat r.hi.toNat r.K.toNat r.O.toNat = some true
  | 0, i, c, r, _, _, _, _, h => by omega
  | n + 1, i, c, r, fr, c0, cp, hi, h => by
    rw [lamplighterlaw21_ValueOrder.l1014]
    unfold lamplighterlaw21_ValueOrder.b_l1014
    by_cases q : i < l.length
    · have e1 : ltI (i : Int) ((l.length : Nat) : Int) = true := lt_t (by omega)
      have e2 : inI (i : Int) ((l.length : Nat) : Int) = true := inI_n q
      simp only [e1, e2, br_t]
      have er : rowAt l (i : Int) = l[i] := by
        unfold rowAt
        rw [Int.toNat_natCast, List.getD_eq_getElem?_getD, List.getElem?_eq_getElem q]
        rfl
      obtain ⟨u0, u1, u2, u3⟩ := hl _ (List.getElem_mem q)
      rw [er]
      obtain ⟨v0, e0⟩ := b_of' u0
      obtain ⟨v1, e1'⟩ := b_of' u1
      obtain ⟨v2, e2'⟩ := b_of' u2
      obtain ⟨v3, e3⟩ := b_of' u3
      rw [e0, e1', e2', e3]
      obtain ⟨e, he, hf⟩ := Check_n ⟨v0, v1, v2, v3⟩
      simp only at he
      rw [he, Option.bind_some]
      have wi : IntKind.i64.wrap ((i : Int) + 1) = ((i + 1 : Nat) : Int) := by rw [i64w (by omega) (by omega)]; omega
      by_cases ce : e = 0
      · have fv := hf.1 ce
        rw [eq_t ce, Bool.not_true, br_f]
        obtain ⟨t, et, ft, w1, w2, ph⟩ := Widen_fit fr fv
        simp only at et
        have wv := Within_t fv ft w2
        have wr := Within_t fr ft w1
        simp only at wv
        simp only [et, Option.bind_some, s_eq, Check_t ft, eq_t rfl, Bool.not_true, br_f, wv, wr, wi]
        by_cases ct : t = r
        · rw [decide_eq_true ct, Bool.not_true, br_f, ct]
          exact ord_loop _ _ _ _ _ _ _ _ _ _ _ _ l t6 hl hn n (i + 1) c r fr c0 cp (by omega) (by omega)
        · rw [decide_eq_false ct, Bool.not_false, br_t]
          have := ph ct
          rw [show IntKind.i64.wrap (c + 1) = c + 1 from i64w (by omega) (by omega)]
          exact ord_loop _ _ _ _ _ _ _ _ _ _ _ _ l t6 hl hn n (i + 1) (c + 1) t ft (by omega) (by omega) (by omega) (by omega)
      · rw [eq_f ce, Bool.not_false, br_t, wi]
        exact ord_loop _ _ _ _ _ _ _ _ _ _ _ _ l t6 hl hn n (i + 1) c r fr c0 cp (by omega) (by omega)
    · rw [lt_f (by omega), br_f, le_t (by omega)]
/-- The law's first part: whatever stands behind, if that answers true. -/
theorem ord_head {a b c : S} (fa : a.Fx) (fb : b.Fx) (fc : c.Fx) : ∃ j : S, value_Join.f 300 a.lo.toNat a.hi.toNat a.K.toNat a.O.toNat b.lo.toNat b.hi.toNat b.K.toNat b.O.toNat = some ((j.lo.toNat : Int), (j.hi.toNat : Int), (j.K.toNat : Int), (j.O.toNat : Int)) ∧ value_Join.f 300 b.lo.toNat b.hi.toNat b.K.toNat b.O.toNat a.lo.toNat a.hi.toNat a.K.toNat a.O.toNat = some ((j.lo.toNat : Int), (j.hi.toNat : Int), (j.K.toNat : Int), (j.O.toNat : Int)) ∧ j.Fx ∧ a.W j ∧ b.W j ∧ (a.W c → b.W c → j.W c) := by
  obtain ⟨j, e1, f1, fj, w1, w2, wr⟩ := Join_fit fa fb
  obtain ⟨j', e2, f2, _⟩ := Join_fit fb fa
  rw [raw_comm, f1] at f2
  obtain rfl := Option.some.inj f2
  exact ⟨j, e1, e2, fj, w1, w2, fun p q => W_trans wr (raw_least p q)⟩
theorem lives300 : lamplighterlaw21_lives.f 300 = some true := by kernel_rfl
theorem order_holds (a b c : S) (l : List (Int × Int × Int × Int)) (hl : ∀ x ∈ l, RowU x) : lamplighterlaw21_ValueOrder.f 300 a.lo.toNat a.hi.toNat a.K.toNat a.O.toNat b.lo.toNat b.hi.toNat b.K.toNat b.O.toNat c.lo.toNat c.hi.toNat c.K.toNat c.O.toNat l = some true := by
  unfold lamplighterlaw21_ValueOrder.f lamplighterlaw21_ValueOrder.b_j0
  obtain ⟨ea, ha, fa⟩ := Check_n a
  obtain ⟨eb, hb, fb⟩ := Check_n b
  obtain ⟨ec, hc, fc⟩ := Check_n c
  simp only [lives300, ha, hb, hc, Option.bind_some, Bool.not_true, br_f]
  by_cases ca : ea = 0
  · by_cases cb : eb = 0
    · by_cases cc : ec = 0
      · simp only [eq_t ca, eq_t cb, eq_t cc, Bool.not_true, br_f]
        by_cases cl : l.length ≤ 200
        · have fa := fa.1 ca
          have fb := fb.1 cb
          have fc := fc.1 cc
          rw [lt_f (by omega), br_f]
          obtain ⟨j, e1, e2, fj, w1, w2, w3⟩ := ord_head fa fb fc
          obtain ⟨rab, hab, iab⟩ := Within_is fa fb
          obtain ⟨rba, hba, iba⟩ := Within_is fb fa
          obtain ⟨rbc, hbc, ibc⟩ := Within_is fb fc
          obtain ⟨rac, hac, iac⟩ := Within_is fa fc
          obtain ⟨rjc, hjc, ijc⟩ := Within_is fj fc
          have tail : lamplighterlaw21_ValueOrder.j1 300 a.lo.toNat a.hi.toNat a.K.toNat a.O.toNat b.lo.toNat b.hi.toNat b.K.toNat b.O.toNat c.lo.toNat c.hi.toNat c.K.toNat c.O.toNat l ((j.lo.toNat : Int), (j.hi.toNat : Int), (j.K.toNat : Int), (j.O.toNat : Int)) = some true := by
            unfold lamplighterlaw21_ValueOrder.j1 lamplighterlaw21_ValueOrder.b_j1
            have ph := phi_le (s := a)
            exact ord_loop _ _ _ _ _ _ _ _ _ _ _ _ l _ hl cl 300 0 0 a fa (Int.le_refl _) (by omega) (Nat.zero_le _) (by omega)
          have t1 : rac = true → rbc = true → rjc = true := fun p q => ijc.2 (w3 (iac.1 p) (ibc.1 q))
          have t2 : rab = true → rbc = true → rac = true := fun p q => iac.2 (W_trans (iab.1 p) (ibc.1 q))
          have t3 : rab = true → rba = true → a = b := fun p q => W_anti fa.ok fb.ok (iab.1 p) (iba.1 q)
          simp only [e1, e2, Option.bind_some, Check_t fj, eq_t rfl, Bool.not_true, br_f, s_eq, decide_true, Within_t fa fa W_refl, Within_t fa fj w1, Within_t fb fj w2, hab, hba, hbc, hac, hjc, tail]
          cases rab <;> cases rba <;> cases rbc <;> cases rac <;> cases rjc <;> first
            | rfl
            | (exfalso; first | exact absurd (t1 rfl rfl) (by decide) | exact absurd (t2 rfl rfl) (by decide))
            | (have e := t3 rfl rfl; rw [decide_eq_true e]; rfl)
        · rw [lt_t (by omega), br_t]
      · simp only [eq_t ca, eq_t cb, eq_f cc, Bool.not_true, Bool.not_false, br_f, br_t]
    · simp only [eq_t ca, eq_f cb, Bool.not_true, Bool.not_false, br_f, br_t]
  · simp only [eq_f ca, Bool.not_false, br_t]
end Ord
namespace Ord
theorem add_o {g o k : Nat} : (⟨g, o, none⟩ : Addr).add k = ⟨g, o + k, none⟩ := by
  unfold Addr.add
  split
  · rename_i h; subst h; rfl
  · rfl
theorem four {c : Array Value} {o i : Nat} {a b d e : Value} (q0 : c[o + (i * 4 + 0)]? = some a) (q1 : c[o + (i * 4 + 1)]? = some b) (q2 : c[o + (i * 4 + 2)]? = some d) (q3 : c[o + (i * 4 + 3)]? = some e) : o + i * 4 + 4 ≤ c.toList.length ∧ (c.toList.drop (o + i * 4)).take 4 = [a, b, d, e] := by
  have l3 := (Array.getElem?_eq_some_iff.1 q3).1
  have h : ∀ {k : Nat} {x : Value}, c[k]? = some x → c.toList[k]? = some x := fun {k x} h => by simpa using h
  have p0 := h q0
  have p1 := h q1
  have p2 := h q2
  have p3 := h q3
  refine ⟨by simp; omega, ?_⟩
  apply List.ext_getElem?
  intro j
  rw [List.getElem?_take]
  by_cases c4 : j < 4
  · rw [if_pos c4, List.getElem?_drop]
    obtain e | e | e | e : j = 0 ∨ j = 1 ∨ j = 2 ∨ j = 3 := by omega
    · subst e; rw [show o + i * 4 + 0 = o + (i * 4 + 0) by omega, p0]; rfl
    · subst e; rw [show o + i * 4 + 1 = o + (i * 4 + 1) by omega, p1]; rfl
    · subst e; rw [show o + i * 4 + 2 = o + (i * 4 + 2) by omega, p2]; rfl
    · subst e; rw [show o + i * 4 + 3 = o + (i * 4 + 3) by omega, p3]; rfl
  · rw [if_neg c4, List.getElem?_eq_none (by simp; omega)]
theorem order_holds0 (a b c : S) (p : Option Addr) (q : Nat) : lamplighterlaw21_ValueOrder_0.f 300 a.lo.toNat a.hi.toNat a.K.toNat a.O.toNat b.lo.toNat b.hi.toNat b.K.toNat b.O.toNat c.lo.toNat c.hi.toNat c.K.toNat c.O.toNat p q = some true := by
  unfold lamplighterlaw21_ValueOrder_0.f lamplighterlaw21_ValueOrder_0.b_j0
  obtain ⟨ea, ha, fa⟩ := Check_n a
  obtain ⟨eb, hb, fb⟩ := Check_n b
  obtain ⟨ec, hc, fc⟩ := Check_n c
  simp only [lives300, ha, hb, hc, Option.bind_some, Bool.not_true, br_f]
  by_cases ca : ea = 0
  · by_cases cb : eb = 0
    · by_cases cc : ec = 0
      · simp only [eq_t ca, eq_t cb, eq_t cc, Bool.not_true, br_f]
        have fa := fa.1 ca
        have fb := fb.1 cb
        have fc := fc.1 cc
        obtain ⟨j, e1, e2, fj, w1, w2, w3⟩ := ord_head fa fb fc
        obtain ⟨rab, hab, iab⟩ := Within_is fa fb
        obtain ⟨rba, hba, iba⟩ := Within_is fb fa
        obtain ⟨rbc, hbc, ibc⟩ := Within_is fb fc
        obtain ⟨rac, hac, iac⟩ := Within_is fa fc
        obtain ⟨rjc, hjc, ijc⟩ := Within_is fj fc
        have tail : lamplighterlaw21_ValueOrder_0.j1 300 a.lo.toNat a.hi.toNat a.K.toNat a.O.toNat b.lo.toNat b.hi.toNat b.K.toNat b.O.toNat c.lo.toNat c.hi.toNat c.K.toNat c.O.toNat p q ((j.lo.toNat : Int), (j.hi.toNat : Int), (j.K.toNat : Int), (j.O.toNat : Int)) = some true := rfl
        have t1 : rac = true → rbc = true → rjc = true := fun p q => ijc.2 (w3 (iac.1 p) (ibc.1 q))
        have t2 : rab = true → rbc = true → rac = true := fun p q => iac.2 (W_trans (iab.1 p) (ibc.1 q))
        have t3 : rab = true → rba = true → a = b := fun p q => W_anti fa.ok fb.ok (iab.1 p) (iba.1 q)
        simp only [e1, e2, Option.bind_some, Check_t fj, eq_t rfl, Bool.not_true, br_f, s_eq, decide_true, Within_t fa fa W_refl, Within_t fa fj w1, Within_t fb fj w2, hab, hba, hbc, hac, hjc, tail]
        cases rab <;> cases rba <;> cases rbc <;> cases rac <;> cases rjc <;> first
          | rfl
          | (exfalso; first | exact absurd (t1 rfl rfl) (by decide) | exact absurd (t2 rfl rfl) (by decide))
          | (have e := t3 rfl rfl; rw [decide_eq_true e]; rfl)
      · simp only [eq_t ca, eq_t cb, eq_f cc, Bool.not_true, Bool.not_false, br_f, br_t]
    · simp only [eq_t ca, eq_f cb, Bool.not_true, Bool.not_false, br_f, br_t]
  · simp only [eq_f ca, Bool.not_false, br_t]
namespace Holds
theorem order (a0_0 a0_1 a0_2 a0_3 a1_0 a1_1 a1_2 a1_3 a2_0 a2_1 a2_2 a2_3 : Int) (l : List (Int × Int × Int × Int)) (w00 : (Lit.int .u32 a0_0).wf = true) (w01 : (Lit.int .u32 a0_1).wf = true) (w02 : (Lit.int .u32 a0_2).wf = true) (w03 : (Lit.int .u32 a0_3).wf = true) (w10 : (Lit.int .u32 a1_0).wf = true) (w11 : (Lit.int .u32 a1_1).wf = true) (w12 : (Lit.int .u32 a1_2).wf = true) (w13 : (Lit.int .u32 a1_3).wf = true) (w20 : (Lit.int .u32 a2_0).wf = true) (w21 : (Lit.int .u32 a2_1).wf = true) (w22 : (Lit.int .u32 a2_2).wf = true) (w23 : (Lit.int .u32 a2_3).wf = true) (hl : ∀ x ∈ l, RowU x) : lamplighterlaw21_ValueOrder.f 300 a0_0 a0_1 a0_2 a0_3 a1_0 a1_1 a1_2 a1_3 a2_0 a2_1 a2_2 a2_3 l = some true := by
  obtain ⟨p0, rfl⟩ := b_of' (Vone.u_wf w00)
  obtain ⟨p1, rfl⟩ := b_of' (Vone.u_wf w01)
  obtain ⟨p2, rfl⟩ := b_of' (Vone.u_wf w02)
  obtain ⟨p3, rfl⟩ := b_of' (Vone.u_wf w03)
  obtain ⟨q0, rfl⟩ := b_of' (Vone.u_wf w10)
  obtain ⟨q1, rfl⟩ := b_of' (Vone.u_wf w11)
  obtain ⟨q2, rfl⟩ := b_of' (Vone.u_wf w12)
  obtain ⟨q3, rfl⟩ := b_of' (Vone.u_wf w13)
  obtain ⟨r0, rfl⟩ := b_of' (Vone.u_wf w20)
  obtain ⟨r1, rfl⟩ := b_of' (Vone.u_wf w21)
  obtain ⟨r2, rfl⟩ := b_of' (Vone.u_wf w22)
  obtain ⟨r3, rfl⟩ := b_of' (Vone.u_wf w23)
  exact order_holds ⟨p0, p1, p2, p3⟩ ⟨q0, q1, q2, q3⟩ ⟨r0, r1, r2, r3⟩ l hl
theorem order0 (a0_0 a0_1 a0_2 a0_3 a1_0 a1_1 a1_2 a1_3 a2_0 a2_1 a2_2 a2_3 : Int) (b : Option Addr) (c : Nat) (w00 : (Lit.int .u32 a0_0).wf = true) (w01 : (Lit.int .u32 a0_1).wf = true) (w02 : (Lit.int .u32 a0_2).wf = true) (w03 : (Lit.int .u32 a0_3).wf = true) (w10 : (Lit.int .u32 a1_0).wf = true) (w11 : (Lit.int .u32 a1_1).wf = true) (w12 : (Lit.int .u32 a1_2).wf = true) (w13 : (Lit.int .u32 a1_3).wf = true) (w20 : (Lit.int .u32 a2_0).wf = true) (w21 : (Lit.int .u32 a2_1).wf = true) (w22 : (Lit.int .u32 a2_2).wf = true) (w23 : (Lit.int .u32 a2_3).wf = true) : lamplighterlaw21_ValueOrder_0.f 300 a0_0 a0_1 a0_2 a0_3 a1_0 a1_1 a1_2 a1_3 a2_0 a2_1 a2_2 a2_3 b c = some true := by
  obtain ⟨p0, rfl⟩ := b_of' (Vone.u_wf w00)
  obtain ⟨p1, rfl⟩ := b_of' (Vone.u_wf w01)
  obtain ⟨p2, rfl⟩ := b_of' (Vone.u_wf w02)
  obtain ⟨p3, rfl⟩ := b_of' (Vone.u_wf w03)
  obtain ⟨q0, rfl⟩ := b_of' (Vone.u_wf w10)
  obtain ⟨q1, rfl⟩ := b_of' (Vone.u_wf w11)
  obtain ⟨q2, rfl⟩ := b_of' (Vone.u_wf w12)
  obtain ⟨q3, rfl⟩ := b_of' (Vone.u_wf w13)
  obtain ⟨r0, rfl⟩ := b_of' (Vone.u_wf w20)
  obtain ⟨r1, rfl⟩ := b_of' (Vone.u_wf w21)
  obtain ⟨r2, rfl⟩ := b_of' (Vone.u_wf w22)
  obtain ⟨r3, rfl⟩ := b_of' (Vone.u_wf w23)
  exact order_holds0 ⟨p0, p1, p2, p3⟩ ⟨q0, q1, q2, q3⟩ ⟨r0, r1, r2, r3⟩ b c
end Holds
end Ord
end Go.Proofs.YtdmondofdlkopaaGreatDoor.V.Snd
