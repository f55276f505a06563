/- Contracts of Go functions of the given program: where NAME.f answers, the call returns that. Conditions: those each theorem names. -/
import Derived.Test.YtmhmfnjbioplhaaPIntervalSoundx0
import Derived.Test.YtmhmfnjbioplhaaPIntervalSoundx3
import Derived.Test.YtmhmfnjbioplhaaPIntervalSoundx7
namespace Go.Proofs.Ytmhmfnjbioplhaa.PIntervalSound
open Go.RowKit Go.Proofs.YtmhmfnjbioplhaaW.PrintWords Go.Proofs.YtmhmfnjbioplhaaW.PrintLast Go.Proofs.YtmhmfnjbioplhaaW.PrintMore Go.Proofs.Ytmhmfnjbioplhaa.Help
attribute [local go_sem] max2_int min2_int max_two min_two max_three min_three max_four min_four   -- for this text's walks alone
set_option linter.unusedVariables false
set_option linter.unusedSimpArgs false

/-! ### lamplighterref01_Do: function 22 -/
def lamplighterref01_Do.j0 : Nat → Int → Int → Int → Int → Int → Bool → Option (Int × Int)
  | 0, _, _, _, _, _, _ => none
  | k + 1, x0, x1, x2, x8, x9, x23 => if x23 = true then (some (0, 12)) else (if x0 = 1 then (some ((x1 + x2) % 4294967296, 0)) else (if x0 = 2 then (some ((x1 - x2) % 4294967296, 0)) else (if x0 = 3 then (some ((x1 * x2) % 4294967296, 0)) else (if x0 = 4 then (if x2 = 0 then (none) else (some ((Int.tdiv x1 x2) % 4294967296, 0))) else (if x0 = 5 then (if x2 = 0 then (none) else (some (Int.tmod x1 x2, 0))) else (if x0 = 6 then (if x9 = 0 then (none) else (some ((wrap64 (Int.tdiv x8 x9)) % 4294967296, 0))) else (if x0 = 7 then (if x9 = 0 then (none) else (some ((Int.tmod x8 x9) % 4294967296, 0))) else (if x0 = 8 then (some (Go.bits .and .u32 x1 x2, 0)) else (if x0 = 9 then (some (Go.bits .or .u32 x1 x2, 0)) else (if x0 = 10 then (some (Go.bits .xor .u32 x1 x2, 0)) else (if x0 = 11 then (if x2 > 31 then (some (0, 0)) else (if 0 ≤ x2 then (some (shl .u32 x1 x2, 0)) else (none))) else (if x0 = 12 then (if x2 > 31 then (some (0, 0)) else (if 0 ≤ x2 then (some (shr .u32 x1 x2, 0)) else (none))) else (if x0 = 13 then (if 0 ≤ (mn x2 32) then (some ((x8 / 2 ^ (mn x2 32).toNat) % 4294967296, 0)) else (none)) else (if x0 = 14 then ((lamplighterref01_yes.f (x1 == x2)).bind fun t350 => (some (t350, 0))) else (if x0 = 15 then ((lamplighterref01_yes.f (x1 != x2)).bind fun t351 => (some (t351, 0))) else (if x0 = 16 then ((lamplighterref01_yes.f (decide (x1 < x2))).bind fun t352 => (some (t352, 0))) else (if x0 = 17 then ((lamplighterref01_yes.f (decide (x1 ≤ x2))).bind fun t353 => (some (t353, 0))) else (if x0 = 18 then ((lamplighterref01_yes.f (decide (x8 < x9))).bind fun t354 => (some (t354, 0))) else (if x0 = 19 then ((lamplighterref01_yes.f (decide (x8 ≤ x9))).bind fun t355 => (some (t355, 0))) else (some (0, 2)))))))))))))))))))))
def lamplighterref01_Do.f (k : Nat) (a0 : Int) (a1 : Int) (a2 : Int) : Option (Int × Int) := (lamplighterref01_Signed.f a1).bind fun t348 => ((lamplighterref01_Signed.f a2).bind fun t349 => (if a0 ≥ 4 then (if a0 ≤ 7 then (lamplighterref01_Do.j0 k a0 a1 a2 t348 t349 (a2 == 0)) else (lamplighterref01_Do.j0 k a0 a1 a2 t348 t349 false)) else (lamplighterref01_Do.j0 k a0 a1 a2 t348 t349 false)))
theorem lamplighterref01_Do.mono_l : ∀ k, (∀ y0 y1 y2 y3 y4 y5, LeO (lamplighterref01_Do.j0 k y0 y1 y2 y3 y4 y5) (lamplighterref01_Do.j0 (k + 1) y0 y1 y2 y3 y4 y5))
  | 0 => fun _ _ _ _ _ _ r h => by simp [lamplighterref01_Do.j0] at h
  | k + 1 => by
    have ih0 := lamplighterref01_Do.mono_l k
    · intro y0 y1 y2 y3 y4 y5
      unfold lamplighterref01_Do.j0
      repeat' first
      | (with_reducible exact ih0 _ _ _ _ _ _)
      | (with_reducible exact LeO.refl _)
      | (with_reducible exact LeO.none _)
      | (with_reducible refine LeO.ite ?_ ?_)
      | (with_reducible refine LeO.bind ?_ (fun _ => ?_))
      | exact ih0 _ _ _ _ _ _
      | exact LeO.none _
      | refine LeO.ite ?_ ?_
      | refine LeO.bind ?_ (fun _ => ?_)
theorem lamplighterref01_Do.mono : ∀ a0 a1 a2 k, LeO (lamplighterref01_Do.f k a0 a1 a2) (lamplighterref01_Do.f (k + 1) a0 a1 a2) := by
  intro a0 a1 a2 k
  have ih0 := lamplighterref01_Do.mono_l k
  unfold lamplighterref01_Do.f
  repeat' first
      | (with_reducible exact ih0 _ _ _ _ _ _)
      | (with_reducible exact LeO.refl _)
      | (with_reducible exact LeO.none _)
      | (with_reducible refine LeO.ite ?_ ?_)
      | (with_reducible refine LeO.bind ?_ (fun _ => ?_))
      | exact ih0 _ _ _ _ _ _
      | exact LeO.none _
      | refine LeO.ite ?_ ?_
      | refine LeO.bind ?_ (fun _ => ?_)
set_option maxHeartbeats 8000000 in
set_option maxRecDepth 100000 in
theorem lamplighterref01_Do.calls (k : Nat) (a0 : Int) (a1 : Int) (a2 : Int) (r1 : Int) (r2 : Int) (w : World) (h : lamplighterref01_Do.f k a0 a1 a2 = some (r1, r2)) :
    Calls Try.prog 22 #[.int .i64 a0, .int .u32 a1, .int .u32 a2] w fun e w' => e = .returned (.tuple #[.int .u32 r1, .int .i64 r2]) ∧ Below w.heap.size w w' := by
  have HB := am (Below.refl w.heap.size w)
  have H : ((lamplighterref01_Signed.f a1).bind fun t348 => ((lamplighterref01_Signed.f a2).bind fun t349 => (if a0 ≥ 4 then (if a0 ≤ 7 then (lamplighterref01_Do.j0 k a0 a1 a2 t348 t349 (a2 == 0)) else (lamplighterref01_Do.j0 k a0 a1 a2 t348 t349 false)) else (lamplighterref01_Do.j0 k a0 a1 a2 t348 t349 false)))) = some (r1, r2) := h
  clear h
  replace H := Option.bind_eq_some_iff.mp H
  obtain ⟨t348, A40, H⟩ := H
  replace H : ((lamplighterref01_Signed.f a2).bind fun t349 => (if a0 ≥ 4 then (if a0 ≤ 7 then (lamplighterref01_Do.j0 k a0 a1 a2 t348 t349 (a2 == 0)) else (lamplighterref01_Do.j0 k a0 a1 a2 t348 t349 false)) else (lamplighterref01_Do.j0 k a0 a1 a2 t348 t349 false))) = some (r1, r2) := H
  have A4 := am A40
  clear A40
  replace H := Option.bind_eq_some_iff.mp H
  obtain ⟨t349, A50, H⟩ := H
  replace H : (if a0 ≥ 4 then (if a0 ≤ 7 then (lamplighterref01_Do.j0 k a0 a1 a2 t348 t349 (a2 == 0)) else (lamplighterref01_Do.j0 k a0 a1 a2 t348 t349 false)) else (lamplighterref01_Do.j0 k a0 a1 a2 t348 t349 false)) = some (r1, r2) := H
  have A5 := am A50
  clear A50
  have HC6 := am H
  clear H
  go_enter Try.func22, Try.ntmps22
  go_upto_region 2 with (first | ((with_reducible refine gate_callee (f := 40) rfl ?_); refine goesL_ (some 11) rfl rfl Try.func40 (by kernel_rfl) rfl #[.int .u32 a1] rfl (by (try simp only [List.map_toArray, List.map_cons, List.map_nil]); first | done | rfl | (simp only [List.length_drop, List.length_take]; rfl)) ?_; (with_reducible refine (lamplighterref01_Signed.calls a1 t348 _ A4.out).mono ?_); rintro e w' ⟨rfl, ⟨nd, rfl⟩⟩; refine ⟨_, rfl, ?_⟩) | ((with_reducible refine gate_callee (f := 40) rfl ?_); refine goesL_ (some 13) rfl rfl Try.func40 (by kernel_rfl) rfl #[.int .u32 a2] rfl (by (try simp only [List.map_toArray, List.map_cons, List.map_nil]); first | done | rfl | (simp only [List.length_drop, List.length_take]; rfl)) ?_; (with_reducible refine (lamplighterref01_Signed.calls a2 t349 _ A5.out).mono ?_); rintro e w' ⟨rfl, ⟨nd, rfl⟩⟩; refine ⟨_, rfl, ?_⟩))
  (try simp only [Act.put, List.setIfInBounds_toArray, List.set_cons_zero, List.set_cons_succ])
  go_cut [23] (fun v23 wc => ∃ (kq : Nat) (x23_5 : Bool), v23 = .bool x23_5 ∧ Aside0 (lamplighterref01_Do.j0 kq a0 a1 a2 t348 t349 x23_5 = some (r1, r2)) ∧ Aside0 (kq ≤ k) ∧ Aside0 (Below w.heap.size w wc))
  case first =>
    have H := HC6.out
    clear HC6
    by_cases c7 : a0 ≥ 4
    · rw [if_pos c7] at H
      have c7b0 : decide (4 ≤ a0) = true := decide_eq_true c7
      clear c7
      (first | rw [c7b0] | (simp only [i64_w, i32_w]; rw [c7b0]) | skip)
      by_cases c8 : a0 ≤ 7
      · rw [if_pos c8] at H
        have c8b0 : decide (a0 ≤ 7) = true := decide_eq_true c8
        clear c8
        have H' := am H
        clear H
        go_wp2
        go_meet
        case rel => exact ⟨_, ((a2 == 0)), (by first | rfl | (simp; done) | (simp [*]; done)), H', ⟨by first | omega | exact Nat.le_refl _⟩, ⟨by repeat (first | (with_reducible first | exact HB.out | apply below_alloc | apply pw_below_drewN | apply below_drew1) | exact HB.out)⟩⟩
      · rw [if_neg c8] at H
        have c8b0 : decide (a0 ≤ 7) = false := decide_eq_false c8
        clear c8
        have H' := am H
        clear H
        go_wp2
        go_meet
        case rel => exact ⟨_, (false), (by first | rfl | (simp; done) | (simp [*]; done)), H', ⟨by first | omega | exact Nat.le_refl _⟩, ⟨by repeat (first | (with_reducible first | exact HB.out | apply below_alloc | apply pw_below_drewN | apply below_drew1) | exact HB.out)⟩⟩
    · rw [if_neg c7] at H
      have c7b0 : decide (4 ≤ a0) = false := decide_eq_false c7
      clear c7
      (first | rw [c7b0] | (simp only [i64_w, i32_w]; rw [c7b0]) | skip)
      have H' := am H
      clear H
      go_wp2
      go_meet
      case rel => exact ⟨_, (false), (by first | rfl | (simp; done) | (simp [*]; done)), H', ⟨by first | omega | exact Nat.le_refl _⟩, ⟨by repeat (first | (with_reducible first | exact HB.out | apply below_alloc | apply pw_below_drewN | apply below_drew1) | exact HB.out)⟩⟩
  case rest =>
    clear HC6
    try clear c2
    try clear p2
    try clear c4
    try clear c7
    try clear c7b0
    try clear c8
    try clear c8b0
    obtain ⟨kq, x23_5, rfl, HA, HJ5, HB⟩ := hcut
    cases kq with
    | zero => exact absurd HA.out (by simp [lamplighterref01_Do.j0])
    | succ kj5 =>
      have H := HA.out
      clear HA
      simp only [lamplighterref01_Do.j0] at H
      by_cases c9 : x23_5 = true
      · subst c9
        have H1 : (some (0, 12)) = some (r1, r2) := by rw [if_pos rfl] at H; exact H
        clear H
        have H := H1
        clear H1
        simp only [Option.some.injEq, Prod.mk.injEq] at H
        obtain ⟨rfl, rfl⟩ := H
        go_wp2
        go_ret2
        exact ⟨by first | rfl | (simp [errW_none, errW_some] <;> rfl) | (simp [*, errW_none, errW_some] <;> rfl), hbA HB⟩
      · replace c9 := Bool.eq_false_iff.mpr c9
        subst c9
        have H1 : (if a0 = 1 then (some ((a1 + a2) % 4294967296, 0)) else (if a0 = 2 then (some ((a1 - a2) % 4294967296, 0)) else (if a0 = 3 then (some ((a1 * a2) % 4294967296, 0)) else (if a0 = 4 then (if a2 = 0 then (none) else (some ((Int.tdiv a1 a2) % 4294967296, 0))) else (if a0 = 5 then (if a2 = 0 then (none) else (some (Int.tmod a1 a2, 0))) else (if a0 = 6 then (if t349 = 0 then (none) else (some ((wrap64 (Int.tdiv t348 t349)) % 4294967296, 0))) else (if a0 = 7 then (if t349 = 0 then (none) else (some ((Int.tmod t348 t349) % 4294967296, 0))) else (if a0 = 8 then (some (Go.bits .and .u32 a1 a2, 0)) else (if a0 = 9 then (some (Go.bits .or .u32 a1 a2, 0)) else (if a0 = 10 then (some (Go.bits .xor .u32 a1 a2, 0)) else (if a0 = 11 then (if a2 > 31 then (some (0, 0)) else (if 0 ≤ a2 then (some (shl .u32 a1 a2, 0)) else (none))) else (if a0 = 12 then (if a2 > 31 then (some (0, 0)) else (if 0 ≤ a2 then (some (shr .u32 a1 a2, 0)) else (none))) else (if a0 = 13 then (if 0 ≤ (mn a2 32) then (some ((t348 / 2 ^ (mn a2 32).toNat) % 4294967296, 0)) else (none)) else (if a0 = 14 then ((lamplighterref01_yes.f (a1 == a2)).bind fun t350 => (some (t350, 0))) else (if a0 = 15 then ((lamplighterref01_yes.f (a1 != a2)).bind fun t351 => (some (t351, 0))) else (if a0 = 16 then ((lamplighterref01_yes.f (decide (a1 < a2))).bind fun t352 => (some (t352, 0))) else (if a0 = 17 then ((lamplighterref01_yes.f (decide (a1 ≤ a2))).bind fun t353 => (some (t353, 0))) else (if a0 = 18 then ((lamplighterref01_yes.f (decide (t348 < t349))).bind fun t354 => (some (t354, 0))) else (if a0 = 19 then ((lamplighterref01_yes.f (decide (t348 ≤ t349))).bind fun t355 => (some (t355, 0))) else (some (0, 2))))))))))))))))))))) = some (r1, r2) := by rw [if_neg (show ¬ (false = true) by decide)] at H; exact H
        clear H
        have H := H1
        clear H1
        by_cases c10 : a0 = 1
        · rw [if_pos c10] at H
          have c10b0 : (a0 == 1) = true := beq_iff_eq.mpr c10
          have c10b1 : (a0 != 1) = false := bne_eq_false_iff_eq.mpr c10
          clear c10
          simp only [Option.some.injEq, Prod.mk.injEq] at H
          obtain ⟨rfl, rfl⟩ := H
          go_wp2
          go_ret2
          exact ⟨by first | rfl | (simp [errW_none, errW_some] <;> rfl) | (simp [*, errW_none, errW_some] <;> rfl), hbA HB⟩
        · rw [if_neg c10] at H
          have c10b0 : (a0 == 1) = false := beq_eq_false_iff_ne.mpr c10
          have c10b1 : (a0 != 1) = true := bne_iff_ne.mpr c10
          by_cases c11 : a0 = 2
          · rw [if_pos c11] at H
            have c11b0 : (a0 == 2) = true := beq_iff_eq.mpr c11
            have c11b1 : (a0 != 2) = false := bne_eq_false_iff_eq.mpr c11
            clear c11
            simp only [Option.some.injEq, Prod.mk.injEq] at H
            obtain ⟨rfl, rfl⟩ := H
            go_wp2
            go_ret2
            exact ⟨by first | rfl | (simp [errW_none, errW_some] <;> rfl) | (simp [*, errW_none, errW_some] <;> rfl), hbA HB⟩
          · rw [if_neg c11] at H
            have c11b0 : (a0 == 2) = false := beq_eq_false_iff_ne.mpr c11
            have c11b1 : (a0 != 2) = true := bne_iff_ne.mpr c11
            by_cases c12 : a0 = 3
            · rw [if_pos c12] at H
              have c12b0 : (a0 == 3) = true := beq_iff_eq.mpr c12
              have c12b1 : (a0 != 3) = false := bne_eq_false_iff_eq.mpr c12
              clear c12
              simp only [Option.some.injEq, Prod.mk.injEq] at H
              obtain ⟨rfl, rfl⟩ := H
              go_wp2
              go_ret2
              exact ⟨by first | rfl | (simp [errW_none, errW_some] <;> rfl) | (simp [*, errW_none, errW_some] <;> rfl), hbA HB⟩
            · rw [if_neg c12] at H
              have c12b0 : (a0 == 3) = false := beq_eq_false_iff_ne.mpr c12
              have c12b1 : (a0 != 3) = true := bne_iff_ne.mpr c12
              by_cases c13 : a0 = 4
              · rw [if_pos c13] at H
                have c13b0 : (a0 == 4) = true := beq_iff_eq.mpr c13
                have c13b1 : (a0 != 4) = false := bne_eq_false_iff_eq.mpr c13
                clear c13
                by_cases c14 : a2 = 0
                · rw [if_pos c14] at H
                  exact absurd H (by simp)
                · rw [if_neg c14] at H
                  have c14b0 : (a2 == 0) = false := beq_eq_false_iff_ne.mpr c14
                  have c14b1 : (a2 != 0) = true := bne_iff_ne.mpr c14
                  simp only [Option.some.injEq, Prod.mk.injEq] at H
                  obtain ⟨rfl, rfl⟩ := H
                  go_wp2
                  go_ret2
                  exact ⟨by first | rfl | (simp [errW_none, errW_some] <;> rfl) | (simp [*, errW_none, errW_some] <;> rfl), hbA HB⟩
              · rw [if_neg c13] at H
                have c13b0 : (a0 == 4) = false := beq_eq_false_iff_ne.mpr c13
                have c13b1 : (a0 != 4) = true := bne_iff_ne.mpr c13
                by_cases c15 : a0 = 5
                · rw [if_pos c15] at H
                  have c15b0 : (a0 == 5) = true := beq_iff_eq.mpr c15
                  have c15b1 : (a0 != 5) = false := bne_eq_false_iff_eq.mpr c15
                  clear c15
                  by_cases c16 : a2 = 0
                  · rw [if_pos c16] at H
                    exact absurd H (by simp)
                  · rw [if_neg c16] at H
                    have c16b0 : (a2 == 0) = false := beq_eq_false_iff_ne.mpr c16
                    have c16b1 : (a2 != 0) = true := bne_iff_ne.mpr c16
                    simp only [Option.some.injEq, Prod.mk.injEq] at H
                    obtain ⟨rfl, rfl⟩ := H
                    go_wp2
                    go_ret2
                    exact ⟨by first | rfl | (simp [errW_none, errW_some] <;> rfl) | (simp [*, errW_none, errW_some] <;> rfl), hbA HB⟩
                · rw [if_neg c15] at H
                  have c15b0 : (a0 == 5) = false := beq_eq_false_iff_ne.mpr c15
                  have c15b1 : (a0 != 5) = true := bne_iff_ne.mpr c15
                  by_cases c17 : a0 = 6
                  · rw [if_pos c17] at H
                    have c17b0 : (a0 == 6) = true := beq_iff_eq.mpr c17
                    have c17b1 : (a0 != 6) = false := bne_eq_false_iff_eq.mpr c17
                    clear c17
                    by_cases c18 : t349 = 0
                    · rw [if_pos c18] at H
                      exact absurd H (by simp)
                    · rw [if_neg c18] at H
                      have c18b0 : (t349 == 0) = false := beq_eq_false_iff_ne.mpr c18
                      have c18b1 : (t349 != 0) = true := bne_iff_ne.mpr c18
                      simp only [Option.some.injEq, Prod.mk.injEq] at H
                      obtain ⟨rfl, rfl⟩ := H
                      go_wp2
                      go_ret2
                      exact ⟨by first | rfl | (simp [errW_none, errW_some] <;> rfl) | (simp [*, errW_none, errW_some] <;> rfl), hbA HB⟩
                  · rw [if_neg c17] at H
                    have c17b0 : (a0 == 6) = false := beq_eq_false_iff_ne.mpr c17
                    have c17b1 : (a0 != 6) = true := bne_iff_ne.mpr c17
                    by_cases c19 : a0 = 7
                    · rw [if_pos c19] at H
                      have c19b0 : (a0 == 7) = true := beq_iff_eq.mpr c19
                      have c19b1 : (a0 != 7) = false := bne_eq_false_iff_eq.mpr c19
                      clear c19
                      by_cases c20 : t349 = 0
                      · rw [if_pos c20] at H
                        exact absurd H (by simp)
                      · rw [if_neg c20] at H
                        have c20b0 : (t349 == 0) = false := beq_eq_false_iff_ne.mpr c20
                        have c20b1 : (t349 != 0) = true := bne_iff_ne.mpr c20
                        simp only [Option.some.injEq, Prod.mk.injEq] at H
                        obtain ⟨rfl, rfl⟩ := H
                        go_wp2
                        go_ret2
                        exact ⟨by first | rfl | (simp [errW_none, errW_some] <;> rfl) | (simp [*, errW_none, errW_some] <;> rfl), hbA HB⟩
                    · rw [if_neg c19] at H
                      have c19b0 : (a0 == 7) = false := beq_eq_false_iff_ne.mpr c19
                      have c19b1 : (a0 != 7) = true := bne_iff_ne.mpr c19
                      by_cases c21 : a0 = 8
                      · rw [if_pos c21] at H
                        have c21b0 : (a0 == 8) = true := beq_iff_eq.mpr c21
                        have c21b1 : (a0 != 8) = false := bne_eq_false_iff_eq.mpr c21
                        clear c21
                        simp only [Option.some.injEq, Prod.mk.injEq] at H
                        obtain ⟨rfl, rfl⟩ := H
                        go_wp2
                        go_ret2
                        exact ⟨by first | rfl | (simp [errW_none, errW_some] <;> rfl) | (simp [*, errW_none, errW_some] <;> rfl), hbA HB⟩
                      · rw [if_neg c21] at H
                        have c21b0 : (a0 == 8) = false := beq_eq_false_iff_ne.mpr c21
                        have c21b1 : (a0 != 8) = true := bne_iff_ne.mpr c21
                        by_cases c22 : a0 = 9
                        · rw [if_pos c22] at H
                          have c22b0 : (a0 == 9) = true := beq_iff_eq.mpr c22
                          have c22b1 : (a0 != 9) = false := bne_eq_false_iff_eq.mpr c22
                          clear c22
                          simp only [Option.some.injEq, Prod.mk.injEq] at H
                          obtain ⟨rfl, rfl⟩ := H
                          go_wp2
                          go_ret2
                          exact ⟨by first | rfl | (simp [errW_none, errW_some] <;> rfl) | (simp [*, errW_none, errW_some] <;> rfl), hbA HB⟩
                        · rw [if_neg c22] at H
                          have c22b0 : (a0 == 9) = false := beq_eq_false_iff_ne.mpr c22
                          have c22b1 : (a0 != 9) = true := bne_iff_ne.mpr c22
                          by_cases c23 : a0 = 10
                          · rw [if_pos c23] at H
                            have c23b0 : (a0 == 10) = true := beq_iff_eq.mpr c23
                            have c23b1 : (a0 != 10) = false := bne_eq_false_iff_eq.mpr c23
                            clear c23
                            simp only [Option.some.injEq, Prod.mk.injEq] at H
                            obtain ⟨rfl, rfl⟩ := H
                            go_wp2
                            go_ret2
                            exact ⟨by first | rfl | (simp [errW_none, errW_some] <;> rfl) | (simp [*, errW_none, errW_some] <;> rfl), hbA HB⟩
                          · rw [if_neg c23] at H
                            have c23b0 : (a0 == 10) = false := beq_eq_false_iff_ne.mpr c23
                            have c23b1 : (a0 != 10) = true := bne_iff_ne.mpr c23
                            by_cases c24 : a0 = 11
                            · rw [if_pos c24] at H
                              have c24b0 : (a0 == 11) = true := beq_iff_eq.mpr c24
                              have c24b1 : (a0 != 11) = false := bne_eq_false_iff_eq.mpr c24
                              clear c24
                              by_cases c25 : a2 > 31
                              · rw [if_pos c25] at H
                                have c25b0 : decide (31 < a2) = true := decide_eq_true c25
                                clear c25
                                simp only [Option.some.injEq, Prod.mk.injEq] at H
                                obtain ⟨rfl, rfl⟩ := H
                                go_wp2
                                go_ret2
                                exact ⟨by first | rfl | (simp [errW_none, errW_some] <;> rfl) | (simp [*, errW_none, errW_some] <;> rfl), hbA HB⟩
                              · rw [if_neg c25] at H
                                have c25b0 : decide (31 < a2) = false := decide_eq_false c25
                                clear c25
                                by_cases c26 : 0 ≤ a2
                                · rw [if_pos c26] at H
                                  have c26b0 := eq_true c26
                                  have c26b1 : decide (0 ≤ a2) = true := decide_eq_true c26
                                  clear c26
                                  obtain ⟨ji27, hji27⟩ : ∃ j_ : Int, (shl .u32 a1 a2) = j_ := ⟨_, rfl⟩
                                  replace H : (some (ji27, 0)) = some (r1, r2) := by first | (rw [hji27] at H; exact H) | (simp only [hji27] at H ⊢; exact H)
                                  have hji27_ : (IntKind.u32.wrap (a1 * 2 ^ min a2.toNat 32)) = ji27 := hji27
                                  have hji27z : a2 ≤ 32 → (IntKind.u32.wrap (a1 * 2 ^ a2.toNat)) = ji27 := shl_small hji27
                                  simp only [Option.some.injEq, Prod.mk.injEq] at H
                                  obtain ⟨rfl, rfl⟩ := H
                                  go_wp2
                                  go_ret2
                                  exact ⟨by first | rfl | (simp [errW_none, errW_some] <;> rfl) | (simp only [← hji27]; first | rfl | (simp [errW_none, errW_some] <;> rfl)) | (simp [*, errW_none, errW_some] <;> rfl), hbA HB⟩
                                · rw [if_neg c26] at H
                                  exact absurd H (by simp)
                            · rw [if_neg c24] at H
                              have c24b0 : (a0 == 11) = false := beq_eq_false_iff_ne.mpr c24
                              have c24b1 : (a0 != 11) = true := bne_iff_ne.mpr c24
                              by_cases c28 : a0 = 12
                              · rw [if_pos c28] at H
                                have c28b0 : (a0 == 12) = true := beq_iff_eq.mpr c28
                                have c28b1 : (a0 != 12) = false := bne_eq_false_iff_eq.mpr c28
                                clear c28
                                by_cases c29 : a2 > 31
                                · rw [if_pos c29] at H
                                  have c29b0 : decide (31 < a2) = true := decide_eq_true c29
                                  clear c29
                                  simp only [Option.some.injEq, Prod.mk.injEq] at H
                                  obtain ⟨rfl, rfl⟩ := H
                                  go_wp2
                                  go_ret2
                                  exact ⟨by first | rfl | (simp [errW_none, errW_some] <;> rfl) | (simp [*, errW_none, errW_some] <;> rfl), hbA HB⟩
                                · rw [if_neg c29] at H
                                  have c29b0 : decide (31 < a2) = false := decide_eq_false c29
                                  clear c29
                                  by_cases c30 : 0 ≤ a2
                                  · rw [if_pos c30] at H
                                    have c30b0 := eq_true c30
                                    have c30b1 : decide (0 ≤ a2) = true := decide_eq_true c30
                                    clear c30
                                    obtain ⟨ji31, hji31⟩ : ∃ j_ : Int, (shr .u32 a1 a2) = j_ := ⟨_, rfl⟩
                                    replace H : (some (ji31, 0)) = some (r1, r2) := by first | (rw [hji31] at H; exact H) | (simp only [hji31] at H ⊢; exact H)
                                    have hji31_ : (a1 / 2 ^ min a2.toNat 32) = ji31 := hji31
                                    have hji31z : a2 ≤ 32 → (a1 / 2 ^ a2.toNat) = ji31 := shr_small hji31
                                    simp only [Option.some.injEq, Prod.mk.injEq] at H
                                    obtain ⟨rfl, rfl⟩ := H
                                    go_wp2
                                    go_ret2
                                    exact ⟨by first | rfl | (simp [errW_none, errW_some] <;> rfl) | (simp only [← hji31]; first | rfl | (simp [errW_none, errW_some] <;> rfl)) | (simp [*, errW_none, errW_some] <;> rfl), hbA HB⟩
                                  · rw [if_neg c30] at H
                                    exact absurd H (by simp)
                              · rw [if_neg c28] at H
                                have c28b0 : (a0 == 12) = false := beq_eq_false_iff_ne.mpr c28
                                have c28b1 : (a0 != 12) = true := bne_iff_ne.mpr c28
                                by_cases c32 : a0 = 13
                                · rw [if_pos c32] at H
                                  have c32b0 : (a0 == 13) = true := beq_iff_eq.mpr c32
                                  have c32b1 : (a0 != 13) = false := bne_eq_false_iff_eq.mpr c32
                                  clear c32
                                  obtain ⟨ji33, hji33⟩ : ∃ j_ : Int, (mn a2 32) = j_ := ⟨_, rfl⟩
                                  replace H : (if 0 ≤ (ji33) then (some ((t348 / 2 ^ (ji33).toNat) % 4294967296, 0)) else (none)) = some (r1, r2) := by first | (rw [hji33] at H; exact H) | (simp only [hji33] at H ⊢; exact H)
                                  (try (have hji33h : ji33 ≤ 32 := by (rw [← hji33]; unfold mn; (repeat' split) <;> omega)))
                                  (try (have hji33g : ji33 ≤ 64 := by omega))
                                  have hji33_ : (if 32 < a2 then 32 else a2) = ji33 := hji33
                                  by_cases c34 : 0 ≤ (ji33)
                                  · rw [if_pos c34] at H
                                    have c34b0 := eq_true c34
                                    have c34b1 : decide (0 ≤ (ji33)) = true := decide_eq_true c34
                                    clear c34
                                    simp only [Option.some.injEq, Prod.mk.injEq] at H
                                    obtain ⟨rfl, rfl⟩ := H
                                    go_wp2
                                    go_ret2
                                    exact ⟨by first | rfl | (simp [errW_none, errW_some] <;> rfl) | (simp only [← hji33]; first | rfl | (simp [errW_none, errW_some] <;> rfl)) | (simp [*, errW_none, errW_some] <;> rfl), hbA HB⟩
                                  · rw [if_neg c34] at H
                                    exact absurd H (by simp)
                                · rw [if_neg c32] at H
                                  have c32b0 : (a0 == 13) = false := beq_eq_false_iff_ne.mpr c32
                                  have c32b1 : (a0 != 13) = true := bne_iff_ne.mpr c32
                                  by_cases c35 : a0 = 14
                                  · rw [if_pos c35] at H
                                    have c35b0 : (a0 == 14) = true := beq_iff_eq.mpr c35
                                    have c35b1 : (a0 != 14) = false := bne_eq_false_iff_eq.mpr c35
                                    clear c35
                                    replace H := Option.bind_eq_some_iff.mp H
                                    obtain ⟨t350, A360, H⟩ := H
                                    replace H : (some (t350, 0)) = some (r1, r2) := H
                                    have A36 := am A360
                                    clear A360
                                    simp only [Option.some.injEq, Prod.mk.injEq] at H
                                    obtain ⟨rfl, rfl⟩ := H
                                    go_wp2_with (first | ((with_reducible refine gate_callee (f := 41) rfl ?_); refine goesL_ (some 103) rfl rfl Try.func41 (by kernel_rfl) rfl #[.bool (a1 == a2)] rfl (by (try simp only [List.map_toArray, List.map_cons, List.map_nil]); first | done | rfl | (simp only [List.length_drop, List.length_take]; rfl)) ?_; (with_reducible refine (lamplighterref01_yes.calls (a1 == a2) t350 _ A36.out).mono ?_); rintro e w' ⟨rfl, ⟨nd, rfl⟩⟩; refine ⟨_, rfl, ?_⟩))
                                    go_ret2
                                    exact ⟨by first | rfl | (simp [errW_none, errW_some] <;> rfl) | (simp [*, errW_none, errW_some] <;> rfl), hbA HB⟩
                                  · rw [if_neg c35] at H
                                    have c35b0 : (a0 == 14) = false := beq_eq_false_iff_ne.mpr c35
                                    have c35b1 : (a0 != 14) = true := bne_iff_ne.mpr c35
                                    by_cases c37 : a0 = 15
                                    · rw [if_pos c37] at H
                                      have c37b0 : (a0 == 15) = true := beq_iff_eq.mpr c37
                                      have c37b1 : (a0 != 15) = false := bne_eq_false_iff_eq.mpr c37
                                      clear c37
                                      replace H := Option.bind_eq_some_iff.mp H
                                      obtain ⟨t351, A380, H⟩ := H
                                      replace H : (some (t351, 0)) = some (r1, r2) := H
                                      have A38 := am A380
                                      clear A380
                                      simp only [Option.some.injEq, Prod.mk.injEq] at H
                                      obtain ⟨rfl, rfl⟩ := H
                                      go_wp2_with (first | ((with_reducible refine gate_callee (f := 41) rfl ?_); refine goesL_ (some 109) rfl rfl Try.func41 (by kernel_rfl) rfl #[.bool (a1 != a2)] rfl (by (try simp only [List.map_toArray, List.map_cons, List.map_nil]); first | done | rfl | (simp only [List.length_drop, List.length_take]; rfl)) ?_; (with_reducible refine (lamplighterref01_yes.calls (a1 != a2) t351 _ A38.out).mono ?_); rintro e w' ⟨rfl, ⟨nd, rfl⟩⟩; refine ⟨_, rfl, ?_⟩))
                                      go_ret2
                                      exact ⟨by first | rfl | (simp [errW_none, errW_some] <;> rfl) | (simp [*, errW_none, errW_some] <;> rfl), hbA HB⟩
                                    · rw [if_neg c37] at H
                                      have c37b0 : (a0 == 15) = false := beq_eq_false_iff_ne.mpr c37
                                      have c37b1 : (a0 != 15) = true := bne_iff_ne.mpr c37
                                      by_cases c39 : a0 = 16
                                      · rw [if_pos c39] at H
                                        have c39b0 : (a0 == 16) = true := beq_iff_eq.mpr c39
                                        have c39b1 : (a0 != 16) = false := bne_eq_false_iff_eq.mpr c39
                                        clear c39
                                        replace H := Option.bind_eq_some_iff.mp H
                                        obtain ⟨t352, A400, H⟩ := H
                                        replace H : (some (t352, 0)) = some (r1, r2) := H
                                        have A40 := am A400
                                        clear A400
                                        simp only [Option.some.injEq, Prod.mk.injEq] at H
                                        obtain ⟨rfl, rfl⟩ := H
                                        go_wp2_with (first | ((with_reducible refine gate_callee (f := 41) rfl ?_); refine goesL_ (some 115) rfl rfl Try.func41 (by kernel_rfl) rfl #[.bool (decide (a1 < a2))] rfl (by (try simp only [List.map_toArray, List.map_cons, List.map_nil]); first | done | rfl | (simp only [List.length_drop, List.length_take]; rfl)) ?_; (with_reducible refine (lamplighterref01_yes.calls (decide (a1 < a2)) t352 _ A40.out).mono ?_); rintro e w' ⟨rfl, ⟨nd, rfl⟩⟩; refine ⟨_, rfl, ?_⟩))
                                        go_ret2
                                        exact ⟨by first | rfl | (simp [errW_none, errW_some] <;> rfl) | (simp [*, errW_none, errW_some] <;> rfl), hbA HB⟩
                                      · rw [if_neg c39] at H
                                        have c39b0 : (a0 == 16) = false := beq_eq_false_iff_ne.mpr c39
                                        have c39b1 : (a0 != 16) = true := bne_iff_ne.mpr c39
                                        by_cases c41 : a0 = 17
                                        · rw [if_pos c41] at H
                                          have c41b0 : (a0 == 17) = true := beq_iff_eq.mpr c41
                                          have c41b1 : (a0 != 17) = false := bne_eq_false_iff_eq.mpr c41
                                          clear c41
                                          replace H := Option.bind_eq_some_iff.mp H
                                          obtain ⟨t353, A420, H⟩ := H
                                          replace H : (some (t353, 0)) = some (r1, r2) := H
                                          have A42 := am A420
                                          clear A420
                                          simp only [Option.some.injEq, Prod.mk.injEq] at H
                                          obtain ⟨rfl, rfl⟩ := H
                                          go_wp2_with (first | ((with_reducible refine gate_callee (f := 41) rfl ?_); refine goesL_ (some 121) rfl rfl Try.func41 (by kernel_rfl) rfl #[.bool (decide (a1 ≤ a2))] rfl (by (try simp only [List.map_toArray, List.map_cons, List.map_nil]); first | done | rfl | (simp only [List.length_drop, List.length_take]; rfl)) ?_; (with_reducible refine (lamplighterref01_yes.calls (decide (a1 ≤ a2)) t353 _ A42.out).mono ?_); rintro e w' ⟨rfl, ⟨nd, rfl⟩⟩; refine ⟨_, rfl, ?_⟩))
                                          go_ret2
                                          exact ⟨by first | rfl | (simp [errW_none, errW_some] <;> rfl) | (simp [*, errW_none, errW_some] <;> rfl), hbA HB⟩
                                        · rw [if_neg c41] at H
                                          have c41b0 : (a0 == 17) = false := beq_eq_false_iff_ne.mpr c41
                                          have c41b1 : (a0 != 17) = true := bne_iff_ne.mpr c41
                                          by_cases c43 : a0 = 18
                                          · rw [if_pos c43] at H
                                            have c43b0 : (a0 == 18) = true := beq_iff_eq.mpr c43
                                            have c43b1 : (a0 != 18) = false := bne_eq_false_iff_eq.mpr c43
                                            clear c43
                                            replace H := Option.bind_eq_some_iff.mp H
                                            obtain ⟨t354, A440, H⟩ := H
                                            replace H : (some (t354, 0)) = some (r1, r2) := H
                                            have A44 := am A440
                                            clear A440
                                            simp only [Option.some.injEq, Prod.mk.injEq] at H
                                            obtain ⟨rfl, rfl⟩ := H
                                            go_wp2_with (first | ((with_reducible refine gate_callee (f := 41) rfl ?_); refine goesL_ (some 127) rfl rfl Try.func41 (by kernel_rfl) rfl #[.bool (decide (t348 < t349))] rfl (by (try simp only [List.map_toArray, List.map_cons, List.map_nil]); first | done | rfl | (simp only [List.length_drop, List.length_take]; rfl)) ?_; (with_reducible refine (lamplighterref01_yes.calls (decide (t348 < t349)) t354 _ A44.out).mono ?_); rintro e w' ⟨rfl, ⟨nd, rfl⟩⟩; refine ⟨_, rfl, ?_⟩))
                                            go_ret2
                                            exact ⟨by first | rfl | (simp [errW_none, errW_some] <;> rfl) | (simp [*, errW_none, errW_some] <;> rfl), hbA HB⟩
                                          · rw [if_neg c43] at H
                                            have c43b0 : (a0 == 18) = false := beq_eq_false_iff_ne.mpr c43
                                            have c43b1 : (a0 != 18) = true := bne_iff_ne.mpr c43
                                            by_cases c45 : a0 = 19
                                            · rw [if_pos c45] at H
                                              have c45b0 : (a0 == 19) = true := beq_iff_eq.mpr c45
                                              have c45b1 : (a0 != 19) = false := bne_eq_false_iff_eq.mpr c45
                                              clear c45
                                              replace H := Option.bind_eq_some_iff.mp H
                                              obtain ⟨t355, A460, H⟩ := H
                                              replace H : (some (t355, 0)) = some (r1, r2) := H
                                              have A46 := am A460
                                              clear A460
                                              simp only [Option.some.injEq, Prod.mk.injEq] at H
                                              obtain ⟨rfl, rfl⟩ := H
                                              go_wp2_with (first | ((with_reducible refine gate_callee (f := 41) rfl ?_); refine goesL_ (some 133) rfl rfl Try.func41 (by kernel_rfl) rfl #[.bool (decide (t348 ≤ t349))] rfl (by (try simp only [List.map_toArray, List.map_cons, List.map_nil]); first | done | rfl | (simp only [List.length_drop, List.length_take]; rfl)) ?_; (with_reducible refine (lamplighterref01_yes.calls (decide (t348 ≤ t349)) t355 _ A46.out).mono ?_); rintro e w' ⟨rfl, ⟨nd, rfl⟩⟩; refine ⟨_, rfl, ?_⟩))
                                              go_ret2
                                              exact ⟨by first | rfl | (simp [errW_none, errW_some] <;> rfl) | (simp [*, errW_none, errW_some] <;> rfl), hbA HB⟩
                                            · rw [if_neg c45] at H
                                              have c45b0 : (a0 == 19) = false := beq_eq_false_iff_ne.mpr c45
                                              have c45b1 : (a0 != 19) = true := bne_iff_ne.mpr c45
                                              simp only [Option.some.injEq, Prod.mk.injEq] at H
                                              obtain ⟨rfl, rfl⟩ := H
                                              go_wp2
                                              go_ret2
                                              exact ⟨by first | rfl | (simp [errW_none, errW_some] <;> rfl) | (simp [*, errW_none, errW_some] <;> rfl), hbA HB⟩

/-! ### interval_Has: function 23 -/
def interval_Has.f (k : Nat) (a0_0 : Int) (a0_1 : Int) (a1 : Int) : Option (Bool) := (interval_may.f k (([(⟨a0_0, a0_1⟩ : S24)] : List (S24)))).bind fun t360 => (if t360 = true then (if a0_0 ≤ a1 then (some (decide (a1 ≤ a0_1))) else (some false)) else (some false))
theorem interval_Has.mono : ∀ a0 a1 a2 k, LeO (interval_Has.f k a0 a1 a2) (interval_Has.f (k + 1) a0 a1 a2) := by
  intro a0 a1 a2 k
  unfold interval_Has.f
  repeat' first
      | (with_reducible exact interval_may.mono _ _)
      | (with_reducible exact LeO.refl _)
      | (with_reducible exact LeO.none _)
      | (with_reducible refine LeO.ite ?_ ?_)
      | (with_reducible refine LeO.bind ?_ (fun _ => ?_))
      | exact interval_may.mono _ _
      | exact LeO.none _
      | refine LeO.ite ?_ ?_
      | refine LeO.bind ?_ (fun _ => ?_)
set_option maxHeartbeats 8000000 in
set_option maxRecDepth 100000 in
theorem interval_Has.calls (k : Nat) (a0_0 : Int) (a0_1 : Int) (a1 : Int) (r : Bool) (w : World) (h : interval_Has.f k a0_0 a0_1 a1 = some r) :
    Calls Try.prog 23 #[.agg #[.int .u32 a0_0, .int .u32 a0_1], .int .u32 a1] w fun e w' => e = .returned (.bool r) ∧ Below w.heap.size w w' := by
  have hu24 := Try.underlying24
  have HB := am (Below.refl w.heap.size w)
  have H : ((interval_may.f k (([(⟨a0_0, a0_1⟩ : S24)] : List (S24)))).bind fun t360 => (if t360 = true then (if a0_0 ≤ a1 then (some (decide (a1 ≤ a0_1))) else (some false)) else (some false))) = some r := h
  clear h
  obtain ⟨y357, hy357⟩ : ∃ y_ : List (S24), y_ = (([(⟨a0_0, a0_1⟩ : S24)] : List (S24))) := ⟨_, rfl⟩
  replace H : ((interval_may.f k y357).bind fun t360 => (if t360 = true then (if a0_0 ≤ a1 then (some (decide (a1 ≤ a0_1))) else (some false)) else (some false))) = some r := by first | (rw [hy357]; with_reducible exact H) | (have H2_ := (Option.bind_some _ _).symm.trans H; rw [hy357]; with_reducible exact H2_) | (have H2_ := (Option.bind_some _ _).symm.trans H; with_reducible exact H2_) | with_reducible exact H | (rw [hy357]; exact H) | exact H
  have Ny357 := am hy357
  clear hy357
  replace H := Option.bind_eq_some_iff.mp H
  obtain ⟨t360, A30, H⟩ := H
  replace H : (if t360 = true then (if a0_0 ≤ a1 then (some (decide (a1 ≤ a0_1))) else (some false)) else (some false)) = some r := H
  have A3 := am A30
  clear A30
  by_cases c4 : t360 = true
  · subst c4
    have H1 : (if a0_0 ≤ a1 then (some (decide (a1 ≤ a0_1))) else (some false)) = some r := by rw [if_pos rfl] at H; exact H
    clear H
    have H := H1
    clear H1
    by_cases c5 : a0_0 ≤ a1
    · rw [if_pos c5] at H
      have c5b0 : decide (a0_0 ≤ a1) = true := decide_eq_true c5
      clear c5
      obtain rfl := Option.some.inj H
      go_enter Try.func23, Try.ntmps23
      go_wp2_with (first | ((with_reducible refine gate_dst (N := 2) rfl ?_); refine bxE 2 #[.int .u32 a0_0, .int .u32 a0_1] 24 ?_; intro gb356 hg w6 hbox hb; have n0_ := am (below_step (hbA HB) hb); have n1_ := am (hbox); have n2_ := gwA hg HB; have n3_ := gwA hg HB; clear HB; have HB := n0_; have BK356 := n1_; have GW356 := n2_; have GE356 := n3_; clear n0_ n1_ n2_ n3_; clear hb hbox hg; have hcz7_0 : w6.cell? ⟨gb356, 0, none⟩ = some (.int .u32 a0_0) := cz BK356; have hcz7_1 : w6.cell? ⟨gb356, 1, none⟩ = some (.int .u32 a0_1) := cz BK356; have hfz7_0 := blk_frozen BK356.out 0; have hfz7_1 := blk_frozen BK356.out 1) | ((with_reducible refine gate_dst (N := 6) rfl ?_); refine Kd.R_lit k24 _ 24 ?hg (N := 6) ?hd (xs := ([(⟨a0_0, a0_1⟩ : S24)] : List (S24))) (inner := [.int .u32 a0_0, .int .u32 a0_1]) (ok := fun _ => True) (okp := fun _ => True) ?hr ?hp (fun _ hk => hk) trivial (Below.refl _ _) (Nat.le_refl _) (by simp) ?_; (case hd => rfl); (case hg => rfl); (case hr => first | (go_simp; done) | (go_simp; rfl)); (case hp => exact (Reps.c2 (show Kd.M k24 _ _ _ (⟨a0_0, a0_1⟩ : S24) [.int .u32 a0_0, .int .u32 a0_1] from (k24_mkM _ _ _ (⟨a0_0, a0_1⟩ : S24) )) (Reps.none _ _))); intro v358 w8 ho9 hb hg_ hnew_; clear hg_ hnew_; (first | rw [← Ny357.out] at ho9 | (simp only [Int.reduceToNat] at ho9; rw [← Ny357.out] at ho9)); have n0_ := am (Kd.R_lower (Kd.R_newB ho9 (g := gb356) (o := .cells #[.int .u32 a0_0, .int .u32 a0_1] 24 (0, 0)) (bkA BK356)) (below_size (hbA HB))); have n1_ := am (blk_below (g := gb356) (o := .cells #[.int .u32 a0_0, .int .u32 a0_1] 24 (0, 0)) (bkA BK356) hb); have n2_ := am (below_step (hbA HB) hb); clear BK356; clear HB; have HO359 := n0_; have BK356 := n1_; have HB := n2_; clear n0_ n1_ n2_; clear hb ho9; obtain ⟨Ao10, co10, eo10⟩ := Kd.R_slice HO359.out; subst eo10) | ((with_reducible refine gate_callee (f := 36) rfl ?_); refine goesL_ (some 7) rfl rfl Try.func36 (by kernel_rfl) rfl #[.slice Ao10 y357.length co10] rfl (by (try simp only [List.map_toArray, List.map_cons, List.map_nil]); first | done | rfl | (simp only [List.length_drop, List.length_take]; rfl)) ?_; (with_reducible refine (interval_may.calls k _ _ y357 true _ ?side1 ?side2 A3.out).mono ?_); (case side1 => repeat (first | exact (Kd.R_reads' HO359.out).2.2 | (with_reducible refine Kd.C_alloc ?_ _) | (with_reducible refine Kd.C_drewN ?_ _) | (with_reducible refine Kd.C_drew ?_))); (case side2 => exact (Kd.R_reads' HO359.out).2.1); rintro e w11 ⟨rfl, hb⟩; refine ⟨_, rfl, ?_⟩; have n0_ := am (Kd.R_below (by (with_reducible repeat (first | apply Kd.R_alloc | apply Kd.R_drewN | apply Kd.R_drew)); exact HO359.out) hb); have n1_ := am (blk_below (g := gb356) (o := .cells #[.int .u32 a0_0, .int .u32 a0_1] 24 (0, 0)) (bkA BK356) hb); have n2_ := am (below_step (hbA HB) hb); clear HO359; clear BK356; clear HB; have HO359 := n0_; have BK356 := n1_; have HB := n2_; clear n0_ n1_ n2_; (try clear hb); (try clear hb2); (try clear hk); (try clear hi); have hcz12_0 : w11.cell? ⟨gb356, 0, none⟩ = some (.int .u32 a0_0) := cz BK356; have hcz12_1 : w11.cell? ⟨gb356, 1, none⟩ = some (.int .u32 a0_1) := cz BK356; have hfz12_0 := blk_frozen BK356.out 0; have hfz12_1 := blk_frozen BK356.out 1))
      go_ret
      exact ⟨by first | rfl | (simp [errW_none, errW_some] <;> rfl) | (simp [*, errW_none, errW_some] <;> rfl), hbA HB⟩
    · rw [if_neg c5] at H
      have c5b0 : decide (a0_0 ≤ a1) = false := decide_eq_false c5
      clear c5
      obtain rfl := Option.some.inj H
      go_enter Try.func23, Try.ntmps23
      go_wp2_with (first | ((with_reducible refine gate_dst (N := 2) rfl ?_); refine bxE 2 #[.int .u32 a0_0, .int .u32 a0_1] 24 ?_; intro gb356 hg w13 hbox hb; have n0_ := am (below_step (hbA HB) hb); have n1_ := am (hbox); have n2_ := gwA hg HB; have n3_ := gwA hg HB; clear HB; have HB := n0_; have BK356 := n1_; have GW356 := n2_; have GE356 := n3_; clear n0_ n1_ n2_ n3_; clear hb hbox hg; have hcz14_0 : w13.cell? ⟨gb356, 0, none⟩ = some (.int .u32 a0_0) := cz BK356; have hcz14_1 : w13.cell? ⟨gb356, 1, none⟩ = some (.int .u32 a0_1) := cz BK356; have hfz14_0 := blk_frozen BK356.out 0; have hfz14_1 := blk_frozen BK356.out 1) | ((with_reducible refine gate_dst (N := 6) rfl ?_); refine Kd.R_lit k24 _ 24 ?hg (N := 6) ?hd (xs := ([(⟨a0_0, a0_1⟩ : S24)] : List (S24))) (inner := [.int .u32 a0_0, .int .u32 a0_1]) (ok := fun _ => True) (okp := fun _ => True) ?hr ?hp (fun _ hk => hk) trivial (Below.refl _ _) (Nat.le_refl _) (by simp) ?_; (case hd => rfl); (case hg => rfl); (case hr => first | (go_simp; done) | (go_simp; rfl)); (case hp => exact (Reps.c2 (show Kd.M k24 _ _ _ (⟨a0_0, a0_1⟩ : S24) [.int .u32 a0_0, .int .u32 a0_1] from (k24_mkM _ _ _ (⟨a0_0, a0_1⟩ : S24) )) (Reps.none _ _))); intro v358 w15 ho16 hb hg_ hnew_; clear hg_ hnew_; (first | rw [← Ny357.out] at ho16 | (simp only [Int.reduceToNat] at ho16; rw [← Ny357.out] at ho16)); have n0_ := am (Kd.R_lower (Kd.R_newB ho16 (g := gb356) (o := .cells #[.int .u32 a0_0, .int .u32 a0_1] 24 (0, 0)) (bkA BK356)) (below_size (hbA HB))); have n1_ := am (blk_below (g := gb356) (o := .cells #[.int .u32 a0_0, .int .u32 a0_1] 24 (0, 0)) (bkA BK356) hb); have n2_ := am (below_step (hbA HB) hb); clear BK356; clear HB; have HO359 := n0_; have BK356 := n1_; have HB := n2_; clear n0_ n1_ n2_; clear hb ho16; obtain ⟨Ao17, co17, eo17⟩ := Kd.R_slice HO359.out; subst eo17) | ((with_reducible refine gate_callee (f := 36) rfl ?_); refine goesL_ (some 7) rfl rfl Try.func36 (by kernel_rfl) rfl #[.slice Ao17 y357.length co17] rfl (by (try simp only [List.map_toArray, List.map_cons, List.map_nil]); first | done | rfl | (simp only [List.length_drop, List.length_take]; rfl)) ?_; (with_reducible refine (interval_may.calls k _ _ y357 true _ ?side1 ?side2 A3.out).mono ?_); (case side1 => repeat (first | exact (Kd.R_reads' HO359.out).2.2 | (with_reducible refine Kd.C_alloc ?_ _) | (with_reducible refine Kd.C_drewN ?_ _) | (with_reducible refine Kd.C_drew ?_))); (case side2 => exact (Kd.R_reads' HO359.out).2.1); rintro e w18 ⟨rfl, hb⟩; refine ⟨_, rfl, ?_⟩; have n0_ := am (Kd.R_below (by (with_reducible repeat (first | apply Kd.R_alloc | apply Kd.R_drewN | apply Kd.R_drew)); exact HO359.out) hb); have n1_ := am (blk_below (g := gb356) (o := .cells #[.int .u32 a0_0, .int .u32 a0_1] 24 (0, 0)) (bkA BK356) hb); have n2_ := am (below_step (hbA HB) hb); clear HO359; clear BK356; clear HB; have HO359 := n0_; have BK356 := n1_; have HB := n2_; clear n0_ n1_ n2_; (try clear hb); (try clear hb2); (try clear hk); (try clear hi); have hcz19_0 : w18.cell? ⟨gb356, 0, none⟩ = some (.int .u32 a0_0) := cz BK356; have hcz19_1 : w18.cell? ⟨gb356, 1, none⟩ = some (.int .u32 a0_1) := cz BK356; have hfz19_0 := blk_frozen BK356.out 0; have hfz19_1 := blk_frozen BK356.out 1))
      go_ret
      exact ⟨by first | rfl | (simp [errW_none, errW_some] <;> rfl) | (simp [*, errW_none, errW_some] <;> rfl), hbA HB⟩
  · replace c4 := Bool.eq_false_iff.mpr c4
    subst c4
    have H1 : (some false) = some r := by rw [if_neg (show ¬ (false = true) by decide)] at H; exact H
    clear H
    have H := H1
    clear H1
    obtain rfl := Option.some.inj H
    go_enter Try.func23, Try.ntmps23
    go_wp2_with (first | ((with_reducible refine gate_dst (N := 2) rfl ?_); refine bxE 2 #[.int .u32 a0_0, .int .u32 a0_1] 24 ?_; intro gb356 hg w20 hbox hb; have n0_ := am (below_step (hbA HB) hb); have n1_ := am (hbox); have n2_ := gwA hg HB; have n3_ := gwA hg HB; clear HB; have HB := n0_; have BK356 := n1_; have GW356 := n2_; have GE356 := n3_; clear n0_ n1_ n2_ n3_; clear hb hbox hg; have hcz21_0 : w20.cell? ⟨gb356, 0, none⟩ = some (.int .u32 a0_0) := cz BK356; have hcz21_1 : w20.cell? ⟨gb356, 1, none⟩ = some (.int .u32 a0_1) := cz BK356; have hfz21_0 := blk_frozen BK356.out 0; have hfz21_1 := blk_frozen BK356.out 1) | ((with_reducible refine gate_dst (N := 6) rfl ?_); refine Kd.R_lit k24 _ 24 ?hg (N := 6) ?hd (xs := ([(⟨a0_0, a0_1⟩ : S24)] : List (S24))) (inner := [.int .u32 a0_0, .int .u32 a0_1]) (ok := fun _ => True) (okp := fun _ => True) ?hr ?hp (fun _ hk => hk) trivial (Below.refl _ _) (Nat.le_refl _) (by simp) ?_; (case hd => rfl); (case hg => rfl); (case hr => first | (go_simp; done) | (go_simp; rfl)); (case hp => exact (Reps.c2 (show Kd.M k24 _ _ _ (⟨a0_0, a0_1⟩ : S24) [.int .u32 a0_0, .int .u32 a0_1] from (k24_mkM _ _ _ (⟨a0_0, a0_1⟩ : S24) )) (Reps.none _ _))); intro v358 w22 ho23 hb hg_ hnew_; clear hg_ hnew_; (first | rw [← Ny357.out] at ho23 | (simp only [Int.reduceToNat] at ho23; rw [← Ny357.out] at ho23)); have n0_ := am (Kd.R_lower (Kd.R_newB ho23 (g := gb356) (o := .cells #[.int .u32 a0_0, .int .u32 a0_1] 24 (0, 0)) (bkA BK356)) (below_size (hbA HB))); have n1_ := am (blk_below (g := gb356) (o := .cells #[.int .u32 a0_0, .int .u32 a0_1] 24 (0, 0)) (bkA BK356) hb); have n2_ := am (below_step (hbA HB) hb); clear BK356; clear HB; have HO359 := n0_; have BK356 := n1_; have HB := n2_; clear n0_ n1_ n2_; clear hb ho23; obtain ⟨Ao24, co24, eo24⟩ := Kd.R_slice HO359.out; subst eo24) | ((with_reducible refine gate_callee (f := 36) rfl ?_); refine goesL_ (some 7) rfl rfl Try.func36 (by kernel_rfl) rfl #[.slice Ao24 y357.length co24] rfl (by (try simp only [List.map_toArray, List.map_cons, List.map_nil]); first | done | rfl | (simp only [List.length_drop, List.length_take]; rfl)) ?_; (with_reducible refine (interval_may.calls k _ _ y357 false _ ?side1 ?side2 A3.out).mono ?_); (case side1 => repeat (first | exact (Kd.R_reads' HO359.out).2.2 | (with_reducible refine Kd.C_alloc ?_ _) | (with_reducible refine Kd.C_drewN ?_ _) | (with_reducible refine Kd.C_drew ?_))); (case side2 => exact (Kd.R_reads' HO359.out).2.1); rintro e w25 ⟨rfl, hb⟩; refine ⟨_, rfl, ?_⟩; have n0_ := am (Kd.R_below (by (with_reducible repeat (first | apply Kd.R_alloc | apply Kd.R_drewN | apply Kd.R_drew)); exact HO359.out) hb); have n1_ := am (blk_below (g := gb356) (o := .cells #[.int .u32 a0_0, .int .u32 a0_1] 24 (0, 0)) (bkA BK356) hb); have n2_ := am (below_step (hbA HB) hb); clear HO359; clear BK356; clear HB; have HO359 := n0_; have BK356 := n1_; have HB := n2_; clear n0_ n1_ n2_; (try clear hb); (try clear hb2); (try clear hk); (try clear hi)))
    go_ret
    exact ⟨by first | rfl | (simp [errW_none, errW_some] <;> rfl) | (simp [*, errW_none, errW_some] <;> rfl), hbA HB⟩

/-! ### lamplighterref01_One: function 24 -/
def lamplighterref01_One.f (a0 : Int) (a1 : Int) : Option (Int × Int) := if a0 = 1 then (some ((-a1) % 4294967296, 0)) else (if a0 = 2 then (some (Go.bits .xor .u32 IntKind.u32.max a1, 0)) else (if a0 = 3 then ((lamplighterref01_yes.f (a1 == 0)).bind fun t361 => (some (t361, 0))) else (some (0, 2))))
set_option maxHeartbeats 8000000 in
set_option maxRecDepth 100000 in
theorem lamplighterref01_One.calls (a0 : Int) (a1 : Int) (r1 : Int) (r2 : Int) (w : World) (h : lamplighterref01_One.f a0 a1 = some (r1, r2)) :
    Calls Try.prog 24 #[.int .i64 a0, .int .u32 a1] w fun e w' => e = .returned (.tuple #[.int .u32 r1, .int .i64 r2]) ∧ Drawn0 w w' := by
  have hsg_u32 : IntKind.u32.signed = false := rfl
  have H : (if a0 = 1 then (some ((-a1) % 4294967296, 0)) else (if a0 = 2 then (some (Go.bits .xor .u32 IntKind.u32.max a1, 0)) else (if a0 = 3 then ((lamplighterref01_yes.f (a1 == 0)).bind fun t361 => (some (t361, 0))) else (some (0, 2))))) = some (r1, r2) := h
  clear h
  by_cases c3 : a0 = 1
  · rw [if_pos c3] at H
    have c3b0 : (a0 == 1) = true := beq_iff_eq.mpr c3
    have c3b1 : (a0 != 1) = false := bne_eq_false_iff_eq.mpr c3
    clear c3
    simp only [Option.some.injEq, Prod.mk.injEq] at H
    obtain ⟨rfl, rfl⟩ := H
    go_enter Try.func24, Try.ntmps24
    go_wp2
    go_ret2
    exact ⟨by first | rfl | (simp; done) | (simp [*]; done), by repeat (first | exact Drawn0.refl _ | apply Drawn0.step)⟩
  · rw [if_neg c3] at H
    have c3b0 : (a0 == 1) = false := beq_eq_false_iff_ne.mpr c3
    have c3b1 : (a0 != 1) = true := bne_iff_ne.mpr c3
    by_cases c4 : a0 = 2
    · rw [if_pos c4] at H
      have c4b0 : (a0 == 2) = true := beq_iff_eq.mpr c4
      have c4b1 : (a0 != 2) = false := bne_eq_false_iff_eq.mpr c4
      clear c4
      simp only [Option.some.injEq, Prod.mk.injEq] at H
      obtain ⟨rfl, rfl⟩ := H
      go_enter Try.func24, Try.ntmps24
      go_wp2
      go_ret2
      exact ⟨by first | rfl | (simp; done) | (simp [*]; done), by repeat (first | exact Drawn0.refl _ | apply Drawn0.step)⟩
    · rw [if_neg c4] at H
      have c4b0 : (a0 == 2) = false := beq_eq_false_iff_ne.mpr c4
      have c4b1 : (a0 != 2) = true := bne_iff_ne.mpr c4
      by_cases c5 : a0 = 3
      · rw [if_pos c5] at H
        have c5b0 : (a0 == 3) = true := beq_iff_eq.mpr c5
        have c5b1 : (a0 != 3) = false := bne_eq_false_iff_eq.mpr c5
        clear c5
        replace H := Option.bind_eq_some_iff.mp H
        obtain ⟨t361, A60, H⟩ := H
        replace H : (some (t361, 0)) = some (r1, r2) := H
        have A6 := am A60
        clear A60
        simp only [Option.some.injEq, Prod.mk.injEq] at H
        obtain ⟨rfl, rfl⟩ := H
        go_enter Try.func24, Try.ntmps24
        go_wp2_with (first | ((with_reducible refine gate_callee (f := 41) rfl ?_); refine goesL_ (some 19) rfl rfl Try.func41 (by kernel_rfl) rfl #[.bool (a1 == 0)] rfl (by (try simp only [List.map_toArray, List.map_cons, List.map_nil]); first | done | rfl | (simp only [List.length_drop, List.length_take]; rfl)) ?_; (with_reducible refine (lamplighterref01_yes.calls (a1 == 0) t361 _ A6.out).mono ?_); rintro e w' ⟨rfl, ⟨nd, rfl⟩⟩; refine ⟨_, rfl, ?_⟩))
        go_ret2
        exact ⟨by first | rfl | (simp; done) | (simp [*]; done), by repeat (first | exact Drawn0.refl _ | apply Drawn0.step)⟩
      · rw [if_neg c5] at H
        have c5b0 : (a0 == 3) = false := beq_eq_false_iff_ne.mpr c5
        have c5b1 : (a0 != 3) = true := bne_iff_ne.mpr c5
        simp only [Option.some.injEq, Prod.mk.injEq] at H
        obtain ⟨rfl, rfl⟩ := H
        go_enter Try.func24, Try.ntmps24
        go_wp2
        go_ret2
        exact ⟨by first | rfl | (simp; done) | (simp [*]; done), by repeat (first | exact Drawn0.refl _ | apply Drawn0.step)⟩

/-! ### lamplighterref01_Cut: function 25 -/
def lamplighterref01_Cut.f (a0 : Int) (a1 : Int) : Option (Int × Int) := if a1 = 8 then (some (Int.tmod a0 256, 0)) else (if a1 = 16 then (some (Int.tmod a0 65536, 0)) else (if a1 = 32 then (some (a0, 0)) else (some (0, 2))))
set_option maxHeartbeats 8000000 in
set_option maxRecDepth 100000 in
theorem lamplighterref01_Cut.calls (a0 : Int) (a1 : Int) (r1 : Int) (r2 : Int) (w : World) (h : lamplighterref01_Cut.f a0 a1 = some (r1, r2)) :
    Calls Try.prog 25 #[.int .u32 a0, .int .i64 a1] w fun e w' => e = .returned (.tuple #[.int .u32 r1, .int .i64 r2]) ∧ Drawn0 w w' := by
  have H : (if a1 = 8 then (some (Int.tmod a0 256, 0)) else (if a1 = 16 then (some (Int.tmod a0 65536, 0)) else (if a1 = 32 then (some (a0, 0)) else (some (0, 2))))) = some (r1, r2) := h
  clear h
  by_cases c3 : a1 = 8
  · rw [if_pos c3] at H
    have c3b0 : (a1 == 8) = true := beq_iff_eq.mpr c3
    have c3b1 : (a1 != 8) = false := bne_eq_false_iff_eq.mpr c3
    clear c3
    simp only [Option.some.injEq, Prod.mk.injEq] at H
    obtain ⟨rfl, rfl⟩ := H
    go_enter Try.func25, Try.ntmps25
    go_wp2
    go_ret2
    exact ⟨by first | rfl | (simp; done) | (simp [*]; done), by repeat (first | exact Drawn0.refl _ | apply Drawn0.step)⟩
  · rw [if_neg c3] at H
    have c3b0 : (a1 == 8) = false := beq_eq_false_iff_ne.mpr c3
    have c3b1 : (a1 != 8) = true := bne_iff_ne.mpr c3
    by_cases c4 : a1 = 16
    · rw [if_pos c4] at H
      have c4b0 : (a1 == 16) = true := beq_iff_eq.mpr c4
      have c4b1 : (a1 != 16) = false := bne_eq_false_iff_eq.mpr c4
      clear c4
      simp only [Option.some.injEq, Prod.mk.injEq] at H
      obtain ⟨rfl, rfl⟩ := H
      go_enter Try.func25, Try.ntmps25
      go_wp2
      go_ret2
      exact ⟨by first | rfl | (simp; done) | (simp [*]; done), by repeat (first | exact Drawn0.refl _ | apply Drawn0.step)⟩
    · rw [if_neg c4] at H
      have c4b0 : (a1 == 16) = false := beq_eq_false_iff_ne.mpr c4
      have c4b1 : (a1 != 16) = true := bne_iff_ne.mpr c4
      by_cases c5 : a1 = 32
      · rw [if_pos c5] at H
        have c5b0 : (a1 == 32) = true := beq_iff_eq.mpr c5
        have c5b1 : (a1 != 32) = false := bne_eq_false_iff_eq.mpr c5
        clear c5
        simp only [Option.some.injEq, Prod.mk.injEq] at H
        obtain ⟨rfl, rfl⟩ := H
        go_enter Try.func25, Try.ntmps25
        go_wp2
        go_ret2
        exact ⟨by first | rfl | (simp; done) | (simp [*]; done), by repeat (first | exact Drawn0.refl _ | apply Drawn0.step)⟩
      · rw [if_neg c5] at H
        have c5b0 : (a1 == 32) = false := beq_eq_false_iff_ne.mpr c5
        have c5b1 : (a1 != 32) = true := bne_iff_ne.mpr c5
        simp only [Option.some.injEq, Prod.mk.injEq] at H
        obtain ⟨rfl, rfl⟩ := H
        go_enter Try.func25, Try.ntmps25
        go_wp2
        go_ret2
        exact ⟨by first | rfl | (simp; done) | (simp [*]; done), by repeat (first | exact Drawn0.refl _ | apply Drawn0.step)⟩

end Go.Proofs.Ytmhmfnjbioplhaa.PIntervalSound
