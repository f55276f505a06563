/- Contracts of Go functions of the given program, written by a program of this session: wherever the plain Lean function NAME.f answers 'some r', the call of the Go function returns r and leaves what was in memory as it was. Conditions: none beyond those that each theorem names. -/
import Derived.Test.YtmhmfnjbioplhaaPIntervalTurnsx0
import Derived.Test.YtmhmfnjbioplhaaPIntervalTurnsx1
import Derived.Test.YtmhmfnjbioplhaaPIntervalTurnsx4
import Derived.Test.YtmhmfnjbioplhaaPIntervalTurnsx6
import Derived.Test.YtmhmfnjbioplhaaPIntervalTurnsx7
namespace Go.Proofs.Ytmhmfnjbioplhaa.PIntervalTurns
open Go.RowKit Go.Proofs.YtmhmfnjbioplhaaW.PrintWords Go.Proofs.YtmhmfnjbioplhaaW.PrintLast Go.Proofs.YtmhmfnjbioplhaaW.PrintMore Go.Proofs.Ytmhmfnjbioplhaa.Help
attribute [local go_sem] max2_int min2_int max_two min_two max_three min_three max_four min_four   -- for this text's walks alone
set_option linter.unusedVariables false
set_option linter.unusedSimpArgs false

attribute [local go_sem high] eqA24
/-! ### lamplighterlaw19_IntervalTurns: function 5 -/
mutual
def lamplighterlaw19_IntervalTurns.j0 : Nat → Int → Int → Bool → Int → Int → Int → Int → Option (Bool)
  | 0, _, _, _, _, _, _, _ => none
  | k + 1, x2, x3, x40, x346000, x346001, x347000, x347001 => if x40 = true then (some true) else ((some (([1, 3, 8, 9, 10, 14, 15] : List Int) : List Int)).bind fun y350 => ((lamplighterkit_Pick.f x2 7).bind fun t353 => (if 0 ≤ t353 then (if t353 < (y350.length : Int) then ((interval_Do.f k (rd y350 t353) x346000 x346001 x347000 x347001).bind fun bt355 => ((interval_Do.f k (rd y350 t353) x347000 x347001 x346000 x346001).bind fun bt360 => (if (!(bt355.1 == bt360.1) || (!(bt355.2.1 == bt360.2.1))) = true then (lamplighterlaw19_IntervalTurns.j1 k x3 true x346000 x346001) else (if bt355.2.2.1 = true then (if bt360.2.2.1 = true then (if bt355.2.2.2 = 0 then (lamplighterlaw19_IntervalTurns.j1 k x3 (bt360.2.2.2 != 0) x346000 x346001) else (lamplighterlaw19_IntervalTurns.j1 k x3 true x346000 x346001)) else (lamplighterlaw19_IntervalTurns.j1 k x3 true x346000 x346001)) else (lamplighterlaw19_IntervalTurns.j1 k x3 true x346000 x346001))))) else (none)) else (none))))
def lamplighterlaw19_IntervalTurns.j1 : Nat → Int → Bool → Int → Int → Option (Bool)
  | 0, _, _, _, _ => none
  | k + 1, x3, x80, x346000, x346001 => if x80 = true then (some false) else ((some (([8, 16, 32] : List Int) : List Int)).bind fun y365 => ((lamplighterkit_Pick.f x3 3).bind fun t368 => (if 0 ≤ t368 then (if t368 < (y365.length : Int) then ((interval_Cut.f k x346000 x346001 (rd y365 t368)).bind fun bt370 => ((interval_Cut.f k bt370.1 bt370.2.1 (rd y365 t368)).bind fun bt374 => ((interval_Cut.f k bt370.1 bt370.2.1 32).bind fun bt378 => ((interval_Un.f k 2 x346000 x346001).bind fun bt382 => ((interval_Un.f k 2 bt382.1 bt382.2.1).bind fun bt386 => ((interval_Un.f k 1 x346000 x346001).bind fun bt390 => ((interval_Un.f k 1 bt390.1 bt390.2.1).bind fun bt394 => (if (bt370.1 == bt374.1 && (bt370.2.1 == bt374.2.1)) = true then (if (bt378.1 == bt370.1 && (bt378.2.1 == bt370.2.1)) = true then (if (bt386.1 == x346000 && (bt386.2.1 == x346001)) = true then ((interval_Within.f k x346000 x346001 bt394.1 bt394.2.1).bind fun t398 => (some t398)) else (some false)) else (some false)) else (some false))))))))) else (none)) else (none))))
end
def lamplighterlaw19_IntervalTurns.f (k : Nat) (a0_0 : Int) (a0_1 : Int) (a1_0 : Int) (a1_1 : Int) (a2 : Int) (a3 : Int) : Option (Bool) := (lamplighterlaw19_lives.f k).bind fun t347 => (if t347 = true then ((interval_Check.f a0_0 a0_1).bind fun t348 => (if t348 = 0 then ((interval_Check.f a1_0 a1_1).bind fun t349 => (lamplighterlaw19_IntervalTurns.j0 k a2 a3 (t349 != 0) a0_0 a0_1 a1_0 a1_1)) else (lamplighterlaw19_IntervalTurns.j0 k a2 a3 true a0_0 a0_1 a1_0 a1_1))) else (some false))
theorem lamplighterlaw19_IntervalTurns.mono_l : ∀ k, (∀ y0 y1 y2 y3 y4 y5 y6, LeO (lamplighterlaw19_IntervalTurns.j0 k y0 y1 y2 y3 y4 y5 y6) (lamplighterlaw19_IntervalTurns.j0 (k + 1) y0 y1 y2 y3 y4 y5 y6)) ∧ (∀ y0 y1 y2 y3, LeO (lamplighterlaw19_IntervalTurns.j1 k y0 y1 y2 y3) (lamplighterlaw19_IntervalTurns.j1 (k + 1) y0 y1 y2 y3))
  | 0 => ⟨fun _ _ _ _ _ _ _ r h => by simp [lamplighterlaw19_IntervalTurns.j0] at h, fun _ _ _ _ r h => by simp [lamplighterlaw19_IntervalTurns.j1] at h⟩
  | k + 1 => by
    obtain ⟨ih0, ih1⟩ := lamplighterlaw19_IntervalTurns.mono_l k
    refine ⟨?_, ?_⟩
    · intro y0 y1 y2 y3 y4 y5 y6
      unfold lamplighterlaw19_IntervalTurns.j0
      repeat' first
      | (with_reducible exact ih0 _ _ _ _ _ _ _)
      | (with_reducible exact ih1 _ _ _ _)
      | (with_reducible exact interval_Cut.mono _ _ _ _)
      | (with_reducible exact interval_Do.mono _ _ _ _ _ _)
      | (with_reducible exact interval_Un.mono _ _ _ _)
      | (with_reducible exact interval_Within.mono _ _ _ _ _)
      | (with_reducible exact lamplighterlaw19_lives.mono _)
      | (with_reducible exact LeO.refl _)
      | (with_reducible exact LeO.none _)
      | (with_reducible refine LeO.ite ?_ ?_)
      | (with_reducible refine LeO.bind ?_ (fun _ => ?_))
      | exact ih0 _ _ _ _ _ _ _
      | exact ih1 _ _ _ _
      | exact interval_Cut.mono _ _ _ _
      | exact interval_Do.mono _ _ _ _ _ _
      | exact interval_Un.mono _ _ _ _
      | exact interval_Within.mono _ _ _ _ _
      | exact lamplighterlaw19_lives.mono _
      | exact LeO.none _
      | refine LeO.ite ?_ ?_
      | refine LeO.bind ?_ (fun _ => ?_)
    · intro y0 y1 y2 y3
      unfold lamplighterlaw19_IntervalTurns.j1
      repeat' first
      | (with_reducible exact ih0 _ _ _ _ _ _ _)
      | (with_reducible exact ih1 _ _ _ _)
      | (with_reducible exact interval_Cut.mono _ _ _ _)
      | (with_reducible exact interval_Do.mono _ _ _ _ _ _)
      | (with_reducible exact interval_Un.mono _ _ _ _)
      | (with_reducible exact interval_Within.mono _ _ _ _ _)
      | (with_reducible exact lamplighterlaw19_lives.mono _)
      | (with_reducible exact LeO.refl _)
      | (with_reducible exact LeO.none _)
      | (with_reducible refine LeO.ite ?_ ?_)
      | (with_reducible refine LeO.bind ?_ (fun _ => ?_))
      | exact ih0 _ _ _ _ _ _ _
      | exact ih1 _ _ _ _
      | exact interval_Cut.mono _ _ _ _
      | exact interval_Do.mono _ _ _ _ _ _
      | exact interval_Un.mono _ _ _ _
      | exact interval_Within.mono _ _ _ _ _
      | exact lamplighterlaw19_lives.mono _
      | exact LeO.none _
      | refine LeO.ite ?_ ?_
      | refine LeO.bind ?_ (fun _ => ?_)
theorem lamplighterlaw19_IntervalTurns.mono : ∀ a0 a1 a2 a3 a4 a5 k, LeO (lamplighterlaw19_IntervalTurns.f k a0 a1 a2 a3 a4 a5) (lamplighterlaw19_IntervalTurns.f (k + 1) a0 a1 a2 a3 a4 a5) := by
  intro a0 a1 a2 a3 a4 a5 k
  obtain ⟨ih0, ih1⟩ := lamplighterlaw19_IntervalTurns.mono_l k
  unfold lamplighterlaw19_IntervalTurns.f
  repeat' first
      | (with_reducible exact ih0 _ _ _ _ _ _ _)
      | (with_reducible exact ih1 _ _ _ _)
      | (with_reducible exact interval_Cut.mono _ _ _ _)
      | (with_reducible exact interval_Do.mono _ _ _ _ _ _)
      | (with_reducible exact interval_Un.mono _ _ _ _)
      | (with_reducible exact interval_Within.mono _ _ _ _ _)
      | (with_reducible exact lamplighterlaw19_lives.mono _)
      | (with_reducible exact LeO.refl _)
      | (with_reducible exact LeO.none _)
      | (with_reducible refine LeO.ite ?_ ?_)
      | (with_reducible refine LeO.bind ?_ (fun _ => ?_))
      | exact ih0 _ _ _ _ _ _ _
      | exact ih1 _ _ _ _
      | exact interval_Cut.mono _ _ _ _
      | exact interval_Do.mono _ _ _ _ _ _
      | exact interval_Un.mono _ _ _ _
      | exact interval_Within.mono _ _ _ _ _
      | exact lamplighterlaw19_lives.mono _
      | exact LeO.none _
      | refine LeO.ite ?_ ?_
      | refine LeO.bind ?_ (fun _ => ?_)
set_option maxHeartbeats 8000000 in
set_option maxRecDepth 100000 in
theorem lamplighterlaw19_IntervalTurns.calls (k : Nat) (a0_0 : Int) (a0_1 : Int) (a1_0 : Int) (a1_1 : Int) (a2 : Int) (a3 : Int) (r : Bool) (w : World) (h : lamplighterlaw19_IntervalTurns.f k a0_0 a0_1 a1_0 a1_1 a2 a3 = some r) (hr_ : Aside0 (r = true)) :
    Calls Try.prog 5 #[.agg #[.int .u32 a0_0, .int .u32 a0_1], .agg #[.int .u32 a1_0, .int .u32 a1_1], .int .i64 a2, .int .i64 a3] w fun e w' => e = .returned (.bool r) ∧ Below w.heap.size w w' := by
  have hu24 := Try.underlying24
  have HB := am (Below.refl w.heap.size w)
  have H : ((lamplighterlaw19_lives.f k).bind fun t347 => (if t347 = true then ((interval_Check.f a0_0 a0_1).bind fun t348 => (if t348 = 0 then ((interval_Check.f a1_0 a1_1).bind fun t349 => (lamplighterlaw19_IntervalTurns.j0 k a2 a3 (t349 != 0) a0_0 a0_1 a1_0 a1_1)) else (lamplighterlaw19_IntervalTurns.j0 k a2 a3 true a0_0 a0_1 a1_0 a1_1))) else (some false))) = some r := h
  clear h
  replace H := Option.bind_eq_some_iff.mp H
  obtain ⟨t347, A50, H⟩ := H
  replace H : (if t347 = true then ((interval_Check.f a0_0 a0_1).bind fun t348 => (if t348 = 0 then ((interval_Check.f a1_0 a1_1).bind fun t349 => (lamplighterlaw19_IntervalTurns.j0 k a2 a3 (t349 != 0) a0_0 a0_1 a1_0 a1_1)) else (lamplighterlaw19_IntervalTurns.j0 k a2 a3 true a0_0 a0_1 a1_0 a1_1))) else (some false)) = some r := H
  have A5 := am A50
  clear A50
  by_cases c6 : t347 = true
  · subst c6
    have H1 : ((interval_Check.f a0_0 a0_1).bind fun t348 => (if t348 = 0 then ((interval_Check.f a1_0 a1_1).bind fun t349 => (lamplighterlaw19_IntervalTurns.j0 k a2 a3 (t349 != 0) a0_0 a0_1 a1_0 a1_1)) else (lamplighterlaw19_IntervalTurns.j0 k a2 a3 true a0_0 a0_1 a1_0 a1_1))) = some r := by rw [if_pos rfl] at H; exact H
    clear H
    have H := H1
    clear H1
    have HC7 := am H
    clear H
    go_enter Try.func5, Try.ntmps5
    go_upto_region 3 with (first | ((with_reducible refine gate_dst (N := 4) rfl ?_); refine box_event ?hg (N := 4) ?hd (cs := #[.int .u32 a0_0, .int .u32 a0_1]) (t := 24) ?hr ?_; (case hd => rfl); (case hg => rfl); (case hr => first | (go_simp; done) | (go_simp; rfl)); intro gb345 hg w8 hbox hb; have n0_ := am (below_step (hbA HB) hb); have n1_ := am (hbox); have n2_ := gwA hg HB; have n3_ := gwA hg HB; clear HB; have HB := n0_; have BK345 := n1_; have GW345 := n2_; have GE345 := n3_; clear n0_ n1_ n2_ n3_; clear hb hbox hg) | ((with_reducible refine gate_dst (N := 5) rfl ?_); refine box_event ?hg (N := 5) ?hd (cs := #[.int .u32 a1_0, .int .u32 a1_1]) (t := 24) ?hr ?_; (case hd => rfl); (case hg => rfl); (case hr => first | (go_simp; done) | (go_simp; rfl)); intro gb346 hg w9 hbox hb; have n0_ := am (blk_below (g := gb345) (o := .cells #[.int .u32 a0_0, .int .u32 a0_1] 24 (0, 0)) (bkA BK345) hb); have n1_ := am (below_step (hbA HB) hb); have n2_ := am (hbox); have n3_ := gwA hg HB; have n4_ := gwA hg HB; have n5_ := ltA hg BK345; have n6_ := gtA hg BK345; clear BK345; clear HB; have BK345 := n0_; have HB := n1_; have BK346 := n2_; have GW346 := n3_; have GE346 := n4_; have NB345_346 := n5_; have NB346_345 := n6_; clear n0_ n1_ n2_ n3_ n4_ n5_ n6_; clear hb hbox hg) | ((with_reducible refine gate_callee (f := 8) rfl ?_); refine goesL_ (some 31) rfl rfl Try.func8 (by kernel_rfl) rfl #[] rfl (by (try simp only [List.map_toArray, List.map_cons, List.map_nil]); first | done | rfl | (simp only [List.length_drop, List.length_take]; rfl)) ?_; (with_reducible refine (lamplighterlaw19_lives.calls k  true _ A5.out ⟨rfl⟩).mono ?_); rintro e w10 ⟨rfl, hb⟩; refine ⟨_, rfl, ?_⟩; have n0_ := am (blk_below (g := gb345) (o := .cells #[.int .u32 a0_0, .int .u32 a0_1] 24 (0, 0)) (bkA BK345) hb); have n1_ := am (blk_below (g := gb346) (o := .cells #[.int .u32 a1_0, .int .u32 a1_1] 24 (0, 0)) (bkA BK346) hb); have n2_ := am (below_step (hbA HB) hb); clear BK345; clear BK346; clear HB; have BK345 := n0_; have BK346 := n1_; have HB := n2_; clear n0_ n1_ n2_; (try clear hb); (try clear hb2); (try clear hk); (try clear hi)))
    (try simp only [Act.put, List.setIfInBounds_toArray, List.set_cons_zero, List.set_cons_succ])
    go_cut [40] (fun v40 wc => ∃ (kq : Nat) (x40_6 : Bool), v40 = .bool x40_6 ∧ Aside0 (lamplighterlaw19_IntervalTurns.j0 kq a2 a3 x40_6 a0_0 a0_1 a1_0 a1_1 = some r) ∧ Aside0 (kq ≤ k) ∧ Aside0 (wc.heap[gb345]? = some (.cells #[.int .u32 a0_0, .int .u32 a0_1] 24 (0, 0))) ∧ Aside0 (wc.heap[gb346]? = some (.cells #[.int .u32 a1_0, .int .u32 a1_1] 24 (0, 0))) ∧ Aside0 (Below w.heap.size w wc))
    case first =>
      have H := HC7.out
      clear HC7
      replace H := Option.bind_eq_some_iff.mp H
      obtain ⟨t348, A110, H⟩ := H
      replace H : (if t348 = 0 then ((interval_Check.f a1_0 a1_1).bind fun t349 => (lamplighterlaw19_IntervalTurns.j0 k a2 a3 (t349 != 0) a0_0 a0_1 a1_0 a1_1)) else (lamplighterlaw19_IntervalTurns.j0 k a2 a3 true a0_0 a0_1 a1_0 a1_1)) = some r := H
      have A11 := am A110
      clear A110
      by_cases c12 : t348 = 0
      · rw [if_pos c12] at H
        have c12b0 : (t348 == 0) = true := beq_iff_eq.mpr c12
        have c12b1 : (t348 != 0) = false := bne_eq_false_iff_eq.mpr c12
        clear c12
        (first | rw [c12b0] | (simp only [i64_w, i32_w]; rw [c12b0]) | skip)
        replace H := Option.bind_eq_some_iff.mp H
        obtain ⟨t349, A130, H⟩ := H
        replace H : (lamplighterlaw19_IntervalTurns.j0 k a2 a3 (t349 != 0) a0_0 a0_1 a1_0 a1_1) = some r := H
        have A13 := am A130
        clear A130
        have H' := am H
        clear H
        have hnb14 := NB345_346.out
        have hnc14 := NB346_345.out
        have hcz15_0 : w10.cell? ⟨gb345, 0, none⟩ = some (.int .u32 a0_0) := (blk_cell BK345.out 0).trans rfl
        have hcz15_1 : w10.cell? ⟨gb345, 1, none⟩ = some (.int .u32 a0_1) := (blk_cell BK345.out 1).trans rfl
        have hfz15_0 := blk_frozen BK345.out 0
        have hfz15_1 := blk_frozen BK345.out 1
        go_wp2_with (first | ((with_reducible refine gate_callee (f := 9) rfl ?_); refine goesL_ (some 34) rfl rfl Try.func9 (by kernel_rfl) rfl #[.agg #[.int .u32 a0_0, .int .u32 a0_1]] rfl (by (try simp only [List.map_toArray, List.map_cons, List.map_nil]); first | done | rfl | (simp only [List.length_drop, List.length_take]; rfl)) ?_; (with_reducible refine (interval_Check.calls a0_0 a0_1 t348 _ A11.out).mono ?_); rintro e w16 ⟨rfl, hb⟩; refine ⟨_, rfl, ?_⟩; have n0_ := am (blk_below (g := gb345) (o := .cells #[.int .u32 a0_0, .int .u32 a0_1] 24 (0, 0)) (bkA BK345) hb); have n1_ := am (blk_below (g := gb346) (o := .cells #[.int .u32 a1_0, .int .u32 a1_1] 24 (0, 0)) (bkA BK346) hb); have n2_ := am (below_step (hbA HB) hb); clear BK345; clear BK346; clear HB; have BK345 := n0_; have BK346 := n1_; have HB := n2_; clear n0_ n1_ n2_; (try clear hb); (try clear hb2); (try clear hk); (try clear hi); have hcz17_0 : w16.cell? ⟨gb346, 0, none⟩ = some (.int .u32 a1_0) := (blk_cell BK346.out 0).trans rfl; have hcz17_1 : w16.cell? ⟨gb346, 1, none⟩ = some (.int .u32 a1_1) := (blk_cell BK346.out 1).trans rfl; have hfz17_0 := blk_frozen BK346.out 0; have hfz17_1 := blk_frozen BK346.out 1) | (go_at_call 9; (with_reducible refine (interval_Check.calls a1_0 a1_1 t349 _ A13.out).mono ?_); rintro e w18 ⟨rfl, hb⟩; have n0_ := am (blk_below (g := gb345) (o := .cells #[.int .u32 a0_0, .int .u32 a0_1] 24 (0, 0)) (bkA BK345) hb); have n1_ := am (blk_below (g := gb346) (o := .cells #[.int .u32 a1_0, .int .u32 a1_1] 24 (0, 0)) (bkA BK346) hb); have n2_ := am (below_step (hbA HB) hb); clear BK345; clear BK346; clear HB; have BK345 := n0_; have BK346 := n1_; have HB := n2_; clear n0_ n1_ n2_; (try clear hb); (try clear hb2); (try clear hk); (try clear hi)))
        go_meet
        case rel => exact ⟨_, ((t349 != 0)), (by first | rfl | (simp; done) | (simp [*]; done)), H', ⟨by first | omega | exact Nat.le_refl _⟩, ⟨by refine bkT ?_; exact BK345.out⟩, ⟨by refine bkT ?_; exact BK346.out⟩, ⟨by repeat (first | (with_reducible first | exact HB.out | apply below_alloc | apply pw_below_drewN | apply below_drew1 | refine below_set ?_ GE345.out | refine below_set ?_ GE346.out) | exact HB.out)⟩⟩
      · rw [if_neg c12] at H
        have c12b0 : (t348 == 0) = false := beq_eq_false_iff_ne.mpr c12
        have c12b1 : (t348 != 0) = true := bne_iff_ne.mpr c12
        (first | rw [c12b0] | (simp only [i64_w, i32_w]; rw [c12b0]) | skip)
        have H' := am H
        clear H
        have hnb19 := NB345_346.out
        have hnc19 := NB346_345.out
        have hcz20_0 : w10.cell? ⟨gb345, 0, none⟩ = some (.int .u32 a0_0) := (blk_cell BK345.out 0).trans rfl
        have hcz20_1 : w10.cell? ⟨gb345, 1, none⟩ = some (.int .u32 a0_1) := (blk_cell BK345.out 1).trans rfl
        have hfz20_0 := blk_frozen BK345.out 0
        have hfz20_1 := blk_frozen BK345.out 1
        go_wp2_with (first | ((with_reducible refine gate_callee (f := 9) rfl ?_); refine goesL_ (some 34) rfl rfl Try.func9 (by kernel_rfl) rfl #[.agg #[.int .u32 a0_0, .int .u32 a0_1]] rfl (by (try simp only [List.map_toArray, List.map_cons, List.map_nil]); first | done | rfl | (simp only [List.length_drop, List.length_take]; rfl)) ?_; (with_reducible refine (interval_Check.calls a0_0 a0_1 t348 _ A11.out).mono ?_); rintro e w21 ⟨rfl, hb⟩; refine ⟨_, rfl, ?_⟩; have n0_ := am (blk_below (g := gb345) (o := .cells #[.int .u32 a0_0, .int .u32 a0_1] 24 (0, 0)) (bkA BK345) hb); have n1_ := am (blk_below (g := gb346) (o := .cells #[.int .u32 a1_0, .int .u32 a1_1] 24 (0, 0)) (bkA BK346) hb); have n2_ := am (below_step (hbA HB) hb); clear BK345; clear BK346; clear HB; have BK345 := n0_; have BK346 := n1_; have HB := n2_; clear n0_ n1_ n2_; (try clear hb); (try clear hb2); (try clear hk); (try clear hi)))
        go_meet
        case rel => exact ⟨_, (true), (by first | rfl | (simp; done) | (simp [*]; done)), H', ⟨by first | omega | exact Nat.le_refl _⟩, ⟨by refine bkT ?_; exact BK345.out⟩, ⟨by refine bkT ?_; exact BK346.out⟩, ⟨by repeat (first | (with_reducible first | exact HB.out | apply below_alloc | apply pw_below_drewN | apply below_drew1 | refine below_set ?_ GE345.out | refine below_set ?_ GE346.out) | exact HB.out)⟩⟩
    case rest =>
      clear HC7
      try clear c1
      try clear p2
      try clear c5
      try clear c6
      try clear c8
      try clear c9
      try clear c12
      try clear c12b0
      try clear c12b1
      try clear c14
      try clear c19
      try clear hcz15_0
      try clear hcz15_1
      try clear hcz17_0
      try clear hcz17_1
      try clear hcz20_0
      try clear hcz20_1
      try clear hfz15_0
      try clear hfz15_1
      try clear hfz17_0
      try clear hfz17_1
      try clear hfz20_0
      try clear hfz20_1
      obtain ⟨kq, x40_6, rfl, HA, HJ6, BK345, BK346, HB⟩ := hcut
      cases kq with
      | zero => exact absurd HA.out (by simp [lamplighterlaw19_IntervalTurns.j0])
      | succ kj6 =>
        have H := HA.out
        clear HA
        simp only [lamplighterlaw19_IntervalTurns.j0] at H
        by_cases c22 : x40_6 = true
        · subst c22
          have H1 : (some true) = some r := by rw [if_pos rfl] at H; exact H
          clear H
          have H := H1
          clear H1
          obtain rfl := Option.some.inj H
          go_wp2
          go_ret
          exact ⟨by first | rfl | (simp [errW_none, errW_some] <;> rfl) | (simp [*, errW_none, errW_some] <;> rfl), hbA HB⟩
        · replace c22 := Bool.eq_false_iff.mpr c22
          subst c22
          have H1 : ((some (([1, 3, 8, 9, 10, 14, 15] : List Int) : List Int)).bind fun y350 => ((lamplighterkit_Pick.f a2 7).bind fun t353 => (if 0 ≤ t353 then (if t353 < (y350.length : Int) then ((interval_Do.f kj6 (rd y350 t353) a0_0 a0_1 a1_0 a1_1).bind fun bt355 => ((interval_Do.f kj6 (rd y350 t353) a1_0 a1_1 a0_0 a0_1).bind fun bt360 => (if (!(bt355.1 == bt360.1) || (!(bt355.2.1 == bt360.2.1))) = true then (lamplighterlaw19_IntervalTurns.j1 kj6 a3 true a0_0 a0_1) else (if bt355.2.2.1 = true then (if bt360.2.2.1 = true then (if bt355.2.2.2 = 0 then (lamplighterlaw19_IntervalTurns.j1 kj6 a3 (bt360.2.2.2 != 0) a0_0 a0_1) else (lamplighterlaw19_IntervalTurns.j1 kj6 a3 true a0_0 a0_1)) else (lamplighterlaw19_IntervalTurns.j1 kj6 a3 true a0_0 a0_1)) else (lamplighterlaw19_IntervalTurns.j1 kj6 a3 true a0_0 a0_1))))) else (none)) else (none)))) = some r := by rw [if_neg (show ¬ (false = true) by decide)] at H; exact H
          clear H
          have H := H1
          clear H1
          obtain ⟨y350, hy350⟩ : ∃ y_ : List Int, y_ = (([1, 3, 8, 9, 10, 14, 15] : List Int)) := ⟨_, rfl⟩
          replace H : ((lamplighterkit_Pick.f a2 7).bind fun t353 => (if 0 ≤ t353 then (if t353 < (y350.length : Int) then ((interval_Do.f kj6 (rd y350 t353) a0_0 a0_1 a1_0 a1_1).bind fun bt355 => ((interval_Do.f kj6 (rd y350 t353) a1_0 a1_1 a0_0 a0_1).bind fun bt360 => (if (!(bt355.1 == bt360.1) || (!(bt355.2.1 == bt360.2.1))) = true then (lamplighterlaw19_IntervalTurns.j1 kj6 a3 true a0_0 a0_1) else (if bt355.2.2.1 = true then (if bt360.2.2.1 = true then (if bt355.2.2.2 = 0 then (lamplighterlaw19_IntervalTurns.j1 kj6 a3 (bt360.2.2.2 != 0) a0_0 a0_1) else (lamplighterlaw19_IntervalTurns.j1 kj6 a3 true a0_0 a0_1)) else (lamplighterlaw19_IntervalTurns.j1 kj6 a3 true a0_0 a0_1)) else (lamplighterlaw19_IntervalTurns.j1 kj6 a3 true a0_0 a0_1))))) else (none)) else (none))) = some r := by first | (rw [hy350]; with_reducible exact H) | (have H2_ := (Option.bind_some _ _).symm.trans H; rw [hy350]; with_reducible exact H2_) | (have H2_ := (Option.bind_some _ _).symm.trans H; with_reducible exact H2_) | with_reducible exact H | (rw [hy350]; exact H) | exact H
          have Ny350 := am hy350
          clear hy350
          replace H := Option.bind_eq_some_iff.mp H
          obtain ⟨t353, A230, H⟩ := H
          replace H : (if 0 ≤ t353 then (if t353 < (y350.length : Int) then ((interval_Do.f kj6 (rd y350 t353) a0_0 a0_1 a1_0 a1_1).bind fun bt355 => ((interval_Do.f kj6 (rd y350 t353) a1_0 a1_1 a0_0 a0_1).bind fun bt360 => (if (!(bt355.1 == bt360.1) || (!(bt355.2.1 == bt360.2.1))) = true then (lamplighterlaw19_IntervalTurns.j1 kj6 a3 true a0_0 a0_1) else (if bt355.2.2.1 = true then (if bt360.2.2.1 = true then (if bt355.2.2.2 = 0 then (lamplighterlaw19_IntervalTurns.j1 kj6 a3 (bt360.2.2.2 != 0) a0_0 a0_1) else (lamplighterlaw19_IntervalTurns.j1 kj6 a3 true a0_0 a0_1)) else (lamplighterlaw19_IntervalTurns.j1 kj6 a3 true a0_0 a0_1)) else (lamplighterlaw19_IntervalTurns.j1 kj6 a3 true a0_0 a0_1))))) else (none)) else (none)) = some r := H
          have A23 := am A230
          clear A230
          by_cases c24 : 0 ≤ t353
          · rw [if_pos c24] at H
            have c24b0 : decide (0 ≤ t353) = true := decide_eq_true c24
            clear c24
            by_cases c25 : t353 < (y350.length : Int)
            · rw [if_pos c25] at H
              have c25b0 : decide (t353 < (y350.length : Int)) = true := decide_eq_true c25
              clear c25
              replace H := Option.bind_eq_some_iff.mp H
              obtain ⟨⟨t355, t356, t357, t358⟩, A260, H⟩ := H
              replace H : ((interval_Do.f kj6 (rd y350 t353) a1_0 a1_1 a0_0 a0_1).bind fun bt360 => (if (!(t355 == bt360.1) || (!(t356 == bt360.2.1))) = true then (lamplighterlaw19_IntervalTurns.j1 kj6 a3 true a0_0 a0_1) else (if t357 = true then (if bt360.2.2.1 = true then (if t358 = 0 then (lamplighterlaw19_IntervalTurns.j1 kj6 a3 (bt360.2.2.2 != 0) a0_0 a0_1) else (lamplighterlaw19_IntervalTurns.j1 kj6 a3 true a0_0 a0_1)) else (lamplighterlaw19_IntervalTurns.j1 kj6 a3 true a0_0 a0_1)) else (lamplighterlaw19_IntervalTurns.j1 kj6 a3 true a0_0 a0_1)))) = some r := H
              have A26 := am A260
              clear A260
              replace H := Option.bind_eq_some_iff.mp H
              obtain ⟨⟨t360, t361, t362, t363⟩, A270, H⟩ := H
              replace H : (if (!(t355 == t360) || (!(t356 == t361))) = true then (lamplighterlaw19_IntervalTurns.j1 kj6 a3 true a0_0 a0_1) else (if t357 = true then (if t362 = true then (if t358 = 0 then (lamplighterlaw19_IntervalTurns.j1 kj6 a3 (t363 != 0) a0_0 a0_1) else (lamplighterlaw19_IntervalTurns.j1 kj6 a3 true a0_0 a0_1)) else (lamplighterlaw19_IntervalTurns.j1 kj6 a3 true a0_0 a0_1)) else (lamplighterlaw19_IntervalTurns.j1 kj6 a3 true a0_0 a0_1))) = some r := H
              have A27 := am A270
              clear A270
              have HC28 := am H
              clear H
              go_upto_region 8 with (first | ((with_reducible refine gate_dst (N := 41) rfl ?_); refine Kd.R_lit (Kd.int .i64) _ 3 ?hg (N := 41) ?hd (xs := ([1, 3, 8, 9, 10, 14, 15] : List Int)) (inner := [.int .i64 1, .int .i64 3, .int .i64 8, .int .i64 9, .int .i64 10, .int .i64 14, .int .i64 15]) (ok := fun _ => True) (okp := fun _ => True) ?hr ?hp (fun _ hk => hk) trivial (Below.refl _ _) (Nat.le_refl _) (by simp) ?_; (case hd => rfl); (case hg => rfl); (case hr => first | (go_simp; done) | (go_simp; rfl)); (case hp => exact (Reps.one (show Kd.M (Kd.int .i64) _ _ _ 1 [.int .i64 1] from rfl) (Reps.one (show Kd.M (Kd.int .i64) _ _ _ 3 [.int .i64 3] from rfl) (Reps.one (show Kd.M (Kd.int .i64) _ _ _ 8 [.int .i64 8] from rfl) (Reps.one (show Kd.M (Kd.int .i64) _ _ _ 9 [.int .i64 9] from rfl) (Reps.one (show Kd.M (Kd.int .i64) _ _ _ 10 [.int .i64 10] from rfl) (Reps.one (show Kd.M (Kd.int .i64) _ _ _ 14 [.int .i64 14] from rfl) (Reps.one (show Kd.M (Kd.int .i64) _ _ _ 15 [.int .i64 15] from rfl) (Reps.none _ _))))))))); intro v351 w29 ho30 hb hg_ hnew_; clear hg_ hnew_; (first | rw [← Ny350.out] at ho30 | (simp only [Int.reduceToNat] at ho30; rw [← Ny350.out] at ho30)); have n0_ := am (Kd.R_lower ho30 (below_size (hbA HB))); have n1_ := am (blk_below (g := gb345) (o := .cells #[.int .u32 a0_0, .int .u32 a0_1] 24 (0, 0)) (bkA BK345) hb); have n2_ := am (blk_below (g := gb346) (o := .cells #[.int .u32 a1_0, .int .u32 a1_1] 24 (0, 0)) (bkA BK346) hb); have n3_ := am (below_step (hbA HB) hb); clear BK345; clear BK346; clear HB; have HO352 := n0_; have BK345 := n1_; have BK346 := n2_; have HB := n3_; clear n0_ n1_ n2_ n3_; clear hb ho30) | ((with_reducible refine gate_callee (f := 10) rfl ?_); refine goesL_ (some 43) rfl rfl Try.func10 (by kernel_rfl) rfl #[.int .i64 a2, .int .i64 7] rfl (by (try simp only [List.map_toArray, List.map_cons, List.map_nil]); first | done | rfl | (simp only [List.length_drop, List.length_take]; rfl)) ?_; (with_reducible refine (lamplighterkit_Pick.calls a2 7 t353 _ A23.out).mono ?_); rintro e w' ⟨rfl, ⟨nd, rfl⟩⟩; refine ⟨_, rfl, ?_⟩; (try (rw [drewN_self w29]; generalize hq_ : World.drewN w29 _ = w29; have n0_ : Aside0 (Kd.R (Kd.int .i64) 3 w29 w.heap.size (fun _ => True) v351 y350) := ⟨by rw [← hq_]; exact (by (with_reducible repeat (first | apply Kd.R_alloc | apply Kd.R_drewN | apply Kd.R_drew)); exact HO352.out)⟩; have n1_ : Aside0 (w29.heap[gb345]? = some (.cells #[.int .u32 a0_0, .int .u32 a0_1] 24 (0, 0))) := ⟨by rw [← hq_]; exact (bkA BK345)⟩; have n2_ : Aside0 (w29.heap[gb346]? = some (.cells #[.int .u32 a1_0, .int .u32 a1_1] 24 (0, 0))) := ⟨by rw [← hq_]; exact (bkA BK346)⟩; have n3_ : Aside0 (Below w.heap.size w w29) := ⟨by rw [← hq_]; exact (hbA HB)⟩; clear HO352 BK345 BK346 HB hq_; have HO352 := n0_; have BK345 := n1_; have BK346 := n2_; have HB := n3_; clear n0_ n1_ n2_ n3_)); obtain ⟨Ao31, co31, eo31⟩ := Kd.R_slice HO352.out; subst eo31; have p354 : 0 ≤ (t353 : Int) := of_decide_eq_true (by first | (with_reducible assumption) | assumption); have q354 : t353 < (y350.length : Int) := of_decide_eq_true (by first | (with_reducible assumption) | assumption); obtain ⟨ad354, e354, hx354_0⟩ := Kd.at_int (Kd.R_reads' HO352.out).2.2 t353 p354 q354; cases e354; replace p354 := eq_true p354; replace q354 := eq_true q354; have hnb32 := NB345_346.out; have hnc32 := NB346_345.out; have hcz33_0 : w29.cell? ⟨gb345, 0, none⟩ = some (.int .u32 a0_0) := (blk_cell BK345.out 0).trans rfl; have hcz33_1 : w29.cell? ⟨gb345, 1, none⟩ = some (.int .u32 a0_1) := (blk_cell BK345.out 1).trans rfl; have hfz33_0 := blk_frozen BK345.out 0; have hfz33_1 := blk_frozen BK345.out 1; have hcz34_0 : w29.cell? ⟨gb346, 0, none⟩ = some (.int .u32 a1_0) := (blk_cell BK346.out 0).trans rfl; have hcz34_1 : w29.cell? ⟨gb346, 1, none⟩ = some (.int .u32 a1_1) := (blk_cell BK346.out 1).trans rfl; have hfz34_0 := blk_frozen BK346.out 0; have hfz34_1 := blk_frozen BK346.out 1) | ((with_reducible refine gate_callee (f := 11) rfl ?_); refine goesL_ (some 50) rfl rfl Try.func11 (by kernel_rfl) rfl #[.int .i64 (rd y350 t353), .agg #[.int .u32 a0_0, .int .u32 a0_1], .agg #[.int .u32 a1_0, .int .u32 a1_1]] rfl (by (try simp only [List.map_toArray, List.map_cons, List.map_nil]); first | done | rfl | (simp only [List.length_drop, List.length_take]; rfl)) ?_; (with_reducible refine (interval_Do.calls kj6 (rd y350 t353) a0_0 a0_1 a1_0 a1_1 t355 t356 t357 t358 _ A26.out).mono ?_); rintro e w35 ⟨rfl, hb⟩; refine ⟨_, rfl, ?_⟩; have n0_ := am (Kd.R_below (by (with_reducible repeat (first | apply Kd.R_alloc | apply Kd.R_drewN | apply Kd.R_drew)); exact HO352.out) hb); have n1_ := am (blk_below (g := gb345) (o := .cells #[.int .u32 a0_0, .int .u32 a0_1] 24 (0, 0)) (bkA BK345) hb); have n2_ := am (blk_below (g := gb346) (o := .cells #[.int .u32 a1_0, .int .u32 a1_1] 24 (0, 0)) (bkA BK346) hb); have n3_ := am (below_step (hbA HB) hb); clear HO352; clear BK345; clear BK346; clear HB; have HO352 := n0_; have BK345 := n1_; have BK346 := n2_; have HB := n3_; clear n0_ n1_ n2_ n3_; (try clear hb); (try clear hb2); (try clear hk); (try clear hi)) | ((with_reducible refine gate_dst (N := 10) rfl ?_); refine box_event ?hg (N := 10) ?hd (cs := #[.int .u32 0, .int .u32 0]) (t := 24) ?hr ?_; (case hd => rfl); (case hg => rfl); (case hr => first | (go_simp; done) | (go_simp; rfl)); intro gb359 hg w36 hbox hb; have n0_ := am (Kd.R_below (by (with_reducible repeat (first | apply Kd.R_alloc | apply Kd.R_drewN | apply Kd.R_drew)); exact HO352.out) hb); have n1_ := am (blk_below (g := gb345) (o := .cells #[.int .u32 a0_0, .int .u32 a0_1] 24 (0, 0)) (bkA BK345) hb); have n2_ := am (blk_below (g := gb346) (o := .cells #[.int .u32 a1_0, .int .u32 a1_1] 24 (0, 0)) (bkA BK346) hb); have n3_ := am (below_step (hbA HB) hb); have n4_ := am (hbox); have n5_ := gwA hg HB; have n6_ := gwA hg HB; have n7_ := ltA hg BK345; have n8_ := gtA hg BK345; have n9_ := ltA hg BK346; have n10_ := gtA hg BK346; clear HO352; clear BK345; clear BK346; clear HB; have HO352 := n0_; have BK345 := n1_; have BK346 := n2_; have HB := n3_; have BK359 := n4_; have GW359 := n5_; have GE359 := n6_; have NB345_359 := n7_; have NB359_345 := n8_; have NB346_359 := n9_; have NB359_346 := n10_; clear n0_ n1_ n2_ n3_ n4_ n5_ n6_ n7_ n8_ n9_ n10_; clear hb hbox hg; have hnb37 := NB359_345.out; have hnc37 := NB345_359.out; have hnb38 := NB359_346.out; have hnc38 := NB346_359.out; have hcz39_0 : w36.cell? ⟨gb359, 0, none⟩ = some (.int .u32 0) := (blk_cell BK359.out 0).trans rfl; have hcz39_1 : w36.cell? ⟨gb359, 1, none⟩ = some (.int .u32 0) := (blk_cell BK359.out 1).trans rfl; have hfz39_0 := blk_frozen BK359.out 0; have hfz39_1 := blk_frozen BK359.out 1; have hcz40_0 : w36.cell? ⟨gb346, 0, none⟩ = some (.int .u32 a1_0) := (blk_cell BK346.out 0).trans rfl; have hcz40_1 : w36.cell? ⟨gb346, 1, none⟩ = some (.int .u32 a1_1) := (blk_cell BK346.out 1).trans rfl; have hfz40_0 := blk_frozen BK346.out 0; have hfz40_1 := blk_frozen BK346.out 1; have hcz41_0 : w36.cell? ⟨gb345, 0, none⟩ = some (.int .u32 a0_0) := (blk_cell BK345.out 0).trans rfl; have hcz41_1 : w36.cell? ⟨gb345, 1, none⟩ = some (.int .u32 a0_1) := (blk_cell BK345.out 1).trans rfl; have hfz41_0 := blk_frozen BK345.out 0; have hfz41_1 := blk_frozen BK345.out 1) | ((with_reducible refine gate_callee (f := 11) rfl ?_); refine goesL_ (some 58) rfl rfl Try.func11 (by kernel_rfl) rfl #[.int .i64 (rd y350 t353), .agg #[.int .u32 a1_0, .int .u32 a1_1], .agg #[.int .u32 a0_0, .int .u32 a0_1]] rfl (by (try simp only [List.map_toArray, List.map_cons, List.map_nil]); first | done | rfl | (simp only [List.length_drop, List.length_take]; rfl)) ?_; (with_reducible refine (interval_Do.calls kj6 (rd y350 t353) a1_0 a1_1 a0_0 a0_1 t360 t361 t362 t363 _ A27.out).mono ?_); rintro e w42 ⟨rfl, hb⟩; refine ⟨_, rfl, ?_⟩; have n0_ := am (Kd.R_below (by (with_reducible repeat (first | apply Kd.R_alloc | apply Kd.R_drewN | apply Kd.R_drew)); exact (Kd.R_mono (Kd.R_far (p := ⟨gb359, 1, none⟩) (Kd.R_far (p := ⟨gb359, 0, none⟩) (Kd.R_types HO352.out BK359.out (by decide)) (fun _ hk => hk.2) (.int .u32 t355)) (fun _ hk => hk.2) (.int .u32 t356)) (fun _ h_ => h_.1))) hb); have n1_ := am (blk_below (g := gb345) (o := .cells #[.int .u32 a0_0, .int .u32 a0_1] 24 (0, 0)) (by refine bkT ?_; refine blk_far ?_ NB345_359.out _; refine bkT ?_; refine blk_far ?_ NB345_359.out _; refine bkT ?_; exact BK345.out) hb); have n2_ := am (blk_below (g := gb346) (o := .cells #[.int .u32 a1_0, .int .u32 a1_1] 24 (0, 0)) (by refine bkT ?_; refine blk_far ?_ NB346_359.out _; refine bkT ?_; refine blk_far ?_ NB346_359.out _; refine bkT ?_; exact BK346.out) hb); have n3_ := am (blk_below (g := gb359) (o := .cells #[.int .u32 t355, .int .u32 t356] 24 (0, 0)) (by refine bkT ?_; refine blk_put (cs := #[.int .u32 t355, .int .u32 0]) ?_ 1 _ rfl; refine bkT ?_; refine blk_put (cs := #[.int .u32 0, .int .u32 0]) ?_ 0 _ rfl; refine bkT ?_; exact BK359.out) hb); have n4_ := am (below_step (hbA HB) hb); clear HO352; clear BK345; clear BK346; clear BK359; clear HB; have HO352 := n0_; have BK345 := n1_; have BK346 := n2_; have BK359 := n3_; have HB := n4_; clear n0_ n1_ n2_ n3_ n4_; (try clear hb); (try clear hb2); (try clear hk); (try clear hi)) | ((with_reducible refine gate_dst (N := 13) rfl ?_); refine box_event ?hg (N := 13) ?hd (cs := #[.int .u32 0, .int .u32 0]) (t := 24) ?hr ?_; (case hd => rfl); (case hg => rfl); (case hr => first | (go_simp; done) | (go_simp; rfl)); intro gb364 hg w43 hbox hb; have n0_ := am (Kd.R_below (by (with_reducible repeat (first | apply Kd.R_alloc | apply Kd.R_drewN | apply Kd.R_drew)); exact HO352.out) hb); have n1_ := am (blk_below (g := gb345) (o := .cells #[.int .u32 a0_0, .int .u32 a0_1] 24 (0, 0)) (bkA BK345) hb); have n2_ := am (blk_below (g := gb346) (o := .cells #[.int .u32 a1_0, .int .u32 a1_1] 24 (0, 0)) (bkA BK346) hb); have n3_ := am (blk_below (g := gb359) (o := .cells #[.int .u32 t355, .int .u32 t356] 24 (0, 0)) (bkA BK359) hb); have n4_ := am (below_step (hbA HB) hb); have n5_ := am (hbox); have n6_ := gwA hg HB; have n7_ := gwA hg HB; have n8_ := ltA hg BK345; have n9_ := gtA hg BK345; have n10_ := ltA hg BK346; have n11_ := gtA hg BK346; have n12_ := ltA hg BK359; have n13_ := gtA hg BK359; clear HO352; clear BK345; clear BK346; clear BK359; clear HB; have HO352 := n0_; have BK345 := n1_; have BK346 := n2_; have BK359 := n3_; have HB := n4_; have BK364 := n5_; have GW364 := n6_; have GE364 := n7_; have NB345_364 := n8_; have NB364_345 := n9_; have NB346_364 := n10_; have NB364_346 := n11_; have NB359_364 := n12_; have NB364_359 := n13_; clear n0_ n1_ n2_ n3_ n4_ n5_ n6_ n7_ n8_ n9_ n10_ n11_ n12_ n13_; clear hb hbox hg; have hnb44 := NB364_345.out; have hnc44 := NB345_364.out; have hnb45 := NB364_346.out; have hnc45 := NB346_364.out; have hnb46 := NB364_359.out; have hnc46 := NB359_364.out; have hcz47_0 : w43.cell? ⟨gb364, 0, none⟩ = some (.int .u32 0) := (blk_cell BK364.out 0).trans rfl; have hcz47_1 : w43.cell? ⟨gb364, 1, none⟩ = some (.int .u32 0) := (blk_cell BK364.out 1).trans rfl; have hfz47_0 := blk_frozen BK364.out 0; have hfz47_1 := blk_frozen BK364.out 1))
              (try simp only [Act.put, List.setIfInBounds_toArray, List.set_cons_zero, List.set_cons_succ])
              go_cut [80] (fun v80 wc => ∃ (kq : Nat) (x80_27 : Bool), v80 = .bool x80_27 ∧ Aside0 (lamplighterlaw19_IntervalTurns.j1 kq a3 x80_27 a0_0 a0_1 = some r) ∧ Aside0 (kq ≤ kj6) ∧ Aside0 (wc.heap[gb345]? = some (.cells #[.int .u32 a0_0, .int .u32 a0_1] 24 (0, 0))) ∧ Aside0 (wc.heap[gb346]? = some (.cells #[.int .u32 a1_0, .int .u32 a1_1] 24 (0, 0))) ∧ Aside0 (wc.heap[gb359]? = some (.cells #[.int .u32 t355, .int .u32 t356] 24 (0, 0))) ∧ Aside0 (wc.heap[gb364]? = some (.cells #[.int .u32 t360, .int .u32 t361] 24 (0, 0))) ∧ Aside0 (Below w.heap.size w wc))
              case first =>
                have H := HC28.out
                clear HC28
                by_cases c48 : (!(t355 == t360) || (!(t356 == t361))) = true
                · rw [if_pos c48] at H
                  have c48b0 : (!(t355 == t360) || (!(t356 == t361))) = true := c48
                  clear c48
                  (first | rw [c48b0] | (simp only [i64_w, i32_w]; rw [c48b0]) | skip)
                  have H' := am H
                  clear H
                  have hnb49 := NB359_345.out
                  have hnc49 := NB345_359.out
                  have hnb50 := NB359_346.out
                  have hnc50 := NB346_359.out
                  have hnb51 := NB359_364.out
                  have hnc51 := NB364_359.out
                  have hcz52_0 : w43.cell? ⟨gb359, 0, none⟩ = some (.int .u32 t355) := (blk_cell BK359.out 0).trans rfl
                  have hcz52_1 : w43.cell? ⟨gb359, 1, none⟩ = some (.int .u32 t356) := (blk_cell BK359.out 1).trans rfl
                  have hfz52_0 := blk_frozen BK359.out 0
                  have hfz52_1 := blk_frozen BK359.out 1
                  have hnb53 := NB364_345.out
                  have hnc53 := NB345_364.out
                  have hnb54 := NB364_346.out
                  have hnc54 := NB346_364.out
                  have hcz55_0 : w43.cell? ⟨gb364, 0, none⟩ = some (.int .u32 0) := (blk_cell BK364.out 0).trans rfl
                  have hcz55_1 : w43.cell? ⟨gb364, 1, none⟩ = some (.int .u32 0) := (blk_cell BK364.out 1).trans rfl
                  have hfz55_0 := blk_frozen BK364.out 0
                  have hfz55_1 := blk_frozen BK364.out 1
                  go_wp2
                  go_meet
                  case rel => exact ⟨_, (true), (by first | rfl | (simp; done) | (simp [*]; done)), H', ⟨by have := HJ6.out; first | omega | exact Nat.le_refl _⟩, ⟨by refine bkT ?_; refine blk_far ?_ NB345_364.out _; refine bkT ?_; refine blk_far ?_ NB345_364.out _; refine bkT ?_; exact BK345.out⟩, ⟨by refine bkT ?_; refine blk_far ?_ NB346_364.out _; refine bkT ?_; refine blk_far ?_ NB346_364.out _; refine bkT ?_; exact BK346.out⟩, ⟨by refine bkT ?_; refine blk_far ?_ NB359_364.out _; refine bkT ?_; refine blk_far ?_ NB359_364.out _; refine bkT ?_; exact BK359.out⟩, ⟨by refine bkT ?_; refine blk_put (cs := #[.int .u32 t360, .int .u32 0]) ?_ 1 _ rfl; refine bkT ?_; refine blk_put (cs := #[.int .u32 0, .int .u32 0]) ?_ 0 _ rfl; refine bkT ?_; exact BK364.out⟩, ⟨by repeat (first | (with_reducible first | exact HB.out | apply below_alloc | apply pw_below_drewN | apply below_drew1 | refine below_set ?_ GE345.out | refine below_set ?_ GE346.out | refine below_set ?_ GE359.out | refine below_set ?_ GE364.out) | exact HB.out)⟩⟩
                · rw [if_neg c48] at H
                  have c48b0 : (!(t355 == t360) || (!(t356 == t361))) = false := by simpa using c48
                  clear c48
                  (first | rw [c48b0] | (simp only [i64_w, i32_w]; rw [c48b0]) | skip)
                  by_cases c56 : t357 = true
                  · subst c56
                    have H1 : (if t362 = true then (if t358 = 0 then (lamplighterlaw19_IntervalTurns.j1 kj6 a3 (t363 != 0) a0_0 a0_1) else (lamplighterlaw19_IntervalTurns.j1 kj6 a3 true a0_0 a0_1)) else (lamplighterlaw19_IntervalTurns.j1 kj6 a3 true a0_0 a0_1)) = some r := by rw [if_pos rfl] at H; exact H
                    clear H
                    have H := H1
                    clear H1
                    by_cases c57 : t362 = true
                    · subst c57
                      have H1 : (if t358 = 0 then (lamplighterlaw19_IntervalTurns.j1 kj6 a3 (t363 != 0) a0_0 a0_1) else (lamplighterlaw19_IntervalTurns.j1 kj6 a3 true a0_0 a0_1)) = some r := by rw [if_pos rfl] at H; exact H
                      clear H
                      have H := H1
                      clear H1
                      by_cases c58 : t358 = 0
                      · rw [if_pos c58] at H
                        have c58b0 : (t358 == 0) = true := beq_iff_eq.mpr c58
                        have c58b1 : (t358 != 0) = false := bne_eq_false_iff_eq.mpr c58
                        clear c58
                        have H' := am H
                        clear H
                        have hnb59 := NB359_345.out
                        have hnc59 := NB345_359.out
                        have hnb60 := NB359_346.out
                        have hnc60 := NB346_359.out
                        have hnb61 := NB359_364.out
                        have hnc61 := NB364_359.out
                        have hcz62_0 : w43.cell? ⟨gb359, 0, none⟩ = some (.int .u32 t355) := (blk_cell BK359.out 0).trans rfl
                        have hcz62_1 : w43.cell? ⟨gb359, 1, none⟩ = some (.int .u32 t356) := (blk_cell BK359.out 1).trans rfl
                        have hfz62_0 := blk_frozen BK359.out 0
                        have hfz62_1 := blk_frozen BK359.out 1
                        have hnb63 := NB364_345.out
                        have hnc63 := NB345_364.out
                        have hnb64 := NB364_346.out
                        have hnc64 := NB346_364.out
                        have hcz65_0 : w43.cell? ⟨gb364, 0, none⟩ = some (.int .u32 0) := (blk_cell BK364.out 0).trans rfl
                        have hcz65_1 : w43.cell? ⟨gb364, 1, none⟩ = some (.int .u32 0) := (blk_cell BK364.out 1).trans rfl
                        have hfz65_0 := blk_frozen BK364.out 0
                        have hfz65_1 := blk_frozen BK364.out 1
                        go_wp2
                        go_meet
                        case rel => exact ⟨_, ((t363 != 0)), (by first | rfl | (simp; done) | (simp [*]; done)), H', ⟨by have := HJ6.out; first | omega | exact Nat.le_refl _⟩, ⟨by refine bkT ?_; refine blk_far ?_ NB345_364.out _; refine bkT ?_; refine blk_far ?_ NB345_364.out _; refine bkT ?_; exact BK345.out⟩, ⟨by refine bkT ?_; refine blk_far ?_ NB346_364.out _; refine bkT ?_; refine blk_far ?_ NB346_364.out _; refine bkT ?_; exact BK346.out⟩, ⟨by refine bkT ?_; refine blk_far ?_ NB359_364.out _; refine bkT ?_; refine blk_far ?_ NB359_364.out _; refine bkT ?_; exact BK359.out⟩, ⟨by refine bkT ?_; refine blk_put (cs := #[.int .u32 t360, .int .u32 0]) ?_ 1 _ rfl; refine bkT ?_; refine blk_put (cs := #[.int .u32 0, .int .u32 0]) ?_ 0 _ rfl; refine bkT ?_; exact BK364.out⟩, ⟨by repeat (first | (with_reducible first | exact HB.out | apply below_alloc | apply pw_below_drewN | apply below_drew1 | refine below_set ?_ GE345.out | refine below_set ?_ GE346.out | refine below_set ?_ GE359.out | refine below_set ?_ GE364.out) | exact HB.out)⟩⟩
                      · rw [if_neg c58] at H
                        have c58b0 : (t358 == 0) = false := beq_eq_false_iff_ne.mpr c58
                        have c58b1 : (t358 != 0) = true := bne_iff_ne.mpr c58
                        have H' := am H
                        clear H
                        have hnb66 := NB359_345.out
                        have hnc66 := NB345_359.out
                        have hnb67 := NB359_346.out
                        have hnc67 := NB346_359.out
                        have hnb68 := NB359_364.out
                        have hnc68 := NB364_359.out
                        have hcz69_0 : w43.cell? ⟨gb359, 0, none⟩ = some (.int .u32 t355) := (blk_cell BK359.out 0).trans rfl
                        have hcz69_1 : w43.cell? ⟨gb359, 1, none⟩ = some (.int .u32 t356) := (blk_cell BK359.out 1).trans rfl
                        have hfz69_0 := blk_frozen BK359.out 0
                        have hfz69_1 := blk_frozen BK359.out 1
                        have hnb70 := NB364_345.out
                        have hnc70 := NB345_364.out
                        have hnb71 := NB364_346.out
                        have hnc71 := NB346_364.out
                        have hcz72_0 : w43.cell? ⟨gb364, 0, none⟩ = some (.int .u32 0) := (blk_cell BK364.out 0).trans rfl
                        have hcz72_1 : w43.cell? ⟨gb364, 1, none⟩ = some (.int .u32 0) := (blk_cell BK364.out 1).trans rfl
                        have hfz72_0 := blk_frozen BK364.out 0
                        have hfz72_1 := blk_frozen BK364.out 1
                        go_wp2
                        go_meet
                        case rel => exact ⟨_, (true), (by first | rfl | (simp; done) | (simp [*]; done)), H', ⟨by have := HJ6.out; first | omega | exact Nat.le_refl _⟩, ⟨by refine bkT ?_; refine blk_far ?_ NB345_364.out _; refine bkT ?_; refine blk_far ?_ NB345_364.out _; refine bkT ?_; exact BK345.out⟩, ⟨by refine bkT ?_; refine blk_far ?_ NB346_364.out _; refine bkT ?_; refine blk_far ?_ NB346_364.out _; refine bkT ?_; exact BK346.out⟩, ⟨by refine bkT ?_; refine blk_far ?_ NB359_364.out _; refine bkT ?_; refine blk_far ?_ NB359_364.out _; refine bkT ?_; exact BK359.out⟩, ⟨by refine bkT ?_; refine blk_put (cs := #[.int .u32 t360, .int .u32 0]) ?_ 1 _ rfl; refine bkT ?_; refine blk_put (cs := #[.int .u32 0, .int .u32 0]) ?_ 0 _ rfl; refine bkT ?_; exact BK364.out⟩, ⟨by repeat (first | (with_reducible first | exact HB.out | apply below_alloc | apply pw_below_drewN | apply below_drew1 | refine below_set ?_ GE345.out | refine below_set ?_ GE346.out | refine below_set ?_ GE359.out | refine below_set ?_ GE364.out) | exact HB.out)⟩⟩
                    · replace c57 := Bool.eq_false_iff.mpr c57
                      subst c57
                      have H1 : (lamplighterlaw19_IntervalTurns.j1 kj6 a3 true a0_0 a0_1) = some r := by rw [if_neg (show ¬ (false = true) by decide)] at H; exact H
                      clear H
                      have H := H1
                      clear H1
                      have H' := am H
                      clear H
                      have hnb73 := NB359_345.out
                      have hnc73 := NB345_359.out
                      have hnb74 := NB359_346.out
                      have hnc74 := NB346_359.out
                      have hnb75 := NB359_364.out
                      have hnc75 := NB364_359.out
                      have hcz76_0 : w43.cell? ⟨gb359, 0, none⟩ = some (.int .u32 t355) := (blk_cell BK359.out 0).trans rfl
                      have hcz76_1 : w43.cell? ⟨gb359, 1, none⟩ = some (.int .u32 t356) := (blk_cell BK359.out 1).trans rfl
                      have hfz76_0 := blk_frozen BK359.out 0
                      have hfz76_1 := blk_frozen BK359.out 1
                      have hnb77 := NB364_345.out
                      have hnc77 := NB345_364.out
                      have hnb78 := NB364_346.out
                      have hnc78 := NB346_364.out
                      have hcz79_0 : w43.cell? ⟨gb364, 0, none⟩ = some (.int .u32 0) := (blk_cell BK364.out 0).trans rfl
                      have hcz79_1 : w43.cell? ⟨gb364, 1, none⟩ = some (.int .u32 0) := (blk_cell BK364.out 1).trans rfl
                      have hfz79_0 := blk_frozen BK364.out 0
                      have hfz79_1 := blk_frozen BK364.out 1
                      go_wp2
                      go_meet
                      case rel => exact ⟨_, (true), (by first | rfl | (simp; done) | (simp [*]; done)), H', ⟨by have := HJ6.out; first | omega | exact Nat.le_refl _⟩, ⟨by refine bkT ?_; refine blk_far ?_ NB345_364.out _; refine bkT ?_; refine blk_far ?_ NB345_364.out _; refine bkT ?_; exact BK345.out⟩, ⟨by refine bkT ?_; refine blk_far ?_ NB346_364.out _; refine bkT ?_; refine blk_far ?_ NB346_364.out _; refine bkT ?_; exact BK346.out⟩, ⟨by refine bkT ?_; refine blk_far ?_ NB359_364.out _; refine bkT ?_; refine blk_far ?_ NB359_364.out _; refine bkT ?_; exact BK359.out⟩, ⟨by refine bkT ?_; refine blk_put (cs := #[.int .u32 t360, .int .u32 0]) ?_ 1 _ rfl; refine bkT ?_; refine blk_put (cs := #[.int .u32 0, .int .u32 0]) ?_ 0 _ rfl; refine bkT ?_; exact BK364.out⟩, ⟨by repeat (first | (with_reducible first | exact HB.out | apply below_alloc | apply pw_below_drewN | apply below_drew1 | refine below_set ?_ GE345.out | refine below_set ?_ GE346.out | refine below_set ?_ GE359.out | refine below_set ?_ GE364.out) | exact HB.out)⟩⟩
                  · replace c56 := Bool.eq_false_iff.mpr c56
                    subst c56
                    have H1 : (lamplighterlaw19_IntervalTurns.j1 kj6 a3 true a0_0 a0_1) = some r := by rw [if_neg (show ¬ (false = true) by decide)] at H; exact H
                    clear H
                    have H := H1
                    clear H1
                    have H' := am H
                    clear H
                    have hnb80 := NB359_345.out
                    have hnc80 := NB345_359.out
                    have hnb81 := NB359_346.out
                    have hnc81 := NB346_359.out
                    have hnb82 := NB359_364.out
                    have hnc82 := NB364_359.out
                    have hcz83_0 : w43.cell? ⟨gb359, 0, none⟩ = some (.int .u32 t355) := (blk_cell BK359.out 0).trans rfl
                    have hcz83_1 : w43.cell? ⟨gb359, 1, none⟩ = some (.int .u32 t356) := (blk_cell BK359.out 1).trans rfl
                    have hfz83_0 := blk_frozen BK359.out 0
                    have hfz83_1 := blk_frozen BK359.out 1
                    have hnb84 := NB364_345.out
                    have hnc84 := NB345_364.out
                    have hnb85 := NB364_346.out
                    have hnc85 := NB346_364.out
                    have hcz86_0 : w43.cell? ⟨gb364, 0, none⟩ = some (.int .u32 0) := (blk_cell BK364.out 0).trans rfl
                    have hcz86_1 : w43.cell? ⟨gb364, 1, none⟩ = some (.int .u32 0) := (blk_cell BK364.out 1).trans rfl
                    have hfz86_0 := blk_frozen BK364.out 0
                    have hfz86_1 := blk_frozen BK364.out 1
                    go_wp2
                    go_meet
                    case rel => exact ⟨_, (true), (by first | rfl | (simp; done) | (simp [*]; done)), H', ⟨by have := HJ6.out; first | omega | exact Nat.le_refl _⟩, ⟨by refine bkT ?_; refine blk_far ?_ NB345_364.out _; refine bkT ?_; refine blk_far ?_ NB345_364.out _; refine bkT ?_; exact BK345.out⟩, ⟨by refine bkT ?_; refine blk_far ?_ NB346_364.out _; refine bkT ?_; refine blk_far ?_ NB346_364.out _; refine bkT ?_; exact BK346.out⟩, ⟨by refine bkT ?_; refine blk_far ?_ NB359_364.out _; refine bkT ?_; refine blk_far ?_ NB359_364.out _; refine bkT ?_; exact BK359.out⟩, ⟨by refine bkT ?_; refine blk_put (cs := #[.int .u32 t360, .int .u32 0]) ?_ 1 _ rfl; refine bkT ?_; refine blk_put (cs := #[.int .u32 0, .int .u32 0]) ?_ 0 _ rfl; refine bkT ?_; exact BK364.out⟩, ⟨by repeat (first | (with_reducible first | exact HB.out | apply below_alloc | apply pw_below_drewN | apply below_drew1 | refine below_set ?_ GE345.out | refine below_set ?_ GE346.out | refine below_set ?_ GE359.out | refine below_set ?_ GE364.out) | exact HB.out)⟩⟩
              case rest =>
                clear HC28
                try clear c1
                try clear c2
                try clear p2
                try clear c3
                try clear p3
                try clear q3
                try clear hx3
                try clear c4
                try clear c5
                try clear c6
                try clear c7
                try clear c8
                try clear c9
                try clear c10
                try clear c11
                try clear c12
                try clear c12b0
                try clear c12b1
                try clear c14
                try clear c19
                try clear c22
                try clear c24
                try clear c24b0
                try clear c25
                try clear c25b0
                try clear c32
                try clear p35
                try clear q35
                try clear hx35
                try clear c37
                try clear c38
                try clear c44
                try clear c45
                try clear c46
                try clear c48
                try clear c48b0
                try clear c49
                try clear c50
                try clear c51
                try clear c53
                try clear c54
                try clear c56
                try clear c57
                try clear c58
                try clear c58b0
                try clear c58b1
                try clear c59
                try clear c60
                try clear c61
                try clear c63
                try clear c64
                try clear c66
                try clear c67
                try clear c68
                try clear c70
                try clear c71
                try clear c73
                try clear c74
                try clear c75
                try clear c77
                try clear c78
                try clear c80
                try clear c81
                try clear c82
                try clear c84
                try clear c85
                try clear hcz15_0
                try clear hcz15_1
                try clear hcz17_0
                try clear hcz17_1
                try clear hcz20_0
                try clear hcz20_1
                try clear hcz33_0
                try clear hcz33_1
                try clear hcz34_0
                try clear hcz34_1
                try clear hcz39_0
                try clear hcz39_1
                try clear hcz40_0
                try clear hcz40_1
                try clear hcz41_0
                try clear hcz41_1
                try clear hcz47_0
                try clear hcz47_1
                try clear hcz52_0
                try clear hcz52_1
                try clear hcz55_0
                try clear hcz55_1
                try clear hcz62_0
                try clear hcz62_1
                try clear hcz65_0
                try clear hcz65_1
                try clear hcz69_0
                try clear hcz69_1
                try clear hcz72_0
                try clear hcz72_1
                try clear hcz76_0
                try clear hcz76_1
                try clear hcz79_0
                try clear hcz79_1
                try clear hcz83_0
                try clear hcz83_1
                try clear hcz86_0
                try clear hcz86_1
                try clear hfz15_0
                try clear hfz15_1
                try clear hfz17_0
                try clear hfz17_1
                try clear hfz20_0
                try clear hfz20_1
                try clear hfz33_0
                try clear hfz33_1
                try clear hfz34_0
                try clear hfz34_1
                try clear hfz39_0
                try clear hfz39_1
                try clear hfz40_0
                try clear hfz40_1
                try clear hfz41_0
                try clear hfz41_1
                try clear hfz47_0
                try clear hfz47_1
                try clear hfz52_0
                try clear hfz52_1
                try clear hfz55_0
                try clear hfz55_1
                try clear hfz62_0
                try clear hfz62_1
                try clear hfz65_0
                try clear hfz65_1
                try clear hfz69_0
                try clear hfz69_1
                try clear hfz72_0
                try clear hfz72_1
                try clear hfz76_0
                try clear hfz76_1
                try clear hfz79_0
                try clear hfz79_1
                try clear hfz83_0
                try clear hfz83_1
                try clear hfz86_0
                try clear hfz86_1
                try clear hx354_0
                try clear p2
                try clear p354
                try clear q354
                obtain ⟨kq, x80_27, rfl, HA, HJ27, BK345, BK346, BK359, BK364, HB⟩ := hcut
                cases kq with
                | zero => exact absurd HA.out (by simp [lamplighterlaw19_IntervalTurns.j1])
                | succ kj27 =>
                  have H := HA.out
                  clear HA
                  simp only [lamplighterlaw19_IntervalTurns.j1] at H
                  by_cases c87 : x80_27 = true
                  · subst c87
                    have H1 : (some false) = some r := by rw [if_pos rfl] at H; exact H
                    clear H
                    have H := H1
                    clear H1
                    exact absurd ((Option.some.inj H).trans hr_.out) (by decide)
                  · replace c87 := Bool.eq_false_iff.mpr c87
                    subst c87
                    have H1 : ((some (([8, 16, 32] : List Int) : List Int)).bind fun y365 => ((lamplighterkit_Pick.f a3 3).bind fun t368 => (if 0 ≤ t368 then (if t368 < (y365.length : Int) then ((interval_Cut.f kj27 a0_0 a0_1 (rd y365 t368)).bind fun bt370 => ((interval_Cut.f kj27 bt370.1 bt370.2.1 (rd y365 t368)).bind fun bt374 => ((interval_Cut.f kj27 bt370.1 bt370.2.1 32).bind fun bt378 => ((interval_Un.f kj27 2 a0_0 a0_1).bind fun bt382 => ((interval_Un.f kj27 2 bt382.1 bt382.2.1).bind fun bt386 => ((interval_Un.f kj27 1 a0_0 a0_1).bind fun bt390 => ((interval_Un.f kj27 1 bt390.1 bt390.2.1).bind fun bt394 => (if (bt370.1 == bt374.1 && (bt370.2.1 == bt374.2.1)) = true then (if (bt378.1 == bt370.1 && (bt378.2.1 == bt370.2.1)) = true then (if (bt386.1 == a0_0 && (bt386.2.1 == a0_1)) = true then ((interval_Within.f kj27 a0_0 a0_1 bt394.1 bt394.2.1).bind fun t398 => (some t398)) else (some false)) else (some false)) else (some false))))))))) else (none)) else (none)))) = some r := by rw [if_neg (show ¬ (false = true) by decide)] at H; exact H
                    clear H
                    have H := H1
                    clear H1
                    obtain ⟨y365, hy365⟩ : ∃ y_ : List Int, y_ = (([8, 16, 32] : List Int)) := ⟨_, rfl⟩
                    replace H : ((lamplighterkit_Pick.f a3 3).bind fun t368 => (if 0 ≤ t368 then (if t368 < (y365.length : Int) then ((interval_Cut.f kj27 a0_0 a0_1 (rd y365 t368)).bind fun bt370 => ((interval_Cut.f kj27 bt370.1 bt370.2.1 (rd y365 t368)).bind fun bt374 => ((interval_Cut.f kj27 bt370.1 bt370.2.1 32).bind fun bt378 => ((interval_Un.f kj27 2 a0_0 a0_1).bind fun bt382 => ((interval_Un.f kj27 2 bt382.1 bt382.2.1).bind fun bt386 => ((interval_Un.f kj27 1 a0_0 a0_1).bind fun bt390 => ((interval_Un.f kj27 1 bt390.1 bt390.2.1).bind fun bt394 => (if (bt370.1 == bt374.1 && (bt370.2.1 == bt374.2.1)) = true then (if (bt378.1 == bt370.1 && (bt378.2.1 == bt370.2.1)) = true then (if (bt386.1 == a0_0 && (bt386.2.1 == a0_1)) = true then ((interval_Within.f kj27 a0_0 a0_1 bt394.1 bt394.2.1).bind fun t398 => (some t398)) else (some false)) else (some false)) else (some false))))))))) else (none)) else (none))) = some r := by first | (rw [hy365]; with_reducible exact H) | (have H2_ := (Option.bind_some _ _).symm.trans H; rw [hy365]; with_reducible exact H2_) | (have H2_ := (Option.bind_some _ _).symm.trans H; with_reducible exact H2_) | with_reducible exact H | (rw [hy365]; exact H) | exact H
                    have Ny365 := am hy365
                    clear hy365
                    replace H := Option.bind_eq_some_iff.mp H
                    obtain ⟨t368, A880, H⟩ := H
                    replace H : (if 0 ≤ t368 then (if t368 < (y365.length : Int) then ((interval_Cut.f kj27 a0_0 a0_1 (rd y365 t368)).bind fun bt370 => ((interval_Cut.f kj27 bt370.1 bt370.2.1 (rd y365 t368)).bind fun bt374 => ((interval_Cut.f kj27 bt370.1 bt370.2.1 32).bind fun bt378 => ((interval_Un.f kj27 2 a0_0 a0_1).bind fun bt382 => ((interval_Un.f kj27 2 bt382.1 bt382.2.1).bind fun bt386 => ((interval_Un.f kj27 1 a0_0 a0_1).bind fun bt390 => ((interval_Un.f kj27 1 bt390.1 bt390.2.1).bind fun bt394 => (if (bt370.1 == bt374.1 && (bt370.2.1 == bt374.2.1)) = true then (if (bt378.1 == bt370.1 && (bt378.2.1 == bt370.2.1)) = true then (if (bt386.1 == a0_0 && (bt386.2.1 == a0_1)) = true then ((interval_Within.f kj27 a0_0 a0_1 bt394.1 bt394.2.1).bind fun t398 => (some t398)) else (some false)) else (some false)) else (some false))))))))) else (none)) else (none)) = some r := H
                    have A88 := am A880
                    clear A880
                    by_cases c89 : 0 ≤ t368
                    · rw [if_pos c89] at H
                      have c89b0 : decide (0 ≤ t368) = true := decide_eq_true c89
                      clear c89
                      by_cases c90 : t368 < (y365.length : Int)
                      · rw [if_pos c90] at H
                        have c90b0 : decide (t368 < (y365.length : Int)) = true := decide_eq_true c90
                        clear c90
                        replace H := Option.bind_eq_some_iff.mp H
                        obtain ⟨⟨t370, t371, t372⟩, A910, H⟩ := H
                        replace H : ((interval_Cut.f kj27 t370 t371 (rd y365 t368)).bind fun bt374 => ((interval_Cut.f kj27 t370 t371 32).bind fun bt378 => ((interval_Un.f kj27 2 a0_0 a0_1).bind fun bt382 => ((interval_Un.f kj27 2 bt382.1 bt382.2.1).bind fun bt386 => ((interval_Un.f kj27 1 a0_0 a0_1).bind fun bt390 => ((interval_Un.f kj27 1 bt390.1 bt390.2.1).bind fun bt394 => (if (t370 == bt374.1 && (t371 == bt374.2.1)) = true then (if (bt378.1 == t370 && (bt378.2.1 == t371)) = true then (if (bt386.1 == a0_0 && (bt386.2.1 == a0_1)) = true then ((interval_Within.f kj27 a0_0 a0_1 bt394.1 bt394.2.1).bind fun t398 => (some t398)) else (some false)) else (some false)) else (some false)))))))) = some r := H
                        have A91 := am A910
                        clear A910
                        replace H := Option.bind_eq_some_iff.mp H
                        obtain ⟨⟨t374, t375, t376⟩, A920, H⟩ := H
                        replace H : ((interval_Cut.f kj27 t370 t371 32).bind fun bt378 => ((interval_Un.f kj27 2 a0_0 a0_1).bind fun bt382 => ((interval_Un.f kj27 2 bt382.1 bt382.2.1).bind fun bt386 => ((interval_Un.f kj27 1 a0_0 a0_1).bind fun bt390 => ((interval_Un.f kj27 1 bt390.1 bt390.2.1).bind fun bt394 => (if (t370 == t374 && (t371 == t375)) = true then (if (bt378.1 == t370 && (bt378.2.1 == t371)) = true then (if (bt386.1 == a0_0 && (bt386.2.1 == a0_1)) = true then ((interval_Within.f kj27 a0_0 a0_1 bt394.1 bt394.2.1).bind fun t398 => (some t398)) else (some false)) else (some false)) else (some false))))))) = some r := H
                        have A92 := am A920
                        clear A920
                        replace H := Option.bind_eq_some_iff.mp H
                        obtain ⟨⟨t378, t379, t380⟩, A930, H⟩ := H
                        replace H : ((interval_Un.f kj27 2 a0_0 a0_1).bind fun bt382 => ((interval_Un.f kj27 2 bt382.1 bt382.2.1).bind fun bt386 => ((interval_Un.f kj27 1 a0_0 a0_1).bind fun bt390 => ((interval_Un.f kj27 1 bt390.1 bt390.2.1).bind fun bt394 => (if (t370 == t374 && (t371 == t375)) = true then (if (t378 == t370 && (t379 == t371)) = true then (if (bt386.1 == a0_0 && (bt386.2.1 == a0_1)) = true then ((interval_Within.f kj27 a0_0 a0_1 bt394.1 bt394.2.1).bind fun t398 => (some t398)) else (some false)) else (some false)) else (some false)))))) = some r := H
                        have A93 := am A930
                        clear A930
                        replace H := Option.bind_eq_some_iff.mp H
                        obtain ⟨⟨t382, t383, t384⟩, A940, H⟩ := H
                        replace H : ((interval_Un.f kj27 2 t382 t383).bind fun bt386 => ((interval_Un.f kj27 1 a0_0 a0_1).bind fun bt390 => ((interval_Un.f kj27 1 bt390.1 bt390.2.1).bind fun bt394 => (if (t370 == t374 && (t371 == t375)) = true then (if (t378 == t370 && (t379 == t371)) = true then (if (bt386.1 == a0_0 && (bt386.2.1 == a0_1)) = true then ((interval_Within.f kj27 a0_0 a0_1 bt394.1 bt394.2.1).bind fun t398 => (some t398)) else (some false)) else (some false)) else (some false))))) = some r := H
                        have A94 := am A940
                        clear A940
                        replace H := Option.bind_eq_some_iff.mp H
                        obtain ⟨⟨t386, t387, t388⟩, A950, H⟩ := H
                        replace H : ((interval_Un.f kj27 1 a0_0 a0_1).bind fun bt390 => ((interval_Un.f kj27 1 bt390.1 bt390.2.1).bind fun bt394 => (if (t370 == t374 && (t371 == t375)) = true then (if (t378 == t370 && (t379 == t371)) = true then (if (t386 == a0_0 && (t387 == a0_1)) = true then ((interval_Within.f kj27 a0_0 a0_1 bt394.1 bt394.2.1).bind fun t398 => (some t398)) else (some false)) else (some false)) else (some false)))) = some r := H
                        have A95 := am A950
                        clear A950
                        replace H := Option.bind_eq_some_iff.mp H
                        obtain ⟨⟨t390, t391, t392⟩, A960, H⟩ := H
                        replace H : ((interval_Un.f kj27 1 t390 t391).bind fun bt394 => (if (t370 == t374 && (t371 == t375)) = true then (if (t378 == t370 && (t379 == t371)) = true then (if (t386 == a0_0 && (t387 == a0_1)) = true then ((interval_Within.f kj27 a0_0 a0_1 bt394.1 bt394.2.1).bind fun t398 => (some t398)) else (some false)) else (some false)) else (some false))) = some r := H
                        have A96 := am A960
                        clear A960
                        replace H := Option.bind_eq_some_iff.mp H
                        obtain ⟨⟨t394, t395, t396⟩, A970, H⟩ := H
                        replace H : (if (t370 == t374 && (t371 == t375)) = true then (if (t378 == t370 && (t379 == t371)) = true then (if (t386 == a0_0 && (t387 == a0_1)) = true then ((interval_Within.f kj27 a0_0 a0_1 t394 t395).bind fun t398 => (some t398)) else (some false)) else (some false)) else (some false)) = some r := H
                        have A97 := am A970
                        clear A970
                        by_cases c98 : (t370 == t374 && (t371 == t375)) = true
                        · rw [if_pos c98] at H
                          have c98b0 : (t370 == t374 && (t371 == t375)) = true := c98
                          (try (have c98b1 : decide (t370 = t374 && (t371 == t375)) = true := by simpa using c98))
                          (try (have c98b2 : (t370 == t374 && (t371 == t375)) = true := by simpa using c98))
                          clear c98
                          by_cases c99 : (t378 == t370 && (t379 == t371)) = true
                          · rw [if_pos c99] at H
                            have c99b0 : (t378 == t370 && (t379 == t371)) = true := c99
                            (try (have c99b1 : decide (t378 = t370 && (t379 == t371)) = true := by simpa using c99))
                            (try (have c99b2 : (t378 == t370 && (t379 == t371)) = true := by simpa using c99))
                            clear c99
                            by_cases c100 : (t386 == a0_0 && (t387 == a0_1)) = true
                            · rw [if_pos c100] at H
                              have c100b0 : (t386 == a0_0 && (t387 == a0_1)) = true := c100
                              (try (have c100b1 : decide (t386 = a0_0 && (t387 == a0_1)) = true := by simpa using c100))
                              (try (have c100b2 : (t386 == a0_0 && (t387 == a0_1)) = true := by simpa using c100))
                              clear c100
                              replace H := Option.bind_eq_some_iff.mp H
                              obtain ⟨t398, A1010, H⟩ := H
                              replace H : (some t398) = some r := H
                              have A101 := am A1010
                              clear A1010
                              obtain rfl := Option.some.inj H
                              go_wp2_with (first | ((with_reducible refine gate_dst (N := 81) rfl ?_); refine Kd.R_lit (Kd.int .i64) _ 3 ?hg (N := 81) ?hd (xs := ([8, 16, 32] : List Int)) (inner := [.int .i64 8, .int .i64 16, .int .i64 32]) (ok := fun _ => True) (okp := fun _ => True) ?hr ?hp (fun _ hk => hk) trivial (Below.refl _ _) (Nat.le_refl _) (by simp) ?_; (case hd => rfl); (case hg => rfl); (case hr => first | (go_simp; done) | (go_simp; rfl)); (case hp => exact (Reps.one (show Kd.M (Kd.int .i64) _ _ _ 8 [.int .i64 8] from rfl) (Reps.one (show Kd.M (Kd.int .i64) _ _ _ 16 [.int .i64 16] from rfl) (Reps.one (show Kd.M (Kd.int .i64) _ _ _ 32 [.int .i64 32] from rfl) (Reps.none _ _))))); intro v366 w102 ho103 hb hg_ hnew_; clear hg_ hnew_; (first | rw [← Ny365.out] at ho103 | (simp only [Int.reduceToNat] at ho103; rw [← Ny365.out] at ho103)); have n0_ := am (Kd.R_lower ho103 (below_size (hbA HB))); have n1_ := am (blk_below (g := gb345) (o := .cells #[.int .u32 a0_0, .int .u32 a0_1] 24 (0, 0)) (bkA BK345) hb); have n2_ := am (blk_below (g := gb346) (o := .cells #[.int .u32 a1_0, .int .u32 a1_1] 24 (0, 0)) (bkA BK346) hb); have n3_ := am (blk_below (g := gb359) (o := .cells #[.int .u32 t355, .int .u32 t356] 24 (0, 0)) (bkA BK359) hb); have n4_ := am (blk_below (g := gb364) (o := .cells #[.int .u32 t360, .int .u32 t361] 24 (0, 0)) (bkA BK364) hb); have n5_ := am (below_step (hbA HB) hb); clear BK345; clear BK346; clear BK359; clear BK364; clear HB; have HO367 := n0_; have BK345 := n1_; have BK346 := n2_; have BK359 := n3_; have BK364 := n4_; have HB := n5_; clear n0_ n1_ n2_ n3_ n4_ n5_; clear hb ho103) | ((with_reducible refine gate_callee (f := 10) rfl ?_); refine goesL_ (some 83) rfl rfl Try.func10 (by kernel_rfl) rfl #[.int .i64 a3, .int .i64 3] rfl (by (try simp only [List.map_toArray, List.map_cons, List.map_nil]); first | done | rfl | (simp only [List.length_drop, List.length_take]; rfl)) ?_; (with_reducible refine (lamplighterkit_Pick.calls a3 3 t368 _ A88.out).mono ?_); rintro e w' ⟨rfl, ⟨nd, rfl⟩⟩; refine ⟨_, rfl, ?_⟩; (try (rw [drewN_self w102]; generalize hq_ : World.drewN w102 _ = w102; have n0_ : Aside0 (Kd.R (Kd.int .i64) 3 w102 w.heap.size (fun _ => True) v366 y365) := ⟨by rw [← hq_]; exact (by (with_reducible repeat (first | apply Kd.R_alloc | apply Kd.R_drewN | apply Kd.R_drew)); exact HO367.out)⟩; have n1_ : Aside0 (w102.heap[gb345]? = some (.cells #[.int .u32 a0_0, .int .u32 a0_1] 24 (0, 0))) := ⟨by rw [← hq_]; exact (bkA BK345)⟩; have n2_ : Aside0 (w102.heap[gb346]? = some (.cells #[.int .u32 a1_0, .int .u32 a1_1] 24 (0, 0))) := ⟨by rw [← hq_]; exact (bkA BK346)⟩; have n3_ : Aside0 (w102.heap[gb359]? = some (.cells #[.int .u32 t355, .int .u32 t356] 24 (0, 0))) := ⟨by rw [← hq_]; exact (bkA BK359)⟩; have n4_ : Aside0 (w102.heap[gb364]? = some (.cells #[.int .u32 t360, .int .u32 t361] 24 (0, 0))) := ⟨by rw [← hq_]; exact (bkA BK364)⟩; have n5_ : Aside0 (Below w.heap.size w w102) := ⟨by rw [← hq_]; exact (hbA HB)⟩; clear HO367 BK345 BK346 BK359 BK364 HB hq_; have HO367 := n0_; have BK345 := n1_; have BK346 := n2_; have BK359 := n3_; have BK364 := n4_; have HB := n5_; clear n0_ n1_ n2_ n3_ n4_ n5_)); obtain ⟨Ao104, co104, eo104⟩ := Kd.R_slice HO367.out; subst eo104; have p369 : 0 ≤ (t368 : Int) := of_decide_eq_true (by first | (with_reducible assumption) | assumption); have q369 : t368 < (y365.length : Int) := of_decide_eq_true (by first | (with_reducible assumption) | assumption); obtain ⟨ad369, e369, hx369_0⟩ := Kd.at_int (Kd.R_reads' HO367.out).2.2 t368 p369 q369; cases e369; replace p369 := eq_true p369; replace q369 := eq_true q369; have hnb105 := NB345_346.out; have hnc105 := NB346_345.out; have hnb106 := NB345_359.out; have hnc106 := NB359_345.out; have hnb107 := NB345_364.out; have hnc107 := NB364_345.out; have hcz108_0 : w102.cell? ⟨gb345, 0, none⟩ = some (.int .u32 a0_0) := (blk_cell BK345.out 0).trans rfl; have hcz108_1 : w102.cell? ⟨gb345, 1, none⟩ = some (.int .u32 a0_1) := (blk_cell BK345.out 1).trans rfl; have hfz108_0 := blk_frozen BK345.out 0; have hfz108_1 := blk_frozen BK345.out 1) | ((with_reducible refine gate_callee (f := 17) rfl ?_); refine goesL_ (some 89) rfl rfl Try.func17 (by kernel_rfl) rfl #[.agg #[.int .u32 a0_0, .int .u32 a0_1], .int .i64 (rd y365 t368)] rfl (by (try simp only [List.map_toArray, List.map_cons, List.map_nil]); first | done | rfl | (simp only [List.length_drop, List.length_take]; rfl)) ?_; (with_reducible refine (interval_Cut.calls kj27 a0_0 a0_1 (rd y365 t368) t370 t371 t372 _ A91.out).mono ?_); rintro e w109 ⟨rfl, hb⟩; refine ⟨_, rfl, ?_⟩; have n0_ := am (Kd.R_below (by (with_reducible repeat (first | apply Kd.R_alloc | apply Kd.R_drewN | apply Kd.R_drew)); exact HO367.out) hb); have n1_ := am (blk_below (g := gb345) (o := .cells #[.int .u32 a0_0, .int .u32 a0_1] 24 (0, 0)) (bkA BK345) hb); have n2_ := am (blk_below (g := gb346) (o := .cells #[.int .u32 a1_0, .int .u32 a1_1] 24 (0, 0)) (bkA BK346) hb); have n3_ := am (blk_below (g := gb359) (o := .cells #[.int .u32 t355, .int .u32 t356] 24 (0, 0)) (bkA BK359) hb); have n4_ := am (blk_below (g := gb364) (o := .cells #[.int .u32 t360, .int .u32 t361] 24 (0, 0)) (bkA BK364) hb); have n5_ := am (below_step (hbA HB) hb); clear HO367; clear BK345; clear BK346; clear BK359; clear BK364; clear HB; have HO367 := n0_; have BK345 := n1_; have BK346 := n2_; have BK359 := n3_; have BK364 := n4_; have HB := n5_; clear n0_ n1_ n2_ n3_ n4_ n5_; (try clear hb); (try clear hb2); (try clear hk); (try clear hi)) | ((with_reducible refine gate_dst (N := 17) rfl ?_); refine box_event ?hg (N := 17) ?hd (cs := #[.int .u32 0, .int .u32 0]) (t := 24) ?hr ?_; (case hd => rfl); (case hg => rfl); (case hr => first | (go_simp; done) | (go_simp; rfl)); intro gb373 hg w110 hbox hb; have n0_ := am (Kd.R_below (by (with_reducible repeat (first | apply Kd.R_alloc | apply Kd.R_drewN | apply Kd.R_drew)); exact HO367.out) hb); have n1_ := am (blk_below (g := gb345) (o := .cells #[.int .u32 a0_0, .int .u32 a0_1] 24 (0, 0)) (bkA BK345) hb); have n2_ := am (blk_below (g := gb346) (o := .cells #[.int .u32 a1_0, .int .u32 a1_1] 24 (0, 0)) (bkA BK346) hb); have n3_ := am (blk_below (g := gb359) (o := .cells #[.int .u32 t355, .int .u32 t356] 24 (0, 0)) (bkA BK359) hb); have n4_ := am (blk_below (g := gb364) (o := .cells #[.int .u32 t360, .int .u32 t361] 24 (0, 0)) (bkA BK364) hb); have n5_ := am (below_step (hbA HB) hb); have n6_ := am (hbox); have n7_ := gwA hg HB; have n8_ := gwA hg HB; have n9_ := ltA hg BK345; have n10_ := gtA hg BK345; have n11_ := ltA hg BK346; have n12_ := gtA hg BK346; have n13_ := ltA hg BK359; have n14_ := gtA hg BK359; have n15_ := ltA hg BK364; have n16_ := gtA hg BK364; clear HO367; clear BK345; clear BK346; clear BK359; clear BK364; clear HB; have HO367 := n0_; have BK345 := n1_; have BK346 := n2_; have BK359 := n3_; have BK364 := n4_; have HB := n5_; have BK373 := n6_; have GW373 := n7_; have GE373 := n8_; have NB345_373 := n9_; have NB373_345 := n10_; have NB346_373 := n11_; have NB373_346 := n12_; have NB359_373 := n13_; have NB373_359 := n14_; have NB364_373 := n15_; have NB373_364 := n16_; clear n0_ n1_ n2_ n3_ n4_ n5_ n6_ n7_ n8_ n9_ n10_ n11_ n12_ n13_ n14_ n15_ n16_; clear hb hbox hg; have hnb111 := NB373_345.out; have hnc111 := NB345_373.out; have hnb112 := NB373_346.out; have hnc112 := NB346_373.out; have hnb113 := NB373_359.out; have hnc113 := NB359_373.out; have hnb114 := NB373_364.out; have hnc114 := NB364_373.out; have hcz115_0 : w110.cell? ⟨gb373, 0, none⟩ = some (.int .u32 0) := (blk_cell BK373.out 0).trans rfl; have hcz115_1 : w110.cell? ⟨gb373, 1, none⟩ = some (.int .u32 0) := (blk_cell BK373.out 1).trans rfl; have hfz115_0 := blk_frozen BK373.out 0; have hfz115_1 := blk_frozen BK373.out 1) | ((with_reducible refine gate_callee (f := 17) rfl ?_); refine goesL_ (some 95) rfl rfl Try.func17 (by kernel_rfl) rfl #[.agg #[.int .u32 t370, .int .u32 t371], .int .i64 (rd y365 t368)] rfl (by (try simp only [List.map_toArray, List.map_cons, List.map_nil]); first | done | rfl | (simp only [List.length_drop, List.length_take]; rfl)) ?_; (with_reducible refine (interval_Cut.calls kj27 t370 t371 (rd y365 t368) t374 t375 t376 _ A92.out).mono ?_); rintro e w116 ⟨rfl, hb⟩; refine ⟨_, rfl, ?_⟩; have n0_ := am (Kd.R_below (by (with_reducible repeat (first | apply Kd.R_alloc | apply Kd.R_drewN | apply Kd.R_drew)); exact (Kd.R_mono (Kd.R_far (p := ⟨gb373, 1, none⟩) (Kd.R_far (p := ⟨gb373, 0, none⟩) (Kd.R_types HO367.out BK373.out (by decide)) (fun _ hk => hk.2) (.int .u32 t370)) (fun _ hk => hk.2) (.int .u32 t371)) (fun _ h_ => h_.1))) hb); have n1_ := am (blk_below (g := gb345) (o := .cells #[.int .u32 a0_0, .int .u32 a0_1] 24 (0, 0)) (by refine bkT ?_; refine blk_far ?_ NB345_373.out _; refine bkT ?_; refine blk_far ?_ NB345_373.out _; refine bkT ?_; exact BK345.out) hb); have n2_ := am (blk_below (g := gb346) (o := .cells #[.int .u32 a1_0, .int .u32 a1_1] 24 (0, 0)) (by refine bkT ?_; refine blk_far ?_ NB346_373.out _; refine bkT ?_; refine blk_far ?_ NB346_373.out _; refine bkT ?_; exact BK346.out) hb); have n3_ := am (blk_below (g := gb359) (o := .cells #[.int .u32 t355, .int .u32 t356] 24 (0, 0)) (by refine bkT ?_; refine blk_far ?_ NB359_373.out _; refine bkT ?_; refine blk_far ?_ NB359_373.out _; refine bkT ?_; exact BK359.out) hb); have n4_ := am (blk_below (g := gb364) (o := .cells #[.int .u32 t360, .int .u32 t361] 24 (0, 0)) (by refine bkT ?_; refine blk_far ?_ NB364_373.out _; refine bkT ?_; refine blk_far ?_ NB364_373.out _; refine bkT ?_; exact BK364.out) hb); have n5_ := am (blk_below (g := gb373) (o := .cells #[.int .u32 t370, .int .u32 t371] 24 (0, 0)) (by refine bkT ?_; refine blk_put (cs := #[.int .u32 t370, .int .u32 0]) ?_ 1 _ rfl; refine bkT ?_; refine blk_put (cs := #[.int .u32 0, .int .u32 0]) ?_ 0 _ rfl; refine bkT ?_; exact BK373.out) hb); have n6_ := am (below_step (hbA HB) hb); clear HO367; clear BK345; clear BK346; clear BK359; clear BK364; clear BK373; clear HB; have HO367 := n0_; have BK345 := n1_; have BK346 := n2_; have BK359 := n3_; have BK364 := n4_; have BK373 := n5_; have HB := n6_; clear n0_ n1_ n2_ n3_ n4_ n5_ n6_; (try clear hb); (try clear hb2); (try clear hk); (try clear hi)) | ((with_reducible refine gate_dst (N := 19) rfl ?_); refine box_event ?hg (N := 19) ?hd (cs := #[.int .u32 0, .int .u32 0]) (t := 24) ?hr ?_; (case hd => rfl); (case hg => rfl); (case hr => first | (go_simp; done) | (go_simp; rfl)); intro gb377 hg w117 hbox hb; have n0_ := am (Kd.R_below (by (with_reducible repeat (first | apply Kd.R_alloc | apply Kd.R_drewN | apply Kd.R_drew)); exact HO367.out) hb); have n1_ := am (blk_below (g := gb345) (o := .cells #[.int .u32 a0_0, .int .u32 a0_1] 24 (0, 0)) (bkA BK345) hb); have n2_ := am (blk_below (g := gb346) (o := .cells #[.int .u32 a1_0, .int .u32 a1_1] 24 (0, 0)) (bkA BK346) hb); have n3_ := am (blk_below (g := gb359) (o := .cells #[.int .u32 t355, .int .u32 t356] 24 (0, 0)) (bkA BK359) hb); have n4_ := am (blk_below (g := gb364) (o := .cells #[.int .u32 t360, .int .u32 t361] 24 (0, 0)) (bkA BK364) hb); have n5_ := am (blk_below (g := gb373) (o := .cells #[.int .u32 t370, .int .u32 t371] 24 (0, 0)) (bkA BK373) hb); have n6_ := am (below_step (hbA HB) hb); have n7_ := am (hbox); have n8_ := gwA hg HB; have n9_ := gwA hg HB; have n10_ := ltA hg BK345; have n11_ := gtA hg BK345; have n12_ := ltA hg BK346; have n13_ := gtA hg BK346; have n14_ := ltA hg BK359; have n15_ := gtA hg BK359; have n16_ := ltA hg BK364; have n17_ := gtA hg BK364; have n18_ := ltA hg BK373; have n19_ := gtA hg BK373; clear HO367; clear BK345; clear BK346; clear BK359; clear BK364; clear BK373; clear HB; have HO367 := n0_; have BK345 := n1_; have BK346 := n2_; have BK359 := n3_; have BK364 := n4_; have BK373 := n5_; have HB := n6_; have BK377 := n7_; have GW377 := n8_; have GE377 := n9_; have NB345_377 := n10_; have NB377_345 := n11_; have NB346_377 := n12_; have NB377_346 := n13_; have NB359_377 := n14_; have NB377_359 := n15_; have NB364_377 := n16_; have NB377_364 := n17_; have NB373_377 := n18_; have NB377_373 := n19_; clear n0_ n1_ n2_ n3_ n4_ n5_ n6_ n7_ n8_ n9_ n10_ n11_ n12_ n13_ n14_ n15_ n16_ n17_ n18_ n19_; clear hb hbox hg; have hnb118 := NB377_345.out; have hnc118 := NB345_377.out; have hnb119 := NB377_346.out; have hnc119 := NB346_377.out; have hnb120 := NB377_359.out; have hnc120 := NB359_377.out; have hnb121 := NB377_364.out; have hnc121 := NB364_377.out; have hnb122 := NB377_373.out; have hnc122 := NB373_377.out; have hcz123_0 : w117.cell? ⟨gb377, 0, none⟩ = some (.int .u32 0) := (blk_cell BK377.out 0).trans rfl; have hcz123_1 : w117.cell? ⟨gb377, 1, none⟩ = some (.int .u32 0) := (blk_cell BK377.out 1).trans rfl; have hfz123_0 := blk_frozen BK377.out 0; have hfz123_1 := blk_frozen BK377.out 1; have hcz124_0 : w117.cell? ⟨gb373, 0, none⟩ = some (.int .u32 t370) := (blk_cell BK373.out 0).trans rfl; have hcz124_1 : w117.cell? ⟨gb373, 1, none⟩ = some (.int .u32 t371) := (blk_cell BK373.out 1).trans rfl; have hfz124_0 := blk_frozen BK373.out 0; have hfz124_1 := blk_frozen BK373.out 1) | ((with_reducible refine gate_callee (f := 17) rfl ?_); refine goesL_ (some 100) rfl rfl Try.func17 (by kernel_rfl) rfl #[.agg #[.int .u32 t370, .int .u32 t371], .int .i64 32] rfl (by (try simp only [List.map_toArray, List.map_cons, List.map_nil]); first | done | rfl | (simp only [List.length_drop, List.length_take]; rfl)) ?_; (with_reducible refine (interval_Cut.calls kj27 t370 t371 32 t378 t379 t380 _ A93.out).mono ?_); rintro e w125 ⟨rfl, hb⟩; refine ⟨_, rfl, ?_⟩; have n0_ := am (Kd.R_below (by (with_reducible repeat (first | apply Kd.R_alloc | apply Kd.R_drewN | apply Kd.R_drew)); exact (Kd.R_mono (Kd.R_far (p := ⟨gb377, 1, none⟩) (Kd.R_far (p := ⟨gb377, 0, none⟩) (Kd.R_types HO367.out BK377.out (by decide)) (fun _ hk => hk.2) (.int .u32 t374)) (fun _ hk => hk.2) (.int .u32 t375)) (fun _ h_ => h_.1))) hb); have n1_ := am (blk_below (g := gb345) (o := .cells #[.int .u32 a0_0, .int .u32 a0_1] 24 (0, 0)) (by refine bkT ?_; refine blk_far ?_ NB345_377.out _; refine bkT ?_; refine blk_far ?_ NB345_377.out _; refine bkT ?_; exact BK345.out) hb); have n2_ := am (blk_below (g := gb346) (o := .cells #[.int .u32 a1_0, .int .u32 a1_1] 24 (0, 0)) (by refine bkT ?_; refine blk_far ?_ NB346_377.out _; refine bkT ?_; refine blk_far ?_ NB346_377.out _; refine bkT ?_; exact BK346.out) hb); have n3_ := am (blk_below (g := gb359) (o := .cells #[.int .u32 t355, .int .u32 t356] 24 (0, 0)) (by refine bkT ?_; refine blk_far ?_ NB359_377.out _; refine bkT ?_; refine blk_far ?_ NB359_377.out _; refine bkT ?_; exact BK359.out) hb); have n4_ := am (blk_below (g := gb364) (o := .cells #[.int .u32 t360, .int .u32 t361] 24 (0, 0)) (by refine bkT ?_; refine blk_far ?_ NB364_377.out _; refine bkT ?_; refine blk_far ?_ NB364_377.out _; refine bkT ?_; exact BK364.out) hb); have n5_ := am (blk_below (g := gb373) (o := .cells #[.int .u32 t370, .int .u32 t371] 24 (0, 0)) (by refine bkT ?_; refine blk_far ?_ NB373_377.out _; refine bkT ?_; refine blk_far ?_ NB373_377.out _; refine bkT ?_; exact BK373.out) hb); have n6_ := am (blk_below (g := gb377) (o := .cells #[.int .u32 t374, .int .u32 t375] 24 (0, 0)) (by refine bkT ?_; refine blk_put (cs := #[.int .u32 t374, .int .u32 0]) ?_ 1 _ rfl; refine bkT ?_; refine blk_put (cs := #[.int .u32 0, .int .u32 0]) ?_ 0 _ rfl; refine bkT ?_; exact BK377.out) hb); have n7_ := am (below_step (hbA HB) hb); clear HO367; clear BK345; clear BK346; clear BK359; clear BK364; clear BK373; clear BK377; clear HB; have HO367 := n0_; have BK345 := n1_; have BK346 := n2_; have BK359 := n3_; have BK364 := n4_; have BK373 := n5_; have BK377 := n6_; have HB := n7_; clear n0_ n1_ n2_ n3_ n4_ n5_ n6_ n7_; (try clear hb); (try clear hb2); (try clear hk); (try clear hi)) | ((with_reducible refine gate_dst (N := 21) rfl ?_); refine box_event ?hg (N := 21) ?hd (cs := #[.int .u32 0, .int .u32 0]) (t := 24) ?hr ?_; (case hd => rfl); (case hg => rfl); (case hr => first | (go_simp; done) | (go_simp; rfl)); intro gb381 hg w126 hbox hb; have n0_ := am (Kd.R_below (by (with_reducible repeat (first | apply Kd.R_alloc | apply Kd.R_drewN | apply Kd.R_drew)); exact HO367.out) hb); have n1_ := am (blk_below (g := gb345) (o := .cells #[.int .u32 a0_0, .int .u32 a0_1] 24 (0, 0)) (bkA BK345) hb); have n2_ := am (blk_below (g := gb346) (o := .cells #[.int .u32 a1_0, .int .u32 a1_1] 24 (0, 0)) (bkA BK346) hb); have n3_ := am (blk_below (g := gb359) (o := .cells #[.int .u32 t355, .int .u32 t356] 24 (0, 0)) (bkA BK359) hb); have n4_ := am (blk_below (g := gb364) (o := .cells #[.int .u32 t360, .int .u32 t361] 24 (0, 0)) (bkA BK364) hb); have n5_ := am (blk_below (g := gb373) (o := .cells #[.int .u32 t370, .int .u32 t371] 24 (0, 0)) (bkA BK373) hb); have n6_ := am (blk_below (g := gb377) (o := .cells #[.int .u32 t374, .int .u32 t375] 24 (0, 0)) (bkA BK377) hb); have n7_ := am (below_step (hbA HB) hb); have n8_ := am (hbox); have n9_ := gwA hg HB; have n10_ := gwA hg HB; have n11_ := ltA hg BK345; have n12_ := gtA hg BK345; have n13_ := ltA hg BK346; have n14_ := gtA hg BK346; have n15_ := ltA hg BK359; have n16_ := gtA hg BK359; have n17_ := ltA hg BK364; have n18_ := gtA hg BK364; have n19_ := ltA hg BK373; have n20_ := gtA hg BK373; have n21_ := ltA hg BK377; have n22_ := gtA hg BK377; clear HO367; clear BK345; clear BK346; clear BK359; clear BK364; clear BK373; clear BK377; clear HB; have HO367 := n0_; have BK345 := n1_; have BK346 := n2_; have BK359 := n3_; have BK364 := n4_; have BK373 := n5_; have BK377 := n6_; have HB := n7_; have BK381 := n8_; have GW381 := n9_; have GE381 := n10_; have NB345_381 := n11_; have NB381_345 := n12_; have NB346_381 := n13_; have NB381_346 := n14_; have NB359_381 := n15_; have NB381_359 := n16_; have NB364_381 := n17_; have NB381_364 := n18_; have NB373_381 := n19_; have NB381_373 := n20_; have NB377_381 := n21_; have NB381_377 := n22_; clear n0_ n1_ n2_ n3_ n4_ n5_ n6_ n7_ n8_ n9_ n10_ n11_ n12_ n13_ n14_ n15_ n16_ n17_ n18_ n19_ n20_ n21_ n22_; clear hb hbox hg; have hnb127 := NB381_345.out; have hnc127 := NB345_381.out; have hnb128 := NB381_346.out; have hnc128 := NB346_381.out; have hnb129 := NB381_359.out; have hnc129 := NB359_381.out; have hnb130 := NB381_364.out; have hnc130 := NB364_381.out; have hnb131 := NB381_373.out; have hnc131 := NB373_381.out; have hnb132 := NB381_377.out; have hnc132 := NB377_381.out; have hcz133_0 : w126.cell? ⟨gb381, 0, none⟩ = some (.int .u32 0) := (blk_cell BK381.out 0).trans rfl; have hcz133_1 : w126.cell? ⟨gb381, 1, none⟩ = some (.int .u32 0) := (blk_cell BK381.out 1).trans rfl; have hfz133_0 := blk_frozen BK381.out 0; have hfz133_1 := blk_frozen BK381.out 1; have hcz134_0 : w126.cell? ⟨gb345, 0, none⟩ = some (.int .u32 a0_0) := (blk_cell BK345.out 0).trans rfl; have hcz134_1 : w126.cell? ⟨gb345, 1, none⟩ = some (.int .u32 a0_1) := (blk_cell BK345.out 1).trans rfl; have hfz134_0 := blk_frozen BK345.out 0; have hfz134_1 := blk_frozen BK345.out 1) | ((with_reducible refine gate_callee (f := 14) rfl ?_); refine goesL_ (some 105) rfl rfl Try.func14 (by kernel_rfl) rfl #[.int .i64 2, .agg #[.int .u32 a0_0, .int .u32 a0_1]] rfl (by (try simp only [List.map_toArray, List.map_cons, List.map_nil]); first | done | rfl | (simp only [List.length_drop, List.length_take]; rfl)) ?_; (with_reducible refine (interval_Un.calls kj27 2 a0_0 a0_1 t382 t383 t384 _ A94.out).mono ?_); rintro e w135 ⟨rfl, hb⟩; refine ⟨_, rfl, ?_⟩; have n0_ := am (Kd.R_below (by (with_reducible repeat (first | apply Kd.R_alloc | apply Kd.R_drewN | apply Kd.R_drew)); exact (Kd.R_mono (Kd.R_far (p := ⟨gb381, 1, none⟩) (Kd.R_far (p := ⟨gb381, 0, none⟩) (Kd.R_types HO367.out BK381.out (by decide)) (fun _ hk => hk.2) (.int .u32 t378)) (fun _ hk => hk.2) (.int .u32 t379)) (fun _ h_ => h_.1))) hb); have n1_ := am (blk_below (g := gb345) (o := .cells #[.int .u32 a0_0, .int .u32 a0_1] 24 (0, 0)) (by refine bkT ?_; refine blk_far ?_ NB345_381.out _; refine bkT ?_; refine blk_far ?_ NB345_381.out _; refine bkT ?_; exact BK345.out) hb); have n2_ := am (blk_below (g := gb346) (o := .cells #[.int .u32 a1_0, .int .u32 a1_1] 24 (0, 0)) (by refine bkT ?_; refine blk_far ?_ NB346_381.out _; refine bkT ?_; refine blk_far ?_ NB346_381.out _; refine bkT ?_; exact BK346.out) hb); have n3_ := am (blk_below (g := gb359) (o := .cells #[.int .u32 t355, .int .u32 t356] 24 (0, 0)) (by refine bkT ?_; refine blk_far ?_ NB359_381.out _; refine bkT ?_; refine blk_far ?_ NB359_381.out _; refine bkT ?_; exact BK359.out) hb); have n4_ := am (blk_below (g := gb364) (o := .cells #[.int .u32 t360, .int .u32 t361] 24 (0, 0)) (by refine bkT ?_; refine blk_far ?_ NB364_381.out _; refine bkT ?_; refine blk_far ?_ NB364_381.out _; refine bkT ?_; exact BK364.out) hb); have n5_ := am (blk_below (g := gb373) (o := .cells #[.int .u32 t370, .int .u32 t371] 24 (0, 0)) (by refine bkT ?_; refine blk_far ?_ NB373_381.out _; refine bkT ?_; refine blk_far ?_ NB373_381.out _; refine bkT ?_; exact BK373.out) hb); have n6_ := am (blk_below (g := gb377) (o := .cells #[.int .u32 t374, .int .u32 t375] 24 (0, 0)) (by refine bkT ?_; refine blk_far ?_ NB377_381.out _; refine bkT ?_; refine blk_far ?_ NB377_381.out _; refine bkT ?_; exact BK377.out) hb); have n7_ := am (blk_below (g := gb381) (o := .cells #[.int .u32 t378, .int .u32 t379] 24 (0, 0)) (by refine bkT ?_; refine blk_put (cs := #[.int .u32 t378, .int .u32 0]) ?_ 1 _ rfl; refine bkT ?_; refine blk_put (cs := #[.int .u32 0, .int .u32 0]) ?_ 0 _ rfl; refine bkT ?_; exact BK381.out) hb); have n8_ := am (below_step (hbA HB) hb); clear HO367; clear BK345; clear BK346; clear BK359; clear BK364; clear BK373; clear BK377; clear BK381; clear HB; have HO367 := n0_; have BK345 := n1_; have BK346 := n2_; have BK359 := n3_; have BK364 := n4_; have BK373 := n5_; have BK377 := n6_; have BK381 := n7_; have HB := n8_; clear n0_ n1_ n2_ n3_ n4_ n5_ n6_ n7_ n8_; (try clear hb); (try clear hb2); (try clear hk); (try clear hi)) | ((with_reducible refine gate_dst (N := 23) rfl ?_); refine box_event ?hg (N := 23) ?hd (cs := #[.int .u32 0, .int .u32 0]) (t := 24) ?hr ?_; (case hd => rfl); (case hg => rfl); (case hr => first | (go_simp; done) | (go_simp; rfl)); intro gb385 hg w136 hbox hb; have n0_ := am (Kd.R_below (by (with_reducible repeat (first | apply Kd.R_alloc | apply Kd.R_drewN | apply Kd.R_drew)); exact HO367.out) hb); have n1_ := am (blk_below (g := gb345) (o := .cells #[.int .u32 a0_0, .int .u32 a0_1] 24 (0, 0)) (bkA BK345) hb); have n2_ := am (blk_below (g := gb346) (o := .cells #[.int .u32 a1_0, .int .u32 a1_1] 24 (0, 0)) (bkA BK346) hb); have n3_ := am (blk_below (g := gb359) (o := .cells #[.int .u32 t355, .int .u32 t356] 24 (0, 0)) (bkA BK359) hb); have n4_ := am (blk_below (g := gb364) (o := .cells #[.int .u32 t360, .int .u32 t361] 24 (0, 0)) (bkA BK364) hb); have n5_ := am (blk_below (g := gb373) (o := .cells #[.int .u32 t370, .int .u32 t371] 24 (0, 0)) (bkA BK373) hb); have n6_ := am (blk_below (g := gb377) (o := .cells #[.int .u32 t374, .int .u32 t375] 24 (0, 0)) (bkA BK377) hb); have n7_ := am (blk_below (g := gb381) (o := .cells #[.int .u32 t378, .int .u32 t379] 24 (0, 0)) (bkA BK381) hb); have n8_ := am (below_step (hbA HB) hb); have n9_ := am (hbox); have n10_ := gwA hg HB; have n11_ := gwA hg HB; have n12_ := ltA hg BK345; have n13_ := gtA hg BK345; have n14_ := ltA hg BK346; have n15_ := gtA hg BK346; have n16_ := ltA hg BK359; have n17_ := gtA hg BK359; have n18_ := ltA hg BK364; have n19_ := gtA hg BK364; have n20_ := ltA hg BK373; have n21_ := gtA hg BK373; have n22_ := ltA hg BK377; have n23_ := gtA hg BK377; have n24_ := ltA hg BK381; have n25_ := gtA hg BK381; clear HO367; clear BK345; clear BK346; clear BK359; clear BK364; clear BK373; clear BK377; clear BK381; clear HB; have HO367 := n0_; have BK345 := n1_; have BK346 := n2_; have BK359 := n3_; have BK364 := n4_; have BK373 := n5_; have BK377 := n6_; have BK381 := n7_; have HB := n8_; have BK385 := n9_; have GW385 := n10_; have GE385 := n11_; have NB345_385 := n12_; have NB385_345 := n13_; have NB346_385 := n14_; have NB385_346 := n15_; have NB359_385 := n16_; have NB385_359 := n17_; have NB364_385 := n18_; have NB385_364 := n19_; have NB373_385 := n20_; have NB385_373 := n21_; have NB377_385 := n22_; have NB385_377 := n23_; have NB381_385 := n24_; have NB385_381 := n25_; clear n0_ n1_ n2_ n3_ n4_ n5_ n6_ n7_ n8_ n9_ n10_ n11_ n12_ n13_ n14_ n15_ n16_ n17_ n18_ n19_ n20_ n21_ n22_ n23_ n24_ n25_; clear hb hbox hg; have hnb137 := NB385_345.out; have hnc137 := NB345_385.out; have hnb138 := NB385_346.out; have hnc138 := NB346_385.out; have hnb139 := NB385_359.out; have hnc139 := NB359_385.out; have hnb140 := NB385_364.out; have hnc140 := NB364_385.out; have hnb141 := NB385_373.out; have hnc141 := NB373_385.out; have hnb142 := NB385_377.out; have hnc142 := NB377_385.out; have hnb143 := NB385_381.out; have hnc143 := NB381_385.out; have hcz144_0 : w136.cell? ⟨gb385, 0, none⟩ = some (.int .u32 0) := (blk_cell BK385.out 0).trans rfl; have hcz144_1 : w136.cell? ⟨gb385, 1, none⟩ = some (.int .u32 0) := (blk_cell BK385.out 1).trans rfl; have hfz144_0 := blk_frozen BK385.out 0; have hfz144_1 := blk_frozen BK385.out 1) | ((with_reducible refine gate_callee (f := 14) rfl ?_); refine goesL_ (some 110) rfl rfl Try.func14 (by kernel_rfl) rfl #[.int .i64 2, .agg #[.int .u32 t382, .int .u32 t383]] rfl (by (try simp only [List.map_toArray, List.map_cons, List.map_nil]); first | done | rfl | (simp only [List.length_drop, List.length_take]; rfl)) ?_; (with_reducible refine (interval_Un.calls kj27 2 t382 t383 t386 t387 t388 _ A95.out).mono ?_); rintro e w145 ⟨rfl, hb⟩; refine ⟨_, rfl, ?_⟩; have n0_ := am (Kd.R_below (by (with_reducible repeat (first | apply Kd.R_alloc | apply Kd.R_drewN | apply Kd.R_drew)); exact (Kd.R_mono (Kd.R_far (p := ⟨gb385, 1, none⟩) (Kd.R_far (p := ⟨gb385, 0, none⟩) (Kd.R_types HO367.out BK385.out (by decide)) (fun _ hk => hk.2) (.int .u32 t382)) (fun _ hk => hk.2) (.int .u32 t383)) (fun _ h_ => h_.1))) hb); have n1_ := am (blk_below (g := gb345) (o := .cells #[.int .u32 a0_0, .int .u32 a0_1] 24 (0, 0)) (by refine bkT ?_; refine blk_far ?_ NB345_385.out _; refine bkT ?_; refine blk_far ?_ NB345_385.out _; refine bkT ?_; exact BK345.out) hb); have n2_ := am (blk_below (g := gb346) (o := .cells #[.int .u32 a1_0, .int .u32 a1_1] 24 (0, 0)) (by refine bkT ?_; refine blk_far ?_ NB346_385.out _; refine bkT ?_; refine blk_far ?_ NB346_385.out _; refine bkT ?_; exact BK346.out) hb); have n3_ := am (blk_below (g := gb359) (o := .cells #[.int .u32 t355, .int .u32 t356] 24 (0, 0)) (by refine bkT ?_; refine blk_far ?_ NB359_385.out _; refine bkT ?_; refine blk_far ?_ NB359_385.out _; refine bkT ?_; exact BK359.out) hb); have n4_ := am (blk_below (g := gb364) (o := .cells #[.int .u32 t360, .int .u32 t361] 24 (0, 0)) (by refine bkT ?_; refine blk_far ?_ NB364_385.out _; refine bkT ?_; refine blk_far ?_ NB364_385.out _; refine bkT ?_; exact BK364.out) hb); have n5_ := am (blk_below (g := gb373) (o := .cells #[.int .u32 t370, .int .u32 t371] 24 (0, 0)) (by refine bkT ?_; refine blk_far ?_ NB373_385.out _; refine bkT ?_; refine blk_far ?_ NB373_385.out _; refine bkT ?_; exact BK373.out) hb); have n6_ := am (blk_below (g := gb377) (o := .cells #[.int .u32 t374, .int .u32 t375] 24 (0, 0)) (by refine bkT ?_; refine blk_far ?_ NB377_385.out _; refine bkT ?_; refine blk_far ?_ NB377_385.out _; refine bkT ?_; exact BK377.out) hb); have n7_ := am (blk_below (g := gb381) (o := .cells #[.int .u32 t378, .int .u32 t379] 24 (0, 0)) (by refine bkT ?_; refine blk_far ?_ NB381_385.out _; refine bkT ?_; refine blk_far ?_ NB381_385.out _; refine bkT ?_; exact BK381.out) hb); have n8_ := am (blk_below (g := gb385) (o := .cells #[.int .u32 t382, .int .u32 t383] 24 (0, 0)) (by refine bkT ?_; refine blk_put (cs := #[.int .u32 t382, .int .u32 0]) ?_ 1 _ rfl; refine bkT ?_; refine blk_put (cs := #[.int .u32 0, .int .u32 0]) ?_ 0 _ rfl; refine bkT ?_; exact BK385.out) hb); have n9_ := am (below_step (hbA HB) hb); clear HO367; clear BK345; clear BK346; clear BK359; clear BK364; clear BK373; clear BK377; clear BK381; clear BK385; clear HB; have HO367 := n0_; have BK345 := n1_; have BK346 := n2_; have BK359 := n3_; have BK364 := n4_; have BK373 := n5_; have BK377 := n6_; have BK381 := n7_; have BK385 := n8_; have HB := n9_; clear n0_ n1_ n2_ n3_ n4_ n5_ n6_ n7_ n8_ n9_; (try clear hb); (try clear hb2); (try clear hk); (try clear hi)) | ((with_reducible refine gate_dst (N := 25) rfl ?_); refine box_event ?hg (N := 25) ?hd (cs := #[.int .u32 0, .int .u32 0]) (t := 24) ?hr ?_; (case hd => rfl); (case hg => rfl); (case hr => first | (go_simp; done) | (go_simp; rfl)); intro gb389 hg w146 hbox hb; have n0_ := am (Kd.R_below (by (with_reducible repeat (first | apply Kd.R_alloc | apply Kd.R_drewN | apply Kd.R_drew)); exact HO367.out) hb); have n1_ := am (blk_below (g := gb345) (o := .cells #[.int .u32 a0_0, .int .u32 a0_1] 24 (0, 0)) (bkA BK345) hb); have n2_ := am (blk_below (g := gb346) (o := .cells #[.int .u32 a1_0, .int .u32 a1_1] 24 (0, 0)) (bkA BK346) hb); have n3_ := am (blk_below (g := gb359) (o := .cells #[.int .u32 t355, .int .u32 t356] 24 (0, 0)) (bkA BK359) hb); have n4_ := am (blk_below (g := gb364) (o := .cells #[.int .u32 t360, .int .u32 t361] 24 (0, 0)) (bkA BK364) hb); have n5_ := am (blk_below (g := gb373) (o := .cells #[.int .u32 t370, .int .u32 t371] 24 (0, 0)) (bkA BK373) hb); have n6_ := am (blk_below (g := gb377) (o := .cells #[.int .u32 t374, .int .u32 t375] 24 (0, 0)) (bkA BK377) hb); have n7_ := am (blk_below (g := gb381) (o := .cells #[.int .u32 t378, .int .u32 t379] 24 (0, 0)) (bkA BK381) hb); have n8_ := am (blk_below (g := gb385) (o := .cells #[.int .u32 t382, .int .u32 t383] 24 (0, 0)) (bkA BK385) hb); have n9_ := am (below_step (hbA HB) hb); have n10_ := am (hbox); have n11_ := gwA hg HB; have n12_ := gwA hg HB; have n13_ := ltA hg BK345; have n14_ := gtA hg BK345; have n15_ := ltA hg BK346; have n16_ := gtA hg BK346; have n17_ := ltA hg BK359; have n18_ := gtA hg BK359; have n19_ := ltA hg BK364; have n20_ := gtA hg BK364; have n21_ := ltA hg BK373; have n22_ := gtA hg BK373; have n23_ := ltA hg BK377; have n24_ := gtA hg BK377; have n25_ := ltA hg BK381; have n26_ := gtA hg BK381; have n27_ := ltA hg BK385; have n28_ := gtA hg BK385; clear HO367; clear BK345; clear BK346; clear BK359; clear BK364; clear BK373; clear BK377; clear BK381; clear BK385; clear HB; have HO367 := n0_; have BK345 := n1_; have BK346 := n2_; have BK359 := n3_; have BK364 := n4_; have BK373 := n5_; have BK377 := n6_; have BK381 := n7_; have BK385 := n8_; have HB := n9_; have BK389 := n10_; have GW389 := n11_; have GE389 := n12_; have NB345_389 := n13_; have NB389_345 := n14_; have NB346_389 := n15_; have NB389_346 := n16_; have NB359_389 := n17_; have NB389_359 := n18_; have NB364_389 := n19_; have NB389_364 := n20_; have NB373_389 := n21_; have NB389_373 := n22_; have NB377_389 := n23_; have NB389_377 := n24_; have NB381_389 := n25_; have NB389_381 := n26_; have NB385_389 := n27_; have NB389_385 := n28_; clear n0_ n1_ n2_ n3_ n4_ n5_ n6_ n7_ n8_ n9_ n10_ n11_ n12_ n13_ n14_ n15_ n16_ n17_ n18_ n19_ n20_ n21_ n22_ n23_ n24_ n25_ n26_ n27_ n28_; clear hb hbox hg; have hnb147 := NB389_345.out; have hnc147 := NB345_389.out; have hnb148 := NB389_346.out; have hnc148 := NB346_389.out; have hnb149 := NB389_359.out; have hnc149 := NB359_389.out; have hnb150 := NB389_364.out; have hnc150 := NB364_389.out; have hnb151 := NB389_373.out; have hnc151 := NB373_389.out; have hnb152 := NB389_377.out; have hnc152 := NB377_389.out; have hnb153 := NB389_381.out; have hnc153 := NB381_389.out; have hnb154 := NB389_385.out; have hnc154 := NB385_389.out; have hcz155_0 : w146.cell? ⟨gb389, 0, none⟩ = some (.int .u32 0) := (blk_cell BK389.out 0).trans rfl; have hcz155_1 : w146.cell? ⟨gb389, 1, none⟩ = some (.int .u32 0) := (blk_cell BK389.out 1).trans rfl; have hfz155_0 := blk_frozen BK389.out 0; have hfz155_1 := blk_frozen BK389.out 1; have hcz156_0 : w146.cell? ⟨gb345, 0, none⟩ = some (.int .u32 a0_0) := (blk_cell BK345.out 0).trans rfl; have hcz156_1 : w146.cell? ⟨gb345, 1, none⟩ = some (.int .u32 a0_1) := (blk_cell BK345.out 1).trans rfl; have hfz156_0 := blk_frozen BK345.out 0; have hfz156_1 := blk_frozen BK345.out 1) | ((with_reducible refine gate_callee (f := 14) rfl ?_); refine goesL_ (some 115) rfl rfl Try.func14 (by kernel_rfl) rfl #[.int .i64 1, .agg #[.int .u32 a0_0, .int .u32 a0_1]] rfl (by (try simp only [List.map_toArray, List.map_cons, List.map_nil]); first | done | rfl | (simp only [List.length_drop, List.length_take]; rfl)) ?_; (with_reducible refine (interval_Un.calls kj27 1 a0_0 a0_1 t390 t391 t392 _ A96.out).mono ?_); rintro e w157 ⟨rfl, hb⟩; refine ⟨_, rfl, ?_⟩; have n0_ := am (Kd.R_below (by (with_reducible repeat (first | apply Kd.R_alloc | apply Kd.R_drewN | apply Kd.R_drew)); exact (Kd.R_mono (Kd.R_far (p := ⟨gb389, 1, none⟩) (Kd.R_far (p := ⟨gb389, 0, none⟩) (Kd.R_types HO367.out BK389.out (by decide)) (fun _ hk => hk.2) (.int .u32 t386)) (fun _ hk => hk.2) (.int .u32 t387)) (fun _ h_ => h_.1))) hb); have n1_ := am (blk_below (g := gb345) (o := .cells #[.int .u32 a0_0, .int .u32 a0_1] 24 (0, 0)) (by refine bkT ?_; refine blk_far ?_ NB345_389.out _; refine bkT ?_; refine blk_far ?_ NB345_389.out _; refine bkT ?_; exact BK345.out) hb); have n2_ := am (blk_below (g := gb346) (o := .cells #[.int .u32 a1_0, .int .u32 a1_1] 24 (0, 0)) (by refine bkT ?_; refine blk_far ?_ NB346_389.out _; refine bkT ?_; refine blk_far ?_ NB346_389.out _; refine bkT ?_; exact BK346.out) hb); have n3_ := am (blk_below (g := gb359) (o := .cells #[.int .u32 t355, .int .u32 t356] 24 (0, 0)) (by refine bkT ?_; refine blk_far ?_ NB359_389.out _; refine bkT ?_; refine blk_far ?_ NB359_389.out _; refine bkT ?_; exact BK359.out) hb); have n4_ := am (blk_below (g := gb364) (o := .cells #[.int .u32 t360, .int .u32 t361] 24 (0, 0)) (by refine bkT ?_; refine blk_far ?_ NB364_389.out _; refine bkT ?_; refine blk_far ?_ NB364_389.out _; refine bkT ?_; exact BK364.out) hb); have n5_ := am (blk_below (g := gb373) (o := .cells #[.int .u32 t370, .int .u32 t371] 24 (0, 0)) (by refine bkT ?_; refine blk_far ?_ NB373_389.out _; refine bkT ?_; refine blk_far ?_ NB373_389.out _; refine bkT ?_; exact BK373.out) hb); have n6_ := am (blk_below (g := gb377) (o := .cells #[.int .u32 t374, .int .u32 t375] 24 (0, 0)) (by refine bkT ?_; refine blk_far ?_ NB377_389.out _; refine bkT ?_; refine blk_far ?_ NB377_389.out _; refine bkT ?_; exact BK377.out) hb); have n7_ := am (blk_below (g := gb381) (o := .cells #[.int .u32 t378, .int .u32 t379] 24 (0, 0)) (by refine bkT ?_; refine blk_far ?_ NB381_389.out _; refine bkT ?_; refine blk_far ?_ NB381_389.out _; refine bkT ?_; exact BK381.out) hb); have n8_ := am (blk_below (g := gb385) (o := .cells #[.int .u32 t382, .int .u32 t383] 24 (0, 0)) (by refine bkT ?_; refine blk_far ?_ NB385_389.out _; refine bkT ?_; refine blk_far ?_ NB385_389.out _; refine bkT ?_; exact BK385.out) hb); have n9_ := am (blk_below (g := gb389) (o := .cells #[.int .u32 t386, .int .u32 t387] 24 (0, 0)) (by refine bkT ?_; refine blk_put (cs := #[.int .u32 t386, .int .u32 0]) ?_ 1 _ rfl; refine bkT ?_; refine blk_put (cs := #[.int .u32 0, .int .u32 0]) ?_ 0 _ rfl; refine bkT ?_; exact BK389.out) hb); have n10_ := am (below_step (hbA HB) hb); clear HO367; clear BK345; clear BK346; clear BK359; clear BK364; clear BK373; clear BK377; clear BK381; clear BK385; clear BK389; clear HB; have HO367 := n0_; have BK345 := n1_; have BK346 := n2_; have BK359 := n3_; have BK364 := n4_; have BK373 := n5_; have BK377 := n6_; have BK381 := n7_; have BK385 := n8_; have BK389 := n9_; have HB := n10_; clear n0_ n1_ n2_ n3_ n4_ n5_ n6_ n7_ n8_ n9_ n10_; (try clear hb); (try clear hb2); (try clear hk); (try clear hi)) | ((with_reducible refine gate_dst (N := 27) rfl ?_); refine box_event ?hg (N := 27) ?hd (cs := #[.int .u32 0, .int .u32 0]) (t := 24) ?hr ?_; (case hd => rfl); (case hg => rfl); (case hr => first | (go_simp; done) | (go_simp; rfl)); intro gb393 hg w158 hbox hb; have n0_ := am (Kd.R_below (by (with_reducible repeat (first | apply Kd.R_alloc | apply Kd.R_drewN | apply Kd.R_drew)); exact HO367.out) hb); have n1_ := am (blk_below (g := gb345) (o := .cells #[.int .u32 a0_0, .int .u32 a0_1] 24 (0, 0)) (bkA BK345) hb); have n2_ := am (blk_below (g := gb346) (o := .cells #[.int .u32 a1_0, .int .u32 a1_1] 24 (0, 0)) (bkA BK346) hb); have n3_ := am (blk_below (g := gb359) (o := .cells #[.int .u32 t355, .int .u32 t356] 24 (0, 0)) (bkA BK359) hb); have n4_ := am (blk_below (g := gb364) (o := .cells #[.int .u32 t360, .int .u32 t361] 24 (0, 0)) (bkA BK364) hb); have n5_ := am (blk_below (g := gb373) (o := .cells #[.int .u32 t370, .int .u32 t371] 24 (0, 0)) (bkA BK373) hb); have n6_ := am (blk_below (g := gb377) (o := .cells #[.int .u32 t374, .int .u32 t375] 24 (0, 0)) (bkA BK377) hb); have n7_ := am (blk_below (g := gb381) (o := .cells #[.int .u32 t378, .int .u32 t379] 24 (0, 0)) (bkA BK381) hb); have n8_ := am (blk_below (g := gb385) (o := .cells #[.int .u32 t382, .int .u32 t383] 24 (0, 0)) (bkA BK385) hb); have n9_ := am (blk_below (g := gb389) (o := .cells #[.int .u32 t386, .int .u32 t387] 24 (0, 0)) (bkA BK389) hb); have n10_ := am (below_step (hbA HB) hb); have n11_ := am (hbox); have n12_ := gwA hg HB; have n13_ := gwA hg HB; have n14_ := ltA hg BK345; have n15_ := gtA hg BK345; have n16_ := ltA hg BK346; have n17_ := gtA hg BK346; have n18_ := ltA hg BK359; have n19_ := gtA hg BK359; have n20_ := ltA hg BK364; have n21_ := gtA hg BK364; have n22_ := ltA hg BK373; have n23_ := gtA hg BK373; have n24_ := ltA hg BK377; have n25_ := gtA hg BK377; have n26_ := ltA hg BK381; have n27_ := gtA hg BK381; have n28_ := ltA hg BK385; have n29_ := gtA hg BK385; have n30_ := ltA hg BK389; have n31_ := gtA hg BK389; clear HO367; clear BK345; clear BK346; clear BK359; clear BK364; clear BK373; clear BK377; clear BK381; clear BK385; clear BK389; clear HB; have HO367 := n0_; have BK345 := n1_; have BK346 := n2_; have BK359 := n3_; have BK364 := n4_; have BK373 := n5_; have BK377 := n6_; have BK381 := n7_; have BK385 := n8_; have BK389 := n9_; have HB := n10_; have BK393 := n11_; have GW393 := n12_; have GE393 := n13_; have NB345_393 := n14_; have NB393_345 := n15_; have NB346_393 := n16_; have NB393_346 := n17_; have NB359_393 := n18_; have NB393_359 := n19_; have NB364_393 := n20_; have NB393_364 := n21_; have NB373_393 := n22_; have NB393_373 := n23_; have NB377_393 := n24_; have NB393_377 := n25_; have NB381_393 := n26_; have NB393_381 := n27_; have NB385_393 := n28_; have NB393_385 := n29_; have NB389_393 := n30_; have NB393_389 := n31_; clear n0_ n1_ n2_ n3_ n4_ n5_ n6_ n7_ n8_ n9_ n10_ n11_ n12_ n13_ n14_ n15_ n16_ n17_ n18_ n19_ n20_ n21_ n22_ n23_ n24_ n25_ n26_ n27_ n28_ n29_ n30_ n31_; clear hb hbox hg; have hnb159 := NB393_345.out; have hnc159 := NB345_393.out; have hnb160 := NB393_346.out; have hnc160 := NB346_393.out; have hnb161 := NB393_359.out; have hnc161 := NB359_393.out; have hnb162 := NB393_364.out; have hnc162 := NB364_393.out; have hnb163 := NB393_373.out; have hnc163 := NB373_393.out; have hnb164 := NB393_377.out; have hnc164 := NB377_393.out; have hnb165 := NB393_381.out; have hnc165 := NB381_393.out; have hnb166 := NB393_385.out; have hnc166 := NB385_393.out; have hnb167 := NB393_389.out; have hnc167 := NB389_393.out; have hcz168_0 : w158.cell? ⟨gb393, 0, none⟩ = some (.int .u32 0) := (blk_cell BK393.out 0).trans rfl; have hcz168_1 : w158.cell? ⟨gb393, 1, none⟩ = some (.int .u32 0) := (blk_cell BK393.out 1).trans rfl; have hfz168_0 := blk_frozen BK393.out 0; have hfz168_1 := blk_frozen BK393.out 1) | ((with_reducible refine gate_callee (f := 14) rfl ?_); refine goesL_ (some 120) rfl rfl Try.func14 (by kernel_rfl) rfl #[.int .i64 1, .agg #[.int .u32 t390, .int .u32 t391]] rfl (by (try simp only [List.map_toArray, List.map_cons, List.map_nil]); first | done | rfl | (simp only [List.length_drop, List.length_take]; rfl)) ?_; (with_reducible refine (interval_Un.calls kj27 1 t390 t391 t394 t395 t396 _ A97.out).mono ?_); rintro e w169 ⟨rfl, hb⟩; refine ⟨_, rfl, ?_⟩; have n0_ := am (Kd.R_below (by (with_reducible repeat (first | apply Kd.R_alloc | apply Kd.R_drewN | apply Kd.R_drew)); exact (Kd.R_mono (Kd.R_far (p := ⟨gb393, 1, none⟩) (Kd.R_far (p := ⟨gb393, 0, none⟩) (Kd.R_types HO367.out BK393.out (by decide)) (fun _ hk => hk.2) (.int .u32 t390)) (fun _ hk => hk.2) (.int .u32 t391)) (fun _ h_ => h_.1))) hb); have n1_ := am (blk_below (g := gb345) (o := .cells #[.int .u32 a0_0, .int .u32 a0_1] 24 (0, 0)) (by refine bkT ?_; refine blk_far ?_ NB345_393.out _; refine bkT ?_; refine blk_far ?_ NB345_393.out _; refine bkT ?_; exact BK345.out) hb); have n2_ := am (blk_below (g := gb346) (o := .cells #[.int .u32 a1_0, .int .u32 a1_1] 24 (0, 0)) (by refine bkT ?_; refine blk_far ?_ NB346_393.out _; refine bkT ?_; refine blk_far ?_ NB346_393.out _; refine bkT ?_; exact BK346.out) hb); have n3_ := am (blk_below (g := gb359) (o := .cells #[.int .u32 t355, .int .u32 t356] 24 (0, 0)) (by refine bkT ?_; refine blk_far ?_ NB359_393.out _; refine bkT ?_; refine blk_far ?_ NB359_393.out _; refine bkT ?_; exact BK359.out) hb); have n4_ := am (blk_below (g := gb364) (o := .cells #[.int .u32 t360, .int .u32 t361] 24 (0, 0)) (by refine bkT ?_; refine blk_far ?_ NB364_393.out _; refine bkT ?_; refine blk_far ?_ NB364_393.out _; refine bkT ?_; exact BK364.out) hb); have n5_ := am (blk_below (g := gb373) (o := .cells #[.int .u32 t370, .int .u32 t371] 24 (0, 0)) (by refine bkT ?_; refine blk_far ?_ NB373_393.out _; refine bkT ?_; refine blk_far ?_ NB373_393.out _; refine bkT ?_; exact BK373.out) hb); have n6_ := am (blk_below (g := gb377) (o := .cells #[.int .u32 t374, .int .u32 t375] 24 (0, 0)) (by refine bkT ?_; refine blk_far ?_ NB377_393.out _; refine bkT ?_; refine blk_far ?_ NB377_393.out _; refine bkT ?_; exact BK377.out) hb); have n7_ := am (blk_below (g := gb381) (o := .cells #[.int .u32 t378, .int .u32 t379] 24 (0, 0)) (by refine bkT ?_; refine blk_far ?_ NB381_393.out _; refine bkT ?_; refine blk_far ?_ NB381_393.out _; refine bkT ?_; exact BK381.out) hb); have n8_ := am (blk_below (g := gb385) (o := .cells #[.int .u32 t382, .int .u32 t383] 24 (0, 0)) (by refine bkT ?_; refine blk_far ?_ NB385_393.out _; refine bkT ?_; refine blk_far ?_ NB385_393.out _; refine bkT ?_; exact BK385.out) hb); have n9_ := am (blk_below (g := gb389) (o := .cells #[.int .u32 t386, .int .u32 t387] 24 (0, 0)) (by refine bkT ?_; refine blk_far ?_ NB389_393.out _; refine bkT ?_; refine blk_far ?_ NB389_393.out _; refine bkT ?_; exact BK389.out) hb); have n10_ := am (blk_below (g := gb393) (o := .cells #[.int .u32 t390, .int .u32 t391] 24 (0, 0)) (by refine bkT ?_; refine blk_put (cs := #[.int .u32 t390, .int .u32 0]) ?_ 1 _ rfl; refine bkT ?_; refine blk_put (cs := #[.int .u32 0, .int .u32 0]) ?_ 0 _ rfl; refine bkT ?_; exact BK393.out) hb); have n11_ := am (below_step (hbA HB) hb); clear HO367; clear BK345; clear BK346; clear BK359; clear BK364; clear BK373; clear BK377; clear BK381; clear BK385; clear BK389; clear BK393; clear HB; have HO367 := n0_; have BK345 := n1_; have BK346 := n2_; have BK359 := n3_; have BK364 := n4_; have BK373 := n5_; have BK377 := n6_; have BK381 := n7_; have BK385 := n8_; have BK389 := n9_; have BK393 := n10_; have HB := n11_; clear n0_ n1_ n2_ n3_ n4_ n5_ n6_ n7_ n8_ n9_ n10_ n11_; (try clear hb); (try clear hb2); (try clear hk); (try clear hi)) | ((with_reducible refine gate_dst (N := 29) rfl ?_); refine box_event ?hg (N := 29) ?hd (cs := #[.int .u32 0, .int .u32 0]) (t := 24) ?hr ?_; (case hd => rfl); (case hg => rfl); (case hr => first | (go_simp; done) | (go_simp; rfl)); intro gb397 hg w170 hbox hb; have n0_ := am (Kd.R_below (by (with_reducible repeat (first | apply Kd.R_alloc | apply Kd.R_drewN | apply Kd.R_drew)); exact HO367.out) hb); have n1_ := am (blk_below (g := gb345) (o := .cells #[.int .u32 a0_0, .int .u32 a0_1] 24 (0, 0)) (bkA BK345) hb); have n2_ := am (blk_below (g := gb346) (o := .cells #[.int .u32 a1_0, .int .u32 a1_1] 24 (0, 0)) (bkA BK346) hb); have n3_ := am (blk_below (g := gb359) (o := .cells #[.int .u32 t355, .int .u32 t356] 24 (0, 0)) (bkA BK359) hb); have n4_ := am (blk_below (g := gb364) (o := .cells #[.int .u32 t360, .int .u32 t361] 24 (0, 0)) (bkA BK364) hb); have n5_ := am (blk_below (g := gb373) (o := .cells #[.int .u32 t370, .int .u32 t371] 24 (0, 0)) (bkA BK373) hb); have n6_ := am (blk_below (g := gb377) (o := .cells #[.int .u32 t374, .int .u32 t375] 24 (0, 0)) (bkA BK377) hb); have n7_ := am (blk_below (g := gb381) (o := .cells #[.int .u32 t378, .int .u32 t379] 24 (0, 0)) (bkA BK381) hb); have n8_ := am (blk_below (g := gb385) (o := .cells #[.int .u32 t382, .int .u32 t383] 24 (0, 0)) (bkA BK385) hb); have n9_ := am (blk_below (g := gb389) (o := .cells #[.int .u32 t386, .int .u32 t387] 24 (0, 0)) (bkA BK389) hb); have n10_ := am (blk_below (g := gb393) (o := .cells #[.int .u32 t390, .int .u32 t391] 24 (0, 0)) (bkA BK393) hb); have n11_ := am (below_step (hbA HB) hb); have n12_ := am (hbox); have n13_ := gwA hg HB; have n14_ := gwA hg HB; have n15_ := ltA hg BK345; have n16_ := gtA hg BK345; have n17_ := ltA hg BK346; have n18_ := gtA hg BK346; have n19_ := ltA hg BK359; have n20_ := gtA hg BK359; have n21_ := ltA hg BK364; have n22_ := gtA hg BK364; have n23_ := ltA hg BK373; have n24_ := gtA hg BK373; have n25_ := ltA hg BK377; have n26_ := gtA hg BK377; have n27_ := ltA hg BK381; have n28_ := gtA hg BK381; have n29_ := ltA hg BK385; have n30_ := gtA hg BK385; have n31_ := ltA hg BK389; have n32_ := gtA hg BK389; have n33_ := ltA hg BK393; have n34_ := gtA hg BK393; clear HO367; clear BK345; clear BK346; clear BK359; clear BK364; clear BK373; clear BK377; clear BK381; clear BK385; clear BK389; clear BK393; clear HB; have HO367 := n0_; have BK345 := n1_; have BK346 := n2_; have BK359 := n3_; have BK364 := n4_; have BK373 := n5_; have BK377 := n6_; have BK381 := n7_; have BK385 := n8_; have BK389 := n9_; have BK393 := n10_; have HB := n11_; have BK397 := n12_; have GW397 := n13_; have GE397 := n14_; have NB345_397 := n15_; have NB397_345 := n16_; have NB346_397 := n17_; have NB397_346 := n18_; have NB359_397 := n19_; have NB397_359 := n20_; have NB364_397 := n21_; have NB397_364 := n22_; have NB373_397 := n23_; have NB397_373 := n24_; have NB377_397 := n25_; have NB397_377 := n26_; have NB381_397 := n27_; have NB397_381 := n28_; have NB385_397 := n29_; have NB397_385 := n30_; have NB389_397 := n31_; have NB397_389 := n32_; have NB393_397 := n33_; have NB397_393 := n34_; clear n0_ n1_ n2_ n3_ n4_ n5_ n6_ n7_ n8_ n9_ n10_ n11_ n12_ n13_ n14_ n15_ n16_ n17_ n18_ n19_ n20_ n21_ n22_ n23_ n24_ n25_ n26_ n27_ n28_ n29_ n30_ n31_ n32_ n33_ n34_; clear hb hbox hg; have hnb171 := NB397_345.out; have hnc171 := NB345_397.out; have hnb172 := NB397_346.out; have hnc172 := NB346_397.out; have hnb173 := NB397_359.out; have hnc173 := NB359_397.out; have hnb174 := NB397_364.out; have hnc174 := NB364_397.out; have hnb175 := NB397_373.out; have hnc175 := NB373_397.out; have hnb176 := NB397_377.out; have hnc176 := NB377_397.out; have hnb177 := NB397_381.out; have hnc177 := NB381_397.out; have hnb178 := NB397_385.out; have hnc178 := NB385_397.out; have hnb179 := NB397_389.out; have hnc179 := NB389_397.out; have hnb180 := NB397_393.out; have hnc180 := NB393_397.out; have hcz181_0 : w170.cell? ⟨gb397, 0, none⟩ = some (.int .u32 0) := (blk_cell BK397.out 0).trans rfl; have hcz181_1 : w170.cell? ⟨gb397, 1, none⟩ = some (.int .u32 0) := (blk_cell BK397.out 1).trans rfl; have hfz181_0 := blk_frozen BK397.out 0; have hfz181_1 := blk_frozen BK397.out 1; have hcz182_0 : w170.cell? ⟨gb373, 0, none⟩ = some (.int .u32 t370) := (blk_cell BK373.out 0).trans rfl; have hcz182_1 : w170.cell? ⟨gb373, 1, none⟩ = some (.int .u32 t371) := (blk_cell BK373.out 1).trans rfl; have hfz182_0 := blk_frozen BK373.out 0; have hfz182_1 := blk_frozen BK373.out 1; have hcz183_0 : w170.cell? ⟨gb377, 0, none⟩ = some (.int .u32 t374) := (blk_cell BK377.out 0).trans rfl; have hcz183_1 : w170.cell? ⟨gb377, 1, none⟩ = some (.int .u32 t375) := (blk_cell BK377.out 1).trans rfl; have hfz183_0 := blk_frozen BK377.out 0; have hfz183_1 := blk_frozen BK377.out 1; have hcz184_0 : w170.cell? ⟨gb381, 0, none⟩ = some (.int .u32 t378) := (blk_cell BK381.out 0).trans rfl; have hcz184_1 : w170.cell? ⟨gb381, 1, none⟩ = some (.int .u32 t379) := (blk_cell BK381.out 1).trans rfl; have hfz184_0 := blk_frozen BK381.out 0; have hfz184_1 := blk_frozen BK381.out 1; have hcz185_0 : w170.cell? ⟨gb389, 0, none⟩ = some (.int .u32 t386) := (blk_cell BK389.out 0).trans rfl; have hcz185_1 : w170.cell? ⟨gb389, 1, none⟩ = some (.int .u32 t387) := (blk_cell BK389.out 1).trans rfl; have hfz185_0 := blk_frozen BK389.out 0; have hfz185_1 := blk_frozen BK389.out 1; have hcz186_0 : w170.cell? ⟨gb345, 0, none⟩ = some (.int .u32 a0_0) := (blk_cell BK345.out 0).trans rfl; have hcz186_1 : w170.cell? ⟨gb345, 1, none⟩ = some (.int .u32 a0_1) := (blk_cell BK345.out 1).trans rfl; have hfz186_0 := blk_frozen BK345.out 0; have hfz186_1 := blk_frozen BK345.out 1) | (go_at_call 13; (with_reducible refine (interval_Within.calls kj27 a0_0 a0_1 t394 t395 t398 _ A101.out).mono ?_); rintro e w187 ⟨rfl, hb⟩; have n0_ := am (Kd.R_below (by (with_reducible repeat (first | apply Kd.R_alloc | apply Kd.R_drewN | apply Kd.R_drew)); exact (Kd.R_mono (Kd.R_far (p := ⟨gb397, 1, none⟩) (Kd.R_far (p := ⟨gb397, 0, none⟩) (Kd.R_types HO367.out BK397.out (by decide)) (fun _ hk => hk.2) (.int .u32 t394)) (fun _ hk => hk.2) (.int .u32 t395)) (fun _ h_ => h_.1))) hb); have n1_ := am (blk_below (g := gb345) (o := .cells #[.int .u32 a0_0, .int .u32 a0_1] 24 (0, 0)) (by refine bkT ?_; refine blk_far ?_ NB345_397.out _; refine bkT ?_; refine blk_far ?_ NB345_397.out _; refine bkT ?_; exact BK345.out) hb); have n2_ := am (blk_below (g := gb346) (o := .cells #[.int .u32 a1_0, .int .u32 a1_1] 24 (0, 0)) (by refine bkT ?_; refine blk_far ?_ NB346_397.out _; refine bkT ?_; refine blk_far ?_ NB346_397.out _; refine bkT ?_; exact BK346.out) hb); have n3_ := am (blk_below (g := gb359) (o := .cells #[.int .u32 t355, .int .u32 t356] 24 (0, 0)) (by refine bkT ?_; refine blk_far ?_ NB359_397.out _; refine bkT ?_; refine blk_far ?_ NB359_397.out _; refine bkT ?_; exact BK359.out) hb); have n4_ := am (blk_below (g := gb364) (o := .cells #[.int .u32 t360, .int .u32 t361] 24 (0, 0)) (by refine bkT ?_; refine blk_far ?_ NB364_397.out _; refine bkT ?_; refine blk_far ?_ NB364_397.out _; refine bkT ?_; exact BK364.out) hb); have n5_ := am (blk_below (g := gb373) (o := .cells #[.int .u32 t370, .int .u32 t371] 24 (0, 0)) (by refine bkT ?_; refine blk_far ?_ NB373_397.out _; refine bkT ?_; refine blk_far ?_ NB373_397.out _; refine bkT ?_; exact BK373.out) hb); have n6_ := am (blk_below (g := gb377) (o := .cells #[.int .u32 t374, .int .u32 t375] 24 (0, 0)) (by refine bkT ?_; refine blk_far ?_ NB377_397.out _; refine bkT ?_; refine blk_far ?_ NB377_397.out _; refine bkT ?_; exact BK377.out) hb); have n7_ := am (blk_below (g := gb381) (o := .cells #[.int .u32 t378, .int .u32 t379] 24 (0, 0)) (by refine bkT ?_; refine blk_far ?_ NB381_397.out _; refine bkT ?_; refine blk_far ?_ NB381_397.out _; refine bkT ?_; exact BK381.out) hb); have n8_ := am (blk_below (g := gb385) (o := .cells #[.int .u32 t382, .int .u32 t383] 24 (0, 0)) (by refine bkT ?_; refine blk_far ?_ NB385_397.out _; refine bkT ?_; refine blk_far ?_ NB385_397.out _; refine bkT ?_; exact BK385.out) hb); have n9_ := am (blk_below (g := gb389) (o := .cells #[.int .u32 t386, .int .u32 t387] 24 (0, 0)) (by refine bkT ?_; refine blk_far ?_ NB389_397.out _; refine bkT ?_; refine blk_far ?_ NB389_397.out _; refine bkT ?_; exact BK389.out) hb); have n10_ := am (blk_below (g := gb393) (o := .cells #[.int .u32 t390, .int .u32 t391] 24 (0, 0)) (by refine bkT ?_; refine blk_far ?_ NB393_397.out _; refine bkT ?_; refine blk_far ?_ NB393_397.out _; refine bkT ?_; exact BK393.out) hb); have n11_ := am (blk_below (g := gb397) (o := .cells #[.int .u32 t394, .int .u32 t395] 24 (0, 0)) (by refine bkT ?_; refine blk_put (cs := #[.int .u32 t394, .int .u32 0]) ?_ 1 _ rfl; refine bkT ?_; refine blk_put (cs := #[.int .u32 0, .int .u32 0]) ?_ 0 _ rfl; refine bkT ?_; exact BK397.out) hb); have n12_ := am (below_step (hbA HB) hb); clear HO367; clear BK345; clear BK346; clear BK359; clear BK364; clear BK373; clear BK377; clear BK381; clear BK385; clear BK389; clear BK393; clear BK397; clear HB; have HO367 := n0_; have BK345 := n1_; have BK346 := n2_; have BK359 := n3_; have BK364 := n4_; have BK373 := n5_; have BK377 := n6_; have BK381 := n7_; have BK385 := n8_; have BK389 := n9_; have BK393 := n10_; have BK397 := n11_; have HB := n12_; clear n0_ n1_ n2_ n3_ n4_ n5_ n6_ n7_ n8_ n9_ n10_ n11_ n12_; (try clear hb); (try clear hb2); (try clear hk); (try clear hi)))
                              go_ret
                              exact ⟨by first | rfl | (simp [errW_none, errW_some] <;> rfl) | (simp [*, errW_none, errW_some] <;> rfl), hbA HB⟩
                            · rw [if_neg c100] at H
                              have c100b0 : (t386 == a0_0 && (t387 == a0_1)) = false := by simpa using c100
                              (try (have c100b1 : decide (t386 = a0_0 && (t387 == a0_1)) = false := by simpa using c100))
                              (try (have c100b2 : (t386 == a0_0 && (t387 == a0_1)) = false := by simpa using c100))
                              (try (have c100b3 : ¬ (t386 = a0_0 && (t387 == a0_1)) := by simpa using c100))
                              clear c100
                              exact absurd ((Option.some.inj H).trans hr_.out) (by decide)
                          · rw [if_neg c99] at H
                            have c99b0 : (t378 == t370 && (t379 == t371)) = false := by simpa using c99
                            (try (have c99b1 : decide (t378 = t370 && (t379 == t371)) = false := by simpa using c99))
                            (try (have c99b2 : (t378 == t370 && (t379 == t371)) = false := by simpa using c99))
                            (try (have c99b3 : ¬ (t378 = t370 && (t379 == t371)) := by simpa using c99))
                            clear c99
                            exact absurd ((Option.some.inj H).trans hr_.out) (by decide)
                        · rw [if_neg c98] at H
                          have c98b0 : (t370 == t374 && (t371 == t375)) = false := by simpa using c98
                          (try (have c98b1 : decide (t370 = t374 && (t371 == t375)) = false := by simpa using c98))
                          (try (have c98b2 : (t370 == t374 && (t371 == t375)) = false := by simpa using c98))
                          (try (have c98b3 : ¬ (t370 = t374 && (t371 == t375)) := by simpa using c98))
                          clear c98
                          exact absurd ((Option.some.inj H).trans hr_.out) (by decide)
                      · rw [if_neg c90] at H
                        exact absurd H (by simp)
                    · rw [if_neg c89] at H
                      exact absurd H (by simp)
            · rw [if_neg c25] at H
              exact absurd H (by simp)
          · rw [if_neg c24] at H
            exact absurd H (by simp)
  · replace c6 := Bool.eq_false_iff.mpr c6
    subst c6
    have H1 : (some false) = some r := by rw [if_neg (show ¬ (false = true) by decide)] at H; exact H
    clear H
    have H := H1
    clear H1
    exact absurd ((Option.some.inj H).trans hr_.out) (by decide)

end Go.Proofs.Ytmhmfnjbioplhaa.PIntervalTurns
