/- Contracts of Go functions of the given program: where NAME.f answers, the call returns that. Conditions: those each theorem names. -/
import Derived.Test.YtmhmfnjbioplhaaPIntervalSoundx0
import Derived.Test.YtmhmfnjbioplhaaPIntervalSoundx2
import Derived.Test.YtmhmfnjbioplhaaPIntervalSoundx3
namespace Go.Proofs.Ytmhmfnjbioplhaa.PIntervalSound
open Go.RowKit Go.Proofs.YtmhmfnjbioplhaaW.PrintWords Go.Proofs.YtmhmfnjbioplhaaW.PrintLast Go.Proofs.YtmhmfnjbioplhaaW.PrintMore Go.Proofs.Ytmhmfnjbioplhaa.Help
attribute [local go_sem] max2_int min2_int max_two min_two max_three min_three max_four min_four   -- for this text's walks alone
set_option linter.unusedVariables false
set_option linter.unusedSimpArgs false

/-! ### lamplighterkit_Pick: function 10 -/
def lamplighterkit_Pick.f (a0 : Int) (a1 : Int) : Option (Int) := if a1 < 1 then (some 0) else (if a1 = 0 then (none) else (if (Int.tmod a0 a1) < 0 then (some (wrap64 ((Int.tmod a0 a1) + a1))) else (some (Int.tmod a0 a1))))
set_option maxHeartbeats 8000000 in
set_option maxRecDepth 100000 in
theorem lamplighterkit_Pick.calls (a0 : Int) (a1 : Int) (r : Int) (w : World) (h : lamplighterkit_Pick.f a0 a1 = some r) :
    Calls Try.prog 10 #[.int .i64 a0, .int .i64 a1] w fun e w' => e = .returned (.int .i64 r) ∧ Drawn0 w w' := by
  have H : (if a1 < 1 then (some 0) else (if a1 = 0 then (none) else (if (Int.tmod a0 a1) < 0 then (some (wrap64 ((Int.tmod a0 a1) + a1))) else (some (Int.tmod a0 a1))))) = some r := h
  clear h
  by_cases c3 : a1 < 1
  · rw [if_pos c3] at H
    have c3b0 : decide (a1 < 1) = true := decide_eq_true c3
    clear c3
    obtain rfl := Option.some.inj H
    go_enter Try.func10, Try.ntmps10
    go_wp2
    go_ret
    exact ⟨by first | rfl | (simp; done) | (simp [*]; done), by repeat (first | exact Drawn0.refl _ | apply Drawn0.step)⟩
  · rw [if_neg c3] at H
    have c3b0 : decide (a1 < 1) = false := decide_eq_false c3
    clear c3
    by_cases c4 : a1 = 0
    · rw [if_pos c4] at H
      exact absurd H (by simp)
    · rw [if_neg c4] at H
      have c4b0 : (a1 == 0) = false := beq_eq_false_iff_ne.mpr c4
      have c4b1 : (a1 != 0) = true := bne_iff_ne.mpr c4
      by_cases c5 : (Int.tmod a0 a1) < 0
      · rw [if_pos c5] at H
        have c5b0 : decide ((Int.tmod a0 a1) < 0) = true := decide_eq_true c5
        clear c5
        obtain rfl := Option.some.inj H
        go_enter Try.func10, Try.ntmps10
        go_wp2
        go_ret
        exact ⟨by first | rfl | (simp; done) | (simp [*]; done), by repeat (first | exact Drawn0.refl _ | apply Drawn0.step)⟩
      · rw [if_neg c5] at H
        have c5b0 : decide ((Int.tmod a0 a1) < 0) = false := decide_eq_false c5
        clear c5
        obtain rfl := Option.some.inj H
        go_enter Try.func10, Try.ntmps10
        go_wp2
        go_ret
        exact ⟨by first | rfl | (simp; done) | (simp [*]; done), by repeat (first | exact Drawn0.refl _ | apply Drawn0.step)⟩

/-! ### interval_Join: function 12 -/
def interval_Join.f (k : Nat) (a0_0 : Int) (a0_1 : Int) (a1_0 : Int) (a1_1 : Int) : Option (Int × Int) := (interval_may.f k (([(⟨a0_0, a0_1⟩ : S24), (⟨a1_0, a1_1⟩ : S24)] : List (S24)))).bind fun t323 => (if t323 = true then (some (mn a0_0 a1_0, mx a0_1 a1_1)) else ((interval_All.f).bind fun bt324 => (some (bt324.1, bt324.2))))
theorem interval_Join.mono : ∀ a0 a1 a2 a3 k, LeO (interval_Join.f k a0 a1 a2 a3) (interval_Join.f (k + 1) a0 a1 a2 a3) := by
  intro a0 a1 a2 a3 k
  unfold interval_Join.f
  repeat' first
      | (with_reducible exact interval_may.mono _ _)
      | (with_reducible exact LeO.refl _)
      | (with_reducible exact LeO.none _)
      | (with_reducible refine LeO.ite ?_ ?_)
      | (with_reducible refine LeO.bind ?_ (fun _ => ?_))
      | exact interval_may.mono _ _
      | exact LeO.none _
      | refine LeO.ite ?_ ?_
      | refine LeO.bind ?_ (fun _ => ?_)
set_option maxHeartbeats 8000000 in
set_option maxRecDepth 100000 in
theorem interval_Join.calls (k : Nat) (a0_0 : Int) (a0_1 : Int) (a1_0 : Int) (a1_1 : Int) (r1 : Int) (r2 : Int) (w : World) (h : interval_Join.f k a0_0 a0_1 a1_0 a1_1 = some (r1, r2)) :
    Calls Try.prog 12 #[.agg #[.int .u32 a0_0, .int .u32 a0_1], .agg #[.int .u32 a1_0, .int .u32 a1_1]] w fun e w' => e = .returned (.agg #[.int .u32 r1, .int .u32 r2]) ∧ Below w.heap.size w w' := by
  have hu24 := Try.underlying24
  have HB := am (Below.refl w.heap.size w)
  have H : ((interval_may.f k (([(⟨a0_0, a0_1⟩ : S24), (⟨a1_0, a1_1⟩ : S24)] : List (S24)))).bind fun t323 => (if t323 = true then (some (mn a0_0 a1_0, mx a0_1 a1_1)) else ((interval_All.f).bind fun bt324 => (some (bt324.1, bt324.2))))) = some (r1, r2) := h
  clear h
  obtain ⟨y320, hy320⟩ : ∃ y_ : List (S24), y_ = (([(⟨a0_0, a0_1⟩ : S24), (⟨a1_0, a1_1⟩ : S24)] : List (S24))) := ⟨_, rfl⟩
  replace H : ((interval_may.f k y320).bind fun t323 => (if t323 = true then (some (mn a0_0 a1_0, mx a0_1 a1_1)) else ((interval_All.f).bind fun bt324 => (some (bt324.1, bt324.2))))) = some (r1, r2) := by first | (rw [hy320]; with_reducible exact H) | (have H2_ := (Option.bind_some _ _).symm.trans H; rw [hy320]; with_reducible exact H2_) | (have H2_ := (Option.bind_some _ _).symm.trans H; with_reducible exact H2_) | with_reducible exact H | (rw [hy320]; exact H) | exact H
  have Ny320 := am hy320
  clear hy320
  replace H := Option.bind_eq_some_iff.mp H
  obtain ⟨t323, A30, H⟩ := H
  replace H : (if t323 = true then (some (mn a0_0 a1_0, mx a0_1 a1_1)) else ((interval_All.f).bind fun bt324 => (some (bt324.1, bt324.2)))) = some (r1, r2) := H
  have A3 := am A30
  clear A30
  by_cases c4 : t323 = true
  · subst c4
    have H1 : (some (mn a0_0 a1_0, mx a0_1 a1_1)) = some (r1, r2) := by rw [if_pos rfl] at H; exact H
    clear H
    have H := H1
    clear H1
    obtain ⟨ji5, hji5⟩ : ∃ j_ : Int, (mn a0_0 a1_0) = j_ := ⟨_, rfl⟩
    replace H : (some (ji5, mx a0_1 a1_1)) = some (r1, r2) := by first | (rw [hji5] at H; exact H) | (simp only [hji5] at H ⊢; exact H)
    (try rw [hji5] at A3)
    have hji5_ : (if a1_0 < a0_0 then a1_0 else a0_0) = ji5 := hji5
    obtain ⟨ji6, hji6⟩ : ∃ j_ : Int, (mx a0_1 a1_1) = j_ := ⟨_, rfl⟩
    replace H : (some (ji5, ji6)) = some (r1, r2) := by first | (rw [hji6] at H; exact H) | (simp only [hji6] at H ⊢; exact H)
    (try rw [hji6] at A3)
    have hji6_ : (if a0_1 < a1_1 then a1_1 else a0_1) = ji6 := hji6
    simp only [Option.some.injEq, Prod.mk.injEq] at H
    obtain ⟨rfl, rfl⟩ := H
    go_enter Try.func12, Try.ntmps12
    go_wp2_with (first | ((with_reducible refine gate_dst (N := 2) rfl ?_); refine bxE 2 #[.int .u32 a0_0, .int .u32 a0_1] 24 ?_; intro gb317 hg w7 hbox hb; have n0_ := am (below_step (hbA HB) hb); have n1_ := am (hbox); have n2_ := gwA hg HB; have n3_ := gwA hg HB; clear HB; have HB := n0_; have BK317 := n1_; have GW317 := n2_; have GE317 := n3_; clear n0_ n1_ n2_ n3_; clear hb hbox hg) | ((with_reducible refine gate_dst (N := 3) rfl ?_); refine bxE 3 #[.int .u32 a1_0, .int .u32 a1_1] 24 ?_; intro gb318 hg w8 hbox hb; have n0_ := am (blk_below (g := gb317) (o := .cells #[.int .u32 a0_0, .int .u32 a0_1] 24 (0, 0)) (bkA BK317) hb); have n1_ := am (below_step (hbA HB) hb); have n2_ := am (hbox); have n3_ := gwA hg HB; have n4_ := gwA hg HB; have n5_ := ltA hg BK317; have n6_ := gtA hg BK317; clear BK317; clear HB; have BK317 := n0_; have HB := n1_; have BK318 := n2_; have GW318 := n3_; have GE318 := n4_; have NB317_318 := n5_; have NB318_317 := n6_; clear n0_ n1_ n2_ n3_ n4_ n5_ n6_; clear hb hbox hg) | ((with_reducible refine gate_dst (N := 4) rfl ?_); refine bxE 4 #[.int .u32 0, .int .u32 0] 24 ?_; intro gb319 hg w9 hbox hb; have n0_ := am (blk_below (g := gb317) (o := .cells #[.int .u32 a0_0, .int .u32 a0_1] 24 (0, 0)) (bkA BK317) hb); have n1_ := am (blk_below (g := gb318) (o := .cells #[.int .u32 a1_0, .int .u32 a1_1] 24 (0, 0)) (bkA BK318) hb); have n2_ := am (below_step (hbA HB) hb); have n3_ := am (hbox); have n4_ := gwA hg HB; have n5_ := gwA hg HB; have n6_ := ltA hg BK317; have n7_ := gtA hg BK317; have n8_ := ltA hg BK318; have n9_ := gtA hg BK318; clear BK317; clear BK318; clear HB; have BK317 := n0_; have BK318 := n1_; have HB := n2_; have BK319 := n3_; have GW319 := n4_; have GE319 := n5_; have NB317_319 := n6_; have NB319_317 := n7_; have NB318_319 := n8_; have NB319_318 := n9_; clear n0_ n1_ n2_ n3_ n4_ n5_ n6_ n7_ n8_ n9_; clear hb hbox hg; have hnb10 := NB317_318.out; have hnc10 := NB318_317.out; have hnb11 := NB317_319.out; have hnc11 := NB319_317.out; have hcz12_0 : w9.cell? ⟨gb317, 0, none⟩ = some (.int .u32 a0_0) := cz BK317; have hcz12_1 : w9.cell? ⟨gb317, 1, none⟩ = some (.int .u32 a0_1) := cz BK317; have hfz12_0 := blk_frozen BK317.out 0; have hfz12_1 := blk_frozen BK317.out 1; have hnb13 := NB318_319.out; have hnc13 := NB319_318.out; have hcz14_0 : w9.cell? ⟨gb318, 0, none⟩ = some (.int .u32 a1_0) := cz BK318; have hcz14_1 : w9.cell? ⟨gb318, 1, none⟩ = some (.int .u32 a1_1) := cz BK318; have hfz14_0 := blk_frozen BK318.out 0; have hfz14_1 := blk_frozen BK318.out 1) | ((with_reducible refine gate_dst (N := 7) rfl ?_); refine Kd.R_lit k24 _ 24 ?hg (N := 7) ?hd (xs := ([(⟨a0_0, a0_1⟩ : S24), (⟨a1_0, a1_1⟩ : S24)] : List (S24))) (inner := [.int .u32 a0_0, .int .u32 a0_1, .int .u32 a1_0, .int .u32 a1_1]) (ok := fun _ => True) (okp := fun _ => True) ?hr ?hp (fun _ hk => hk) trivial (Below.refl _ _) (Nat.le_refl _) (by simp) ?_; (case hd => rfl); (case hg => rfl); (case hr => first | (go_simp; done) | (go_simp; rfl)); (case hp => exact (Reps.c2 (show Kd.M k24 _ _ _ (⟨a0_0, a0_1⟩ : S24) [.int .u32 a0_0, .int .u32 a0_1] from (k24_mkM _ _ _ (⟨a0_0, a0_1⟩ : S24) )) (Reps.c2 (show Kd.M k24 _ _ _ (⟨a1_0, a1_1⟩ : S24) [.int .u32 a1_0, .int .u32 a1_1] from (k24_mkM _ _ _ (⟨a1_0, a1_1⟩ : S24) )) (Reps.none _ _)))); intro v321 w15 ho16 hb hg_ hnew_; clear hg_ hnew_; (first | rw [← Ny320.out] at ho16 | (simp only [Int.reduceToNat] at ho16; rw [← Ny320.out] at ho16)); have n0_ := am (Kd.R_lower (Kd.R_newB (Kd.R_newB (Kd.R_newB ho16 (g := gb317) (o := .cells #[.int .u32 a0_0, .int .u32 a0_1] 24 (0, 0)) (bkA BK317)) (g := gb318) (o := .cells #[.int .u32 a1_0, .int .u32 a1_1] 24 (0, 0)) (bkA BK318)) (g := gb319) (o := .cells #[.int .u32 0, .int .u32 0] 24 (0, 0)) (bkA BK319)) (below_size (hbA HB))); have n1_ := am (blk_below (g := gb317) (o := .cells #[.int .u32 a0_0, .int .u32 a0_1] 24 (0, 0)) (bkA BK317) hb); have n2_ := am (blk_below (g := gb318) (o := .cells #[.int .u32 a1_0, .int .u32 a1_1] 24 (0, 0)) (bkA BK318) hb); have n3_ := am (blk_below (g := gb319) (o := .cells #[.int .u32 0, .int .u32 0] 24 (0, 0)) (bkA BK319) hb); have n4_ := am (below_step (hbA HB) hb); clear BK317; clear BK318; clear BK319; clear HB; have HO322 := n0_; have BK317 := n1_; have BK318 := n2_; have BK319 := n3_; have HB := n4_; clear n0_ n1_ n2_ n3_ n4_; clear hb ho16; obtain ⟨Ao17, co17, eo17⟩ := Kd.R_slice HO322.out; subst eo17) | ((with_reducible refine gate_callee (f := 36) rfl ?_); refine goesL_ (some 8) rfl rfl Try.func36 (by kernel_rfl) rfl #[.slice Ao17 y320.length co17] rfl (by (try simp only [List.map_toArray, List.map_cons, List.map_nil]); first | done | rfl | (simp only [List.length_drop, List.length_take]; rfl)) ?_; (with_reducible refine (interval_may.calls k _ _ y320 true _ ?side1 ?side2 A3.out).mono ?_); (case side1 => repeat (first | exact (Kd.R_reads' HO322.out).2.2 | (with_reducible refine Kd.C_alloc ?_ _) | (with_reducible refine Kd.C_drewN ?_ _) | (with_reducible refine Kd.C_drew ?_))); (case side2 => exact (Kd.R_reads' HO322.out).2.1); rintro e w18 ⟨rfl, hb⟩; refine ⟨_, rfl, ?_⟩; have n0_ := am (Kd.R_below (by (with_reducible repeat (first | apply Kd.R_alloc | apply Kd.R_drewN | apply Kd.R_drew)); exact HO322.out) hb); have n1_ := am (blk_below (g := gb317) (o := .cells #[.int .u32 a0_0, .int .u32 a0_1] 24 (0, 0)) (bkA BK317) hb); have n2_ := am (blk_below (g := gb318) (o := .cells #[.int .u32 a1_0, .int .u32 a1_1] 24 (0, 0)) (bkA BK318) hb); have n3_ := am (blk_below (g := gb319) (o := .cells #[.int .u32 0, .int .u32 0] 24 (0, 0)) (bkA BK319) hb); have n4_ := am (below_step (hbA HB) hb); clear HO322; clear BK317; clear BK318; clear BK319; clear HB; have HO322 := n0_; have BK317 := n1_; have BK318 := n2_; have BK319 := n3_; have HB := n4_; clear n0_ n1_ n2_ n3_ n4_; (try clear hb); (try clear hb2); (try clear hk); (try clear hi); have hcz19_0 : w18.cell? ⟨gb317, 0, none⟩ = some (.int .u32 a0_0) := cz BK317; have hcz19_1 : w18.cell? ⟨gb317, 1, none⟩ = some (.int .u32 a0_1) := cz BK317; have hfz19_0 := blk_frozen BK317.out 0; have hfz19_1 := blk_frozen BK317.out 1; have hcz20_0 : w18.cell? ⟨gb318, 0, none⟩ = some (.int .u32 a1_0) := cz BK318; have hcz20_1 : w18.cell? ⟨gb318, 1, none⟩ = some (.int .u32 a1_1) := cz BK318; have hfz20_0 := blk_frozen BK318.out 0; have hfz20_1 := blk_frozen BK318.out 1; have hcz21_0 : w18.cell? ⟨gb319, 0, none⟩ = some (.int .u32 0) := cz BK319; have hcz21_1 : w18.cell? ⟨gb319, 1, none⟩ = some (.int .u32 0) := cz BK319; have hfz21_0 := blk_frozen BK319.out 0; have hfz21_1 := blk_frozen BK319.out 1))
    refine bodyPost_ret (results_cell_row rfl _ _ gb319 24 #[.int .u32 ji5, .int .u32 ji6] (0, 0) _ rfl (by refine bkT ?_; refine blk_put (cs := #[.int .u32 ji5, .int .u32 0]) ?_ 1 _ rfl; refine bkT ?_; refine blk_put (cs := #[.int .u32 0, .int .u32 0]) ?_ 0 _ rfl; refine bkT ?_; exact BK319.out) Try.underlying24 rfl (by kernel_rfl)) rfl ?_
    exact ⟨by first | rfl | (simp [errW_none, errW_some] <;> rfl) | (simp only [← hji5, ← hji6]; first | rfl | (simp [errW_none, errW_some] <;> rfl)) | (simp [*, errW_none, errW_some] <;> rfl), hbA HB⟩
  · replace c4 := Bool.eq_false_iff.mpr c4
    subst c4
    have H1 : ((interval_All.f).bind fun bt324 => (some (bt324.1, bt324.2))) = some (r1, r2) := by rw [if_neg (show ¬ (false = true) by decide)] at H; exact H
    clear H
    have H := H1
    clear H1
    replace H := Option.bind_eq_some_iff.mp H
    obtain ⟨⟨t324, t325⟩, A220, H⟩ := H
    replace H : (some (t324, t325)) = some (r1, r2) := H
    have A22 := am A220
    clear A220
    simp only [Option.some.injEq, Prod.mk.injEq] at H
    obtain ⟨rfl, rfl⟩ := H
    go_enter Try.func12, Try.ntmps12
    go_wp2_with (first | ((with_reducible refine gate_dst (N := 2) rfl ?_); refine bxE 2 #[.int .u32 a0_0, .int .u32 a0_1] 24 ?_; intro gb317 hg w23 hbox hb; have n0_ := am (below_step (hbA HB) hb); have n1_ := am (hbox); have n2_ := gwA hg HB; have n3_ := gwA hg HB; clear HB; have HB := n0_; have BK317 := n1_; have GW317 := n2_; have GE317 := n3_; clear n0_ n1_ n2_ n3_; clear hb hbox hg) | ((with_reducible refine gate_dst (N := 3) rfl ?_); refine bxE 3 #[.int .u32 a1_0, .int .u32 a1_1] 24 ?_; intro gb318 hg w24 hbox hb; have n0_ := am (blk_below (g := gb317) (o := .cells #[.int .u32 a0_0, .int .u32 a0_1] 24 (0, 0)) (bkA BK317) hb); have n1_ := am (below_step (hbA HB) hb); have n2_ := am (hbox); have n3_ := gwA hg HB; have n4_ := gwA hg HB; have n5_ := ltA hg BK317; have n6_ := gtA hg BK317; clear BK317; clear HB; have BK317 := n0_; have HB := n1_; have BK318 := n2_; have GW318 := n3_; have GE318 := n4_; have NB317_318 := n5_; have NB318_317 := n6_; clear n0_ n1_ n2_ n3_ n4_ n5_ n6_; clear hb hbox hg) | ((with_reducible refine gate_dst (N := 4) rfl ?_); refine bxE 4 #[.int .u32 0, .int .u32 0] 24 ?_; intro gb319 hg w25 hbox hb; have n0_ := am (blk_below (g := gb317) (o := .cells #[.int .u32 a0_0, .int .u32 a0_1] 24 (0, 0)) (bkA BK317) hb); have n1_ := am (blk_below (g := gb318) (o := .cells #[.int .u32 a1_0, .int .u32 a1_1] 24 (0, 0)) (bkA BK318) hb); have n2_ := am (below_step (hbA HB) hb); have n3_ := am (hbox); have n4_ := gwA hg HB; have n5_ := gwA hg HB; have n6_ := ltA hg BK317; have n7_ := gtA hg BK317; have n8_ := ltA hg BK318; have n9_ := gtA hg BK318; clear BK317; clear BK318; clear HB; have BK317 := n0_; have BK318 := n1_; have HB := n2_; have BK319 := n3_; have GW319 := n4_; have GE319 := n5_; have NB317_319 := n6_; have NB319_317 := n7_; have NB318_319 := n8_; have NB319_318 := n9_; clear n0_ n1_ n2_ n3_ n4_ n5_ n6_ n7_ n8_ n9_; clear hb hbox hg; have hnb26 := NB317_318.out; have hnc26 := NB318_317.out; have hnb27 := NB317_319.out; have hnc27 := NB319_317.out; have hcz28_0 : w25.cell? ⟨gb317, 0, none⟩ = some (.int .u32 a0_0) := cz BK317; have hcz28_1 : w25.cell? ⟨gb317, 1, none⟩ = some (.int .u32 a0_1) := cz BK317; have hfz28_0 := blk_frozen BK317.out 0; have hfz28_1 := blk_frozen BK317.out 1; have hnb29 := NB318_319.out; have hnc29 := NB319_318.out; have hcz30_0 : w25.cell? ⟨gb318, 0, none⟩ = some (.int .u32 a1_0) := cz BK318; have hcz30_1 : w25.cell? ⟨gb318, 1, none⟩ = some (.int .u32 a1_1) := cz BK318; have hfz30_0 := blk_frozen BK318.out 0; have hfz30_1 := blk_frozen BK318.out 1) | ((with_reducible refine gate_dst (N := 7) rfl ?_); refine Kd.R_lit k24 _ 24 ?hg (N := 7) ?hd (xs := ([(⟨a0_0, a0_1⟩ : S24), (⟨a1_0, a1_1⟩ : S24)] : List (S24))) (inner := [.int .u32 a0_0, .int .u32 a0_1, .int .u32 a1_0, .int .u32 a1_1]) (ok := fun _ => True) (okp := fun _ => True) ?hr ?hp (fun _ hk => hk) trivial (Below.refl _ _) (Nat.le_refl _) (by simp) ?_; (case hd => rfl); (case hg => rfl); (case hr => first | (go_simp; done) | (go_simp; rfl)); (case hp => exact (Reps.c2 (show Kd.M k24 _ _ _ (⟨a0_0, a0_1⟩ : S24) [.int .u32 a0_0, .int .u32 a0_1] from (k24_mkM _ _ _ (⟨a0_0, a0_1⟩ : S24) )) (Reps.c2 (show Kd.M k24 _ _ _ (⟨a1_0, a1_1⟩ : S24) [.int .u32 a1_0, .int .u32 a1_1] from (k24_mkM _ _ _ (⟨a1_0, a1_1⟩ : S24) )) (Reps.none _ _)))); intro v321 w31 ho32 hb hg_ hnew_; clear hg_ hnew_; (first | rw [← Ny320.out] at ho32 | (simp only [Int.reduceToNat] at ho32; rw [← Ny320.out] at ho32)); have n0_ := am (Kd.R_lower (Kd.R_newB (Kd.R_newB (Kd.R_newB ho32 (g := gb317) (o := .cells #[.int .u32 a0_0, .int .u32 a0_1] 24 (0, 0)) (bkA BK317)) (g := gb318) (o := .cells #[.int .u32 a1_0, .int .u32 a1_1] 24 (0, 0)) (bkA BK318)) (g := gb319) (o := .cells #[.int .u32 0, .int .u32 0] 24 (0, 0)) (bkA BK319)) (below_size (hbA HB))); have n1_ := am (blk_below (g := gb317) (o := .cells #[.int .u32 a0_0, .int .u32 a0_1] 24 (0, 0)) (bkA BK317) hb); have n2_ := am (blk_below (g := gb318) (o := .cells #[.int .u32 a1_0, .int .u32 a1_1] 24 (0, 0)) (bkA BK318) hb); have n3_ := am (blk_below (g := gb319) (o := .cells #[.int .u32 0, .int .u32 0] 24 (0, 0)) (bkA BK319) hb); have n4_ := am (below_step (hbA HB) hb); clear BK317; clear BK318; clear BK319; clear HB; have HO322 := n0_; have BK317 := n1_; have BK318 := n2_; have BK319 := n3_; have HB := n4_; clear n0_ n1_ n2_ n3_ n4_; clear hb ho32; obtain ⟨Ao33, co33, eo33⟩ := Kd.R_slice HO322.out; subst eo33) | ((with_reducible refine gate_callee (f := 36) rfl ?_); refine goesL_ (some 8) rfl rfl Try.func36 (by kernel_rfl) rfl #[.slice Ao33 y320.length co33] rfl (by (try simp only [List.map_toArray, List.map_cons, List.map_nil]); first | done | rfl | (simp only [List.length_drop, List.length_take]; rfl)) ?_; (with_reducible refine (interval_may.calls k _ _ y320 false _ ?side1 ?side2 A3.out).mono ?_); (case side1 => repeat (first | exact (Kd.R_reads' HO322.out).2.2 | (with_reducible refine Kd.C_alloc ?_ _) | (with_reducible refine Kd.C_drewN ?_ _) | (with_reducible refine Kd.C_drew ?_))); (case side2 => exact (Kd.R_reads' HO322.out).2.1); rintro e w34 ⟨rfl, hb⟩; refine ⟨_, rfl, ?_⟩; have n0_ := am (Kd.R_below (by (with_reducible repeat (first | apply Kd.R_alloc | apply Kd.R_drewN | apply Kd.R_drew)); exact HO322.out) hb); have n1_ := am (blk_below (g := gb317) (o := .cells #[.int .u32 a0_0, .int .u32 a0_1] 24 (0, 0)) (bkA BK317) hb); have n2_ := am (blk_below (g := gb318) (o := .cells #[.int .u32 a1_0, .int .u32 a1_1] 24 (0, 0)) (bkA BK318) hb); have n3_ := am (blk_below (g := gb319) (o := .cells #[.int .u32 0, .int .u32 0] 24 (0, 0)) (bkA BK319) hb); have n4_ := am (below_step (hbA HB) hb); clear HO322; clear BK317; clear BK318; clear BK319; clear HB; have HO322 := n0_; have BK317 := n1_; have BK318 := n2_; have BK319 := n3_; have HB := n4_; clear n0_ n1_ n2_ n3_ n4_; (try clear hb); (try clear hb2); (try clear hk); (try clear hi)) | ((with_reducible refine gate_callee (f := 19) rfl ?_); refine goesL_ (some 10) rfl rfl Try.func19 (by kernel_rfl) rfl #[] rfl (by (try simp only [List.map_toArray, List.map_cons, List.map_nil]); first | done | rfl | (simp only [List.length_drop, List.length_take]; rfl)) ?_; (with_reducible refine (interval_All.calls  t324 t325 _ A22.out).mono ?_); rintro e w35 ⟨rfl, hb⟩; refine ⟨_, rfl, ?_⟩; have n0_ := am (Kd.R_below (by (with_reducible repeat (first | apply Kd.R_alloc | apply Kd.R_drewN | apply Kd.R_drew)); exact HO322.out) hb); have n1_ := am (blk_below (g := gb317) (o := .cells #[.int .u32 a0_0, .int .u32 a0_1] 24 (0, 0)) (bkA BK317) hb); have n2_ := am (blk_below (g := gb318) (o := .cells #[.int .u32 a1_0, .int .u32 a1_1] 24 (0, 0)) (bkA BK318) hb); have n3_ := am (blk_below (g := gb319) (o := .cells #[.int .u32 0, .int .u32 0] 24 (0, 0)) (bkA BK319) hb); have n4_ := am (below_step (hbA HB) hb); clear HO322; clear BK317; clear BK318; clear BK319; clear HB; have HO322 := n0_; have BK317 := n1_; have BK318 := n2_; have BK319 := n3_; have HB := n4_; clear n0_ n1_ n2_ n3_ n4_; (try clear hb); (try clear hb2); (try clear hk); (try clear hi); have hcz36_0 : w35.cell? ⟨gb319, 0, none⟩ = some (.int .u32 0) := cz BK319; have hcz36_1 : w35.cell? ⟨gb319, 1, none⟩ = some (.int .u32 0) := cz BK319; have hfz36_0 := blk_frozen BK319.out 0; have hfz36_1 := blk_frozen BK319.out 1))
    refine bodyPost_ret (results_cell_row rfl _ _ gb319 24 #[.int .u32 t324, .int .u32 t325] (0, 0) _ rfl (by refine bkT ?_; refine blk_put (cs := #[.int .u32 t324, .int .u32 0]) ?_ 1 _ rfl; refine bkT ?_; refine blk_put (cs := #[.int .u32 0, .int .u32 0]) ?_ 0 _ rfl; refine bkT ?_; exact BK319.out) Try.underlying24 rfl (by kernel_rfl)) rfl ?_
    exact ⟨by first | rfl | (simp [errW_none, errW_some] <;> rfl) | (simp [*, errW_none, errW_some] <;> rfl), hbA HB⟩

/-! ### interval_Un: function 14 -/
def interval_Un.f (k : Nat) (a0 : Int) (a1_0 : Int) (a1_1 : Int) : Option (Int × Int × Int) := (interval_may.f k (([(⟨a1_0, a1_1⟩ : S24)] : List (S24)))).bind fun t331 => (if t331 = true then (if a0 = 1 then (if a1_1 = 0 then ((interval_One.f 0).bind fun bt332 => (some (bt332.1, bt332.2, 0))) else (if a1_0 > 0 then (some ((-a1_1) % 4294967296, (-a1_0) % 4294967296, 0)) else ((interval_All.f).bind fun bt334 => (some (bt334.1, bt334.2, 0))))) else (if a0 = 2 then (some (Go.bits .xor .u32 IntKind.u32.max a1_1, Go.bits .xor .u32 IntKind.u32.max a1_0, 0)) else (if a0 = 3 then ((interval_yes.f (a1_1 == 0) (decide (a1_0 > 0))).bind fun bt336 => (some (bt336.1, bt336.2, 0))) else (some (0, 0, 2))))) else (some (0, 0, 2)))
theorem interval_Un.mono : ∀ a0 a1 a2 k, LeO (interval_Un.f k a0 a1 a2) (interval_Un.f (k + 1) a0 a1 a2) := by
  intro a0 a1 a2 k
  unfold interval_Un.f
  repeat' first
      | (with_reducible exact interval_may.mono _ _)
      | (with_reducible exact LeO.refl _)
      | (with_reducible exact LeO.none _)
      | (with_reducible refine LeO.ite ?_ ?_)
      | (with_reducible refine LeO.bind ?_ (fun _ => ?_))
      | exact interval_may.mono _ _
      | exact LeO.none _
      | refine LeO.ite ?_ ?_
      | refine LeO.bind ?_ (fun _ => ?_)
set_option maxHeartbeats 8000000 in
set_option maxRecDepth 100000 in
theorem interval_Un.calls (k : Nat) (a0 : Int) (a1_0 : Int) (a1_1 : Int) (r1 : Int) (r2 : Int) (r3 : Int) (w : World) (h : interval_Un.f k a0 a1_0 a1_1 = some (r1, r2, r3)) :
    Calls Try.prog 14 #[.int .i64 a0, .agg #[.int .u32 a1_0, .int .u32 a1_1]] w fun e w' => e = .returned (.tuple #[.agg #[.int .u32 r1, .int .u32 r2], .int .i64 r3]) ∧ Below w.heap.size w w' := by
  have hu24 := Try.underlying24
  have hsg_u32 : IntKind.u32.signed = false := rfl
  have HB := am (Below.refl w.heap.size w)
  have H : ((interval_may.f k (([(⟨a1_0, a1_1⟩ : S24)] : List (S24)))).bind fun t331 => (if t331 = true then (if a0 = 1 then (if a1_1 = 0 then ((interval_One.f 0).bind fun bt332 => (some (bt332.1, bt332.2, 0))) else (if a1_0 > 0 then (some ((-a1_1) % 4294967296, (-a1_0) % 4294967296, 0)) else ((interval_All.f).bind fun bt334 => (some (bt334.1, bt334.2, 0))))) else (if a0 = 2 then (some (Go.bits .xor .u32 IntKind.u32.max a1_1, Go.bits .xor .u32 IntKind.u32.max a1_0, 0)) else (if a0 = 3 then ((interval_yes.f (a1_1 == 0) (decide (a1_0 > 0))).bind fun bt336 => (some (bt336.1, bt336.2, 0))) else (some (0, 0, 2))))) else (some (0, 0, 2)))) = some (r1, r2, r3) := h
  clear h
  obtain ⟨y328, hy328⟩ : ∃ y_ : List (S24), y_ = (([(⟨a1_0, a1_1⟩ : S24)] : List (S24))) := ⟨_, rfl⟩
  replace H : ((interval_may.f k y328).bind fun t331 => (if t331 = true then (if a0 = 1 then (if a1_1 = 0 then ((interval_One.f 0).bind fun bt332 => (some (bt332.1, bt332.2, 0))) else (if a1_0 > 0 then (some ((-a1_1) % 4294967296, (-a1_0) % 4294967296, 0)) else ((interval_All.f).bind fun bt334 => (some (bt334.1, bt334.2, 0))))) else (if a0 = 2 then (some (Go.bits .xor .u32 IntKind.u32.max a1_1, Go.bits .xor .u32 IntKind.u32.max a1_0, 0)) else (if a0 = 3 then ((interval_yes.f (a1_1 == 0) (decide (a1_0 > 0))).bind fun bt336 => (some (bt336.1, bt336.2, 0))) else (some (0, 0, 2))))) else (some (0, 0, 2)))) = some (r1, r2, r3) := by first | (rw [hy328]; with_reducible exact H) | (have H2_ := (Option.bind_some _ _).symm.trans H; rw [hy328]; with_reducible exact H2_) | (have H2_ := (Option.bind_some _ _).symm.trans H; with_reducible exact H2_) | with_reducible exact H | (rw [hy328]; exact H) | exact H
  have Ny328 := am hy328
  clear hy328
  replace H := Option.bind_eq_some_iff.mp H
  obtain ⟨t331, A30, H⟩ := H
  replace H : (if t331 = true then (if a0 = 1 then (if a1_1 = 0 then ((interval_One.f 0).bind fun bt332 => (some (bt332.1, bt332.2, 0))) else (if a1_0 > 0 then (some ((-a1_1) % 4294967296, (-a1_0) % 4294967296, 0)) else ((interval_All.f).bind fun bt334 => (some (bt334.1, bt334.2, 0))))) else (if a0 = 2 then (some (Go.bits .xor .u32 IntKind.u32.max a1_1, Go.bits .xor .u32 IntKind.u32.max a1_0, 0)) else (if a0 = 3 then ((interval_yes.f (a1_1 == 0) (decide (a1_0 > 0))).bind fun bt336 => (some (bt336.1, bt336.2, 0))) else (some (0, 0, 2))))) else (some (0, 0, 2))) = some (r1, r2, r3) := H
  have A3 := am A30
  clear A30
  by_cases c4 : t331 = true
  · subst c4
    have H1 : (if a0 = 1 then (if a1_1 = 0 then ((interval_One.f 0).bind fun bt332 => (some (bt332.1, bt332.2, 0))) else (if a1_0 > 0 then (some ((-a1_1) % 4294967296, (-a1_0) % 4294967296, 0)) else ((interval_All.f).bind fun bt334 => (some (bt334.1, bt334.2, 0))))) else (if a0 = 2 then (some (Go.bits .xor .u32 IntKind.u32.max a1_1, Go.bits .xor .u32 IntKind.u32.max a1_0, 0)) else (if a0 = 3 then ((interval_yes.f (a1_1 == 0) (decide (a1_0 > 0))).bind fun bt336 => (some (bt336.1, bt336.2, 0))) else (some (0, 0, 2))))) = some (r1, r2, r3) := by rw [if_pos rfl] at H; exact H
    clear H
    have H := H1
    clear H1
    by_cases c5 : a0 = 1
    · rw [if_pos c5] at H
      have c5b0 : (a0 == 1) = true := beq_iff_eq.mpr c5
      have c5b1 : (a0 != 1) = false := bne_eq_false_iff_eq.mpr c5
      clear c5
      by_cases c6 : a1_1 = 0
      · rw [if_pos c6] at H
        have c6b0 : (a1_1 == 0) = true := beq_iff_eq.mpr c6
        have c6b1 : (a1_1 != 0) = false := bne_eq_false_iff_eq.mpr c6
        clear c6
        replace H := Option.bind_eq_some_iff.mp H
        obtain ⟨⟨t332, t333⟩, A70, H⟩ := H
        replace H : (some (t332, t333, 0)) = some (r1, r2, r3) := H
        have A7 := am A70
        clear A70
        simp only [Option.some.injEq, Prod.mk.injEq] at H
        obtain ⟨rfl, rfl, rfl⟩ := H
        go_enter Try.func14, Try.ntmps14
        go_wp2_with (first | ((with_reducible refine gate_dst (N := 3) rfl ?_); refine bxE 3 #[.int .u32 a1_0, .int .u32 a1_1] 24 ?_; intro gb326 hg w8 hbox hb; have n0_ := am (below_step (hbA HB) hb); have n1_ := am (hbox); have n2_ := gwA hg HB; have n3_ := gwA hg HB; clear HB; have HB := n0_; have BK326 := n1_; have GW326 := n2_; have GE326 := n3_; clear n0_ n1_ n2_ n3_; clear hb hbox hg) | ((with_reducible refine gate_dst (N := 4) rfl ?_); refine bxE 4 #[.int .u32 0, .int .u32 0] 24 ?_; intro gb327 hg w9 hbox hb; have n0_ := am (blk_below (g := gb326) (o := .cells #[.int .u32 a1_0, .int .u32 a1_1] 24 (0, 0)) (bkA BK326) hb); have n1_ := am (below_step (hbA HB) hb); have n2_ := am (hbox); have n3_ := gwA hg HB; have n4_ := gwA hg HB; have n5_ := ltA hg BK326; have n6_ := gtA hg BK326; clear BK326; clear HB; have BK326 := n0_; have HB := n1_; have BK327 := n2_; have GW327 := n3_; have GE327 := n4_; have NB326_327 := n5_; have NB327_326 := n6_; clear n0_ n1_ n2_ n3_ n4_ n5_ n6_; clear hb hbox hg; have hnb10 := NB326_327.out; have hnc10 := NB327_326.out; have hcz11_0 : w9.cell? ⟨gb326, 0, none⟩ = some (.int .u32 a1_0) := cz BK326; have hcz11_1 : w9.cell? ⟨gb326, 1, none⟩ = some (.int .u32 a1_1) := cz BK326; have hfz11_0 := blk_frozen BK326.out 0; have hfz11_1 := blk_frozen BK326.out 1) | ((with_reducible refine gate_dst (N := 7) rfl ?_); refine Kd.R_lit k24 _ 24 ?hg (N := 7) ?hd (xs := ([(⟨a1_0, a1_1⟩ : S24)] : List (S24))) (inner := [.int .u32 a1_0, .int .u32 a1_1]) (ok := fun _ => True) (okp := fun _ => True) ?hr ?hp (fun _ hk => hk) trivial (Below.refl _ _) (Nat.le_refl _) (by simp) ?_; (case hd => rfl); (case hg => rfl); (case hr => first | (go_simp; done) | (go_simp; rfl)); (case hp => exact (Reps.c2 (show Kd.M k24 _ _ _ (⟨a1_0, a1_1⟩ : S24) [.int .u32 a1_0, .int .u32 a1_1] from (k24_mkM _ _ _ (⟨a1_0, a1_1⟩ : S24) )) (Reps.none _ _))); intro v329 w12 ho13 hb hg_ hnew_; clear hg_ hnew_; (first | rw [← Ny328.out] at ho13 | (simp only [Int.reduceToNat] at ho13; rw [← Ny328.out] at ho13)); have n0_ := am (Kd.R_lower (Kd.R_newB (Kd.R_newB ho13 (g := gb326) (o := .cells #[.int .u32 a1_0, .int .u32 a1_1] 24 (0, 0)) (bkA BK326)) (g := gb327) (o := .cells #[.int .u32 0, .int .u32 0] 24 (0, 0)) (bkA BK327)) (below_size (hbA HB))); have n1_ := am (blk_below (g := gb326) (o := .cells #[.int .u32 a1_0, .int .u32 a1_1] 24 (0, 0)) (bkA BK326) hb); have n2_ := am (blk_below (g := gb327) (o := .cells #[.int .u32 0, .int .u32 0] 24 (0, 0)) (bkA BK327) hb); have n3_ := am (below_step (hbA HB) hb); clear BK326; clear BK327; clear HB; have HO330 := n0_; have BK326 := n1_; have BK327 := n2_; have HB := n3_; clear n0_ n1_ n2_ n3_; clear hb ho13; obtain ⟨Ao14, co14, eo14⟩ := Kd.R_slice HO330.out; subst eo14) | ((with_reducible refine gate_callee (f := 36) rfl ?_); refine goesL_ (some 8) rfl rfl Try.func36 (by kernel_rfl) rfl #[.slice Ao14 y328.length co14] rfl (by (try simp only [List.map_toArray, List.map_cons, List.map_nil]); first | done | rfl | (simp only [List.length_drop, List.length_take]; rfl)) ?_; (with_reducible refine (interval_may.calls k _ _ y328 true _ ?side1 ?side2 A3.out).mono ?_); (case side1 => repeat (first | exact (Kd.R_reads' HO330.out).2.2 | (with_reducible refine Kd.C_alloc ?_ _) | (with_reducible refine Kd.C_drewN ?_ _) | (with_reducible refine Kd.C_drew ?_))); (case side2 => exact (Kd.R_reads' HO330.out).2.1); rintro e w15 ⟨rfl, hb⟩; refine ⟨_, rfl, ?_⟩; have n0_ := am (Kd.R_below (by (with_reducible repeat (first | apply Kd.R_alloc | apply Kd.R_drewN | apply Kd.R_drew)); exact HO330.out) hb); have n1_ := am (blk_below (g := gb326) (o := .cells #[.int .u32 a1_0, .int .u32 a1_1] 24 (0, 0)) (bkA BK326) hb); have n2_ := am (blk_below (g := gb327) (o := .cells #[.int .u32 0, .int .u32 0] 24 (0, 0)) (bkA BK327) hb); have n3_ := am (below_step (hbA HB) hb); clear HO330; clear BK326; clear BK327; clear HB; have HO330 := n0_; have BK326 := n1_; have BK327 := n2_; have HB := n3_; clear n0_ n1_ n2_ n3_; (try clear hb); (try clear hb2); (try clear hk); (try clear hi); have hcz16_0 : w15.cell? ⟨gb326, 0, none⟩ = some (.int .u32 a1_0) := cz BK326; have hcz16_1 : w15.cell? ⟨gb326, 1, none⟩ = some (.int .u32 a1_1) := cz BK326; have hfz16_0 := blk_frozen BK326.out 0; have hfz16_1 := blk_frozen BK326.out 1) | ((with_reducible refine gate_callee (f := 20) rfl ?_); refine goesL_ (some 18) rfl rfl Try.func20 (by kernel_rfl) rfl #[.int .u32 0] rfl (by (try simp only [List.map_toArray, List.map_cons, List.map_nil]); first | done | rfl | (simp only [List.length_drop, List.length_take]; rfl)) ?_; (with_reducible refine (interval_One.calls 0 t332 t333 _ A7.out).mono ?_); rintro e w17 ⟨rfl, hb⟩; refine ⟨_, rfl, ?_⟩; have n0_ := am (Kd.R_below (by (with_reducible repeat (first | apply Kd.R_alloc | apply Kd.R_drewN | apply Kd.R_drew)); exact HO330.out) hb); have n1_ := am (blk_below (g := gb326) (o := .cells #[.int .u32 a1_0, .int .u32 a1_1] 24 (0, 0)) (bkA BK326) hb); have n2_ := am (blk_below (g := gb327) (o := .cells #[.int .u32 0, .int .u32 0] 24 (0, 0)) (bkA BK327) hb); have n3_ := am (below_step (hbA HB) hb); clear HO330; clear BK326; clear BK327; clear HB; have HO330 := n0_; have BK326 := n1_; have BK327 := n2_; have HB := n3_; clear n0_ n1_ n2_ n3_; (try clear hb); (try clear hb2); (try clear hk); (try clear hi); have hcz18_0 : w17.cell? ⟨gb327, 0, none⟩ = some (.int .u32 0) := cz BK327; have hcz18_1 : w17.cell? ⟨gb327, 1, none⟩ = some (.int .u32 0) := cz BK327; have hfz18_0 := blk_frozen BK327.out 0; have hfz18_1 := blk_frozen BK327.out 1))
        refine bodyPost_ret (results_ct rfl _ _ gb327 24 #[.int .u32 t332, .int .u32 t333] (0, 0) _ rfl (by refine bkT ?_; refine blk_put (cs := #[.int .u32 t332, .int .u32 0]) ?_ 1 _ rfl; refine bkT ?_; refine blk_put (cs := #[.int .u32 0, .int .u32 0]) ?_ 0 _ rfl; refine bkT ?_; exact BK327.out) Try.underlying24 rfl (by kernel_rfl)) rfl ?_
        exact ⟨by first | rfl | (simp [errW_none, errW_some] <;> rfl) | (simp [*, errW_none, errW_some] <;> rfl), hbA HB⟩
      · rw [if_neg c6] at H
        have c6b0 : (a1_1 == 0) = false := beq_eq_false_iff_ne.mpr c6
        have c6b1 : (a1_1 != 0) = true := bne_iff_ne.mpr c6
        by_cases c19 : a1_0 > 0
        · rw [if_pos c19] at H
          have c19b0 : decide (0 < a1_0) = true := decide_eq_true c19
          clear c19
          simp only [Option.some.injEq, Prod.mk.injEq] at H
          obtain ⟨rfl, rfl, rfl⟩ := H
          go_enter Try.func14, Try.ntmps14
          go_wp2_with (first | ((with_reducible refine gate_dst (N := 3) rfl ?_); refine bxE 3 #[.int .u32 a1_0, .int .u32 a1_1] 24 ?_; intro gb326 hg w20 hbox hb; have n0_ := am (below_step (hbA HB) hb); have n1_ := am (hbox); have n2_ := gwA hg HB; have n3_ := gwA hg HB; clear HB; have HB := n0_; have BK326 := n1_; have GW326 := n2_; have GE326 := n3_; clear n0_ n1_ n2_ n3_; clear hb hbox hg) | ((with_reducible refine gate_dst (N := 4) rfl ?_); refine bxE 4 #[.int .u32 0, .int .u32 0] 24 ?_; intro gb327 hg w21 hbox hb; have n0_ := am (blk_below (g := gb326) (o := .cells #[.int .u32 a1_0, .int .u32 a1_1] 24 (0, 0)) (bkA BK326) hb); have n1_ := am (below_step (hbA HB) hb); have n2_ := am (hbox); have n3_ := gwA hg HB; have n4_ := gwA hg HB; have n5_ := ltA hg BK326; have n6_ := gtA hg BK326; clear BK326; clear HB; have BK326 := n0_; have HB := n1_; have BK327 := n2_; have GW327 := n3_; have GE327 := n4_; have NB326_327 := n5_; have NB327_326 := n6_; clear n0_ n1_ n2_ n3_ n4_ n5_ n6_; clear hb hbox hg; have hnb22 := NB326_327.out; have hnc22 := NB327_326.out; have hcz23_0 : w21.cell? ⟨gb326, 0, none⟩ = some (.int .u32 a1_0) := cz BK326; have hcz23_1 : w21.cell? ⟨gb326, 1, none⟩ = some (.int .u32 a1_1) := cz BK326; have hfz23_0 := blk_frozen BK326.out 0; have hfz23_1 := blk_frozen BK326.out 1) | ((with_reducible refine gate_dst (N := 7) rfl ?_); refine Kd.R_lit k24 _ 24 ?hg (N := 7) ?hd (xs := ([(⟨a1_0, a1_1⟩ : S24)] : List (S24))) (inner := [.int .u32 a1_0, .int .u32 a1_1]) (ok := fun _ => True) (okp := fun _ => True) ?hr ?hp (fun _ hk => hk) trivial (Below.refl _ _) (Nat.le_refl _) (by simp) ?_; (case hd => rfl); (case hg => rfl); (case hr => first | (go_simp; done) | (go_simp; rfl)); (case hp => exact (Reps.c2 (show Kd.M k24 _ _ _ (⟨a1_0, a1_1⟩ : S24) [.int .u32 a1_0, .int .u32 a1_1] from (k24_mkM _ _ _ (⟨a1_0, a1_1⟩ : S24) )) (Reps.none _ _))); intro v329 w24 ho25 hb hg_ hnew_; clear hg_ hnew_; (first | rw [← Ny328.out] at ho25 | (simp only [Int.reduceToNat] at ho25; rw [← Ny328.out] at ho25)); have n0_ := am (Kd.R_lower (Kd.R_newB (Kd.R_newB ho25 (g := gb326) (o := .cells #[.int .u32 a1_0, .int .u32 a1_1] 24 (0, 0)) (bkA BK326)) (g := gb327) (o := .cells #[.int .u32 0, .int .u32 0] 24 (0, 0)) (bkA BK327)) (below_size (hbA HB))); have n1_ := am (blk_below (g := gb326) (o := .cells #[.int .u32 a1_0, .int .u32 a1_1] 24 (0, 0)) (bkA BK326) hb); have n2_ := am (blk_below (g := gb327) (o := .cells #[.int .u32 0, .int .u32 0] 24 (0, 0)) (bkA BK327) hb); have n3_ := am (below_step (hbA HB) hb); clear BK326; clear BK327; clear HB; have HO330 := n0_; have BK326 := n1_; have BK327 := n2_; have HB := n3_; clear n0_ n1_ n2_ n3_; clear hb ho25; obtain ⟨Ao26, co26, eo26⟩ := Kd.R_slice HO330.out; subst eo26) | ((with_reducible refine gate_callee (f := 36) rfl ?_); refine goesL_ (some 8) rfl rfl Try.func36 (by kernel_rfl) rfl #[.slice Ao26 y328.length co26] rfl (by (try simp only [List.map_toArray, List.map_cons, List.map_nil]); first | done | rfl | (simp only [List.length_drop, List.length_take]; rfl)) ?_; (with_reducible refine (interval_may.calls k _ _ y328 true _ ?side1 ?side2 A3.out).mono ?_); (case side1 => repeat (first | exact (Kd.R_reads' HO330.out).2.2 | (with_reducible refine Kd.C_alloc ?_ _) | (with_reducible refine Kd.C_drewN ?_ _) | (with_reducible refine Kd.C_drew ?_))); (case side2 => exact (Kd.R_reads' HO330.out).2.1); rintro e w27 ⟨rfl, hb⟩; refine ⟨_, rfl, ?_⟩; have n0_ := am (Kd.R_below (by (with_reducible repeat (first | apply Kd.R_alloc | apply Kd.R_drewN | apply Kd.R_drew)); exact HO330.out) hb); have n1_ := am (blk_below (g := gb326) (o := .cells #[.int .u32 a1_0, .int .u32 a1_1] 24 (0, 0)) (bkA BK326) hb); have n2_ := am (blk_below (g := gb327) (o := .cells #[.int .u32 0, .int .u32 0] 24 (0, 0)) (bkA BK327) hb); have n3_ := am (below_step (hbA HB) hb); clear HO330; clear BK326; clear BK327; clear HB; have HO330 := n0_; have BK326 := n1_; have BK327 := n2_; have HB := n3_; clear n0_ n1_ n2_ n3_; (try clear hb); (try clear hb2); (try clear hk); (try clear hi); have hcz28_0 : w27.cell? ⟨gb326, 0, none⟩ = some (.int .u32 a1_0) := cz BK326; have hcz28_1 : w27.cell? ⟨gb326, 1, none⟩ = some (.int .u32 a1_1) := cz BK326; have hfz28_0 := blk_frozen BK326.out 0; have hfz28_1 := blk_frozen BK326.out 1; have hcz29_0 : w27.cell? ⟨gb327, 0, none⟩ = some (.int .u32 0) := cz BK327; have hcz29_1 : w27.cell? ⟨gb327, 1, none⟩ = some (.int .u32 0) := cz BK327; have hfz29_0 := blk_frozen BK327.out 0; have hfz29_1 := blk_frozen BK327.out 1))
          refine bodyPost_ret (results_ct rfl _ _ gb327 24 #[.int .u32 ((-a1_1) % 4294967296), .int .u32 ((-a1_0) % 4294967296)] (0, 0) _ rfl (by refine bkT ?_; refine blk_put (cs := #[.int .u32 ((-a1_1) % 4294967296), .int .u32 0]) ?_ 1 _ rfl; refine bkT ?_; refine blk_put (cs := #[.int .u32 0, .int .u32 0]) ?_ 0 _ rfl; refine bkT ?_; exact BK327.out) Try.underlying24 rfl (by kernel_rfl)) rfl ?_
          exact ⟨by first | rfl | (simp [errW_none, errW_some] <;> rfl) | (simp [*, errW_none, errW_some] <;> rfl), hbA HB⟩
        · rw [if_neg c19] at H
          have c19b0 : decide (0 < a1_0) = false := decide_eq_false c19
          clear c19
          replace H := Option.bind_eq_some_iff.mp H
          obtain ⟨⟨t334, t335⟩, A300, H⟩ := H
          replace H : (some (t334, t335, 0)) = some (r1, r2, r3) := H
          have A30 := am A300
          clear A300
          simp only [Option.some.injEq, Prod.mk.injEq] at H
          obtain ⟨rfl, rfl, rfl⟩ := H
          go_enter Try.func14, Try.ntmps14
          go_wp2_with (first | ((with_reducible refine gate_dst (N := 3) rfl ?_); refine bxE 3 #[.int .u32 a1_0, .int .u32 a1_1] 24 ?_; intro gb326 hg w31 hbox hb; have n0_ := am (below_step (hbA HB) hb); have n1_ := am (hbox); have n2_ := gwA hg HB; have n3_ := gwA hg HB; clear HB; have HB := n0_; have BK326 := n1_; have GW326 := n2_; have GE326 := n3_; clear n0_ n1_ n2_ n3_; clear hb hbox hg) | ((with_reducible refine gate_dst (N := 4) rfl ?_); refine bxE 4 #[.int .u32 0, .int .u32 0] 24 ?_; intro gb327 hg w32 hbox hb; have n0_ := am (blk_below (g := gb326) (o := .cells #[.int .u32 a1_0, .int .u32 a1_1] 24 (0, 0)) (bkA BK326) hb); have n1_ := am (below_step (hbA HB) hb); have n2_ := am (hbox); have n3_ := gwA hg HB; have n4_ := gwA hg HB; have n5_ := ltA hg BK326; have n6_ := gtA hg BK326; clear BK326; clear HB; have BK326 := n0_; have HB := n1_; have BK327 := n2_; have GW327 := n3_; have GE327 := n4_; have NB326_327 := n5_; have NB327_326 := n6_; clear n0_ n1_ n2_ n3_ n4_ n5_ n6_; clear hb hbox hg; have hnb33 := NB326_327.out; have hnc33 := NB327_326.out; have hcz34_0 : w32.cell? ⟨gb326, 0, none⟩ = some (.int .u32 a1_0) := cz BK326; have hcz34_1 : w32.cell? ⟨gb326, 1, none⟩ = some (.int .u32 a1_1) := cz BK326; have hfz34_0 := blk_frozen BK326.out 0; have hfz34_1 := blk_frozen BK326.out 1) | ((with_reducible refine gate_dst (N := 7) rfl ?_); refine Kd.R_lit k24 _ 24 ?hg (N := 7) ?hd (xs := ([(⟨a1_0, a1_1⟩ : S24)] : List (S24))) (inner := [.int .u32 a1_0, .int .u32 a1_1]) (ok := fun _ => True) (okp := fun _ => True) ?hr ?hp (fun _ hk => hk) trivial (Below.refl _ _) (Nat.le_refl _) (by simp) ?_; (case hd => rfl); (case hg => rfl); (case hr => first | (go_simp; done) | (go_simp; rfl)); (case hp => exact (Reps.c2 (show Kd.M k24 _ _ _ (⟨a1_0, a1_1⟩ : S24) [.int .u32 a1_0, .int .u32 a1_1] from (k24_mkM _ _ _ (⟨a1_0, a1_1⟩ : S24) )) (Reps.none _ _))); intro v329 w35 ho36 hb hg_ hnew_; clear hg_ hnew_; (first | rw [← Ny328.out] at ho36 | (simp only [Int.reduceToNat] at ho36; rw [← Ny328.out] at ho36)); have n0_ := am (Kd.R_lower (Kd.R_newB (Kd.R_newB ho36 (g := gb326) (o := .cells #[.int .u32 a1_0, .int .u32 a1_1] 24 (0, 0)) (bkA BK326)) (g := gb327) (o := .cells #[.int .u32 0, .int .u32 0] 24 (0, 0)) (bkA BK327)) (below_size (hbA HB))); have n1_ := am (blk_below (g := gb326) (o := .cells #[.int .u32 a1_0, .int .u32 a1_1] 24 (0, 0)) (bkA BK326) hb); have n2_ := am (blk_below (g := gb327) (o := .cells #[.int .u32 0, .int .u32 0] 24 (0, 0)) (bkA BK327) hb); have n3_ := am (below_step (hbA HB) hb); clear BK326; clear BK327; clear HB; have HO330 := n0_; have BK326 := n1_; have BK327 := n2_; have HB := n3_; clear n0_ n1_ n2_ n3_; clear hb ho36; obtain ⟨Ao37, co37, eo37⟩ := Kd.R_slice HO330.out; subst eo37) | ((with_reducible refine gate_callee (f := 36) rfl ?_); refine goesL_ (some 8) rfl rfl Try.func36 (by kernel_rfl) rfl #[.slice Ao37 y328.length co37] rfl (by (try simp only [List.map_toArray, List.map_cons, List.map_nil]); first | done | rfl | (simp only [List.length_drop, List.length_take]; rfl)) ?_; (with_reducible refine (interval_may.calls k _ _ y328 true _ ?side1 ?side2 A3.out).mono ?_); (case side1 => repeat (first | exact (Kd.R_reads' HO330.out).2.2 | (with_reducible refine Kd.C_alloc ?_ _) | (with_reducible refine Kd.C_drewN ?_ _) | (with_reducible refine Kd.C_drew ?_))); (case side2 => exact (Kd.R_reads' HO330.out).2.1); rintro e w38 ⟨rfl, hb⟩; refine ⟨_, rfl, ?_⟩; have n0_ := am (Kd.R_below (by (with_reducible repeat (first | apply Kd.R_alloc | apply Kd.R_drewN | apply Kd.R_drew)); exact HO330.out) hb); have n1_ := am (blk_below (g := gb326) (o := .cells #[.int .u32 a1_0, .int .u32 a1_1] 24 (0, 0)) (bkA BK326) hb); have n2_ := am (blk_below (g := gb327) (o := .cells #[.int .u32 0, .int .u32 0] 24 (0, 0)) (bkA BK327) hb); have n3_ := am (below_step (hbA HB) hb); clear HO330; clear BK326; clear BK327; clear HB; have HO330 := n0_; have BK326 := n1_; have BK327 := n2_; have HB := n3_; clear n0_ n1_ n2_ n3_; (try clear hb); (try clear hb2); (try clear hk); (try clear hi); have hcz39_0 : w38.cell? ⟨gb326, 0, none⟩ = some (.int .u32 a1_0) := cz BK326; have hcz39_1 : w38.cell? ⟨gb326, 1, none⟩ = some (.int .u32 a1_1) := cz BK326; have hfz39_0 := blk_frozen BK326.out 0; have hfz39_1 := blk_frozen BK326.out 1) | ((with_reducible refine gate_callee (f := 19) rfl ?_); refine goesL_ (some 30) rfl rfl Try.func19 (by kernel_rfl) rfl #[] rfl (by (try simp only [List.map_toArray, List.map_cons, List.map_nil]); first | done | rfl | (simp only [List.length_drop, List.length_take]; rfl)) ?_; (with_reducible refine (interval_All.calls  t334 t335 _ A30.out).mono ?_); rintro e w40 ⟨rfl, hb⟩; refine ⟨_, rfl, ?_⟩; have n0_ := am (Kd.R_below (by (with_reducible repeat (first | apply Kd.R_alloc | apply Kd.R_drewN | apply Kd.R_drew)); exact HO330.out) hb); have n1_ := am (blk_below (g := gb326) (o := .cells #[.int .u32 a1_0, .int .u32 a1_1] 24 (0, 0)) (bkA BK326) hb); have n2_ := am (blk_below (g := gb327) (o := .cells #[.int .u32 0, .int .u32 0] 24 (0, 0)) (bkA BK327) hb); have n3_ := am (below_step (hbA HB) hb); clear HO330; clear BK326; clear BK327; clear HB; have HO330 := n0_; have BK326 := n1_; have BK327 := n2_; have HB := n3_; clear n0_ n1_ n2_ n3_; (try clear hb); (try clear hb2); (try clear hk); (try clear hi); have hcz41_0 : w40.cell? ⟨gb327, 0, none⟩ = some (.int .u32 0) := cz BK327; have hcz41_1 : w40.cell? ⟨gb327, 1, none⟩ = some (.int .u32 0) := cz BK327; have hfz41_0 := blk_frozen BK327.out 0; have hfz41_1 := blk_frozen BK327.out 1))
          refine bodyPost_ret (results_ct rfl _ _ gb327 24 #[.int .u32 t334, .int .u32 t335] (0, 0) _ rfl (by refine bkT ?_; refine blk_put (cs := #[.int .u32 t334, .int .u32 0]) ?_ 1 _ rfl; refine bkT ?_; refine blk_put (cs := #[.int .u32 0, .int .u32 0]) ?_ 0 _ rfl; refine bkT ?_; exact BK327.out) Try.underlying24 rfl (by kernel_rfl)) rfl ?_
          exact ⟨by first | rfl | (simp [errW_none, errW_some] <;> rfl) | (simp [*, errW_none, errW_some] <;> rfl), hbA HB⟩
    · rw [if_neg c5] at H
      have c5b0 : (a0 == 1) = false := beq_eq_false_iff_ne.mpr c5
      have c5b1 : (a0 != 1) = true := bne_iff_ne.mpr c5
      by_cases c42 : a0 = 2
      · rw [if_pos c42] at H
        have c42b0 : (a0 == 2) = true := beq_iff_eq.mpr c42
        have c42b1 : (a0 != 2) = false := bne_eq_false_iff_eq.mpr c42
        clear c42
        simp only [Option.some.injEq, Prod.mk.injEq] at H
        obtain ⟨rfl, rfl, rfl⟩ := H
        go_enter Try.func14, Try.ntmps14
        go_wp2_with (first | ((with_reducible refine gate_dst (N := 3) rfl ?_); refine bxE 3 #[.int .u32 a1_0, .int .u32 a1_1] 24 ?_; intro gb326 hg w43 hbox hb; have n0_ := am (below_step (hbA HB) hb); have n1_ := am (hbox); have n2_ := gwA hg HB; have n3_ := gwA hg HB; clear HB; have HB := n0_; have BK326 := n1_; have GW326 := n2_; have GE326 := n3_; clear n0_ n1_ n2_ n3_; clear hb hbox hg) | ((with_reducible refine gate_dst (N := 4) rfl ?_); refine bxE 4 #[.int .u32 0, .int .u32 0] 24 ?_; intro gb327 hg w44 hbox hb; have n0_ := am (blk_below (g := gb326) (o := .cells #[.int .u32 a1_0, .int .u32 a1_1] 24 (0, 0)) (bkA BK326) hb); have n1_ := am (below_step (hbA HB) hb); have n2_ := am (hbox); have n3_ := gwA hg HB; have n4_ := gwA hg HB; have n5_ := ltA hg BK326; have n6_ := gtA hg BK326; clear BK326; clear HB; have BK326 := n0_; have HB := n1_; have BK327 := n2_; have GW327 := n3_; have GE327 := n4_; have NB326_327 := n5_; have NB327_326 := n6_; clear n0_ n1_ n2_ n3_ n4_ n5_ n6_; clear hb hbox hg; have hnb45 := NB326_327.out; have hnc45 := NB327_326.out; have hcz46_0 : w44.cell? ⟨gb326, 0, none⟩ = some (.int .u32 a1_0) := cz BK326; have hcz46_1 : w44.cell? ⟨gb326, 1, none⟩ = some (.int .u32 a1_1) := cz BK326; have hfz46_0 := blk_frozen BK326.out 0; have hfz46_1 := blk_frozen BK326.out 1) | ((with_reducible refine gate_dst (N := 7) rfl ?_); refine Kd.R_lit k24 _ 24 ?hg (N := 7) ?hd (xs := ([(⟨a1_0, a1_1⟩ : S24)] : List (S24))) (inner := [.int .u32 a1_0, .int .u32 a1_1]) (ok := fun _ => True) (okp := fun _ => True) ?hr ?hp (fun _ hk => hk) trivial (Below.refl _ _) (Nat.le_refl _) (by simp) ?_; (case hd => rfl); (case hg => rfl); (case hr => first | (go_simp; done) | (go_simp; rfl)); (case hp => exact (Reps.c2 (show Kd.M k24 _ _ _ (⟨a1_0, a1_1⟩ : S24) [.int .u32 a1_0, .int .u32 a1_1] from (k24_mkM _ _ _ (⟨a1_0, a1_1⟩ : S24) )) (Reps.none _ _))); intro v329 w47 ho48 hb hg_ hnew_; clear hg_ hnew_; (first | rw [← Ny328.out] at ho48 | (simp only [Int.reduceToNat] at ho48; rw [← Ny328.out] at ho48)); have n0_ := am (Kd.R_lower (Kd.R_newB (Kd.R_newB ho48 (g := gb326) (o := .cells #[.int .u32 a1_0, .int .u32 a1_1] 24 (0, 0)) (bkA BK326)) (g := gb327) (o := .cells #[.int .u32 0, .int .u32 0] 24 (0, 0)) (bkA BK327)) (below_size (hbA HB))); have n1_ := am (blk_below (g := gb326) (o := .cells #[.int .u32 a1_0, .int .u32 a1_1] 24 (0, 0)) (bkA BK326) hb); have n2_ := am (blk_below (g := gb327) (o := .cells #[.int .u32 0, .int .u32 0] 24 (0, 0)) (bkA BK327) hb); have n3_ := am (below_step (hbA HB) hb); clear BK326; clear BK327; clear HB; have HO330 := n0_; have BK326 := n1_; have BK327 := n2_; have HB := n3_; clear n0_ n1_ n2_ n3_; clear hb ho48; obtain ⟨Ao49, co49, eo49⟩ := Kd.R_slice HO330.out; subst eo49) | ((with_reducible refine gate_callee (f := 36) rfl ?_); refine goesL_ (some 8) rfl rfl Try.func36 (by kernel_rfl) rfl #[.slice Ao49 y328.length co49] rfl (by (try simp only [List.map_toArray, List.map_cons, List.map_nil]); first | done | rfl | (simp only [List.length_drop, List.length_take]; rfl)) ?_; (with_reducible refine (interval_may.calls k _ _ y328 true _ ?side1 ?side2 A3.out).mono ?_); (case side1 => repeat (first | exact (Kd.R_reads' HO330.out).2.2 | (with_reducible refine Kd.C_alloc ?_ _) | (with_reducible refine Kd.C_drewN ?_ _) | (with_reducible refine Kd.C_drew ?_))); (case side2 => exact (Kd.R_reads' HO330.out).2.1); rintro e w50 ⟨rfl, hb⟩; refine ⟨_, rfl, ?_⟩; have n0_ := am (Kd.R_below (by (with_reducible repeat (first | apply Kd.R_alloc | apply Kd.R_drewN | apply Kd.R_drew)); exact HO330.out) hb); have n1_ := am (blk_below (g := gb326) (o := .cells #[.int .u32 a1_0, .int .u32 a1_1] 24 (0, 0)) (bkA BK326) hb); have n2_ := am (blk_below (g := gb327) (o := .cells #[.int .u32 0, .int .u32 0] 24 (0, 0)) (bkA BK327) hb); have n3_ := am (below_step (hbA HB) hb); clear HO330; clear BK326; clear BK327; clear HB; have HO330 := n0_; have BK326 := n1_; have BK327 := n2_; have HB := n3_; clear n0_ n1_ n2_ n3_; (try clear hb); (try clear hb2); (try clear hk); (try clear hi); have hcz51_0 : w50.cell? ⟨gb326, 0, none⟩ = some (.int .u32 a1_0) := cz BK326; have hcz51_1 : w50.cell? ⟨gb326, 1, none⟩ = some (.int .u32 a1_1) := cz BK326; have hfz51_0 := blk_frozen BK326.out 0; have hfz51_1 := blk_frozen BK326.out 1; have hcz52_0 : w50.cell? ⟨gb327, 0, none⟩ = some (.int .u32 0) := cz BK327; have hcz52_1 : w50.cell? ⟨gb327, 1, none⟩ = some (.int .u32 0) := cz BK327; have hfz52_0 := blk_frozen BK327.out 0; have hfz52_1 := blk_frozen BK327.out 1))
        refine bodyPost_ret (results_ct rfl _ _ gb327 24 #[.int .u32 (Go.bits .xor .u32 IntKind.u32.max a1_1), .int .u32 (Go.bits .xor .u32 IntKind.u32.max a1_0)] (0, 0) _ rfl (by refine bkT ?_; refine blk_put (cs := #[.int .u32 (Go.bits .xor .u32 IntKind.u32.max a1_1), .int .u32 0]) ?_ 1 _ rfl; refine bkT ?_; refine blk_put (cs := #[.int .u32 0, .int .u32 0]) ?_ 0 _ rfl; refine bkT ?_; exact BK327.out) Try.underlying24 rfl (by kernel_rfl)) rfl ?_
        exact ⟨by first | rfl | (simp [errW_none, errW_some] <;> rfl) | (simp [*, errW_none, errW_some] <;> rfl), hbA HB⟩
      · rw [if_neg c42] at H
        have c42b0 : (a0 == 2) = false := beq_eq_false_iff_ne.mpr c42
        have c42b1 : (a0 != 2) = true := bne_iff_ne.mpr c42
        by_cases c53 : a0 = 3
        · rw [if_pos c53] at H
          have c53b0 : (a0 == 3) = true := beq_iff_eq.mpr c53
          have c53b1 : (a0 != 3) = false := bne_eq_false_iff_eq.mpr c53
          clear c53
          replace H := Option.bind_eq_some_iff.mp H
          obtain ⟨⟨t336, t337⟩, A540, H⟩ := H
          replace H : (some (t336, t337, 0)) = some (r1, r2, r3) := H
          have A54 := am A540
          clear A540
          simp only [Option.some.injEq, Prod.mk.injEq] at H
          obtain ⟨rfl, rfl, rfl⟩ := H
          go_enter Try.func14, Try.ntmps14
          go_wp2_with (first | ((with_reducible refine gate_dst (N := 3) rfl ?_); refine bxE 3 #[.int .u32 a1_0, .int .u32 a1_1] 24 ?_; intro gb326 hg w55 hbox hb; have n0_ := am (below_step (hbA HB) hb); have n1_ := am (hbox); have n2_ := gwA hg HB; have n3_ := gwA hg HB; clear HB; have HB := n0_; have BK326 := n1_; have GW326 := n2_; have GE326 := n3_; clear n0_ n1_ n2_ n3_; clear hb hbox hg) | ((with_reducible refine gate_dst (N := 4) rfl ?_); refine bxE 4 #[.int .u32 0, .int .u32 0] 24 ?_; intro gb327 hg w56 hbox hb; have n0_ := am (blk_below (g := gb326) (o := .cells #[.int .u32 a1_0, .int .u32 a1_1] 24 (0, 0)) (bkA BK326) hb); have n1_ := am (below_step (hbA HB) hb); have n2_ := am (hbox); have n3_ := gwA hg HB; have n4_ := gwA hg HB; have n5_ := ltA hg BK326; have n6_ := gtA hg BK326; clear BK326; clear HB; have BK326 := n0_; have HB := n1_; have BK327 := n2_; have GW327 := n3_; have GE327 := n4_; have NB326_327 := n5_; have NB327_326 := n6_; clear n0_ n1_ n2_ n3_ n4_ n5_ n6_; clear hb hbox hg; have hnb57 := NB326_327.out; have hnc57 := NB327_326.out; have hcz58_0 : w56.cell? ⟨gb326, 0, none⟩ = some (.int .u32 a1_0) := cz BK326; have hcz58_1 : w56.cell? ⟨gb326, 1, none⟩ = some (.int .u32 a1_1) := cz BK326; have hfz58_0 := blk_frozen BK326.out 0; have hfz58_1 := blk_frozen BK326.out 1) | ((with_reducible refine gate_dst (N := 7) rfl ?_); refine Kd.R_lit k24 _ 24 ?hg (N := 7) ?hd (xs := ([(⟨a1_0, a1_1⟩ : S24)] : List (S24))) (inner := [.int .u32 a1_0, .int .u32 a1_1]) (ok := fun _ => True) (okp := fun _ => True) ?hr ?hp (fun _ hk => hk) trivial (Below.refl _ _) (Nat.le_refl _) (by simp) ?_; (case hd => rfl); (case hg => rfl); (case hr => first | (go_simp; done) | (go_simp; rfl)); (case hp => exact (Reps.c2 (show Kd.M k24 _ _ _ (⟨a1_0, a1_1⟩ : S24) [.int .u32 a1_0, .int .u32 a1_1] from (k24_mkM _ _ _ (⟨a1_0, a1_1⟩ : S24) )) (Reps.none _ _))); intro v329 w59 ho60 hb hg_ hnew_; clear hg_ hnew_; (first | rw [← Ny328.out] at ho60 | (simp only [Int.reduceToNat] at ho60; rw [← Ny328.out] at ho60)); have n0_ := am (Kd.R_lower (Kd.R_newB (Kd.R_newB ho60 (g := gb326) (o := .cells #[.int .u32 a1_0, .int .u32 a1_1] 24 (0, 0)) (bkA BK326)) (g := gb327) (o := .cells #[.int .u32 0, .int .u32 0] 24 (0, 0)) (bkA BK327)) (below_size (hbA HB))); have n1_ := am (blk_below (g := gb326) (o := .cells #[.int .u32 a1_0, .int .u32 a1_1] 24 (0, 0)) (bkA BK326) hb); have n2_ := am (blk_below (g := gb327) (o := .cells #[.int .u32 0, .int .u32 0] 24 (0, 0)) (bkA BK327) hb); have n3_ := am (below_step (hbA HB) hb); clear BK326; clear BK327; clear HB; have HO330 := n0_; have BK326 := n1_; have BK327 := n2_; have HB := n3_; clear n0_ n1_ n2_ n3_; clear hb ho60; obtain ⟨Ao61, co61, eo61⟩ := Kd.R_slice HO330.out; subst eo61) | ((with_reducible refine gate_callee (f := 36) rfl ?_); refine goesL_ (some 8) rfl rfl Try.func36 (by kernel_rfl) rfl #[.slice Ao61 y328.length co61] rfl (by (try simp only [List.map_toArray, List.map_cons, List.map_nil]); first | done | rfl | (simp only [List.length_drop, List.length_take]; rfl)) ?_; (with_reducible refine (interval_may.calls k _ _ y328 true _ ?side1 ?side2 A3.out).mono ?_); (case side1 => repeat (first | exact (Kd.R_reads' HO330.out).2.2 | (with_reducible refine Kd.C_alloc ?_ _) | (with_reducible refine Kd.C_drewN ?_ _) | (with_reducible refine Kd.C_drew ?_))); (case side2 => exact (Kd.R_reads' HO330.out).2.1); rintro e w62 ⟨rfl, hb⟩; refine ⟨_, rfl, ?_⟩; have n0_ := am (Kd.R_below (by (with_reducible repeat (first | apply Kd.R_alloc | apply Kd.R_drewN | apply Kd.R_drew)); exact HO330.out) hb); have n1_ := am (blk_below (g := gb326) (o := .cells #[.int .u32 a1_0, .int .u32 a1_1] 24 (0, 0)) (bkA BK326) hb); have n2_ := am (blk_below (g := gb327) (o := .cells #[.int .u32 0, .int .u32 0] 24 (0, 0)) (bkA BK327) hb); have n3_ := am (below_step (hbA HB) hb); clear HO330; clear BK326; clear BK327; clear HB; have HO330 := n0_; have BK326 := n1_; have BK327 := n2_; have HB := n3_; clear n0_ n1_ n2_ n3_; (try clear hb); (try clear hb2); (try clear hk); (try clear hi); have hcz63_0 : w62.cell? ⟨gb326, 0, none⟩ = some (.int .u32 a1_0) := cz BK326; have hcz63_1 : w62.cell? ⟨gb326, 1, none⟩ = some (.int .u32 a1_1) := cz BK326; have hfz63_0 := blk_frozen BK326.out 0; have hfz63_1 := blk_frozen BK326.out 1) | ((with_reducible refine gate_callee (f := 37) rfl ?_); refine goesL_ (some 48) rfl rfl Try.func37 (by kernel_rfl) rfl #[.bool (a1_1 == 0), .bool (decide (a1_0 > 0))] rfl (by (try simp only [List.map_toArray, List.map_cons, List.map_nil]); first | done | rfl | (simp only [List.length_drop, List.length_take]; rfl)) ?_; (with_reducible refine (interval_yes.calls (a1_1 == 0) (decide (a1_0 > 0)) t336 t337 _ A54.out).mono ?_); rintro e w64 ⟨rfl, hb⟩; refine ⟨_, rfl, ?_⟩; have n0_ := am (Kd.R_below (by (with_reducible repeat (first | apply Kd.R_alloc | apply Kd.R_drewN | apply Kd.R_drew)); exact HO330.out) hb); have n1_ := am (blk_below (g := gb326) (o := .cells #[.int .u32 a1_0, .int .u32 a1_1] 24 (0, 0)) (bkA BK326) hb); have n2_ := am (blk_below (g := gb327) (o := .cells #[.int .u32 0, .int .u32 0] 24 (0, 0)) (bkA BK327) hb); have n3_ := am (below_step (hbA HB) hb); clear HO330; clear BK326; clear BK327; clear HB; have HO330 := n0_; have BK326 := n1_; have BK327 := n2_; have HB := n3_; clear n0_ n1_ n2_ n3_; (try clear hb); (try clear hb2); (try clear hk); (try clear hi); have hcz65_0 : w64.cell? ⟨gb327, 0, none⟩ = some (.int .u32 0) := cz BK327; have hcz65_1 : w64.cell? ⟨gb327, 1, none⟩ = some (.int .u32 0) := cz BK327; have hfz65_0 := blk_frozen BK327.out 0; have hfz65_1 := blk_frozen BK327.out 1))
          refine bodyPost_ret (results_ct rfl _ _ gb327 24 #[.int .u32 t336, .int .u32 t337] (0, 0) _ rfl (by refine bkT ?_; refine blk_put (cs := #[.int .u32 t336, .int .u32 0]) ?_ 1 _ rfl; refine bkT ?_; refine blk_put (cs := #[.int .u32 0, .int .u32 0]) ?_ 0 _ rfl; refine bkT ?_; exact BK327.out) Try.underlying24 rfl (by kernel_rfl)) rfl ?_
          exact ⟨by first | rfl | (simp [errW_none, errW_some] <;> rfl) | (simp [*, errW_none, errW_some] <;> rfl), hbA HB⟩
        · rw [if_neg c53] at H
          have c53b0 : (a0 == 3) = false := beq_eq_false_iff_ne.mpr c53
          have c53b1 : (a0 != 3) = true := bne_iff_ne.mpr c53
          simp only [Option.some.injEq, Prod.mk.injEq] at H
          obtain ⟨rfl, rfl, rfl⟩ := H
          go_enter Try.func14, Try.ntmps14
          go_wp2_with (first | ((with_reducible refine gate_dst (N := 3) rfl ?_); refine bxE 3 #[.int .u32 a1_0, .int .u32 a1_1] 24 ?_; intro gb326 hg w66 hbox hb; have n0_ := am (below_step (hbA HB) hb); have n1_ := am (hbox); have n2_ := gwA hg HB; have n3_ := gwA hg HB; clear HB; have HB := n0_; have BK326 := n1_; have GW326 := n2_; have GE326 := n3_; clear n0_ n1_ n2_ n3_; clear hb hbox hg) | ((with_reducible refine gate_dst (N := 4) rfl ?_); refine bxE 4 #[.int .u32 0, .int .u32 0] 24 ?_; intro gb327 hg w67 hbox hb; have n0_ := am (blk_below (g := gb326) (o := .cells #[.int .u32 a1_0, .int .u32 a1_1] 24 (0, 0)) (bkA BK326) hb); have n1_ := am (below_step (hbA HB) hb); have n2_ := am (hbox); have n3_ := gwA hg HB; have n4_ := gwA hg HB; have n5_ := ltA hg BK326; have n6_ := gtA hg BK326; clear BK326; clear HB; have BK326 := n0_; have HB := n1_; have BK327 := n2_; have GW327 := n3_; have GE327 := n4_; have NB326_327 := n5_; have NB327_326 := n6_; clear n0_ n1_ n2_ n3_ n4_ n5_ n6_; clear hb hbox hg; have hnb68 := NB326_327.out; have hnc68 := NB327_326.out; have hcz69_0 : w67.cell? ⟨gb326, 0, none⟩ = some (.int .u32 a1_0) := cz BK326; have hcz69_1 : w67.cell? ⟨gb326, 1, none⟩ = some (.int .u32 a1_1) := cz BK326; have hfz69_0 := blk_frozen BK326.out 0; have hfz69_1 := blk_frozen BK326.out 1) | ((with_reducible refine gate_dst (N := 7) rfl ?_); refine Kd.R_lit k24 _ 24 ?hg (N := 7) ?hd (xs := ([(⟨a1_0, a1_1⟩ : S24)] : List (S24))) (inner := [.int .u32 a1_0, .int .u32 a1_1]) (ok := fun _ => True) (okp := fun _ => True) ?hr ?hp (fun _ hk => hk) trivial (Below.refl _ _) (Nat.le_refl _) (by simp) ?_; (case hd => rfl); (case hg => rfl); (case hr => first | (go_simp; done) | (go_simp; rfl)); (case hp => exact (Reps.c2 (show Kd.M k24 _ _ _ (⟨a1_0, a1_1⟩ : S24) [.int .u32 a1_0, .int .u32 a1_1] from (k24_mkM _ _ _ (⟨a1_0, a1_1⟩ : S24) )) (Reps.none _ _))); intro v329 w70 ho71 hb hg_ hnew_; clear hg_ hnew_; (first | rw [← Ny328.out] at ho71 | (simp only [Int.reduceToNat] at ho71; rw [← Ny328.out] at ho71)); have n0_ := am (Kd.R_lower (Kd.R_newB (Kd.R_newB ho71 (g := gb326) (o := .cells #[.int .u32 a1_0, .int .u32 a1_1] 24 (0, 0)) (bkA BK326)) (g := gb327) (o := .cells #[.int .u32 0, .int .u32 0] 24 (0, 0)) (bkA BK327)) (below_size (hbA HB))); have n1_ := am (blk_below (g := gb326) (o := .cells #[.int .u32 a1_0, .int .u32 a1_1] 24 (0, 0)) (bkA BK326) hb); have n2_ := am (blk_below (g := gb327) (o := .cells #[.int .u32 0, .int .u32 0] 24 (0, 0)) (bkA BK327) hb); have n3_ := am (below_step (hbA HB) hb); clear BK326; clear BK327; clear HB; have HO330 := n0_; have BK326 := n1_; have BK327 := n2_; have HB := n3_; clear n0_ n1_ n2_ n3_; clear hb ho71; obtain ⟨Ao72, co72, eo72⟩ := Kd.R_slice HO330.out; subst eo72) | ((with_reducible refine gate_callee (f := 36) rfl ?_); refine goesL_ (some 8) rfl rfl Try.func36 (by kernel_rfl) rfl #[.slice Ao72 y328.length co72] rfl (by (try simp only [List.map_toArray, List.map_cons, List.map_nil]); first | done | rfl | (simp only [List.length_drop, List.length_take]; rfl)) ?_; (with_reducible refine (interval_may.calls k _ _ y328 true _ ?side1 ?side2 A3.out).mono ?_); (case side1 => repeat (first | exact (Kd.R_reads' HO330.out).2.2 | (with_reducible refine Kd.C_alloc ?_ _) | (with_reducible refine Kd.C_drewN ?_ _) | (with_reducible refine Kd.C_drew ?_))); (case side2 => exact (Kd.R_reads' HO330.out).2.1); rintro e w73 ⟨rfl, hb⟩; refine ⟨_, rfl, ?_⟩; have n0_ := am (Kd.R_below (by (with_reducible repeat (first | apply Kd.R_alloc | apply Kd.R_drewN | apply Kd.R_drew)); exact HO330.out) hb); have n1_ := am (blk_below (g := gb326) (o := .cells #[.int .u32 a1_0, .int .u32 a1_1] 24 (0, 0)) (bkA BK326) hb); have n2_ := am (blk_below (g := gb327) (o := .cells #[.int .u32 0, .int .u32 0] 24 (0, 0)) (bkA BK327) hb); have n3_ := am (below_step (hbA HB) hb); clear HO330; clear BK326; clear BK327; clear HB; have HO330 := n0_; have BK326 := n1_; have BK327 := n2_; have HB := n3_; clear n0_ n1_ n2_ n3_; (try clear hb); (try clear hb2); (try clear hk); (try clear hi); have hcz74_0 : w73.cell? ⟨gb327, 0, none⟩ = some (.int .u32 0) := cz BK327; have hcz74_1 : w73.cell? ⟨gb327, 1, none⟩ = some (.int .u32 0) := cz BK327; have hfz74_0 := blk_frozen BK327.out 0; have hfz74_1 := blk_frozen BK327.out 1))
          refine bodyPost_ret (results_ct rfl _ _ gb327 24 #[.int .u32 0, .int .u32 0] (0, 0) _ rfl (by refine bkT ?_; refine blk_put (cs := #[.int .u32 0, .int .u32 0]) ?_ 1 _ rfl; refine bkT ?_; refine blk_put (cs := #[.int .u32 0, .int .u32 0]) ?_ 0 _ rfl; refine bkT ?_; exact BK327.out) Try.underlying24 rfl (by kernel_rfl)) rfl ?_
          exact ⟨by first | rfl | (simp [errW_none, errW_some] <;> rfl) | (simp [*, errW_none, errW_some] <;> rfl), hbA HB⟩
  · replace c4 := Bool.eq_false_iff.mpr c4
    subst c4
    have H1 : (some (0, 0, 2)) = some (r1, r2, r3) := by rw [if_neg (show ¬ (false = true) by decide)] at H; exact H
    clear H
    have H := H1
    clear H1
    simp only [Option.some.injEq, Prod.mk.injEq] at H
    obtain ⟨rfl, rfl, rfl⟩ := H
    go_enter Try.func14, Try.ntmps14
    go_wp2_with (first | ((with_reducible refine gate_dst (N := 3) rfl ?_); refine bxE 3 #[.int .u32 a1_0, .int .u32 a1_1] 24 ?_; intro gb326 hg w75 hbox hb; have n0_ := am (below_step (hbA HB) hb); have n1_ := am (hbox); have n2_ := gwA hg HB; have n3_ := gwA hg HB; clear HB; have HB := n0_; have BK326 := n1_; have GW326 := n2_; have GE326 := n3_; clear n0_ n1_ n2_ n3_; clear hb hbox hg) | ((with_reducible refine gate_dst (N := 4) rfl ?_); refine bxE 4 #[.int .u32 0, .int .u32 0] 24 ?_; intro gb327 hg w76 hbox hb; have n0_ := am (blk_below (g := gb326) (o := .cells #[.int .u32 a1_0, .int .u32 a1_1] 24 (0, 0)) (bkA BK326) hb); have n1_ := am (below_step (hbA HB) hb); have n2_ := am (hbox); have n3_ := gwA hg HB; have n4_ := gwA hg HB; have n5_ := ltA hg BK326; have n6_ := gtA hg BK326; clear BK326; clear HB; have BK326 := n0_; have HB := n1_; have BK327 := n2_; have GW327 := n3_; have GE327 := n4_; have NB326_327 := n5_; have NB327_326 := n6_; clear n0_ n1_ n2_ n3_ n4_ n5_ n6_; clear hb hbox hg; have hnb77 := NB326_327.out; have hnc77 := NB327_326.out; have hcz78_0 : w76.cell? ⟨gb326, 0, none⟩ = some (.int .u32 a1_0) := cz BK326; have hcz78_1 : w76.cell? ⟨gb326, 1, none⟩ = some (.int .u32 a1_1) := cz BK326; have hfz78_0 := blk_frozen BK326.out 0; have hfz78_1 := blk_frozen BK326.out 1) | ((with_reducible refine gate_dst (N := 7) rfl ?_); refine Kd.R_lit k24 _ 24 ?hg (N := 7) ?hd (xs := ([(⟨a1_0, a1_1⟩ : S24)] : List (S24))) (inner := [.int .u32 a1_0, .int .u32 a1_1]) (ok := fun _ => True) (okp := fun _ => True) ?hr ?hp (fun _ hk => hk) trivial (Below.refl _ _) (Nat.le_refl _) (by simp) ?_; (case hd => rfl); (case hg => rfl); (case hr => first | (go_simp; done) | (go_simp; rfl)); (case hp => exact (Reps.c2 (show Kd.M k24 _ _ _ (⟨a1_0, a1_1⟩ : S24) [.int .u32 a1_0, .int .u32 a1_1] from (k24_mkM _ _ _ (⟨a1_0, a1_1⟩ : S24) )) (Reps.none _ _))); intro v329 w79 ho80 hb hg_ hnew_; clear hg_ hnew_; (first | rw [← Ny328.out] at ho80 | (simp only [Int.reduceToNat] at ho80; rw [← Ny328.out] at ho80)); have n0_ := am (Kd.R_lower (Kd.R_newB (Kd.R_newB ho80 (g := gb326) (o := .cells #[.int .u32 a1_0, .int .u32 a1_1] 24 (0, 0)) (bkA BK326)) (g := gb327) (o := .cells #[.int .u32 0, .int .u32 0] 24 (0, 0)) (bkA BK327)) (below_size (hbA HB))); have n1_ := am (blk_below (g := gb326) (o := .cells #[.int .u32 a1_0, .int .u32 a1_1] 24 (0, 0)) (bkA BK326) hb); have n2_ := am (blk_below (g := gb327) (o := .cells #[.int .u32 0, .int .u32 0] 24 (0, 0)) (bkA BK327) hb); have n3_ := am (below_step (hbA HB) hb); clear BK326; clear BK327; clear HB; have HO330 := n0_; have BK326 := n1_; have BK327 := n2_; have HB := n3_; clear n0_ n1_ n2_ n3_; clear hb ho80; obtain ⟨Ao81, co81, eo81⟩ := Kd.R_slice HO330.out; subst eo81) | ((with_reducible refine gate_callee (f := 36) rfl ?_); refine goesL_ (some 8) rfl rfl Try.func36 (by kernel_rfl) rfl #[.slice Ao81 y328.length co81] rfl (by (try simp only [List.map_toArray, List.map_cons, List.map_nil]); first | done | rfl | (simp only [List.length_drop, List.length_take]; rfl)) ?_; (with_reducible refine (interval_may.calls k _ _ y328 false _ ?side1 ?side2 A3.out).mono ?_); (case side1 => repeat (first | exact (Kd.R_reads' HO330.out).2.2 | (with_reducible refine Kd.C_alloc ?_ _) | (with_reducible refine Kd.C_drewN ?_ _) | (with_reducible refine Kd.C_drew ?_))); (case side2 => exact (Kd.R_reads' HO330.out).2.1); rintro e w82 ⟨rfl, hb⟩; refine ⟨_, rfl, ?_⟩; have n0_ := am (Kd.R_below (by (with_reducible repeat (first | apply Kd.R_alloc | apply Kd.R_drewN | apply Kd.R_drew)); exact HO330.out) hb); have n1_ := am (blk_below (g := gb326) (o := .cells #[.int .u32 a1_0, .int .u32 a1_1] 24 (0, 0)) (bkA BK326) hb); have n2_ := am (blk_below (g := gb327) (o := .cells #[.int .u32 0, .int .u32 0] 24 (0, 0)) (bkA BK327) hb); have n3_ := am (below_step (hbA HB) hb); clear HO330; clear BK326; clear BK327; clear HB; have HO330 := n0_; have BK326 := n1_; have BK327 := n2_; have HB := n3_; clear n0_ n1_ n2_ n3_; (try clear hb); (try clear hb2); (try clear hk); (try clear hi); have hcz83_0 : w82.cell? ⟨gb327, 0, none⟩ = some (.int .u32 0) := cz BK327; have hcz83_1 : w82.cell? ⟨gb327, 1, none⟩ = some (.int .u32 0) := cz BK327; have hfz83_0 := blk_frozen BK327.out 0; have hfz83_1 := blk_frozen BK327.out 1))
    refine bodyPost_ret (results_ct rfl _ _ gb327 24 #[.int .u32 0, .int .u32 0] (0, 0) _ rfl (by refine bkT ?_; refine blk_put (cs := #[.int .u32 0, .int .u32 0]) ?_ 1 _ rfl; refine bkT ?_; refine blk_put (cs := #[.int .u32 0, .int .u32 0]) ?_ 0 _ rfl; refine bkT ?_; exact BK327.out) Try.underlying24 rfl (by kernel_rfl)) rfl ?_
    exact ⟨by first | rfl | (simp [errW_none, errW_some] <;> rfl) | (simp [*, errW_none, errW_some] <;> rfl), hbA HB⟩

/-! ### word_Cut: function 39 -/
def word_Cut.f (a0 : Int) (a1 : Int) : Option (Int × Int) := if a1 = 8 then (some ((a0) % 256, 0)) else (if a1 = 16 then (some ((IntKind.u16.wrap (a0)) % 4294967296, 0)) else (if a1 = 32 then (some (a0, 0)) else (some (0, 2))))
set_option maxHeartbeats 8000000 in
set_option maxRecDepth 100000 in
theorem word_Cut.calls (a0 : Int) (a1 : Int) (r1 : Int) (r2 : Int) (w : World) (h : word_Cut.f a0 a1 = some (r1, r2)) :
    Calls Try.prog 39 #[.int .u32 a0, .int .i64 a1] w fun e w' => e = .returned (.tuple #[.int .u32 r1, .int .i64 r2]) ∧ Drawn0 w w' := by
  have H : (if a1 = 8 then (some ((a0) % 256, 0)) else (if a1 = 16 then (some ((IntKind.u16.wrap (a0)) % 4294967296, 0)) else (if a1 = 32 then (some (a0, 0)) else (some (0, 2))))) = some (r1, r2) := h
  clear h
  by_cases c3 : a1 = 8
  · rw [if_pos c3] at H
    have c3b0 : (a1 == 8) = true := beq_iff_eq.mpr c3
    have c3b1 : (a1 != 8) = false := bne_eq_false_iff_eq.mpr c3
    clear c3
    simp only [Option.some.injEq, Prod.mk.injEq] at H
    obtain ⟨rfl, rfl⟩ := H
    go_enter Try.func39, Try.ntmps39
    go_wp2
    go_ret2
    exact ⟨by first | rfl | (simp; done) | (simp [*]; done), by repeat (first | exact Drawn0.refl _ | apply Drawn0.step)⟩
  · rw [if_neg c3] at H
    have c3b0 : (a1 == 8) = false := beq_eq_false_iff_ne.mpr c3
    have c3b1 : (a1 != 8) = true := bne_iff_ne.mpr c3
    by_cases c4 : a1 = 16
    · rw [if_pos c4] at H
      have c4b0 : (a1 == 16) = true := beq_iff_eq.mpr c4
      have c4b1 : (a1 != 16) = false := bne_eq_false_iff_eq.mpr c4
      clear c4
      simp only [Option.some.injEq, Prod.mk.injEq] at H
      obtain ⟨rfl, rfl⟩ := H
      go_enter Try.func39, Try.ntmps39
      go_wp2
      go_ret2
      exact ⟨by first | rfl | (simp; done) | (simp [*]; done), by repeat (first | exact Drawn0.refl _ | apply Drawn0.step)⟩
    · rw [if_neg c4] at H
      have c4b0 : (a1 == 16) = false := beq_eq_false_iff_ne.mpr c4
      have c4b1 : (a1 != 16) = true := bne_iff_ne.mpr c4
      by_cases c5 : a1 = 32
      · rw [if_pos c5] at H
        have c5b0 : (a1 == 32) = true := beq_iff_eq.mpr c5
        have c5b1 : (a1 != 32) = false := bne_eq_false_iff_eq.mpr c5
        clear c5
        simp only [Option.some.injEq, Prod.mk.injEq] at H
        obtain ⟨rfl, rfl⟩ := H
        go_enter Try.func39, Try.ntmps39
        go_wp2
        go_ret2
        exact ⟨by first | rfl | (simp; done) | (simp [*]; done), by repeat (first | exact Drawn0.refl _ | apply Drawn0.step)⟩
      · rw [if_neg c5] at H
        have c5b0 : (a1 == 32) = false := beq_eq_false_iff_ne.mpr c5
        have c5b1 : (a1 != 32) = true := bne_iff_ne.mpr c5
        simp only [Option.some.injEq, Prod.mk.injEq] at H
        obtain ⟨rfl, rfl⟩ := H
        go_enter Try.func39, Try.ntmps39
        go_wp2
        go_ret2
        exact ⟨by first | rfl | (simp; done) | (simp [*]; done), by repeat (first | exact Drawn0.refl _ | apply Drawn0.step)⟩

/-! ### interval_Cut: function 17 -/
def interval_Cut.j0 : Nat → Int → Int → Bool → Int → Int → Option (Int × Int × Int)
  | 0, _, _, _, _, _ => none
  | k + 1, x1, x6, x24, x339000, x339001 => if x24 = true then (some (0, 0, 2)) else ((word_Cut.f x339001 x1).bind fun bt346 => (if 0 ≤ x1 then (if (shr .u64 (IntKind.u64.wrap (x339000)) x1) = (shr .u64 (IntKind.u64.wrap (x339001)) x1) then (some (x6, bt346.1, 0)) else (some (0, ((shl .u32 1 x1) - 1) % 4294967296, 0))) else (none)))
def interval_Cut.f (k : Nat) (a0_0 : Int) (a0_1 : Int) (a1 : Int) : Option (Int × Int × Int) := (word_Cut.f a0_0 a1).bind fun bt340 => (if bt340.2 = 0 then ((interval_may.f k (([(⟨a0_0, a0_1⟩ : S24)] : List (S24)))).bind fun t345 => (interval_Cut.j0 k a1 bt340.1 (!t345) a0_0 a0_1)) else (interval_Cut.j0 k a1 bt340.1 true a0_0 a0_1))
theorem interval_Cut.mono_l : ∀ k, (∀ y0 y1 y2 y3 y4, LeO (interval_Cut.j0 k y0 y1 y2 y3 y4) (interval_Cut.j0 (k + 1) y0 y1 y2 y3 y4))
  | 0 => fun _ _ _ _ _ r h => by simp [interval_Cut.j0] at h
  | k + 1 => by
    have ih0 := interval_Cut.mono_l k
    · intro y0 y1 y2 y3 y4
      unfold interval_Cut.j0
      repeat' first
      | (with_reducible exact ih0 _ _ _ _ _)
      | (with_reducible exact interval_may.mono _ _)
      | (with_reducible exact LeO.refl _)
      | (with_reducible exact LeO.none _)
      | (with_reducible refine LeO.ite ?_ ?_)
      | (with_reducible refine LeO.bind ?_ (fun _ => ?_))
      | exact ih0 _ _ _ _ _
      | exact interval_may.mono _ _
      | exact LeO.none _
      | refine LeO.ite ?_ ?_
      | refine LeO.bind ?_ (fun _ => ?_)
theorem interval_Cut.mono : ∀ a0 a1 a2 k, LeO (interval_Cut.f k a0 a1 a2) (interval_Cut.f (k + 1) a0 a1 a2) := by
  intro a0 a1 a2 k
  have ih0 := interval_Cut.mono_l k
  unfold interval_Cut.f
  repeat' first
      | (with_reducible exact ih0 _ _ _ _ _)
      | (with_reducible exact interval_may.mono _ _)
      | (with_reducible exact LeO.refl _)
      | (with_reducible exact LeO.none _)
      | (with_reducible refine LeO.ite ?_ ?_)
      | (with_reducible refine LeO.bind ?_ (fun _ => ?_))
      | exact ih0 _ _ _ _ _
      | exact interval_may.mono _ _
      | exact LeO.none _
      | refine LeO.ite ?_ ?_
      | refine LeO.bind ?_ (fun _ => ?_)
set_option maxHeartbeats 8000000 in
set_option maxRecDepth 100000 in
theorem interval_Cut.calls (k : Nat) (a0_0 : Int) (a0_1 : Int) (a1 : Int) (r1 : Int) (r2 : Int) (r3 : Int) (w : World) (h : interval_Cut.f k a0_0 a0_1 a1 = some (r1, r2, r3)) :
    Calls Try.prog 17 #[.agg #[.int .u32 a0_0, .int .u32 a0_1], .int .i64 a1] w fun e w' => e = .returned (.tuple #[.agg #[.int .u32 r1, .int .u32 r2], .int .i64 r3]) ∧ Below w.heap.size w w' := by
  have hu24 := Try.underlying24
  have HB := am (Below.refl w.heap.size w)
  have H : ((word_Cut.f a0_0 a1).bind fun bt340 => (if bt340.2 = 0 then ((interval_may.f k (([(⟨a0_0, a0_1⟩ : S24)] : List (S24)))).bind fun t345 => (interval_Cut.j0 k a1 bt340.1 (!t345) a0_0 a0_1)) else (interval_Cut.j0 k a1 bt340.1 true a0_0 a0_1))) = some (r1, r2, r3) := h
  clear h
  replace H := Option.bind_eq_some_iff.mp H
  obtain ⟨⟨t340, t341⟩, A30, H⟩ := H
  replace H : (if t341 = 0 then ((interval_may.f k (([(⟨a0_0, a0_1⟩ : S24)] : List (S24)))).bind fun t345 => (interval_Cut.j0 k a1 t340 (!t345) a0_0 a0_1)) else (interval_Cut.j0 k a1 t340 true a0_0 a0_1)) = some (r1, r2, r3) := H
  have A3 := am A30
  clear A30
  have HC4 := am H
  clear H
  go_enter Try.func17, Try.ntmps17
  go_upto_region 2 with (first | ((with_reducible refine gate_dst (N := 2) rfl ?_); (try (refine gate_guard (by rfl) ?_; dsimp only)); refine bxE 2 #[.int .u32 a0_0, .int .u32 a0_1] 24 ?_; intro gb338 hg w5 hbox hb; have n0_ := am (below_step (hbA HB) hb); have n1_ := am (hbox); have n2_ := gwA hg HB; have n3_ := gwA hg HB; clear HB; have HB := n0_; have BK338 := n1_; have GW338 := n2_; have GE338 := n3_; clear n0_ n1_ n2_ n3_; clear hb hbox hg) | ((with_reducible refine gate_dst (N := 4) rfl ?_); (try (refine gate_guard (by rfl) ?_; dsimp only)); refine bxE 4 #[.int .u32 0, .int .u32 0] 24 ?_; intro gb339 hg w6 hbox hb; have n0_ := am (blk_below (g := gb338) (o := .cells #[.int .u32 a0_0, .int .u32 a0_1] 24 (0, 0)) (bkA BK338) hb); have n1_ := am (below_step (hbA HB) hb); have n2_ := am (hbox); have n3_ := gwA hg HB; have n4_ := gwA hg HB; have n5_ := ltA hg BK338; have n6_ := gtA hg BK338; clear BK338; clear HB; have BK338 := n0_; have HB := n1_; have BK339 := n2_; have GW339 := n3_; have GE339 := n4_; have NB338_339 := n5_; have NB339_338 := n6_; clear n0_ n1_ n2_ n3_ n4_ n5_ n6_; clear hb hbox hg; have hnb7 := NB338_339.out; have hnc7 := NB339_338.out; have hcz8_0 : w6.cell? ⟨gb338, 0, none⟩ = some (.int .u32 a0_0) := cz BK338; have hcz8_1 : w6.cell? ⟨gb338, 1, none⟩ = some (.int .u32 a0_1) := cz BK338; have hfz8_0 := blk_frozen BK338.out 0; have hfz8_1 := blk_frozen BK338.out 1) | (go_at_call 39; (with_reducible refine (word_Cut.calls a0_0 a1 t340 t341 _ A3.out).mono ?_); rintro e w' ⟨rfl, ⟨nd, rfl⟩⟩; (try first | exact ⟨rfl, _, World.drewN_drewN _ _ _⟩ | exact ⟨rfl, _, Eq.trans (World.drewN_drewN _ _ _) (congrArg (World.drewN _) (Nat.add_assoc _ _ _))⟩)))
  repeat (go_quiet (first | ((with_reducible refine gate_dst (N := 2) rfl ?_); (try (refine gate_guard (by rfl) ?_; dsimp only)); refine bxE 2 #[.int .u32 a0_0, .int .u32 a0_1] 24 ?_; intro gb338 hg w5 hbox hb; have n0_ := am (below_step (hbA HB) hb); have n1_ := am (hbox); have n2_ := gwA hg HB; have n3_ := gwA hg HB; clear HB; have HB := n0_; have BK338 := n1_; have GW338 := n2_; have GE338 := n3_; clear n0_ n1_ n2_ n3_; clear hb hbox hg) | ((with_reducible refine gate_dst (N := 4) rfl ?_); (try (refine gate_guard (by rfl) ?_; dsimp only)); refine bxE 4 #[.int .u32 0, .int .u32 0] 24 ?_; intro gb339 hg w6 hbox hb; have n0_ := am (blk_below (g := gb338) (o := .cells #[.int .u32 a0_0, .int .u32 a0_1] 24 (0, 0)) (bkA BK338) hb); have n1_ := am (below_step (hbA HB) hb); have n2_ := am (hbox); have n3_ := gwA hg HB; have n4_ := gwA hg HB; have n5_ := ltA hg BK338; have n6_ := gtA hg BK338; clear BK338; clear HB; have BK338 := n0_; have HB := n1_; have BK339 := n2_; have GW339 := n3_; have GE339 := n4_; have NB338_339 := n5_; have NB339_338 := n6_; clear n0_ n1_ n2_ n3_ n4_ n5_ n6_; clear hb hbox hg; have hnb7 := NB338_339.out; have hnc7 := NB339_338.out; have hcz8_0 : w6.cell? ⟨gb338, 0, none⟩ = some (.int .u32 a0_0) := cz BK338; have hcz8_1 : w6.cell? ⟨gb338, 1, none⟩ = some (.int .u32 a0_1) := cz BK338; have hfz8_0 := blk_frozen BK338.out 0; have hfz8_1 := blk_frozen BK338.out 1) | (go_at_call 39; (with_reducible refine (word_Cut.calls a0_0 a1 t340 t341 _ A3.out).mono ?_); rintro e w' ⟨rfl, ⟨nd, rfl⟩⟩; (try first | exact ⟨rfl, _, World.drewN_drewN _ _ _⟩ | exact ⟨rfl, _, Eq.trans (World.drewN_drewN _ _ _) (congrArg (World.drewN _) (Nat.add_assoc _ _ _))⟩))); go_upto_region 2 with (first | ((with_reducible refine gate_dst (N := 2) rfl ?_); (try (refine gate_guard (by rfl) ?_; dsimp only)); refine bxE 2 #[.int .u32 a0_0, .int .u32 a0_1] 24 ?_; intro gb338 hg w5 hbox hb; have n0_ := am (below_step (hbA HB) hb); have n1_ := am (hbox); have n2_ := gwA hg HB; have n3_ := gwA hg HB; clear HB; have HB := n0_; have BK338 := n1_; have GW338 := n2_; have GE338 := n3_; clear n0_ n1_ n2_ n3_; clear hb hbox hg) | ((with_reducible refine gate_dst (N := 4) rfl ?_); (try (refine gate_guard (by rfl) ?_; dsimp only)); refine bxE 4 #[.int .u32 0, .int .u32 0] 24 ?_; intro gb339 hg w6 hbox hb; have n0_ := am (blk_below (g := gb338) (o := .cells #[.int .u32 a0_0, .int .u32 a0_1] 24 (0, 0)) (bkA BK338) hb); have n1_ := am (below_step (hbA HB) hb); have n2_ := am (hbox); have n3_ := gwA hg HB; have n4_ := gwA hg HB; have n5_ := ltA hg BK338; have n6_ := gtA hg BK338; clear BK338; clear HB; have BK338 := n0_; have HB := n1_; have BK339 := n2_; have GW339 := n3_; have GE339 := n4_; have NB338_339 := n5_; have NB339_338 := n6_; clear n0_ n1_ n2_ n3_ n4_ n5_ n6_; clear hb hbox hg; have hnb7 := NB338_339.out; have hnc7 := NB339_338.out; have hcz8_0 : w6.cell? ⟨gb338, 0, none⟩ = some (.int .u32 a0_0) := cz BK338; have hcz8_1 : w6.cell? ⟨gb338, 1, none⟩ = some (.int .u32 a0_1) := cz BK338; have hfz8_0 := blk_frozen BK338.out 0; have hfz8_1 := blk_frozen BK338.out 1) | (go_at_call 39; (with_reducible refine (word_Cut.calls a0_0 a1 t340 t341 _ A3.out).mono ?_); rintro e w' ⟨rfl, ⟨nd, rfl⟩⟩; (try first | exact ⟨rfl, _, World.drewN_drewN _ _ _⟩ | exact ⟨rfl, _, Eq.trans (World.drewN_drewN _ _ _) (congrArg (World.drewN _) (Nat.add_assoc _ _ _))⟩))))
  (try simp only [Act.put, List.setIfInBounds_toArray, List.set_cons_zero, List.set_cons_succ])
  go_cut [24] (fun v24 wc => ∃ (kq : Nat) (x24_3 : Bool), v24 = .bool x24_3 ∧ Aside0 (interval_Cut.j0 kq a1 t340 x24_3 a0_0 a0_1 = some (r1, r2, r3)) ∧ Aside0 (kq ≤ k) ∧ Aside0 (wc.heap[gb338]? = some (.cells #[.int .u32 a0_0, .int .u32 a0_1] 24 (0, 0))) ∧ Aside0 (wc.heap[gb339]? = some (.cells #[.int .u32 0, .int .u32 0] 24 (0, 0))) ∧ Aside0 (Below w.heap.size w wc))
  case first =>
    have H := HC4.out
    clear HC4
    by_cases c9 : t341 = 0
    · rw [if_pos c9] at H
      have c9b0 : (t341 == 0) = true := beq_iff_eq.mpr c9
      have c9b1 : (t341 != 0) = false := bne_eq_false_iff_eq.mpr c9
      clear c9
      (first | rw [c9b0] | (simp only [i64_w, i32_w]; rw [c9b0]) | skip)
      obtain ⟨y342, hy342⟩ : ∃ y_ : List (S24), y_ = (([(⟨a0_0, a0_1⟩ : S24)] : List (S24))) := ⟨_, rfl⟩
      replace H : ((interval_may.f k y342).bind fun t345 => (interval_Cut.j0 k a1 t340 (!t345) a0_0 a0_1)) = some (r1, r2, r3) := by first | (rw [hy342]; with_reducible exact H) | (have H2_ := (Option.bind_some _ _).symm.trans H; rw [hy342]; with_reducible exact H2_) | (have H2_ := (Option.bind_some _ _).symm.trans H; with_reducible exact H2_) | with_reducible exact H | (rw [hy342]; exact H) | exact H
      have Ny342 := am hy342
      clear hy342
      replace H := Option.bind_eq_some_iff.mp H
      obtain ⟨t345, A100, H⟩ := H
      replace H : (interval_Cut.j0 k a1 t340 (!t345) a0_0 a0_1) = some (r1, r2, r3) := H
      have A10 := am A100
      clear A100
      have H' := am H
      clear H
      have hnb11 := NB338_339.out
      have hnc11 := NB339_338.out
      have hcz12_0 : w6.cell? ⟨gb338, 0, none⟩ = some (.int .u32 a0_0) := cz BK338
      have hcz12_1 : w6.cell? ⟨gb338, 1, none⟩ = some (.int .u32 a0_1) := cz BK338
      have hfz12_0 := blk_frozen BK338.out 0
      have hfz12_1 := blk_frozen BK338.out 1
      go_wp2_with (first | ((with_reducible refine gate_dst (N := 21) rfl ?_); (try (refine gate_guard (by rfl) ?_; dsimp only)); refine Kd.R_lit k24 _ 24 ?hg (N := 21) ?hd (xs := ([(⟨a0_0, a0_1⟩ : S24)] : List (S24))) (inner := [.int .u32 a0_0, .int .u32 a0_1]) (ok := fun _ => True) (okp := fun _ => True) ?hr ?hp (fun _ hk => hk) trivial (Below.refl _ _) (Nat.le_refl _) (by simp) ?_; (case hd => rfl); (case hg => rfl); (case hr => first | (go_simp; done) | (go_simp; rfl)); (case hp => exact (Reps.c2 (show Kd.M k24 _ _ _ (⟨a0_0, a0_1⟩ : S24) [.int .u32 a0_0, .int .u32 a0_1] from (k24_mkM _ _ _ (⟨a0_0, a0_1⟩ : S24) )) (Reps.none _ _))); intro v343 w13 ho14 hb hg_ hnew_; clear hg_ hnew_; (first | rw [← Ny342.out] at ho14 | (simp only [Int.reduceToNat] at ho14; rw [← Ny342.out] at ho14)); have n0_ := am (Kd.R_lower (Kd.R_newB (Kd.R_newB ho14 (g := gb338) (o := .cells #[.int .u32 a0_0, .int .u32 a0_1] 24 (0, 0)) (bkA BK338)) (g := gb339) (o := .cells #[.int .u32 0, .int .u32 0] 24 (0, 0)) (bkA BK339)) (below_size (hbA HB))); have n1_ := am (blk_below (g := gb338) (o := .cells #[.int .u32 a0_0, .int .u32 a0_1] 24 (0, 0)) (bkA BK338) hb); have n2_ := am (blk_below (g := gb339) (o := .cells #[.int .u32 0, .int .u32 0] 24 (0, 0)) (bkA BK339) hb); have n3_ := am (below_step (hbA HB) hb); clear BK338; clear BK339; clear HB; have HO344 := n0_; have BK338 := n1_; have BK339 := n2_; have HB := n3_; clear n0_ n1_ n2_ n3_; clear hb ho14; obtain ⟨Ao15, co15, eo15⟩ := Kd.R_slice HO344.out; subst eo15) | (go_at_call 36; (with_reducible refine (interval_may.calls k _ _ y342 t345 _ ?side1 ?side2 A10.out).mono ?_); (case side1 => repeat (first | exact (Kd.R_reads' HO344.out).2.2 | (with_reducible refine Kd.C_alloc ?_ _) | (with_reducible refine Kd.C_drewN ?_ _) | (with_reducible refine Kd.C_drew ?_))); (case side2 => exact (Kd.R_reads' HO344.out).2.1); rintro e w16 ⟨rfl, hb⟩; have n0_ := am (Kd.R_below (by (with_reducible repeat (first | apply Kd.R_alloc | apply Kd.R_drewN | apply Kd.R_drew)); exact HO344.out) hb); have n1_ := am (blk_below (g := gb338) (o := .cells #[.int .u32 a0_0, .int .u32 a0_1] 24 (0, 0)) (bkA BK338) hb); have n2_ := am (blk_below (g := gb339) (o := .cells #[.int .u32 0, .int .u32 0] 24 (0, 0)) (bkA BK339) hb); have n3_ := am (below_step (hbA HB) hb); clear HO344; clear BK338; clear BK339; clear HB; have HO344 := n0_; have BK338 := n1_; have BK339 := n2_; have HB := n3_; clear n0_ n1_ n2_ n3_; (try clear hb); (try clear hb2); (try clear hk); (try clear hi)))
      repeat (go_quiet (first | ((with_reducible refine gate_dst (N := 21) rfl ?_); (try (refine gate_guard (by rfl) ?_; dsimp only)); refine Kd.R_lit k24 _ 24 ?hg (N := 21) ?hd (xs := ([(⟨a0_0, a0_1⟩ : S24)] : List (S24))) (inner := [.int .u32 a0_0, .int .u32 a0_1]) (ok := fun _ => True) (okp := fun _ => True) ?hr ?hp (fun _ hk => hk) trivial (Below.refl _ _) (Nat.le_refl _) (by simp) ?_; (case hd => rfl); (case hg => rfl); (case hr => first | (go_simp; done) | (go_simp; rfl)); (case hp => exact (Reps.c2 (show Kd.M k24 _ _ _ (⟨a0_0, a0_1⟩ : S24) [.int .u32 a0_0, .int .u32 a0_1] from (k24_mkM _ _ _ (⟨a0_0, a0_1⟩ : S24) )) (Reps.none _ _))); intro v343 w13 ho14 hb hg_ hnew_; clear hg_ hnew_; (first | rw [← Ny342.out] at ho14 | (simp only [Int.reduceToNat] at ho14; rw [← Ny342.out] at ho14)); have n0_ := am (Kd.R_lower (Kd.R_newB (Kd.R_newB ho14 (g := gb338) (o := .cells #[.int .u32 a0_0, .int .u32 a0_1] 24 (0, 0)) (bkA BK338)) (g := gb339) (o := .cells #[.int .u32 0, .int .u32 0] 24 (0, 0)) (bkA BK339)) (below_size (hbA HB))); have n1_ := am (blk_below (g := gb338) (o := .cells #[.int .u32 a0_0, .int .u32 a0_1] 24 (0, 0)) (bkA BK338) hb); have n2_ := am (blk_below (g := gb339) (o := .cells #[.int .u32 0, .int .u32 0] 24 (0, 0)) (bkA BK339) hb); have n3_ := am (below_step (hbA HB) hb); clear BK338; clear BK339; clear HB; have HO344 := n0_; have BK338 := n1_; have BK339 := n2_; have HB := n3_; clear n0_ n1_ n2_ n3_; clear hb ho14; obtain ⟨Ao15, co15, eo15⟩ := Kd.R_slice HO344.out; subst eo15) | (go_at_call 36; (with_reducible refine (interval_may.calls k _ _ y342 t345 _ ?side1 ?side2 A10.out).mono ?_); (case side1 => repeat (first | exact (Kd.R_reads' HO344.out).2.2 | (with_reducible refine Kd.C_alloc ?_ _) | (with_reducible refine Kd.C_drewN ?_ _) | (with_reducible refine Kd.C_drew ?_))); (case side2 => exact (Kd.R_reads' HO344.out).2.1); rintro e w16 ⟨rfl, hb⟩; have n0_ := am (Kd.R_below (by (with_reducible repeat (first | apply Kd.R_alloc | apply Kd.R_drewN | apply Kd.R_drew)); exact HO344.out) hb); have n1_ := am (blk_below (g := gb338) (o := .cells #[.int .u32 a0_0, .int .u32 a0_1] 24 (0, 0)) (bkA BK338) hb); have n2_ := am (blk_below (g := gb339) (o := .cells #[.int .u32 0, .int .u32 0] 24 (0, 0)) (bkA BK339) hb); have n3_ := am (below_step (hbA HB) hb); clear HO344; clear BK338; clear BK339; clear HB; have HO344 := n0_; have BK338 := n1_; have BK339 := n2_; have HB := n3_; clear n0_ n1_ n2_ n3_; (try clear hb); (try clear hb2); (try clear hk); (try clear hi))); try go_wp2_with (first | ((with_reducible refine gate_dst (N := 21) rfl ?_); (try (refine gate_guard (by rfl) ?_; dsimp only)); refine Kd.R_lit k24 _ 24 ?hg (N := 21) ?hd (xs := ([(⟨a0_0, a0_1⟩ : S24)] : List (S24))) (inner := [.int .u32 a0_0, .int .u32 a0_1]) (ok := fun _ => True) (okp := fun _ => True) ?hr ?hp (fun _ hk => hk) trivial (Below.refl _ _) (Nat.le_refl _) (by simp) ?_; (case hd => rfl); (case hg => rfl); (case hr => first | (go_simp; done) | (go_simp; rfl)); (case hp => exact (Reps.c2 (show Kd.M k24 _ _ _ (⟨a0_0, a0_1⟩ : S24) [.int .u32 a0_0, .int .u32 a0_1] from (k24_mkM _ _ _ (⟨a0_0, a0_1⟩ : S24) )) (Reps.none _ _))); intro v343 w13 ho14 hb hg_ hnew_; clear hg_ hnew_; (first | rw [← Ny342.out] at ho14 | (simp only [Int.reduceToNat] at ho14; rw [← Ny342.out] at ho14)); have n0_ := am (Kd.R_lower (Kd.R_newB (Kd.R_newB ho14 (g := gb338) (o := .cells #[.int .u32 a0_0, .int .u32 a0_1] 24 (0, 0)) (bkA BK338)) (g := gb339) (o := .cells #[.int .u32 0, .int .u32 0] 24 (0, 0)) (bkA BK339)) (below_size (hbA HB))); have n1_ := am (blk_below (g := gb338) (o := .cells #[.int .u32 a0_0, .int .u32 a0_1] 24 (0, 0)) (bkA BK338) hb); have n2_ := am (blk_below (g := gb339) (o := .cells #[.int .u32 0, .int .u32 0] 24 (0, 0)) (bkA BK339) hb); have n3_ := am (below_step (hbA HB) hb); clear BK338; clear BK339; clear HB; have HO344 := n0_; have BK338 := n1_; have BK339 := n2_; have HB := n3_; clear n0_ n1_ n2_ n3_; clear hb ho14; obtain ⟨Ao15, co15, eo15⟩ := Kd.R_slice HO344.out; subst eo15) | (go_at_call 36; (with_reducible refine (interval_may.calls k _ _ y342 t345 _ ?side1 ?side2 A10.out).mono ?_); (case side1 => repeat (first | exact (Kd.R_reads' HO344.out).2.2 | (with_reducible refine Kd.C_alloc ?_ _) | (with_reducible refine Kd.C_drewN ?_ _) | (with_reducible refine Kd.C_drew ?_))); (case side2 => exact (Kd.R_reads' HO344.out).2.1); rintro e w16 ⟨rfl, hb⟩; have n0_ := am (Kd.R_below (by (with_reducible repeat (first | apply Kd.R_alloc | apply Kd.R_drewN | apply Kd.R_drew)); exact HO344.out) hb); have n1_ := am (blk_below (g := gb338) (o := .cells #[.int .u32 a0_0, .int .u32 a0_1] 24 (0, 0)) (bkA BK338) hb); have n2_ := am (blk_below (g := gb339) (o := .cells #[.int .u32 0, .int .u32 0] 24 (0, 0)) (bkA BK339) hb); have n3_ := am (below_step (hbA HB) hb); clear HO344; clear BK338; clear BK339; clear HB; have HO344 := n0_; have BK338 := n1_; have BK339 := n2_; have HB := n3_; clear n0_ n1_ n2_ n3_; (try clear hb); (try clear hb2); (try clear hk); (try clear hi))))
      go_meet
      case rel => exact ⟨_, (!t345), (by first | rfl | (simp; done) | (simp [*]; done)), H', ⟨by first | omega | exact Nat.le_refl _⟩, ⟨by refine bkT ?_; exact BK338.out⟩, ⟨by refine bkT ?_; exact BK339.out⟩, ⟨by repeat (first | (with_reducible first | exact HB.out | apply below_alloc | apply pw_below_drewN | apply below_drew1 | refine below_set ?_ GE338.out | refine below_set ?_ GE339.out) | exact HB.out)⟩⟩
    · rw [if_neg c9] at H
      have c9b0 : (t341 == 0) = false := beq_eq_false_iff_ne.mpr c9
      have c9b1 : (t341 != 0) = true := bne_iff_ne.mpr c9
      (first | rw [c9b0] | (simp only [i64_w, i32_w]; rw [c9b0]) | skip)
      have H' := am H
      clear H
      go_wp2
      repeat (go_quiet (fail); try go_wp2)
      go_meet
      case rel => exact ⟨_, (true), (by first | rfl | (simp; done) | (simp [*]; done)), H', ⟨by first | omega | exact Nat.le_refl _⟩, ⟨by refine bkT ?_; exact BK338.out⟩, ⟨by refine bkT ?_; exact BK339.out⟩, ⟨by repeat (first | (with_reducible first | exact HB.out | apply below_alloc | apply pw_below_drewN | apply below_drew1 | refine below_set ?_ GE338.out | refine below_set ?_ GE339.out) | exact HB.out)⟩⟩
  case rest =>
    clear HC4
    try clear c1
    try clear c2
    try clear p2
    try clear c7
    try clear c9
    try clear c9b0
    try clear c9b1
    try clear c11
    try clear hcz12_0
    try clear hcz12_1
    try clear hcz8_0
    try clear hcz8_1
    try clear hfz12_0
    try clear hfz12_1
    try clear hfz8_0
    try clear hfz8_1
    obtain ⟨kq, x24_3, rfl, HA, HJ3, BK338, BK339, HB⟩ := hcut
    cases kq with
    | zero => exact absurd HA.out (by simp [interval_Cut.j0])
    | succ kj3 =>
      have H := HA.out
      clear HA
      simp only [interval_Cut.j0] at H
      by_cases c17 : x24_3 = true
      · subst c17
        have H1 : (some (0, 0, 2)) = some (r1, r2, r3) := by rw [if_pos rfl] at H; exact H
        clear H
        have H := H1
        clear H1
        simp only [Option.some.injEq, Prod.mk.injEq] at H
        obtain ⟨rfl, rfl, rfl⟩ := H
        have hnb18 := NB339_338.out
        have hnc18 := NB338_339.out
        have hcz19_0 : wc.cell? ⟨gb339, 0, none⟩ = some (.int .u32 0) := cz BK339
        have hcz19_1 : wc.cell? ⟨gb339, 1, none⟩ = some (.int .u32 0) := cz BK339
        have hfz19_0 := blk_frozen BK339.out 0
        have hfz19_1 := blk_frozen BK339.out 1
        go_wp2
        repeat (go_quiet (fail); try go_wp2)
        refine bodyPost_ret (results_ct rfl _ _ gb339 24 #[.int .u32 0, .int .u32 0] (0, 0) _ rfl (by refine bkT ?_; refine blk_put (cs := #[.int .u32 0, .int .u32 0]) ?_ 1 _ rfl; refine bkT ?_; refine blk_put (cs := #[.int .u32 0, .int .u32 0]) ?_ 0 _ rfl; refine bkT ?_; exact BK339.out) Try.underlying24 rfl (by kernel_rfl)) rfl ?_
        exact ⟨by first | rfl | (simp [errW_none, errW_some] <;> rfl) | (simp [*, errW_none, errW_some] <;> rfl), hbA HB⟩
      · replace c17 := Bool.eq_false_iff.mpr c17
        subst c17
        have H1 : ((word_Cut.f a0_1 a1).bind fun bt346 => (if 0 ≤ a1 then (if (shr .u64 (IntKind.u64.wrap (a0_0)) a1) = (shr .u64 (IntKind.u64.wrap (a0_1)) a1) then (some (t340, bt346.1, 0)) else (some (0, ((shl .u32 1 a1) - 1) % 4294967296, 0))) else (none))) = some (r1, r2, r3) := by rw [if_neg (show ¬ (false = true) by decide)] at H; exact H
        clear H
        have H := H1
        clear H1
        replace H := Option.bind_eq_some_iff.mp H
        obtain ⟨⟨t346, t347⟩, A200, H⟩ := H
        replace H : (if 0 ≤ a1 then (if (shr .u64 (IntKind.u64.wrap (a0_0)) a1) = (shr .u64 (IntKind.u64.wrap (a0_1)) a1) then (some (t340, t346, 0)) else (some (0, ((shl .u32 1 a1) - 1) % 4294967296, 0))) else (none)) = some (r1, r2, r3) := H
        have A20 := am A200
        clear A200
        by_cases c21 : 0 ≤ a1
        · rw [if_pos c21] at H
          have c21b0 := eq_true c21
          have c21b1 : decide (0 ≤ a1) = true := decide_eq_true c21
          clear c21
          obtain ⟨ji22, hji22⟩ : ∃ j_ : Int, (shr .u64 (IntKind.u64.wrap (a0_0)) a1) = j_ := ⟨_, rfl⟩
          replace H : (if (ji22) = (shr .u64 (IntKind.u64.wrap (a0_1)) a1) then (some (t340, t346, 0)) else (some (0, ((shl .u32 1 a1) - 1) % 4294967296, 0))) = some (r1, r2, r3) := by first | (rw [hji22] at H; exact H) | (simp only [hji22] at H ⊢; exact H)
          (try rw [hji22] at A20)
          have hji22_ : ((IntKind.u64.wrap (a0_0)) / 2 ^ min a1.toNat 64) = ji22 := hji22
          have hji22z : a1 ≤ 64 → ((IntKind.u64.wrap (a0_0)) / 2 ^ a1.toNat) = ji22 := shr_small hji22
          have c23b0 := eq_true (of_decide_eq_true (by first | (with_reducible assumption) | assumption) : 0 ≤ a1)
          obtain ⟨ji24, hji24⟩ : ∃ j_ : Int, (shr .u64 (IntKind.u64.wrap (a0_1)) a1) = j_ := ⟨_, rfl⟩
          replace H : (if (ji22) = (ji24) then (some (t340, t346, 0)) else (some (0, ((shl .u32 1 a1) - 1) % 4294967296, 0))) = some (r1, r2, r3) := by first | (rw [hji24] at H; exact H) | (simp only [hji24] at H ⊢; exact H)
          (try rw [hji24] at A20)
          have hji24_ : ((IntKind.u64.wrap (a0_1)) / 2 ^ min a1.toNat 64) = ji24 := hji24
          have hji24z : a1 ≤ 64 → ((IntKind.u64.wrap (a0_1)) / 2 ^ a1.toNat) = ji24 := shr_small hji24
          by_cases c25 : (ji22) = (ji24)
          · rw [if_pos c25] at H
            have c25b0 : ((ji22) == (ji24)) = true := beq_iff_eq.mpr c25
            have c25b1 : ((ji22) != (ji24)) = false := bne_eq_false_iff_eq.mpr c25
            clear c25
            simp only [Option.some.injEq, Prod.mk.injEq] at H
            obtain ⟨rfl, rfl, rfl⟩ := H
            have hnb26 := NB338_339.out
            have hnc26 := NB339_338.out
            have hcz27_0 : wc.cell? ⟨gb338, 0, none⟩ = some (.int .u32 a0_0) := cz BK338
            have hcz27_1 : wc.cell? ⟨gb338, 1, none⟩ = some (.int .u32 a0_1) := cz BK338
            have hfz27_0 := blk_frozen BK338.out 0
            have hfz27_1 := blk_frozen BK338.out 1
            go_wp2_with (first | (go_at_call 39; (with_reducible refine (word_Cut.calls a0_1 a1 t346 t347 _ A20.out).mono ?_); rintro e w' ⟨rfl, ⟨nd, rfl⟩⟩; (try first | exact ⟨rfl, _, World.drewN_drewN _ _ _⟩ | exact ⟨rfl, _, Eq.trans (World.drewN_drewN _ _ _) (congrArg (World.drewN _) (Nat.add_assoc _ _ _))⟩); have hcz28_0 : wc.cell? ⟨gb339, 0, none⟩ = some (.int .u32 0) := cz BK339; have hcz28_1 : wc.cell? ⟨gb339, 1, none⟩ = some (.int .u32 0) := cz BK339; have hfz28_0 := blk_frozen BK339.out 0; have hfz28_1 := blk_frozen BK339.out 1))
            repeat (go_quiet (first | (go_at_call 39; (with_reducible refine (word_Cut.calls a0_1 a1 t346 t347 _ A20.out).mono ?_); rintro e w' ⟨rfl, ⟨nd, rfl⟩⟩; (try first | exact ⟨rfl, _, World.drewN_drewN _ _ _⟩ | exact ⟨rfl, _, Eq.trans (World.drewN_drewN _ _ _) (congrArg (World.drewN _) (Nat.add_assoc _ _ _))⟩); have hcz28_0 : wc.cell? ⟨gb339, 0, none⟩ = some (.int .u32 0) := cz BK339; have hcz28_1 : wc.cell? ⟨gb339, 1, none⟩ = some (.int .u32 0) := cz BK339; have hfz28_0 := blk_frozen BK339.out 0; have hfz28_1 := blk_frozen BK339.out 1)); try go_wp2_with (first | (go_at_call 39; (with_reducible refine (word_Cut.calls a0_1 a1 t346 t347 _ A20.out).mono ?_); rintro e w' ⟨rfl, ⟨nd, rfl⟩⟩; (try first | exact ⟨rfl, _, World.drewN_drewN _ _ _⟩ | exact ⟨rfl, _, Eq.trans (World.drewN_drewN _ _ _) (congrArg (World.drewN _) (Nat.add_assoc _ _ _))⟩); have hcz28_0 : wc.cell? ⟨gb339, 0, none⟩ = some (.int .u32 0) := cz BK339; have hcz28_1 : wc.cell? ⟨gb339, 1, none⟩ = some (.int .u32 0) := cz BK339; have hfz28_0 := blk_frozen BK339.out 0; have hfz28_1 := blk_frozen BK339.out 1)))
            refine bodyPost_ret (results_ct rfl _ _ gb339 24 #[.int .u32 t340, .int .u32 t346] (0, 0) _ rfl (by refine bkT ?_; refine blk_put (cs := #[.int .u32 t340, .int .u32 0]) ?_ 1 _ rfl; refine bkT ?_; refine blk_put (cs := #[.int .u32 0, .int .u32 0]) ?_ 0 _ rfl; refine bkT ?_; exact BK339.out) Try.underlying24 rfl (by kernel_rfl)) rfl ?_
            exact ⟨by first | rfl | (simp [errW_none, errW_some] <;> rfl) | (simp only [← hji22, ← hji24]; first | rfl | (simp [errW_none, errW_some] <;> rfl)) | (simp [*, errW_none, errW_some] <;> rfl), hbA HB⟩
          · rw [if_neg c25] at H
            have c25b0 : ((ji22) == (ji24)) = false := beq_eq_false_iff_ne.mpr c25
            have c25b1 : ((ji22) != (ji24)) = true := bne_iff_ne.mpr c25
            have c29b0 := eq_true (of_decide_eq_true (by first | (with_reducible assumption) | assumption) : 0 ≤ a1)
            obtain ⟨ji30, hji30⟩ : ∃ j_ : Int, (shl .u32 1 a1) = j_ := ⟨_, rfl⟩
            replace H : (some (0, ((ji30) - 1) % 4294967296, 0)) = some (r1, r2, r3) := by first | (rw [hji30] at H; exact H) | (simp only [hji30] at H ⊢; exact H)
            (try rw [hji30] at A20)
            have hji30_ : (IntKind.u32.wrap (1 * 2 ^ min a1.toNat 32)) = ji30 := hji30
            have hji30z : a1 ≤ 32 → (IntKind.u32.wrap (1 * 2 ^ a1.toNat)) = ji30 := shl_small hji30
            have hji30u : (IntKind.u32.wrap (2 ^ min a1.toNat 32)) = ji30 := by have h_ := hji30_; rw [Int.one_mul] at h_; exact h_
            have hji30v : a1 ≤ 32 → (IntKind.u32.wrap (2 ^ a1.toNat)) = ji30 := fun hle_ => by have h_ := hji30z hle_; rw [Int.one_mul] at h_; exact h_
            simp only [Option.some.injEq, Prod.mk.injEq] at H
            obtain ⟨rfl, rfl, rfl⟩ := H
            have hnb31 := NB338_339.out
            have hnc31 := NB339_338.out
            have hcz32_0 : wc.cell? ⟨gb338, 0, none⟩ = some (.int .u32 a0_0) := cz BK338
            have hcz32_1 : wc.cell? ⟨gb338, 1, none⟩ = some (.int .u32 a0_1) := cz BK338
            have hfz32_0 := blk_frozen BK338.out 0
            have hfz32_1 := blk_frozen BK338.out 1
            go_wp2_with (first | (go_at_call 39; (with_reducible refine (word_Cut.calls a0_1 a1 t346 t347 _ A20.out).mono ?_); rintro e w' ⟨rfl, ⟨nd, rfl⟩⟩; (try first | exact ⟨rfl, _, World.drewN_drewN _ _ _⟩ | exact ⟨rfl, _, Eq.trans (World.drewN_drewN _ _ _) (congrArg (World.drewN _) (Nat.add_assoc _ _ _))⟩); have hcz33_0 : wc.cell? ⟨gb339, 0, none⟩ = some (.int .u32 0) := cz BK339; have hcz33_1 : wc.cell? ⟨gb339, 1, none⟩ = some (.int .u32 0) := cz BK339; have hfz33_0 := blk_frozen BK339.out 0; have hfz33_1 := blk_frozen BK339.out 1))
            repeat (go_quiet (first | (go_at_call 39; (with_reducible refine (word_Cut.calls a0_1 a1 t346 t347 _ A20.out).mono ?_); rintro e w' ⟨rfl, ⟨nd, rfl⟩⟩; (try first | exact ⟨rfl, _, World.drewN_drewN _ _ _⟩ | exact ⟨rfl, _, Eq.trans (World.drewN_drewN _ _ _) (congrArg (World.drewN _) (Nat.add_assoc _ _ _))⟩); have hcz33_0 : wc.cell? ⟨gb339, 0, none⟩ = some (.int .u32 0) := cz BK339; have hcz33_1 : wc.cell? ⟨gb339, 1, none⟩ = some (.int .u32 0) := cz BK339; have hfz33_0 := blk_frozen BK339.out 0; have hfz33_1 := blk_frozen BK339.out 1)); try go_wp2_with (first | (go_at_call 39; (with_reducible refine (word_Cut.calls a0_1 a1 t346 t347 _ A20.out).mono ?_); rintro e w' ⟨rfl, ⟨nd, rfl⟩⟩; (try first | exact ⟨rfl, _, World.drewN_drewN _ _ _⟩ | exact ⟨rfl, _, Eq.trans (World.drewN_drewN _ _ _) (congrArg (World.drewN _) (Nat.add_assoc _ _ _))⟩); have hcz33_0 : wc.cell? ⟨gb339, 0, none⟩ = some (.int .u32 0) := cz BK339; have hcz33_1 : wc.cell? ⟨gb339, 1, none⟩ = some (.int .u32 0) := cz BK339; have hfz33_0 := blk_frozen BK339.out 0; have hfz33_1 := blk_frozen BK339.out 1)))
            refine bodyPost_ret (results_ct rfl _ _ gb339 24 #[.int .u32 0, .int .u32 (((ji30) - 1) % 4294967296)] (0, 0) _ rfl (by refine bkT ?_; refine blk_put (cs := #[.int .u32 0, .int .u32 0]) ?_ 1 _ rfl; refine bkT ?_; refine blk_put (cs := #[.int .u32 0, .int .u32 0]) ?_ 0 _ rfl; refine bkT ?_; exact BK339.out) Try.underlying24 rfl (by kernel_rfl)) rfl ?_
            exact ⟨by first | rfl | (simp [errW_none, errW_some] <;> rfl) | (simp only [← hji22, ← hji24, ← hji30]; first | rfl | (simp [errW_none, errW_some] <;> rfl)) | (simp [*, errW_none, errW_some] <;> rfl), hbA HB⟩
        · rw [if_neg c21] at H
          exact absurd H (by simp)

/-! ### lamplighterlaw19_of: function 21 -/
def lamplighterlaw19_of.f (a0_0 : Int) (a0_1 : Int) (a1 : Int) : Option (Int) := if ((a0_1 - a0_0) % 4294967296) = 4294967295 then (some a1) else (if ((((a0_1 - a0_0) % 4294967296) + 1) % 4294967296) = 0 then (none) else (some ((a0_0 + (Int.tmod a1 ((((a0_1 - a0_0) % 4294967296) + 1) % 4294967296))) % 4294967296)))
set_option maxHeartbeats 1600000 in
theorem lamplighterlaw19_of.calls (a0_0 : Int) (a0_1 : Int) (a1 : Int) (r : Int) (w : World) (h : lamplighterlaw19_of.f a0_0 a0_1 a1 = some r) :
    Calls Try.prog 21 #[.agg #[.int .u32 a0_0, .int .u32 a0_1], .int .u32 a1] w fun e w' => e = .returned (.int .u32 r) ∧ Below w.heap.size w w' := by
  have hu24 := Try.underlying24
  unfold lamplighterlaw19_of.f at h
  by_cases c3 : ((a0_1 - a0_0) % 4294967296) = 4294967295
  · rw [if_pos c3] at h
    have c3b0 : (((a0_1 - a0_0) % 4294967296) == 4294967295) = true := beq_iff_eq.mpr c3
    clear c3
    obtain rfl := Option.some.inj h
    go_enter Try.func21, Try.ntmps21
    go_wp2_with fail
    repeat (go_quiet (fail); go_wp2_with fail)
    go_ret
    exact ⟨rfl, by repeat (first | exact Below.refl _ _ | apply below_alloc | apply pw_below_drewN | apply below_drew1)⟩
  · rw [if_neg c3] at h
    have c3b0 : (((a0_1 - a0_0) % 4294967296) == 4294967295) = false := beq_eq_false_iff_ne.mpr c3
    by_cases c6 : ((((a0_1 - a0_0) % 4294967296) + 1) % 4294967296) = 0
    · rw [if_pos c6] at h
      cases h
    · rw [if_neg c6] at h
      obtain ⟨m, hm⟩ : ∃ m, (a0_1 - a0_0) % 4294967296 = m := ⟨_, rfl⟩
      have hl : 0 ≤ m ∧ m < 4294967295 := by omega
      rw [hm] at h c6 c3b0
      have e1 : (m + 1) % 4294967296 = m + 1 := by omega
      rw [e1] at h
      obtain rfl := Option.some.inj h
      have c7 : ¬ (m + 1 = 0) := by omega
      have c7b : ((m + 1) == 0) = false := beq_eq_false_iff_ne.mpr c7
      clear h c6 c3 e1
      go_enter Try.func21, Try.ntmps21
      go_wp2_with fail
      repeat (go_quiet (fail); go_wp2_with fail)
      go_ret
      exact ⟨rfl, by repeat (first | exact Below.refl _ _ | apply below_alloc | apply pw_below_drewN | apply below_drew1)⟩


/-! ### lamplighterref01_Signed: function 40 -/
def lamplighterref01_Signed.f (a0 : Int) : Option (Int) := if a0 ≥ 2147483648 then (some (wrap64 ((wrap64 (a0)) - 4294967296))) else (some (wrap64 (a0)))
set_option maxHeartbeats 8000000 in
set_option maxRecDepth 100000 in
theorem lamplighterref01_Signed.calls (a0 : Int) (r : Int) (w : World) (h : lamplighterref01_Signed.f a0 = some r) :
    Calls Try.prog 40 #[.int .u32 a0] w fun e w' => e = .returned (.int .i64 r) ∧ Drawn0 w w' := by
  have H : (if a0 ≥ 2147483648 then (some (wrap64 ((wrap64 (a0)) - 4294967296))) else (some (wrap64 (a0)))) = some r := h
  clear h
  by_cases c2 : a0 ≥ 2147483648
  · rw [if_pos c2] at H
    have c2b0 : decide (2147483648 ≤ a0) = true := decide_eq_true c2
    clear c2
    obtain rfl := Option.some.inj H
    go_enter Try.func40, Try.ntmps40
    go_wp2
    go_ret
    exact ⟨by first | rfl | (simp; done) | (simp [*]; done), by repeat (first | exact Drawn0.refl _ | apply Drawn0.step)⟩
  · rw [if_neg c2] at H
    have c2b0 : decide (2147483648 ≤ a0) = false := decide_eq_false c2
    clear c2
    obtain rfl := Option.some.inj H
    go_enter Try.func40, Try.ntmps40
    go_wp2
    go_ret
    exact ⟨by first | rfl | (simp; done) | (simp [*]; done), by repeat (first | exact Drawn0.refl _ | apply Drawn0.step)⟩

/-! ### lamplighterref01_yes: function 41 -/
def lamplighterref01_yes.f (a0 : Bool) : Option (Int) := if a0 = true then (some 1) else (some 0)
set_option maxHeartbeats 8000000 in
set_option maxRecDepth 100000 in
theorem lamplighterref01_yes.calls (a0 : Bool) (r : Int) (w : World) (h : lamplighterref01_yes.f a0 = some r) :
    Calls Try.prog 41 #[.bool a0] w fun e w' => e = .returned (.int .u32 r) ∧ Drawn0 w w' := by
  have H : (if a0 = true then (some 1) else (some 0)) = some r := h
  clear h
  by_cases c2 : a0 = true
  · subst c2
    have H1 : (some 1) = some r := by rw [if_pos rfl] at H; exact H
    clear H
    have H := H1
    clear H1
    obtain rfl := Option.some.inj H
    go_enter Try.func41, Try.ntmps41
    go_wp2
    go_ret
    exact ⟨by first | rfl | (simp; done) | (simp [*]; done), by repeat (first | exact Drawn0.refl _ | apply Drawn0.step)⟩
  · replace c2 := Bool.eq_false_iff.mpr c2
    subst c2
    have H1 : (some 0) = some r := by rw [if_neg (show ¬ (false = true) by decide)] at H; exact H
    clear H
    have H := H1
    clear H1
    obtain rfl := Option.some.inj H
    go_enter Try.func41, Try.ntmps41
    go_wp2
    go_ret
    exact ⟨by first | rfl | (simp; done) | (simp [*]; done), by repeat (first | exact Drawn0.refl _ | apply Drawn0.step)⟩

end Go.Proofs.Ytmhmfnjbioplhaa.PIntervalSound
