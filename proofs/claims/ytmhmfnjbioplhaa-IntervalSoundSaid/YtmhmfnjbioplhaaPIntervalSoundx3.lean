/- Contracts of Go functions of the given program: where NAME.f answers, the call returns that. Conditions: those each theorem names. -/
import Derived.Test.YtmhmfnjbioplhaaPIntervalSoundx0
import Derived.Test.YtmhmfnjbioplhaaPIntervalSoundx1
import Derived.Test.YtmhmfnjbioplhaaPIntervalSoundx2
namespace Go.Proofs.Ytmhmfnjbioplhaa.PIntervalSound
open Go.RowKit Go.Proofs.YtmhmfnjbioplhaaW.PrintWords Go.Proofs.YtmhmfnjbioplhaaW.PrintLast Go.Proofs.YtmhmfnjbioplhaaW.PrintMore Go.Proofs.Ytmhmfnjbioplhaa.Help
attribute [local go_sem] max2_int min2_int max_two min_two max_three min_three max_four min_four   -- for this text's walks alone
set_option linter.unusedVariables false
set_option linter.unusedSimpArgs false

attribute [local go_sem high] eqA24
/-! ### interval_mul: function 53 -/
def interval_mul.f (a0_0 : Int) (a0_1 : Int) (a1_0 : Int) (a1_1 : Int) : Option (Int × Int) := (bits_Mul32.f a0_1 a1_1).bind fun bt172 => (if bt172.1 = 0 then (some ((a0_0 * a1_0) % 4294967296, (a0_1 * a1_1) % 4294967296)) else ((interval_All.f).bind fun bt174 => (some (bt174.1, bt174.2))))
set_option maxHeartbeats 8000000 in
set_option maxRecDepth 100000 in
theorem interval_mul.calls (a0_0 : Int) (a0_1 : Int) (a1_0 : Int) (a1_1 : Int) (r1 : Int) (r2 : Int) (w : World) (h : interval_mul.f a0_0 a0_1 a1_0 a1_1 = some (r1, r2)) :
    Calls Try.prog 53 #[.agg #[.int .u32 a0_0, .int .u32 a0_1], .agg #[.int .u32 a1_0, .int .u32 a1_1]] w fun e w' => e = .returned (.agg #[.int .u32 r1, .int .u32 r2]) ∧ Below w.heap.size w w' := by
  have hu24 := Try.underlying24
  have HB := am (Below.refl w.heap.size w)
  have H : ((bits_Mul32.f a0_1 a1_1).bind fun bt172 => (if bt172.1 = 0 then (some ((a0_0 * a1_0) % 4294967296, (a0_1 * a1_1) % 4294967296)) else ((interval_All.f).bind fun bt174 => (some (bt174.1, bt174.2))))) = some (r1, r2) := h
  clear h
  replace H := Option.bind_eq_some_iff.mp H
  obtain ⟨⟨t172, t173⟩, A30, H⟩ := H
  replace H : (if t172 = 0 then (some ((a0_0 * a1_0) % 4294967296, (a0_1 * a1_1) % 4294967296)) else ((interval_All.f).bind fun bt174 => (some (bt174.1, bt174.2)))) = some (r1, r2) := H
  have A3 := am A30
  clear A30
  by_cases c4 : t172 = 0
  · rw [if_pos c4] at H
    have c4b0 : (t172 == 0) = true := beq_iff_eq.mpr c4
    have c4b1 : (t172 != 0) = false := bne_eq_false_iff_eq.mpr c4
    clear c4
    simp only [Option.some.injEq, Prod.mk.injEq] at H
    obtain ⟨rfl, rfl⟩ := H
    go_enter Try.func53, Try.ntmps53
    go_wp2_with (first | ((with_reducible refine gate_dst (N := 2) rfl ?_); refine bxE 2 #[.int .u32 a0_0, .int .u32 a0_1] 24 ?_; intro gb169 hg w5 hbox hb; have n0_ := am (below_step (hbA HB) hb); have n1_ := am (hbox); have n2_ := gwA hg HB; have n3_ := gwA hg HB; clear HB; have HB := n0_; have BK169 := n1_; have GW169 := n2_; have GE169 := n3_; clear n0_ n1_ n2_ n3_; clear hb hbox hg) | ((with_reducible refine gate_dst (N := 3) rfl ?_); refine bxE 3 #[.int .u32 a1_0, .int .u32 a1_1] 24 ?_; intro gb170 hg w6 hbox hb; have n0_ := am (blk_below (g := gb169) (o := .cells #[.int .u32 a0_0, .int .u32 a0_1] 24 (0, 0)) (bkA BK169) hb); have n1_ := am (below_step (hbA HB) hb); have n2_ := am (hbox); have n3_ := gwA hg HB; have n4_ := gwA hg HB; have n5_ := ltA hg BK169; have n6_ := gtA hg BK169; clear BK169; clear HB; have BK169 := n0_; have HB := n1_; have BK170 := n2_; have GW170 := n3_; have GE170 := n4_; have NB169_170 := n5_; have NB170_169 := n6_; clear n0_ n1_ n2_ n3_ n4_ n5_ n6_; clear hb hbox hg) | ((with_reducible refine gate_dst (N := 4) rfl ?_); refine bxE 4 #[.int .u32 0, .int .u32 0] 24 ?_; intro gb171 hg w7 hbox hb; have n0_ := am (blk_below (g := gb169) (o := .cells #[.int .u32 a0_0, .int .u32 a0_1] 24 (0, 0)) (bkA BK169) hb); have n1_ := am (blk_below (g := gb170) (o := .cells #[.int .u32 a1_0, .int .u32 a1_1] 24 (0, 0)) (bkA BK170) hb); have n2_ := am (below_step (hbA HB) hb); have n3_ := am (hbox); have n4_ := gwA hg HB; have n5_ := gwA hg HB; have n6_ := ltA hg BK169; have n7_ := gtA hg BK169; have n8_ := ltA hg BK170; have n9_ := gtA hg BK170; clear BK169; clear BK170; clear HB; have BK169 := n0_; have BK170 := n1_; have HB := n2_; have BK171 := n3_; have GW171 := n4_; have GE171 := n5_; have NB169_171 := n6_; have NB171_169 := n7_; have NB170_171 := n8_; have NB171_170 := n9_; clear n0_ n1_ n2_ n3_ n4_ n5_ n6_ n7_ n8_ n9_; clear hb hbox hg; have hnb8 := NB169_170.out; have hnc8 := NB170_169.out; have hnb9 := NB169_171.out; have hnc9 := NB171_169.out; have hcz10_0 : w7.cell? ⟨gb169, 0, none⟩ = some (.int .u32 a0_0) := cz BK169; have hcz10_1 : w7.cell? ⟨gb169, 1, none⟩ = some (.int .u32 a0_1) := cz BK169; have hfz10_0 := blk_frozen BK169.out 0; have hfz10_1 := blk_frozen BK169.out 1; have hnb11 := NB170_171.out; have hnc11 := NB171_170.out; have hcz12_0 : w7.cell? ⟨gb170, 0, none⟩ = some (.int .u32 a1_0) := cz BK170; have hcz12_1 : w7.cell? ⟨gb170, 1, none⟩ = some (.int .u32 a1_1) := cz BK170; have hfz12_0 := blk_frozen BK170.out 0; have hfz12_1 := blk_frozen BK170.out 1) | ((with_reducible refine gate_callee (f := 75) rfl ?_); refine goesL_ (some 12) rfl rfl Try.func75 (by kernel_rfl) rfl #[.int .u32 a0_1, .int .u32 a1_1] rfl (by (try simp only [List.map_toArray, List.map_cons, List.map_nil]); first | done | rfl | (simp only [List.length_drop, List.length_take]; rfl)) ?_; (with_reducible refine (bits_Mul32.calls a0_1 a1_1 t172 t173 _ A3.out).mono ?_); rintro e w' ⟨rfl, ⟨nd, rfl⟩⟩; refine ⟨_, rfl, ?_⟩; (try (rw [drewN_self w7]; generalize hq_ : World.drewN w7 _ = w7; have n0_ : Aside0 (w7.heap[gb169]? = some (.cells #[.int .u32 a0_0, .int .u32 a0_1] 24 (0, 0))) := ⟨by rw [← hq_]; exact (bkA BK169)⟩; have n1_ : Aside0 (w7.heap[gb170]? = some (.cells #[.int .u32 a1_0, .int .u32 a1_1] 24 (0, 0))) := ⟨by rw [← hq_]; exact (bkA BK170)⟩; have n2_ : Aside0 (w7.heap[gb171]? = some (.cells #[.int .u32 0, .int .u32 0] 24 (0, 0))) := ⟨by rw [← hq_]; exact (bkA BK171)⟩; have n3_ : Aside0 (Below w.heap.size w w7) := ⟨by rw [← hq_]; exact (hbA HB)⟩; clear BK169 BK170 BK171 HB hq_; have BK169 := n0_; have BK170 := n1_; have BK171 := n2_; have HB := n3_; clear n0_ n1_ n2_ n3_; clear hcz10_0; have hcz10_0 : w7.cell? ⟨gb169, 0, none⟩ = some (.int .u32 a0_0) := cz BK169; clear hfz10_0; have hfz10_0 := blk_frozen BK169.out 0; clear hcz10_1; have hcz10_1 : w7.cell? ⟨gb169, 1, none⟩ = some (.int .u32 a0_1) := cz BK169; clear hfz10_1; have hfz10_1 := blk_frozen BK169.out 1; clear hcz12_0; have hcz12_0 : w7.cell? ⟨gb170, 0, none⟩ = some (.int .u32 a1_0) := cz BK170; clear hfz12_0; have hfz12_0 := blk_frozen BK170.out 0; clear hcz12_1; have hcz12_1 : w7.cell? ⟨gb170, 1, none⟩ = some (.int .u32 a1_1) := cz BK170; clear hfz12_1; have hfz12_1 := blk_frozen BK170.out 1)); have hcz13_0 : w7.cell? ⟨gb171, 0, none⟩ = some (.int .u32 0) := cz BK171; have hcz13_1 : w7.cell? ⟨gb171, 1, none⟩ = some (.int .u32 0) := cz BK171; have hfz13_0 := blk_frozen BK171.out 0; have hfz13_1 := blk_frozen BK171.out 1))
    refine bodyPost_ret (results_cell_row rfl _ _ gb171 24 #[.int .u32 ((a0_0 * a1_0) % 4294967296), .int .u32 ((a0_1 * a1_1) % 4294967296)] (0, 0) _ rfl (by refine bkT ?_; refine blk_put (cs := #[.int .u32 ((a0_0 * a1_0) % 4294967296), .int .u32 0]) ?_ 1 _ rfl; refine bkT ?_; refine blk_put (cs := #[.int .u32 0, .int .u32 0]) ?_ 0 _ rfl; refine bkT ?_; exact BK171.out) Try.underlying24 rfl (by kernel_rfl)) rfl ?_
    exact ⟨by first | rfl | (simp [errW_none, errW_some] <;> rfl) | (simp [*, errW_none, errW_some] <;> rfl), hbA HB⟩
  · rw [if_neg c4] at H
    have c4b0 : (t172 == 0) = false := beq_eq_false_iff_ne.mpr c4
    have c4b1 : (t172 != 0) = true := bne_iff_ne.mpr c4
    replace H := Option.bind_eq_some_iff.mp H
    obtain ⟨⟨t174, t175⟩, A140, H⟩ := H
    replace H : (some (t174, t175)) = some (r1, r2) := H
    have A14 := am A140
    clear A140
    simp only [Option.some.injEq, Prod.mk.injEq] at H
    obtain ⟨rfl, rfl⟩ := H
    go_enter Try.func53, Try.ntmps53
    go_wp2_with (first | ((with_reducible refine gate_dst (N := 2) rfl ?_); refine bxE 2 #[.int .u32 a0_0, .int .u32 a0_1] 24 ?_; intro gb169 hg w15 hbox hb; have n0_ := am (below_step (hbA HB) hb); have n1_ := am (hbox); have n2_ := gwA hg HB; have n3_ := gwA hg HB; clear HB; have HB := n0_; have BK169 := n1_; have GW169 := n2_; have GE169 := n3_; clear n0_ n1_ n2_ n3_; clear hb hbox hg) | ((with_reducible refine gate_dst (N := 3) rfl ?_); refine bxE 3 #[.int .u32 a1_0, .int .u32 a1_1] 24 ?_; intro gb170 hg w16 hbox hb; have n0_ := am (blk_below (g := gb169) (o := .cells #[.int .u32 a0_0, .int .u32 a0_1] 24 (0, 0)) (bkA BK169) hb); have n1_ := am (below_step (hbA HB) hb); have n2_ := am (hbox); have n3_ := gwA hg HB; have n4_ := gwA hg HB; have n5_ := ltA hg BK169; have n6_ := gtA hg BK169; clear BK169; clear HB; have BK169 := n0_; have HB := n1_; have BK170 := n2_; have GW170 := n3_; have GE170 := n4_; have NB169_170 := n5_; have NB170_169 := n6_; clear n0_ n1_ n2_ n3_ n4_ n5_ n6_; clear hb hbox hg) | ((with_reducible refine gate_dst (N := 4) rfl ?_); refine bxE 4 #[.int .u32 0, .int .u32 0] 24 ?_; intro gb171 hg w17 hbox hb; have n0_ := am (blk_below (g := gb169) (o := .cells #[.int .u32 a0_0, .int .u32 a0_1] 24 (0, 0)) (bkA BK169) hb); have n1_ := am (blk_below (g := gb170) (o := .cells #[.int .u32 a1_0, .int .u32 a1_1] 24 (0, 0)) (bkA BK170) hb); have n2_ := am (below_step (hbA HB) hb); have n3_ := am (hbox); have n4_ := gwA hg HB; have n5_ := gwA hg HB; have n6_ := ltA hg BK169; have n7_ := gtA hg BK169; have n8_ := ltA hg BK170; have n9_ := gtA hg BK170; clear BK169; clear BK170; clear HB; have BK169 := n0_; have BK170 := n1_; have HB := n2_; have BK171 := n3_; have GW171 := n4_; have GE171 := n5_; have NB169_171 := n6_; have NB171_169 := n7_; have NB170_171 := n8_; have NB171_170 := n9_; clear n0_ n1_ n2_ n3_ n4_ n5_ n6_ n7_ n8_ n9_; clear hb hbox hg; have hnb18 := NB169_170.out; have hnc18 := NB170_169.out; have hnb19 := NB169_171.out; have hnc19 := NB171_169.out; have hcz20_0 : w17.cell? ⟨gb169, 0, none⟩ = some (.int .u32 a0_0) := cz BK169; have hcz20_1 : w17.cell? ⟨gb169, 1, none⟩ = some (.int .u32 a0_1) := cz BK169; have hfz20_0 := blk_frozen BK169.out 0; have hfz20_1 := blk_frozen BK169.out 1; have hnb21 := NB170_171.out; have hnc21 := NB171_170.out; have hcz22_0 : w17.cell? ⟨gb170, 0, none⟩ = some (.int .u32 a1_0) := cz BK170; have hcz22_1 : w17.cell? ⟨gb170, 1, none⟩ = some (.int .u32 a1_1) := cz BK170; have hfz22_0 := blk_frozen BK170.out 0; have hfz22_1 := blk_frozen BK170.out 1) | ((with_reducible refine gate_callee (f := 75) rfl ?_); refine goesL_ (some 12) rfl rfl Try.func75 (by kernel_rfl) rfl #[.int .u32 a0_1, .int .u32 a1_1] rfl (by (try simp only [List.map_toArray, List.map_cons, List.map_nil]); first | done | rfl | (simp only [List.length_drop, List.length_take]; rfl)) ?_; (with_reducible refine (bits_Mul32.calls a0_1 a1_1 t172 t173 _ A3.out).mono ?_); rintro e w' ⟨rfl, ⟨nd, rfl⟩⟩; refine ⟨_, rfl, ?_⟩; (try (rw [drewN_self w17]; generalize hq_ : World.drewN w17 _ = w17; have n0_ : Aside0 (w17.heap[gb169]? = some (.cells #[.int .u32 a0_0, .int .u32 a0_1] 24 (0, 0))) := ⟨by rw [← hq_]; exact (bkA BK169)⟩; have n1_ : Aside0 (w17.heap[gb170]? = some (.cells #[.int .u32 a1_0, .int .u32 a1_1] 24 (0, 0))) := ⟨by rw [← hq_]; exact (bkA BK170)⟩; have n2_ : Aside0 (w17.heap[gb171]? = some (.cells #[.int .u32 0, .int .u32 0] 24 (0, 0))) := ⟨by rw [← hq_]; exact (bkA BK171)⟩; have n3_ : Aside0 (Below w.heap.size w w17) := ⟨by rw [← hq_]; exact (hbA HB)⟩; clear BK169 BK170 BK171 HB hq_; have BK169 := n0_; have BK170 := n1_; have BK171 := n2_; have HB := n3_; clear n0_ n1_ n2_ n3_; clear hcz20_0; have hcz20_0 : w17.cell? ⟨gb169, 0, none⟩ = some (.int .u32 a0_0) := cz BK169; clear hfz20_0; have hfz20_0 := blk_frozen BK169.out 0; clear hcz20_1; have hcz20_1 : w17.cell? ⟨gb169, 1, none⟩ = some (.int .u32 a0_1) := cz BK169; clear hfz20_1; have hfz20_1 := blk_frozen BK169.out 1; clear hcz22_0; have hcz22_0 : w17.cell? ⟨gb170, 0, none⟩ = some (.int .u32 a1_0) := cz BK170; clear hfz22_0; have hfz22_0 := blk_frozen BK170.out 0; clear hcz22_1; have hcz22_1 : w17.cell? ⟨gb170, 1, none⟩ = some (.int .u32 a1_1) := cz BK170; clear hfz22_1; have hfz22_1 := blk_frozen BK170.out 1))) | ((with_reducible refine gate_callee (f := 19) rfl ?_); refine goesL_ (some 17) rfl rfl Try.func19 (by kernel_rfl) rfl #[] rfl (by (try simp only [List.map_toArray, List.map_cons, List.map_nil]); first | done | rfl | (simp only [List.length_drop, List.length_take]; rfl)) ?_; (with_reducible refine (interval_All.calls  t174 t175 _ A14.out).mono ?_); rintro e w23 ⟨rfl, hb⟩; refine ⟨_, rfl, ?_⟩; have n0_ := am (blk_below (g := gb169) (o := .cells #[.int .u32 a0_0, .int .u32 a0_1] 24 (0, 0)) (bkA BK169) hb); have n1_ := am (blk_below (g := gb170) (o := .cells #[.int .u32 a1_0, .int .u32 a1_1] 24 (0, 0)) (bkA BK170) hb); have n2_ := am (blk_below (g := gb171) (o := .cells #[.int .u32 0, .int .u32 0] 24 (0, 0)) (bkA BK171) hb); have n3_ := am (below_step (hbA HB) hb); clear BK169; clear BK170; clear BK171; clear HB; have BK169 := n0_; have BK170 := n1_; have BK171 := n2_; have HB := n3_; clear n0_ n1_ n2_ n3_; (try clear hb); (try clear hb2); (try clear hk); (try clear hi); have hcz24_0 : w23.cell? ⟨gb171, 0, none⟩ = some (.int .u32 0) := cz BK171; have hcz24_1 : w23.cell? ⟨gb171, 1, none⟩ = some (.int .u32 0) := cz BK171; have hfz24_0 := blk_frozen BK171.out 0; have hfz24_1 := blk_frozen BK171.out 1))
    refine bodyPost_ret (results_cell_row rfl _ _ gb171 24 #[.int .u32 t174, .int .u32 t175] (0, 0) _ rfl (by refine bkT ?_; refine blk_put (cs := #[.int .u32 t174, .int .u32 0]) ?_ 1 _ rfl; refine bkT ?_; refine blk_put (cs := #[.int .u32 0, .int .u32 0]) ?_ 0 _ rfl; refine bkT ?_; exact BK171.out) Try.underlying24 rfl (by kernel_rfl)) rfl ?_
    exact ⟨by first | rfl | (simp [errW_none, errW_some] <;> rfl) | (simp [*, errW_none, errW_some] <;> rfl), hbA HB⟩

/-! ### interval_noZero: function 76 -/
def interval_noZero.f (a0_0 : Int) (a0_1 : Int) : Option (Int × Int × Bool) := if a0_1 = 0 then (some (a0_0, a0_1, false)) else (some (mx 1 a0_0, a0_1, true))
set_option maxHeartbeats 8000000 in
set_option maxRecDepth 100000 in
theorem interval_noZero.calls (a0_0 : Int) (a0_1 : Int) (r1 : Int) (r2 : Int) (r3 : Bool) (w : World) (h : interval_noZero.f a0_0 a0_1 = some (r1, r2, r3)) :
    Calls Try.prog 76 #[.agg #[.int .u32 a0_0, .int .u32 a0_1]] w fun e w' => e = .returned (.tuple #[.agg #[.int .u32 r1, .int .u32 r2], .bool r3]) ∧ Below w.heap.size w w' := by
  have hu24 := Try.underlying24
  have HB := am (Below.refl w.heap.size w)
  have H : (if a0_1 = 0 then (some (a0_0, a0_1, false)) else (some (mx 1 a0_0, a0_1, true))) = some (r1, r2, r3) := h
  clear h
  by_cases c2 : a0_1 = 0
  · rw [if_pos c2] at H
    have c2b0 : (a0_1 == 0) = true := beq_iff_eq.mpr c2
    have c2b1 : (a0_1 != 0) = false := bne_eq_false_iff_eq.mpr c2
    clear c2
    simp only [Option.some.injEq, Prod.mk.injEq] at H
    obtain ⟨rfl, rfl, rfl⟩ := H
    go_enter Try.func76, Try.ntmps76
    go_wp2_with (first | ((with_reducible refine gate_dst (N := 1) rfl ?_); refine bxE 1 #[.int .u32 a0_0, .int .u32 a0_1] 24 ?_; intro gb176 hg w3 hbox hb; have n0_ := am (below_step (hbA HB) hb); have n1_ := am (hbox); have n2_ := gwA hg HB; have n3_ := gwA hg HB; clear HB; have HB := n0_; have BK176 := n1_; have GW176 := n2_; have GE176 := n3_; clear n0_ n1_ n2_ n3_; clear hb hbox hg) | ((with_reducible refine gate_dst (N := 2) rfl ?_); refine bxE 2 #[.int .u32 0, .int .u32 0] 24 ?_; intro gb177 hg w4 hbox hb; have n0_ := am (blk_below (g := gb176) (o := .cells #[.int .u32 a0_0, .int .u32 a0_1] 24 (0, 0)) (bkA BK176) hb); have n1_ := am (below_step (hbA HB) hb); have n2_ := am (hbox); have n3_ := gwA hg HB; have n4_ := gwA hg HB; have n5_ := ltA hg BK176; have n6_ := gtA hg BK176; clear BK176; clear HB; have BK176 := n0_; have HB := n1_; have BK177 := n2_; have GW177 := n3_; have GE177 := n4_; have NB176_177 := n5_; have NB177_176 := n6_; clear n0_ n1_ n2_ n3_ n4_ n5_ n6_; clear hb hbox hg; have hnb5 := NB176_177.out; have hnc5 := NB177_176.out; have hcz6_0 : w4.cell? ⟨gb176, 0, none⟩ = some (.int .u32 a0_0) := cz BK176; have hcz6_1 : w4.cell? ⟨gb176, 1, none⟩ = some (.int .u32 a0_1) := cz BK176; have hfz6_0 := blk_frozen BK176.out 0; have hfz6_1 := blk_frozen BK176.out 1; have hcz7_0 : w4.cell? ⟨gb177, 0, none⟩ = some (.int .u32 0) := cz BK177; have hcz7_1 : w4.cell? ⟨gb177, 1, none⟩ = some (.int .u32 0) := cz BK177; have hfz7_0 := blk_frozen BK177.out 0; have hfz7_1 := blk_frozen BK177.out 1))
    refine bodyPost_ret (results_ct rfl _ _ gb177 24 #[.int .u32 a0_0, .int .u32 a0_1] (0, 0) _ rfl (by refine bkT ?_; refine blk_put (cs := #[.int .u32 a0_0, .int .u32 0]) ?_ 1 _ rfl; refine bkT ?_; refine blk_put (cs := #[.int .u32 0, .int .u32 0]) ?_ 0 _ rfl; refine bkT ?_; exact BK177.out) Try.underlying24 rfl (by kernel_rfl)) rfl ?_
    exact ⟨by first | rfl | (simp [errW_none, errW_some] <;> rfl) | (simp [*, errW_none, errW_some] <;> rfl), hbA HB⟩
  · rw [if_neg c2] at H
    have c2b0 : (a0_1 == 0) = false := beq_eq_false_iff_ne.mpr c2
    have c2b1 : (a0_1 != 0) = true := bne_iff_ne.mpr c2
    obtain ⟨ji8, hji8⟩ : ∃ j_ : Int, (mx 1 a0_0) = j_ := ⟨_, rfl⟩
    replace H : (some (ji8, a0_1, true)) = some (r1, r2, r3) := by first | (rw [hji8] at H; exact H) | (simp only [hji8] at H ⊢; exact H)
    (try (have hji8l : 1 ≤ ji8 := by (rw [← hji8]; unfold mx; (repeat' split) <;> omega)))
    (try (have hji8m : 0 ≤ ji8 := by omega))
    have hji8_ : (if 1 < a0_0 then a0_0 else 1) = ji8 := hji8
    simp only [Option.some.injEq, Prod.mk.injEq] at H
    obtain ⟨rfl, rfl, rfl⟩ := H
    go_enter Try.func76, Try.ntmps76
    go_wp2_with (first | ((with_reducible refine gate_dst (N := 1) rfl ?_); refine bxE 1 #[.int .u32 a0_0, .int .u32 a0_1] 24 ?_; intro gb176 hg w9 hbox hb; have n0_ := am (below_step (hbA HB) hb); have n1_ := am (hbox); have n2_ := gwA hg HB; have n3_ := gwA hg HB; clear HB; have HB := n0_; have BK176 := n1_; have GW176 := n2_; have GE176 := n3_; clear n0_ n1_ n2_ n3_; clear hb hbox hg) | ((with_reducible refine gate_dst (N := 2) rfl ?_); refine bxE 2 #[.int .u32 0, .int .u32 0] 24 ?_; intro gb177 hg w10 hbox hb; have n0_ := am (blk_below (g := gb176) (o := .cells #[.int .u32 a0_0, .int .u32 a0_1] 24 (0, 0)) (bkA BK176) hb); have n1_ := am (below_step (hbA HB) hb); have n2_ := am (hbox); have n3_ := gwA hg HB; have n4_ := gwA hg HB; have n5_ := ltA hg BK176; have n6_ := gtA hg BK176; clear BK176; clear HB; have BK176 := n0_; have HB := n1_; have BK177 := n2_; have GW177 := n3_; have GE177 := n4_; have NB176_177 := n5_; have NB177_176 := n6_; clear n0_ n1_ n2_ n3_ n4_ n5_ n6_; clear hb hbox hg; have hnb11 := NB176_177.out; have hnc11 := NB177_176.out; have hcz12_0 : w10.cell? ⟨gb176, 0, none⟩ = some (.int .u32 a0_0) := cz BK176; have hcz12_1 : w10.cell? ⟨gb176, 1, none⟩ = some (.int .u32 a0_1) := cz BK176; have hfz12_0 := blk_frozen BK176.out 0; have hfz12_1 := blk_frozen BK176.out 1; have hcz13_0 : w10.cell? ⟨gb177, 0, none⟩ = some (.int .u32 0) := cz BK177; have hcz13_1 : w10.cell? ⟨gb177, 1, none⟩ = some (.int .u32 0) := cz BK177; have hfz13_0 := blk_frozen BK177.out 0; have hfz13_1 := blk_frozen BK177.out 1))
    refine bodyPost_ret (results_ct rfl _ _ gb177 24 #[.int .u32 ji8, .int .u32 a0_1] (0, 0) _ rfl (by refine bkT ?_; refine blk_put (cs := #[.int .u32 ji8, .int .u32 0]) ?_ 1 _ rfl; refine bkT ?_; refine blk_put (cs := #[.int .u32 0, .int .u32 0]) ?_ 0 _ rfl; refine bkT ?_; exact BK177.out) Try.underlying24 rfl (by kernel_rfl)) rfl ?_
    exact ⟨by first | rfl | (simp [errW_none, errW_some] <;> rfl) | (simp only [← hji8]; first | rfl | (simp [errW_none, errW_some] <;> rfl)) | (simp [*, errW_none, errW_some] <;> rfl), hbA HB⟩

/-! ### interval_div: function 54 -/
def interval_div.f (a0_0 : Int) (a0_1 : Int) (a1_0 : Int) (a1_1 : Int) : Option (Int × Int × Bool) := (interval_noZero.f a1_0 a1_1).bind fun bt181 => (if bt181.2.2 = true then (if bt181.2.1 = 0 then (none) else (if bt181.1 = 0 then (none) else (some ((Int.tdiv a0_0 bt181.2.1) % 4294967296, (Int.tdiv a0_1 bt181.1) % 4294967296, true)))) else (some (0, 0, false)))
def interval_div.T4 : Bool × List (List Nat × List Nat) := (true, [([], []), ([0], [0]), ([], []), ([2], [2]), ([1, 3], [1, 3]), ([], []), ([5], [5]), ([], []), ([7], [7]), ([6, 8], [6, 8]), ([4, 9], [4, 9]), ([10, 0, 1, 2, 3, 4, 5, 6, 7, 8, 9, 10], [10]), ([11, 0, 1, 2, 3, 4, 5, 6, 7, 8, 9, 10, 11], [])])
def interval_div.B4 : List Nat := [0, 1, 0, 4, 15, 0, 32, 0, 128, 480, 1023, 2047, 4095]
theorem interval_div.tab4 : rtab .any (opsOf Try.f54 4) = interval_div.T4 := by kernel_rfl
theorem interval_div.bits4 : waitsOk interval_div.T4.2 interval_div.B4 = true := by kernel_rfl
set_option maxHeartbeats 8000000 in
set_option maxRecDepth 100000 in
theorem interval_div.calls (a0_0 : Int) (a0_1 : Int) (a1_0 : Int) (a1_1 : Int) (r1 : Int) (r2 : Int) (r3 : Bool) (w : World) (h : interval_div.f a0_0 a0_1 a1_0 a1_1 = some (r1, r2, r3)) :
    Calls Try.prog 54 #[.agg #[.int .u32 a0_0, .int .u32 a0_1], .agg #[.int .u32 a1_0, .int .u32 a1_1]] w fun e w' => e = .returned (.tuple #[.agg #[.int .u32 r1, .int .u32 r2], .bool r3]) ∧ Below w.heap.size w w' := by
  have hu24 := Try.underlying24
  have HB := am (Below.refl w.heap.size w)
  have H : ((interval_noZero.f a1_0 a1_1).bind fun bt181 => (if bt181.2.2 = true then (if bt181.2.1 = 0 then (none) else (if bt181.1 = 0 then (none) else (some ((Int.tdiv a0_0 bt181.2.1) % 4294967296, (Int.tdiv a0_1 bt181.1) % 4294967296, true)))) else (some (0, 0, false)))) = some (r1, r2, r3) := h
  clear h
  replace H := Option.bind_eq_some_iff.mp H
  obtain ⟨⟨t181, t182, t183⟩, A30, H⟩ := H
  replace H : (if t183 = true then (if t182 = 0 then (none) else (if t181 = 0 then (none) else (some ((Int.tdiv a0_0 t182) % 4294967296, (Int.tdiv a0_1 t181) % 4294967296, true)))) else (some (0, 0, false))) = some (r1, r2, r3) := H
  have A3 := am A30
  clear A30
  by_cases c4 : t183 = true
  · subst c4
    have H1 : (if t182 = 0 then (none) else (if t181 = 0 then (none) else (some ((Int.tdiv a0_0 t182) % 4294967296, (Int.tdiv a0_1 t181) % 4294967296, true)))) = some (r1, r2, r3) := by rw [if_pos rfl] at H; exact H
    clear H
    have H := H1
    clear H1
    by_cases c5 : t182 = 0
    · rw [if_pos c5] at H
      exact absurd H (by simp)
    · rw [if_neg c5] at H
      have c5b0 : (t182 == 0) = false := beq_eq_false_iff_ne.mpr c5
      have c5b1 : (t182 != 0) = true := bne_iff_ne.mpr c5
      by_cases c6 : t181 = 0
      · rw [if_pos c6] at H
        exact absurd H (by simp)
      · rw [if_neg c6] at H
        have c6b0 : (t181 == 0) = false := beq_eq_false_iff_ne.mpr c6
        have c6b1 : (t181 != 0) = true := bne_iff_ne.mpr c6
        simp only [Option.some.injEq, Prod.mk.injEq] at H
        obtain ⟨rfl, rfl, rfl⟩ := H
        go_enter Try.func54, Try.ntmps54
        try go_wp2_with (first | ((with_reducible refine gate_dst (N := 2) rfl ?_); refine bxE 2 #[.int .u32 a0_0, .int .u32 a0_1] 24 ?_; intro gb178 hg w7 hbox hb; have n0_ := am (below_step (hbA HB) hb); have n1_ := am (hbox); have n2_ := gwA hg HB; have n3_ := gwA hg HB; clear HB; have HB := n0_; have BK178 := n1_; have GW178 := n2_; have GE178 := n3_; clear n0_ n1_ n2_ n3_; clear hb hbox hg) | ((with_reducible refine gate_dst (N := 3) rfl ?_); refine bxE 3 #[.int .u32 a1_0, .int .u32 a1_1] 24 ?_; intro gb179 hg w8 hbox hb; have n0_ := am (blk_below (g := gb178) (o := .cells #[.int .u32 a0_0, .int .u32 a0_1] 24 (0, 0)) (bkA BK178) hb); have n1_ := am (below_step (hbA HB) hb); have n2_ := am (hbox); have n3_ := gwA hg HB; have n4_ := gwA hg HB; have n5_ := ltA hg BK178; have n6_ := gtA hg BK178; clear BK178; clear HB; have BK178 := n0_; have HB := n1_; have BK179 := n2_; have GW179 := n3_; have GE179 := n4_; have NB178_179 := n5_; have NB179_178 := n6_; clear n0_ n1_ n2_ n3_ n4_ n5_ n6_; clear hb hbox hg) | ((with_reducible refine gate_dst (N := 4) rfl ?_); refine bxE 4 #[.int .u32 0, .int .u32 0] 24 ?_; intro gb180 hg w9 hbox hb; have n0_ := am (blk_below (g := gb178) (o := .cells #[.int .u32 a0_0, .int .u32 a0_1] 24 (0, 0)) (bkA BK178) hb); have n1_ := am (blk_below (g := gb179) (o := .cells #[.int .u32 a1_0, .int .u32 a1_1] 24 (0, 0)) (bkA BK179) hb); have n2_ := am (below_step (hbA HB) hb); have n3_ := am (hbox); have n4_ := gwA hg HB; have n5_ := gwA hg HB; have n6_ := ltA hg BK178; have n7_ := gtA hg BK178; have n8_ := ltA hg BK179; have n9_ := gtA hg BK179; clear BK178; clear BK179; clear HB; have BK178 := n0_; have BK179 := n1_; have HB := n2_; have BK180 := n3_; have GW180 := n4_; have GE180 := n5_; have NB178_180 := n6_; have NB180_178 := n7_; have NB179_180 := n8_; have NB180_179 := n9_; clear n0_ n1_ n2_ n3_ n4_ n5_ n6_ n7_ n8_ n9_; clear hb hbox hg; have hnb10 := NB179_178.out; have hnc10 := NB178_179.out; have hnb11 := NB179_180.out; have hnc11 := NB180_179.out; have hcz12_0 : w9.cell? ⟨gb179, 0, none⟩ = some (.int .u32 a1_0) := cz BK179; have hcz12_1 : w9.cell? ⟨gb179, 1, none⟩ = some (.int .u32 a1_1) := cz BK179; have hfz12_0 := blk_frozen BK179.out 0; have hfz12_1 := blk_frozen BK179.out 1) | ((with_reducible refine gate_callee (f := 76) rfl ?_); refine goesL_ (some 10) rfl rfl Try.func76 (by kernel_rfl) rfl #[.agg #[.int .u32 a1_0, .int .u32 a1_1]] rfl (by (try simp only [List.map_toArray, List.map_cons, List.map_nil]); first | done | rfl | (simp only [List.length_drop, List.length_take]; rfl)) ?_; (with_reducible refine (interval_noZero.calls a1_0 a1_1 t181 t182 true _ A3.out).mono ?_); rintro e w13 ⟨rfl, hb⟩; refine ⟨_, rfl, ?_⟩; have n0_ := am (blk_below (g := gb178) (o := .cells #[.int .u32 a0_0, .int .u32 a0_1] 24 (0, 0)) (bkA BK178) hb); have n1_ := am (blk_below (g := gb179) (o := .cells #[.int .u32 a1_0, .int .u32 a1_1] 24 (0, 0)) (bkA BK179) hb); have n2_ := am (blk_below (g := gb180) (o := .cells #[.int .u32 0, .int .u32 0] 24 (0, 0)) (bkA BK180) hb); have n3_ := am (below_step (hbA HB) hb); clear BK178; clear BK179; clear BK180; clear HB; have BK178 := n0_; have BK179 := n1_; have BK180 := n2_; have HB := n3_; clear n0_ n1_ n2_ n3_; (try clear hb); (try clear hb2); (try clear hk); (try clear hi)) | ((with_reducible refine gate_dst (N := 6) rfl ?_); refine bxE 6 #[.int .u32 0, .int .u32 0] 24 ?_; intro gb184 hg w14 hbox hb; have n0_ := am (blk_below (g := gb178) (o := .cells #[.int .u32 a0_0, .int .u32 a0_1] 24 (0, 0)) (bkA BK178) hb); have n1_ := am (blk_below (g := gb179) (o := .cells #[.int .u32 a1_0, .int .u32 a1_1] 24 (0, 0)) (bkA BK179) hb); have n2_ := am (blk_below (g := gb180) (o := .cells #[.int .u32 0, .int .u32 0] 24 (0, 0)) (bkA BK180) hb); have n3_ := am (below_step (hbA HB) hb); have n4_ := am (hbox); have n5_ := gwA hg HB; have n6_ := gwA hg HB; have n7_ := ltA hg BK178; have n8_ := gtA hg BK178; have n9_ := ltA hg BK179; have n10_ := gtA hg BK179; have n11_ := ltA hg BK180; have n12_ := gtA hg BK180; clear BK178; clear BK179; clear BK180; clear HB; have BK178 := n0_; have BK179 := n1_; have BK180 := n2_; have HB := n3_; have BK184 := n4_; have GW184 := n5_; have GE184 := n6_; have NB178_184 := n7_; have NB184_178 := n8_; have NB179_184 := n9_; have NB184_179 := n10_; have NB180_184 := n11_; have NB184_180 := n12_; clear n0_ n1_ n2_ n3_ n4_ n5_ n6_ n7_ n8_ n9_ n10_ n11_ n12_; clear hb hbox hg; have hnb15 := NB184_178.out; have hnc15 := NB178_184.out; have hnb16 := NB184_179.out; have hnc16 := NB179_184.out; have hnb17 := NB184_180.out; have hnc17 := NB180_184.out; have hcz18_0 : w14.cell? ⟨gb184, 0, none⟩ = some (.int .u32 0) := cz BK184; have hcz18_1 : w14.cell? ⟨gb184, 1, none⟩ = some (.int .u32 0) := cz BK184; have hfz18_0 := blk_frozen BK184.out 0; have hfz18_1 := blk_frozen BK184.out 1))
        have n0_ : Aside0 (((w14.setCell ⟨gb184, 0, none⟩ (.int .u32 t181)).setCell ⟨gb184, 1, none⟩ (.int .u32 t182)).heap[gb178]? = some (.cells #[.int .u32 a0_0, .int .u32 a0_1] 24 (0, 0))) := ⟨by refine bkT ?_; refine blk_far ?_ NB178_184.out _; refine bkT ?_; refine blk_far ?_ NB178_184.out _; refine bkT ?_; exact BK178.out⟩
        have n1_ : Aside0 (((w14.setCell ⟨gb184, 0, none⟩ (.int .u32 t181)).setCell ⟨gb184, 1, none⟩ (.int .u32 t182)).heap[gb179]? = some (.cells #[.int .u32 a1_0, .int .u32 a1_1] 24 (0, 0))) := ⟨by refine bkT ?_; refine blk_far ?_ NB179_184.out _; refine bkT ?_; refine blk_far ?_ NB179_184.out _; refine bkT ?_; exact BK179.out⟩
        have n2_ : Aside0 (((w14.setCell ⟨gb184, 0, none⟩ (.int .u32 t181)).setCell ⟨gb184, 1, none⟩ (.int .u32 t182)).heap[gb180]? = some (.cells #[.int .u32 0, .int .u32 0] 24 (0, 0))) := ⟨by refine bkT ?_; refine blk_far ?_ NB180_184.out _; refine bkT ?_; refine blk_far ?_ NB180_184.out _; refine bkT ?_; exact BK180.out⟩
        have n3_ : Aside0 (((w14.setCell ⟨gb184, 0, none⟩ (.int .u32 t181)).setCell ⟨gb184, 1, none⟩ (.int .u32 t182)).heap[gb184]? = some (.cells #[.int .u32 t181, .int .u32 t182] 24 (0, 0))) := ⟨by refine bkT ?_; refine blk_put (cs := #[.int .u32 t181, .int .u32 0]) ?_ 1 _ rfl; refine bkT ?_; refine blk_put (cs := #[.int .u32 0, .int .u32 0]) ?_ 0 _ rfl; refine bkT ?_; exact BK184.out⟩
        have n4_ : Aside0 (Below w.heap.size w ((w14.setCell ⟨gb184, 0, none⟩ (.int .u32 t181)).setCell ⟨gb184, 1, none⟩ (.int .u32 t182))) := ⟨by repeat (first | (with_reducible first | exact HB.out | apply below_alloc | apply pw_below_drewN | apply below_drew1 | refine below_set ?_ GE178.out | refine below_set ?_ GE179.out | refine below_set ?_ GE180.out | refine below_set ?_ GE184.out) | exact HB.out)⟩
        (try clear BK178)
        (try clear BK179)
        (try clear BK180)
        (try clear BK184)
        (try clear HB)
        generalize ((w14.setCell ⟨gb184, 0, none⟩ (.int .u32 t181)).setCell ⟨gb184, 1, none⟩ (.int .u32 t182)) = w19 at n0_ n1_ n2_ n3_ n4_ ⊢
        have BK178 := n0_
        have BK179 := n1_
        have BK180 := n2_
        have BK184 := n3_
        have HB := n4_
        clear n0_ n1_ n2_ n3_ n4_
        have n0_ := am (blk_drew BK178.out)
        have n1_ := am (blk_drew BK179.out)
        have n2_ := am (blk_drew BK180.out)
        have n3_ := am (blk_drew BK184.out)
        have n4_ := am (below_drew1 HB.out)
        clear BK178
        clear BK179
        clear BK180
        clear BK184
        clear HB
        have BK178 := n0_
        have BK179 := n1_
        have BK180 := n2_
        have BK184 := n3_
        have HB := n4_
        clear n0_ n1_ n2_ n3_ n4_
        refine start_ (n := 13) (S := fun w' => w'.cell? ⟨gb178, 0, none⟩ = some (.int .u32 a0_0) ∧ w'.cell? ⟨gb178, 1, none⟩ = some (.int .u32 a0_1) ∧ w'.cell? ⟨gb184, 0, none⟩ = some (.int .u32 t181) ∧ w'.cell? ⟨gb184, 1, none⟩ = some (.int .u32 t182)) (ds := []) #[false, false, false, false, false, false, false, false, false, false, false, false, false] (by kernel_rfl) rfl rfl ⟨(blk_cell BK178.out 0).trans rfl, (blk_cell BK178.out 1).trans rfl, (blk_cell BK184.out 0).trans rfl, (blk_cell BK184.out 1).trans rfl⟩ (fun hHeld => ?_); refine with_tabW interval_div.tab4 interval_div.bits4 (fun HT_ HW_ => ?_)
        generalize w19.drew = w20 at BK178 BK179 BK180 BK184 HB hHeld ⊢
        refine pure_ (i := 0) (N := some 16) (v := ?_) (a' := ?_) #[true, false, false, false, false, false, false, false, false, false, false, false, false] rfl rfl (any_of HT_.out (by kernel_rfl)) (fun _ _ _ h => h) (Or.inl ⟨by rfl, ?_⟩) ?_ ?_
        rotate_left
        · intro w'
          go_simp
          with_reducible rfl
        rotate_left
        · simp only [Act.put, List.setIfInBounds_toArray, List.set_cons_zero, List.set_cons_succ, i64_w, i32_w]
          rfl
        refine pure_ (i := 2) (N := some 18) (v := ?_) (a' := ?_) #[true, false, true, false, false, false, false, false, false, false, false, false, false] rfl rfl (any_of HT_.out (by kernel_rfl)) (fun _ _ _ h => h) (Or.inl ⟨by rfl, ?_⟩) ?_ ?_
        rotate_left
        · intro w'
          go_simp
          with_reducible rfl
        rotate_left
        · simp only [Act.put, List.setIfInBounds_toArray, List.set_cons_zero, List.set_cons_succ, i64_w, i32_w]
          rfl
        refine pure_ (i := 5) (N := some 21) (v := ?_) (a' := ?_) #[true, false, true, false, false, true, false, false, false, false, false, false, false] rfl rfl (any_of HT_.out (by kernel_rfl)) (fun _ _ _ h => h) (Or.inl ⟨by rfl, ?_⟩) ?_ ?_
        rotate_left
        · intro w'
          go_simp
          with_reducible rfl
        rotate_left
        · simp only [Act.put, List.setIfInBounds_toArray, List.set_cons_zero, List.set_cons_succ, i64_w, i32_w]
          rfl
        refine pure_ (i := 7) (N := some 23) (v := ?_) (a' := ?_) #[true, false, true, false, false, true, false, true, false, false, false, false, false] rfl rfl (any_of HT_.out (by kernel_rfl)) (fun _ _ _ h => h) (Or.inl ⟨by rfl, ?_⟩) ?_ ?_
        rotate_left
        · intro w'
          go_simp
          with_reducible rfl
        rotate_left
        · simp only [Act.put, List.setIfInBounds_toArray, List.set_cons_zero, List.set_cons_succ, i64_w, i32_w]
          rfl
        refine take_ (i := 1) (N := some 17) (v := ?_) (a' := ?_) #[true, true, true, false, false, true, false, true, false, false, false, false, false] rfl rfl (take_ofW HT_.out HW_.out (by kernel_rfl)) (fun _ _ _ h => h) (Or.inl ⟨by rfl, ?_⟩) hHeld ?_ ?_
        rotate_left
        · rintro w' ⟨s0, s1, s2, s3⟩
          go_simp
          with_reducible rfl
        rotate_left
        · simp only [Act.put, List.setIfInBounds_toArray, List.set_cons_zero, List.set_cons_succ, i64_w, i32_w]
          rfl
        refine take_ (i := 3) (N := some 19) (v := ?_) (a' := ?_) #[true, true, true, true, false, true, false, true, false, false, false, false, false] rfl rfl (take_ofW HT_.out HW_.out (by kernel_rfl)) (fun _ _ _ h => h) (Or.inl ⟨by rfl, ?_⟩) hHeld ?_ ?_
        rotate_left
        · rintro w' ⟨s0, s1, s2, s3⟩
          go_simp
          with_reducible rfl
        rotate_left
        · simp only [Act.put, List.setIfInBounds_toArray, List.set_cons_zero, List.set_cons_succ, i64_w, i32_w]
          rfl
        refine pure_ (i := 4) (N := some 20) (v := ?_) (a' := ?_) #[true, true, true, true, true, true, false, true, false, false, false, false, false] rfl rfl (any_of HT_.out (by kernel_rfl)) (fun _ _ _ h => h) (Or.inl ⟨by rfl, ?_⟩) ?_ ?_
        rotate_left
        · intro w'
          go_simp
          with_reducible rfl
        rotate_left
        · simp only [Act.put, List.setIfInBounds_toArray, List.set_cons_zero, List.set_cons_succ, i64_w, i32_w]
          rfl
        refine take_ (i := 6) (N := some 22) (v := ?_) (a' := ?_) #[true, true, true, true, true, true, true, true, false, false, false, false, false] rfl rfl (take_ofW HT_.out HW_.out (by kernel_rfl)) (fun _ _ _ h => h) (Or.inl ⟨by rfl, ?_⟩) hHeld ?_ ?_
        rotate_left
        · rintro w' ⟨s0, s1, s2, s3⟩
          go_simp
          with_reducible rfl
        rotate_left
        · simp only [Act.put, List.setIfInBounds_toArray, List.set_cons_zero, List.set_cons_succ, i64_w, i32_w]
          rfl
        refine take_ (i := 8) (N := some 24) (v := ?_) (a' := ?_) #[true, true, true, true, true, true, true, true, true, false, false, false, false] rfl rfl (take_ofW HT_.out HW_.out (by kernel_rfl)) (fun _ _ _ h => h) (Or.inl ⟨by rfl, ?_⟩) hHeld ?_ ?_
        rotate_left
        · rintro w' ⟨s0, s1, s2, s3⟩
          go_simp
          with_reducible rfl
        rotate_left
        · simp only [Act.put, List.setIfInBounds_toArray, List.set_cons_zero, List.set_cons_succ, i64_w, i32_w]
          rfl
        refine pure_ (i := 9) (N := some 25) (v := ?_) (a' := ?_) #[true, true, true, true, true, true, true, true, true, true, false, false, false] rfl rfl (any_of HT_.out (by kernel_rfl)) (fun _ _ _ h => h) (Or.inl ⟨by rfl, ?_⟩) ?_ ?_
        rotate_left
        · intro w'
          go_simp
          with_reducible rfl
        rotate_left
        · simp only [Act.put, List.setIfInBounds_toArray, List.set_cons_zero, List.set_cons_succ, i64_w, i32_w]
          rfl
        refine pure_ (i := 10) (N := some 26) (v := ?_) (a' := ?_) #[true, true, true, true, true, true, true, true, true, true, true, false, false] rfl rfl (any_of HT_.out (by kernel_rfl)) (fun _ _ _ h => h) (Or.inl ⟨by rfl, ?_⟩) ?_ ?_
        rotate_left
        · intro w'
          go_simp
          with_reducible rfl
        rotate_left
        · simp only [Act.put, List.setIfInBounds_toArray, List.set_cons_zero, List.set_cons_succ, i64_w, i32_w]
          rfl
        refine one_ (i := 11) (N := none) #[true, true, true, true, true, true, true, true, true, true, true, true, false] rfl rfl (one_of HT_.out (by kernel_rfl)) (by decide) (fun K hK => ?_)
        have hs21 : w20.cell? ⟨gb180, 0, none⟩ = some (.int .u32 0) := cz BK180
        have hfs21 := blk_frozen BK180.out 0
        have hns21_0 := NB178_180.out
        have hns21_1 := NB179_180.out
        have hns21_3 := NB184_180.out
        have hms21_0 := NB180_178.out
        have hms21_1 := NB180_179.out
        have hms21_3 := NB180_184.out
        have hs22 : w20.cell? ⟨gb180, 1, none⟩ = some (.int .u32 0) := cz BK180
        have hfs22 := blk_frozen BK180.out 1
        have hns22_0 := NB178_180.out
        have hns22_1 := NB179_180.out
        have hns22_3 := NB184_180.out
        have hms22_0 := NB180_178.out
        have hms22_1 := NB180_179.out
        have hms22_3 := NB180_184.out
        refine skip_ (w1 := ?_) (by rfl) rfl ?_ ?_
        rotate_left
        · go_simp
          rfl
        refine hK.out _ _ ⟨((cell_far (p := ⟨gb180, _, none⟩) NB178_180.out _).trans (((cell_far (p := ⟨gb180, _, none⟩) NB178_180.out _).trans (hHeld.1)))), ((cell_far (p := ⟨gb180, _, none⟩) NB178_180.out _).trans (((cell_far (p := ⟨gb180, _, none⟩) NB178_180.out _).trans (hHeld.2.1)))), ((cell_far (p := ⟨gb180, _, none⟩) NB184_180.out _).trans (((cell_far (p := ⟨gb180, _, none⟩) NB184_180.out _).trans (hHeld.2.2.1)))), ((cell_far (p := ⟨gb180, _, none⟩) NB184_180.out _).trans (((cell_far (p := ⟨gb180, _, none⟩) NB184_180.out _).trans (hHeld.2.2.2))))⟩ (fun hHeld => ?_)
        clear hK K
        refine pure_ (i := 12) (N := some 5) (v := ?_) (a' := ?_) #[true, true, true, true, true, true, true, true, true, true, true, true, true] rfl rfl (any_of HT_.out (by kernel_rfl)) (fun _ _ _ h => h) (Or.inl ⟨by rfl, ?_⟩) ?_ ?_
        rotate_left
        · intro w'
          go_simp
          with_reducible rfl
        rotate_left
        · simp only [Act.put, List.setIfInBounds_toArray, List.set_cons_zero, List.set_cons_succ, i64_w, i32_w]
          rfl
        refine done_ (done_of HT_.out (by kernel_rfl)) ?_
        try go_wp2
        refine bodyPost_ret (results_ct rfl _ _ gb180 24 #[.int .u32 ((Int.tdiv a0_0 t182) % 4294967296), .int .u32 ((Int.tdiv a0_1 t181) % 4294967296)] (0, 0) _ rfl (by refine bkT ?_; refine blk_put (cs := #[.int .u32 ((Int.tdiv a0_0 t182) % 4294967296), .int .u32 0]) ?_ 1 _ rfl; refine bkT ?_; refine blk_put (cs := #[.int .u32 0, .int .u32 0]) ?_ 0 _ rfl; refine bkT ?_; exact BK180.out) Try.underlying24 rfl (by kernel_rfl)) rfl ?_
        exact ⟨by first | rfl | (simp [errW_none, errW_some] <;> rfl) | (simp [*, errW_none, errW_some] <;> rfl), hbA HB⟩
  · replace c4 := Bool.eq_false_iff.mpr c4
    subst c4
    have H1 : (some (0, 0, false)) = some (r1, r2, r3) := by rw [if_neg (show ¬ (false = true) by decide)] at H; exact H
    clear H
    have H := H1
    clear H1
    simp only [Option.some.injEq, Prod.mk.injEq] at H
    obtain ⟨rfl, rfl, rfl⟩ := H
    go_enter Try.func54, Try.ntmps54
    go_wp2_with (first | ((with_reducible refine gate_dst (N := 2) rfl ?_); refine bxE 2 #[.int .u32 a0_0, .int .u32 a0_1] 24 ?_; intro gb178 hg w23 hbox hb; have n0_ := am (below_step (hbA HB) hb); have n1_ := am (hbox); have n2_ := gwA hg HB; have n3_ := gwA hg HB; clear HB; have HB := n0_; have BK178 := n1_; have GW178 := n2_; have GE178 := n3_; clear n0_ n1_ n2_ n3_; clear hb hbox hg) | ((with_reducible refine gate_dst (N := 3) rfl ?_); refine bxE 3 #[.int .u32 a1_0, .int .u32 a1_1] 24 ?_; intro gb179 hg w24 hbox hb; have n0_ := am (blk_below (g := gb178) (o := .cells #[.int .u32 a0_0, .int .u32 a0_1] 24 (0, 0)) (bkA BK178) hb); have n1_ := am (below_step (hbA HB) hb); have n2_ := am (hbox); have n3_ := gwA hg HB; have n4_ := gwA hg HB; have n5_ := ltA hg BK178; have n6_ := gtA hg BK178; clear BK178; clear HB; have BK178 := n0_; have HB := n1_; have BK179 := n2_; have GW179 := n3_; have GE179 := n4_; have NB178_179 := n5_; have NB179_178 := n6_; clear n0_ n1_ n2_ n3_ n4_ n5_ n6_; clear hb hbox hg) | ((with_reducible refine gate_dst (N := 4) rfl ?_); refine bxE 4 #[.int .u32 0, .int .u32 0] 24 ?_; intro gb180 hg w25 hbox hb; have n0_ := am (blk_below (g := gb178) (o := .cells #[.int .u32 a0_0, .int .u32 a0_1] 24 (0, 0)) (bkA BK178) hb); have n1_ := am (blk_below (g := gb179) (o := .cells #[.int .u32 a1_0, .int .u32 a1_1] 24 (0, 0)) (bkA BK179) hb); have n2_ := am (below_step (hbA HB) hb); have n3_ := am (hbox); have n4_ := gwA hg HB; have n5_ := gwA hg HB; have n6_ := ltA hg BK178; have n7_ := gtA hg BK178; have n8_ := ltA hg BK179; have n9_ := gtA hg BK179; clear BK178; clear BK179; clear HB; have BK178 := n0_; have BK179 := n1_; have HB := n2_; have BK180 := n3_; have GW180 := n4_; have GE180 := n5_; have NB178_180 := n6_; have NB180_178 := n7_; have NB179_180 := n8_; have NB180_179 := n9_; clear n0_ n1_ n2_ n3_ n4_ n5_ n6_ n7_ n8_ n9_; clear hb hbox hg; have hnb26 := NB179_178.out; have hnc26 := NB178_179.out; have hnb27 := NB179_180.out; have hnc27 := NB180_179.out; have hcz28_0 : w25.cell? ⟨gb179, 0, none⟩ = some (.int .u32 a1_0) := cz BK179; have hcz28_1 : w25.cell? ⟨gb179, 1, none⟩ = some (.int .u32 a1_1) := cz BK179; have hfz28_0 := blk_frozen BK179.out 0; have hfz28_1 := blk_frozen BK179.out 1) | ((with_reducible refine gate_callee (f := 76) rfl ?_); refine goesL_ (some 10) rfl rfl Try.func76 (by kernel_rfl) rfl #[.agg #[.int .u32 a1_0, .int .u32 a1_1]] rfl (by (try simp only [List.map_toArray, List.map_cons, List.map_nil]); first | done | rfl | (simp only [List.length_drop, List.length_take]; rfl)) ?_; (with_reducible refine (interval_noZero.calls a1_0 a1_1 t181 t182 false _ A3.out).mono ?_); rintro e w29 ⟨rfl, hb⟩; refine ⟨_, rfl, ?_⟩; have n0_ := am (blk_below (g := gb178) (o := .cells #[.int .u32 a0_0, .int .u32 a0_1] 24 (0, 0)) (bkA BK178) hb); have n1_ := am (blk_below (g := gb179) (o := .cells #[.int .u32 a1_0, .int .u32 a1_1] 24 (0, 0)) (bkA BK179) hb); have n2_ := am (blk_below (g := gb180) (o := .cells #[.int .u32 0, .int .u32 0] 24 (0, 0)) (bkA BK180) hb); have n3_ := am (below_step (hbA HB) hb); clear BK178; clear BK179; clear BK180; clear HB; have BK178 := n0_; have BK179 := n1_; have BK180 := n2_; have HB := n3_; clear n0_ n1_ n2_ n3_; (try clear hb); (try clear hb2); (try clear hk); (try clear hi)) | ((with_reducible refine gate_dst (N := 6) rfl ?_); refine bxE 6 #[.int .u32 0, .int .u32 0] 24 ?_; intro gb184 hg w30 hbox hb; have n0_ := am (blk_below (g := gb178) (o := .cells #[.int .u32 a0_0, .int .u32 a0_1] 24 (0, 0)) (bkA BK178) hb); have n1_ := am (blk_below (g := gb179) (o := .cells #[.int .u32 a1_0, .int .u32 a1_1] 24 (0, 0)) (bkA BK179) hb); have n2_ := am (blk_below (g := gb180) (o := .cells #[.int .u32 0, .int .u32 0] 24 (0, 0)) (bkA BK180) hb); have n3_ := am (below_step (hbA HB) hb); have n4_ := am (hbox); have n5_ := gwA hg HB; have n6_ := gwA hg HB; have n7_ := ltA hg BK178; have n8_ := gtA hg BK178; have n9_ := ltA hg BK179; have n10_ := gtA hg BK179; have n11_ := ltA hg BK180; have n12_ := gtA hg BK180; clear BK178; clear BK179; clear BK180; clear HB; have BK178 := n0_; have BK179 := n1_; have BK180 := n2_; have HB := n3_; have BK184 := n4_; have GW184 := n5_; have GE184 := n6_; have NB178_184 := n7_; have NB184_178 := n8_; have NB179_184 := n9_; have NB184_179 := n10_; have NB180_184 := n11_; have NB184_180 := n12_; clear n0_ n1_ n2_ n3_ n4_ n5_ n6_ n7_ n8_ n9_ n10_ n11_ n12_; clear hb hbox hg; have hnb31 := NB184_178.out; have hnc31 := NB178_184.out; have hnb32 := NB184_179.out; have hnc32 := NB179_184.out; have hnb33 := NB184_180.out; have hnc33 := NB180_184.out; have hcz34_0 : w30.cell? ⟨gb184, 0, none⟩ = some (.int .u32 0) := cz BK184; have hcz34_1 : w30.cell? ⟨gb184, 1, none⟩ = some (.int .u32 0) := cz BK184; have hfz34_0 := blk_frozen BK184.out 0; have hfz34_1 := blk_frozen BK184.out 1; have hnb35 := NB180_178.out; have hnc35 := NB178_180.out; have hcz36_0 : w30.cell? ⟨gb180, 0, none⟩ = some (.int .u32 0) := cz BK180; have hcz36_1 : w30.cell? ⟨gb180, 1, none⟩ = some (.int .u32 0) := cz BK180; have hfz36_0 := blk_frozen BK180.out 0; have hfz36_1 := blk_frozen BK180.out 1))
    refine bodyPost_ret (results_ct rfl _ _ gb180 24 #[.int .u32 0, .int .u32 0] (0, 0) _ rfl (by refine bkT ?_; refine blk_put (cs := #[.int .u32 0, .int .u32 0]) ?_ 1 _ rfl; refine bkT ?_; refine blk_put (cs := #[.int .u32 0, .int .u32 0]) ?_ 0 _ rfl; refine bkT ?_; refine blk_far ?_ NB180_184.out _; refine bkT ?_; refine blk_far ?_ NB180_184.out _; refine bkT ?_; exact BK180.out) Try.underlying24 rfl (by kernel_rfl)) rfl ?_
    exact ⟨by first | rfl | (simp [errW_none, errW_some] <;> rfl) | (simp [*, errW_none, errW_some] <;> rfl), hbA HB⟩

/-! ### interval_rem: function 55 -/
def interval_rem.f (a0_0 : Int) (a0_1 : Int) (a1_0 : Int) (a1_1 : Int) : Option (Int × Int × Bool) := (interval_noZero.f a1_0 a1_1).bind fun bt188 => (if bt188.2.2 = true then (if a0_1 < bt188.1 then (some (a0_0, a0_1, true)) else (some (0, mn a0_1 ((bt188.2.1 - 1) % 4294967296), true))) else (some (0, 0, false)))
set_option maxHeartbeats 8000000 in
set_option maxRecDepth 100000 in
theorem interval_rem.calls (a0_0 : Int) (a0_1 : Int) (a1_0 : Int) (a1_1 : Int) (r1 : Int) (r2 : Int) (r3 : Bool) (w : World) (h : interval_rem.f a0_0 a0_1 a1_0 a1_1 = some (r1, r2, r3)) :
    Calls Try.prog 55 #[.agg #[.int .u32 a0_0, .int .u32 a0_1], .agg #[.int .u32 a1_0, .int .u32 a1_1]] w fun e w' => e = .returned (.tuple #[.agg #[.int .u32 r1, .int .u32 r2], .bool r3]) ∧ Below w.heap.size w w' := by
  have hu24 := Try.underlying24
  have HB := am (Below.refl w.heap.size w)
  have H : ((interval_noZero.f a1_0 a1_1).bind fun bt188 => (if bt188.2.2 = true then (if a0_1 < bt188.1 then (some (a0_0, a0_1, true)) else (some (0, mn a0_1 ((bt188.2.1 - 1) % 4294967296), true))) else (some (0, 0, false)))) = some (r1, r2, r3) := h
  clear h
  replace H := Option.bind_eq_some_iff.mp H
  obtain ⟨⟨t188, t189, t190⟩, A30, H⟩ := H
  replace H : (if t190 = true then (if a0_1 < t188 then (some (a0_0, a0_1, true)) else (some (0, mn a0_1 ((t189 - 1) % 4294967296), true))) else (some (0, 0, false))) = some (r1, r2, r3) := H
  have A3 := am A30
  clear A30
  by_cases c4 : t190 = true
  · subst c4
    have H1 : (if a0_1 < t188 then (some (a0_0, a0_1, true)) else (some (0, mn a0_1 ((t189 - 1) % 4294967296), true))) = some (r1, r2, r3) := by rw [if_pos rfl] at H; exact H
    clear H
    have H := H1
    clear H1
    by_cases c5 : a0_1 < t188
    · rw [if_pos c5] at H
      have c5b0 : decide (a0_1 < t188) = true := decide_eq_true c5
      clear c5
      simp only [Option.some.injEq, Prod.mk.injEq] at H
      obtain ⟨rfl, rfl, rfl⟩ := H
      go_enter Try.func55, Try.ntmps55
      go_wp2_with (first | ((with_reducible refine gate_dst (N := 2) rfl ?_); refine bxE 2 #[.int .u32 a0_0, .int .u32 a0_1] 24 ?_; intro gb185 hg w6 hbox hb; have n0_ := am (below_step (hbA HB) hb); have n1_ := am (hbox); have n2_ := gwA hg HB; have n3_ := gwA hg HB; clear HB; have HB := n0_; have BK185 := n1_; have GW185 := n2_; have GE185 := n3_; clear n0_ n1_ n2_ n3_; clear hb hbox hg) | ((with_reducible refine gate_dst (N := 3) rfl ?_); refine bxE 3 #[.int .u32 a1_0, .int .u32 a1_1] 24 ?_; intro gb186 hg w7 hbox hb; have n0_ := am (blk_below (g := gb185) (o := .cells #[.int .u32 a0_0, .int .u32 a0_1] 24 (0, 0)) (bkA BK185) hb); have n1_ := am (below_step (hbA HB) hb); have n2_ := am (hbox); have n3_ := gwA hg HB; have n4_ := gwA hg HB; have n5_ := ltA hg BK185; have n6_ := gtA hg BK185; clear BK185; clear HB; have BK185 := n0_; have HB := n1_; have BK186 := n2_; have GW186 := n3_; have GE186 := n4_; have NB185_186 := n5_; have NB186_185 := n6_; clear n0_ n1_ n2_ n3_ n4_ n5_ n6_; clear hb hbox hg) | ((with_reducible refine gate_dst (N := 4) rfl ?_); refine bxE 4 #[.int .u32 0, .int .u32 0] 24 ?_; intro gb187 hg w8 hbox hb; have n0_ := am (blk_below (g := gb185) (o := .cells #[.int .u32 a0_0, .int .u32 a0_1] 24 (0, 0)) (bkA BK185) hb); have n1_ := am (blk_below (g := gb186) (o := .cells #[.int .u32 a1_0, .int .u32 a1_1] 24 (0, 0)) (bkA BK186) hb); have n2_ := am (below_step (hbA HB) hb); have n3_ := am (hbox); have n4_ := gwA hg HB; have n5_ := gwA hg HB; have n6_ := ltA hg BK185; have n7_ := gtA hg BK185; have n8_ := ltA hg BK186; have n9_ := gtA hg BK186; clear BK185; clear BK186; clear HB; have BK185 := n0_; have BK186 := n1_; have HB := n2_; have BK187 := n3_; have GW187 := n4_; have GE187 := n5_; have NB185_187 := n6_; have NB187_185 := n7_; have NB186_187 := n8_; have NB187_186 := n9_; clear n0_ n1_ n2_ n3_ n4_ n5_ n6_ n7_ n8_ n9_; clear hb hbox hg; have hnb9 := NB186_185.out; have hnc9 := NB185_186.out; have hnb10 := NB186_187.out; have hnc10 := NB187_186.out; have hcz11_0 : w8.cell? ⟨gb186, 0, none⟩ = some (.int .u32 a1_0) := cz BK186; have hcz11_1 : w8.cell? ⟨gb186, 1, none⟩ = some (.int .u32 a1_1) := cz BK186; have hfz11_0 := blk_frozen BK186.out 0; have hfz11_1 := blk_frozen BK186.out 1) | ((with_reducible refine gate_callee (f := 76) rfl ?_); refine goesL_ (some 10) rfl rfl Try.func76 (by kernel_rfl) rfl #[.agg #[.int .u32 a1_0, .int .u32 a1_1]] rfl (by (try simp only [List.map_toArray, List.map_cons, List.map_nil]); first | done | rfl | (simp only [List.length_drop, List.length_take]; rfl)) ?_; (with_reducible refine (interval_noZero.calls a1_0 a1_1 t188 t189 true _ A3.out).mono ?_); rintro e w12 ⟨rfl, hb⟩; refine ⟨_, rfl, ?_⟩; have n0_ := am (blk_below (g := gb185) (o := .cells #[.int .u32 a0_0, .int .u32 a0_1] 24 (0, 0)) (bkA BK185) hb); have n1_ := am (blk_below (g := gb186) (o := .cells #[.int .u32 a1_0, .int .u32 a1_1] 24 (0, 0)) (bkA BK186) hb); have n2_ := am (blk_below (g := gb187) (o := .cells #[.int .u32 0, .int .u32 0] 24 (0, 0)) (bkA BK187) hb); have n3_ := am (below_step (hbA HB) hb); clear BK185; clear BK186; clear BK187; clear HB; have BK185 := n0_; have BK186 := n1_; have BK187 := n2_; have HB := n3_; clear n0_ n1_ n2_ n3_; (try clear hb); (try clear hb2); (try clear hk); (try clear hi)) | ((with_reducible refine gate_dst (N := 6) rfl ?_); refine bxE 6 #[.int .u32 0, .int .u32 0] 24 ?_; intro gb191 hg w13 hbox hb; have n0_ := am (blk_below (g := gb185) (o := .cells #[.int .u32 a0_0, .int .u32 a0_1] 24 (0, 0)) (bkA BK185) hb); have n1_ := am (blk_below (g := gb186) (o := .cells #[.int .u32 a1_0, .int .u32 a1_1] 24 (0, 0)) (bkA BK186) hb); have n2_ := am (blk_below (g := gb187) (o := .cells #[.int .u32 0, .int .u32 0] 24 (0, 0)) (bkA BK187) hb); have n3_ := am (below_step (hbA HB) hb); have n4_ := am (hbox); have n5_ := gwA hg HB; have n6_ := gwA hg HB; have n7_ := ltA hg BK185; have n8_ := gtA hg BK185; have n9_ := ltA hg BK186; have n10_ := gtA hg BK186; have n11_ := ltA hg BK187; have n12_ := gtA hg BK187; clear BK185; clear BK186; clear BK187; clear HB; have BK185 := n0_; have BK186 := n1_; have BK187 := n2_; have HB := n3_; have BK191 := n4_; have GW191 := n5_; have GE191 := n6_; have NB185_191 := n7_; have NB191_185 := n8_; have NB186_191 := n9_; have NB191_186 := n10_; have NB187_191 := n11_; have NB191_187 := n12_; clear n0_ n1_ n2_ n3_ n4_ n5_ n6_ n7_ n8_ n9_ n10_ n11_ n12_; clear hb hbox hg; have hnb14 := NB191_185.out; have hnc14 := NB185_191.out; have hnb15 := NB191_186.out; have hnc15 := NB186_191.out; have hnb16 := NB191_187.out; have hnc16 := NB187_191.out; have hcz17_0 : w13.cell? ⟨gb191, 0, none⟩ = some (.int .u32 0) := cz BK191; have hcz17_1 : w13.cell? ⟨gb191, 1, none⟩ = some (.int .u32 0) := cz BK191; have hfz17_0 := blk_frozen BK191.out 0; have hfz17_1 := blk_frozen BK191.out 1; have hnb18 := NB185_187.out; have hnc18 := NB187_185.out; have hcz19_0 : w13.cell? ⟨gb185, 0, none⟩ = some (.int .u32 a0_0) := cz BK185; have hcz19_1 : w13.cell? ⟨gb185, 1, none⟩ = some (.int .u32 a0_1) := cz BK185; have hfz19_0 := blk_frozen BK185.out 0; have hfz19_1 := blk_frozen BK185.out 1; have hcz20_0 : w13.cell? ⟨gb187, 0, none⟩ = some (.int .u32 0) := cz BK187; have hcz20_1 : w13.cell? ⟨gb187, 1, none⟩ = some (.int .u32 0) := cz BK187; have hfz20_0 := blk_frozen BK187.out 0; have hfz20_1 := blk_frozen BK187.out 1))
      refine bodyPost_ret (results_ct rfl _ _ gb187 24 #[.int .u32 a0_0, .int .u32 a0_1] (0, 0) _ rfl (by refine bkT ?_; refine blk_put (cs := #[.int .u32 a0_0, .int .u32 0]) ?_ 1 _ rfl; refine bkT ?_; refine blk_put (cs := #[.int .u32 0, .int .u32 0]) ?_ 0 _ rfl; refine bkT ?_; refine blk_far ?_ NB187_191.out _; refine bkT ?_; refine blk_far ?_ NB187_191.out _; refine bkT ?_; exact BK187.out) Try.underlying24 rfl (by kernel_rfl)) rfl ?_
      exact ⟨by first | rfl | (simp [errW_none, errW_some] <;> rfl) | (simp [*, errW_none, errW_some] <;> rfl), hbA HB⟩
    · rw [if_neg c5] at H
      have c5b0 : decide (a0_1 < t188) = false := decide_eq_false c5
      clear c5
      obtain ⟨ji21, hji21⟩ : ∃ j_ : Int, (mn a0_1 ((t189 - 1) % 4294967296)) = j_ := ⟨_, rfl⟩
      replace H : (some (0, ji21, true)) = some (r1, r2, r3) := by first | (rw [hji21] at H; exact H) | (simp only [hji21] at H ⊢; exact H)
      (try rw [hji21] at A3)
      (try (have hji21h : ji21 ≤ 4294967295 := by (rw [← hji21]; unfold mn; (repeat' split) <;> omega)))
      (try (have hji21g : ji21 ≤ 64 := by omega))
      have hji21_ : (if ((t189 - 1) % 4294967296) < a0_1 then ((t189 - 1) % 4294967296) else a0_1) = ji21 := hji21
      simp only [Option.some.injEq, Prod.mk.injEq] at H
      obtain ⟨rfl, rfl, rfl⟩ := H
      go_enter Try.func55, Try.ntmps55
      go_wp2_with (first | ((with_reducible refine gate_dst (N := 2) rfl ?_); refine bxE 2 #[.int .u32 a0_0, .int .u32 a0_1] 24 ?_; intro gb185 hg w22 hbox hb; have n0_ := am (below_step (hbA HB) hb); have n1_ := am (hbox); have n2_ := gwA hg HB; have n3_ := gwA hg HB; clear HB; have HB := n0_; have BK185 := n1_; have GW185 := n2_; have GE185 := n3_; clear n0_ n1_ n2_ n3_; clear hb hbox hg) | ((with_reducible refine gate_dst (N := 3) rfl ?_); refine bxE 3 #[.int .u32 a1_0, .int .u32 a1_1] 24 ?_; intro gb186 hg w23 hbox hb; have n0_ := am (blk_below (g := gb185) (o := .cells #[.int .u32 a0_0, .int .u32 a0_1] 24 (0, 0)) (bkA BK185) hb); have n1_ := am (below_step (hbA HB) hb); have n2_ := am (hbox); have n3_ := gwA hg HB; have n4_ := gwA hg HB; have n5_ := ltA hg BK185; have n6_ := gtA hg BK185; clear BK185; clear HB; have BK185 := n0_; have HB := n1_; have BK186 := n2_; have GW186 := n3_; have GE186 := n4_; have NB185_186 := n5_; have NB186_185 := n6_; clear n0_ n1_ n2_ n3_ n4_ n5_ n6_; clear hb hbox hg) | ((with_reducible refine gate_dst (N := 4) rfl ?_); refine bxE 4 #[.int .u32 0, .int .u32 0] 24 ?_; intro gb187 hg w24 hbox hb; have n0_ := am (blk_below (g := gb185) (o := .cells #[.int .u32 a0_0, .int .u32 a0_1] 24 (0, 0)) (bkA BK185) hb); have n1_ := am (blk_below (g := gb186) (o := .cells #[.int .u32 a1_0, .int .u32 a1_1] 24 (0, 0)) (bkA BK186) hb); have n2_ := am (below_step (hbA HB) hb); have n3_ := am (hbox); have n4_ := gwA hg HB; have n5_ := gwA hg HB; have n6_ := ltA hg BK185; have n7_ := gtA hg BK185; have n8_ := ltA hg BK186; have n9_ := gtA hg BK186; clear BK185; clear BK186; clear HB; have BK185 := n0_; have BK186 := n1_; have HB := n2_; have BK187 := n3_; have GW187 := n4_; have GE187 := n5_; have NB185_187 := n6_; have NB187_185 := n7_; have NB186_187 := n8_; have NB187_186 := n9_; clear n0_ n1_ n2_ n3_ n4_ n5_ n6_ n7_ n8_ n9_; clear hb hbox hg; have hnb25 := NB186_185.out; have hnc25 := NB185_186.out; have hnb26 := NB186_187.out; have hnc26 := NB187_186.out; have hcz27_0 : w24.cell? ⟨gb186, 0, none⟩ = some (.int .u32 a1_0) := cz BK186; have hcz27_1 : w24.cell? ⟨gb186, 1, none⟩ = some (.int .u32 a1_1) := cz BK186; have hfz27_0 := blk_frozen BK186.out 0; have hfz27_1 := blk_frozen BK186.out 1) | ((with_reducible refine gate_callee (f := 76) rfl ?_); refine goesL_ (some 10) rfl rfl Try.func76 (by kernel_rfl) rfl #[.agg #[.int .u32 a1_0, .int .u32 a1_1]] rfl (by (try simp only [List.map_toArray, List.map_cons, List.map_nil]); first | done | rfl | (simp only [List.length_drop, List.length_take]; rfl)) ?_; (with_reducible refine (interval_noZero.calls a1_0 a1_1 t188 t189 true _ A3.out).mono ?_); rintro e w28 ⟨rfl, hb⟩; refine ⟨_, rfl, ?_⟩; have n0_ := am (blk_below (g := gb185) (o := .cells #[.int .u32 a0_0, .int .u32 a0_1] 24 (0, 0)) (bkA BK185) hb); have n1_ := am (blk_below (g := gb186) (o := .cells #[.int .u32 a1_0, .int .u32 a1_1] 24 (0, 0)) (bkA BK186) hb); have n2_ := am (blk_below (g := gb187) (o := .cells #[.int .u32 0, .int .u32 0] 24 (0, 0)) (bkA BK187) hb); have n3_ := am (below_step (hbA HB) hb); clear BK185; clear BK186; clear BK187; clear HB; have BK185 := n0_; have BK186 := n1_; have BK187 := n2_; have HB := n3_; clear n0_ n1_ n2_ n3_; (try clear hb); (try clear hb2); (try clear hk); (try clear hi)) | ((with_reducible refine gate_dst (N := 6) rfl ?_); refine bxE 6 #[.int .u32 0, .int .u32 0] 24 ?_; intro gb191 hg w29 hbox hb; have n0_ := am (blk_below (g := gb185) (o := .cells #[.int .u32 a0_0, .int .u32 a0_1] 24 (0, 0)) (bkA BK185) hb); have n1_ := am (blk_below (g := gb186) (o := .cells #[.int .u32 a1_0, .int .u32 a1_1] 24 (0, 0)) (bkA BK186) hb); have n2_ := am (blk_below (g := gb187) (o := .cells #[.int .u32 0, .int .u32 0] 24 (0, 0)) (bkA BK187) hb); have n3_ := am (below_step (hbA HB) hb); have n4_ := am (hbox); have n5_ := gwA hg HB; have n6_ := gwA hg HB; have n7_ := ltA hg BK185; have n8_ := gtA hg BK185; have n9_ := ltA hg BK186; have n10_ := gtA hg BK186; have n11_ := ltA hg BK187; have n12_ := gtA hg BK187; clear BK185; clear BK186; clear BK187; clear HB; have BK185 := n0_; have BK186 := n1_; have BK187 := n2_; have HB := n3_; have BK191 := n4_; have GW191 := n5_; have GE191 := n6_; have NB185_191 := n7_; have NB191_185 := n8_; have NB186_191 := n9_; have NB191_186 := n10_; have NB187_191 := n11_; have NB191_187 := n12_; clear n0_ n1_ n2_ n3_ n4_ n5_ n6_ n7_ n8_ n9_ n10_ n11_ n12_; clear hb hbox hg; have hnb30 := NB191_185.out; have hnc30 := NB185_191.out; have hnb31 := NB191_186.out; have hnc31 := NB186_191.out; have hnb32 := NB191_187.out; have hnc32 := NB187_191.out; have hcz33_0 : w29.cell? ⟨gb191, 0, none⟩ = some (.int .u32 0) := cz BK191; have hcz33_1 : w29.cell? ⟨gb191, 1, none⟩ = some (.int .u32 0) := cz BK191; have hfz33_0 := blk_frozen BK191.out 0; have hfz33_1 := blk_frozen BK191.out 1; have hnb34 := NB185_187.out; have hnc34 := NB187_185.out; have hcz35_0 : w29.cell? ⟨gb185, 0, none⟩ = some (.int .u32 a0_0) := cz BK185; have hcz35_1 : w29.cell? ⟨gb185, 1, none⟩ = some (.int .u32 a0_1) := cz BK185; have hfz35_0 := blk_frozen BK185.out 0; have hfz35_1 := blk_frozen BK185.out 1; have hcz36_0 : w29.cell? ⟨gb187, 0, none⟩ = some (.int .u32 0) := cz BK187; have hcz36_1 : w29.cell? ⟨gb187, 1, none⟩ = some (.int .u32 0) := cz BK187; have hfz36_0 := blk_frozen BK187.out 0; have hfz36_1 := blk_frozen BK187.out 1))
      refine bodyPost_ret (results_ct rfl _ _ gb187 24 #[.int .u32 0, .int .u32 ji21] (0, 0) _ rfl (by refine bkT ?_; refine blk_put (cs := #[.int .u32 0, .int .u32 0]) ?_ 1 _ rfl; refine bkT ?_; refine blk_put (cs := #[.int .u32 0, .int .u32 0]) ?_ 0 _ rfl; refine bkT ?_; refine blk_far ?_ NB187_191.out _; refine bkT ?_; refine blk_far ?_ NB187_191.out _; refine bkT ?_; exact BK187.out) Try.underlying24 rfl (by kernel_rfl)) rfl ?_
      exact ⟨by first | rfl | (simp [errW_none, errW_some] <;> rfl) | (simp only [← hji21]; first | rfl | (simp [errW_none, errW_some] <;> rfl)) | (simp [*, errW_none, errW_some] <;> rfl), hbA HB⟩
  · replace c4 := Bool.eq_false_iff.mpr c4
    subst c4
    have H1 : (some (0, 0, false)) = some (r1, r2, r3) := by rw [if_neg (show ¬ (false = true) by decide)] at H; exact H
    clear H
    have H := H1
    clear H1
    simp only [Option.some.injEq, Prod.mk.injEq] at H
    obtain ⟨rfl, rfl, rfl⟩ := H
    go_enter Try.func55, Try.ntmps55
    go_wp2_with (first | ((with_reducible refine gate_dst (N := 2) rfl ?_); refine bxE 2 #[.int .u32 a0_0, .int .u32 a0_1] 24 ?_; intro gb185 hg w37 hbox hb; have n0_ := am (below_step (hbA HB) hb); have n1_ := am (hbox); have n2_ := gwA hg HB; have n3_ := gwA hg HB; clear HB; have HB := n0_; have BK185 := n1_; have GW185 := n2_; have GE185 := n3_; clear n0_ n1_ n2_ n3_; clear hb hbox hg) | ((with_reducible refine gate_dst (N := 3) rfl ?_); refine bxE 3 #[.int .u32 a1_0, .int .u32 a1_1] 24 ?_; intro gb186 hg w38 hbox hb; have n0_ := am (blk_below (g := gb185) (o := .cells #[.int .u32 a0_0, .int .u32 a0_1] 24 (0, 0)) (bkA BK185) hb); have n1_ := am (below_step (hbA HB) hb); have n2_ := am (hbox); have n3_ := gwA hg HB; have n4_ := gwA hg HB; have n5_ := ltA hg BK185; have n6_ := gtA hg BK185; clear BK185; clear HB; have BK185 := n0_; have HB := n1_; have BK186 := n2_; have GW186 := n3_; have GE186 := n4_; have NB185_186 := n5_; have NB186_185 := n6_; clear n0_ n1_ n2_ n3_ n4_ n5_ n6_; clear hb hbox hg) | ((with_reducible refine gate_dst (N := 4) rfl ?_); refine bxE 4 #[.int .u32 0, .int .u32 0] 24 ?_; intro gb187 hg w39 hbox hb; have n0_ := am (blk_below (g := gb185) (o := .cells #[.int .u32 a0_0, .int .u32 a0_1] 24 (0, 0)) (bkA BK185) hb); have n1_ := am (blk_below (g := gb186) (o := .cells #[.int .u32 a1_0, .int .u32 a1_1] 24 (0, 0)) (bkA BK186) hb); have n2_ := am (below_step (hbA HB) hb); have n3_ := am (hbox); have n4_ := gwA hg HB; have n5_ := gwA hg HB; have n6_ := ltA hg BK185; have n7_ := gtA hg BK185; have n8_ := ltA hg BK186; have n9_ := gtA hg BK186; clear BK185; clear BK186; clear HB; have BK185 := n0_; have BK186 := n1_; have HB := n2_; have BK187 := n3_; have GW187 := n4_; have GE187 := n5_; have NB185_187 := n6_; have NB187_185 := n7_; have NB186_187 := n8_; have NB187_186 := n9_; clear n0_ n1_ n2_ n3_ n4_ n5_ n6_ n7_ n8_ n9_; clear hb hbox hg; have hnb40 := NB186_185.out; have hnc40 := NB185_186.out; have hnb41 := NB186_187.out; have hnc41 := NB187_186.out; have hcz42_0 : w39.cell? ⟨gb186, 0, none⟩ = some (.int .u32 a1_0) := cz BK186; have hcz42_1 : w39.cell? ⟨gb186, 1, none⟩ = some (.int .u32 a1_1) := cz BK186; have hfz42_0 := blk_frozen BK186.out 0; have hfz42_1 := blk_frozen BK186.out 1) | ((with_reducible refine gate_callee (f := 76) rfl ?_); refine goesL_ (some 10) rfl rfl Try.func76 (by kernel_rfl) rfl #[.agg #[.int .u32 a1_0, .int .u32 a1_1]] rfl (by (try simp only [List.map_toArray, List.map_cons, List.map_nil]); first | done | rfl | (simp only [List.length_drop, List.length_take]; rfl)) ?_; (with_reducible refine (interval_noZero.calls a1_0 a1_1 t188 t189 false _ A3.out).mono ?_); rintro e w43 ⟨rfl, hb⟩; refine ⟨_, rfl, ?_⟩; have n0_ := am (blk_below (g := gb185) (o := .cells #[.int .u32 a0_0, .int .u32 a0_1] 24 (0, 0)) (bkA BK185) hb); have n1_ := am (blk_below (g := gb186) (o := .cells #[.int .u32 a1_0, .int .u32 a1_1] 24 (0, 0)) (bkA BK186) hb); have n2_ := am (blk_below (g := gb187) (o := .cells #[.int .u32 0, .int .u32 0] 24 (0, 0)) (bkA BK187) hb); have n3_ := am (below_step (hbA HB) hb); clear BK185; clear BK186; clear BK187; clear HB; have BK185 := n0_; have BK186 := n1_; have BK187 := n2_; have HB := n3_; clear n0_ n1_ n2_ n3_; (try clear hb); (try clear hb2); (try clear hk); (try clear hi)) | ((with_reducible refine gate_dst (N := 6) rfl ?_); refine bxE 6 #[.int .u32 0, .int .u32 0] 24 ?_; intro gb191 hg w44 hbox hb; have n0_ := am (blk_below (g := gb185) (o := .cells #[.int .u32 a0_0, .int .u32 a0_1] 24 (0, 0)) (bkA BK185) hb); have n1_ := am (blk_below (g := gb186) (o := .cells #[.int .u32 a1_0, .int .u32 a1_1] 24 (0, 0)) (bkA BK186) hb); have n2_ := am (blk_below (g := gb187) (o := .cells #[.int .u32 0, .int .u32 0] 24 (0, 0)) (bkA BK187) hb); have n3_ := am (below_step (hbA HB) hb); have n4_ := am (hbox); have n5_ := gwA hg HB; have n6_ := gwA hg HB; have n7_ := ltA hg BK185; have n8_ := gtA hg BK185; have n9_ := ltA hg BK186; have n10_ := gtA hg BK186; have n11_ := ltA hg BK187; have n12_ := gtA hg BK187; clear BK185; clear BK186; clear BK187; clear HB; have BK185 := n0_; have BK186 := n1_; have BK187 := n2_; have HB := n3_; have BK191 := n4_; have GW191 := n5_; have GE191 := n6_; have NB185_191 := n7_; have NB191_185 := n8_; have NB186_191 := n9_; have NB191_186 := n10_; have NB187_191 := n11_; have NB191_187 := n12_; clear n0_ n1_ n2_ n3_ n4_ n5_ n6_ n7_ n8_ n9_ n10_ n11_ n12_; clear hb hbox hg; have hnb45 := NB191_185.out; have hnc45 := NB185_191.out; have hnb46 := NB191_186.out; have hnc46 := NB186_191.out; have hnb47 := NB191_187.out; have hnc47 := NB187_191.out; have hcz48_0 : w44.cell? ⟨gb191, 0, none⟩ = some (.int .u32 0) := cz BK191; have hcz48_1 : w44.cell? ⟨gb191, 1, none⟩ = some (.int .u32 0) := cz BK191; have hfz48_0 := blk_frozen BK191.out 0; have hfz48_1 := blk_frozen BK191.out 1; have hnb49 := NB187_185.out; have hnc49 := NB185_187.out; have hcz50_0 : w44.cell? ⟨gb187, 0, none⟩ = some (.int .u32 0) := cz BK187; have hcz50_1 : w44.cell? ⟨gb187, 1, none⟩ = some (.int .u32 0) := cz BK187; have hfz50_0 := blk_frozen BK187.out 0; have hfz50_1 := blk_frozen BK187.out 1))
    refine bodyPost_ret (results_ct rfl _ _ gb187 24 #[.int .u32 0, .int .u32 0] (0, 0) _ rfl (by refine bkT ?_; refine blk_put (cs := #[.int .u32 0, .int .u32 0]) ?_ 1 _ rfl; refine bkT ?_; refine blk_put (cs := #[.int .u32 0, .int .u32 0]) ?_ 0 _ rfl; refine bkT ?_; refine blk_far ?_ NB187_191.out _; refine bkT ?_; refine blk_far ?_ NB187_191.out _; refine bkT ?_; exact BK187.out) Try.underlying24 rfl (by kernel_rfl)) rfl ?_
    exact ⟨by first | rfl | (simp [errW_none, errW_some] <;> rfl) | (simp [*, errW_none, errW_some] <;> rfl), hbA HB⟩

-- NOT PRINTED: function 56 (interval_plain)

/-! ### interval_shl: function 61 -/
def interval_shl.f (a0_0 : Int) (a0_1 : Int) (a1_0 : Int) (a1_1 : Int) : Option (Int × Int) := if a1_0 ≥ 32 then ((interval_One.f 0).bind fun bt195 => (some (bt195.1, bt195.2))) else (if a1_0 = a1_1 then (if 0 ≤ a1_0 then (if (shl .u64 (IntKind.u64.wrap (a0_1)) a1_0) > 4294967295 then ((interval_All.f).bind fun bt197 => (some (bt197.1, bt197.2))) else (some (shl .u32 a0_0 a1_0, shl .u32 a0_1 a1_0))) else (none)) else ((interval_All.f).bind fun bt199 => (some (bt199.1, bt199.2))))
set_option maxHeartbeats 8000000 in
set_option maxRecDepth 100000 in
theorem interval_shl.calls (a0_0 : Int) (a0_1 : Int) (a1_0 : Int) (a1_1 : Int) (r1 : Int) (r2 : Int) (w : World) (h : interval_shl.f a0_0 a0_1 a1_0 a1_1 = some (r1, r2)) :
    Calls Try.prog 61 #[.agg #[.int .u32 a0_0, .int .u32 a0_1], .agg #[.int .u32 a1_0, .int .u32 a1_1]] w fun e w' => e = .returned (.agg #[.int .u32 r1, .int .u32 r2]) ∧ Below w.heap.size w w' := by
  have hu24 := Try.underlying24
  have HB := am (Below.refl w.heap.size w)
  have H : (if a1_0 ≥ 32 then ((interval_One.f 0).bind fun bt195 => (some (bt195.1, bt195.2))) else (if a1_0 = a1_1 then (if 0 ≤ a1_0 then (if (shl .u64 (IntKind.u64.wrap (a0_1)) a1_0) > 4294967295 then ((interval_All.f).bind fun bt197 => (some (bt197.1, bt197.2))) else (some (shl .u32 a0_0 a1_0, shl .u32 a0_1 a1_0))) else (none)) else ((interval_All.f).bind fun bt199 => (some (bt199.1, bt199.2))))) = some (r1, r2) := h
  clear h
  by_cases c3 : a1_0 ≥ 32
  · rw [if_pos c3] at H
    have c3b0 : decide (32 ≤ a1_0) = true := decide_eq_true c3
    clear c3
    replace H := Option.bind_eq_some_iff.mp H
    obtain ⟨⟨t195, t196⟩, A40, H⟩ := H
    replace H : (some (t195, t196)) = some (r1, r2) := H
    have A4 := am A40
    clear A40
    simp only [Option.some.injEq, Prod.mk.injEq] at H
    obtain ⟨rfl, rfl⟩ := H
    go_enter Try.func61, Try.ntmps61
    go_wp2_with (first | ((with_reducible refine gate_dst (N := 2) rfl ?_); refine bxE 2 #[.int .u32 a0_0, .int .u32 a0_1] 24 ?_; intro gb192 hg w5 hbox hb; have n0_ := am (below_step (hbA HB) hb); have n1_ := am (hbox); have n2_ := gwA hg HB; have n3_ := gwA hg HB; clear HB; have HB := n0_; have BK192 := n1_; have GW192 := n2_; have GE192 := n3_; clear n0_ n1_ n2_ n3_; clear hb hbox hg) | ((with_reducible refine gate_dst (N := 3) rfl ?_); refine bxE 3 #[.int .u32 a1_0, .int .u32 a1_1] 24 ?_; intro gb193 hg w6 hbox hb; have n0_ := am (blk_below (g := gb192) (o := .cells #[.int .u32 a0_0, .int .u32 a0_1] 24 (0, 0)) (bkA BK192) hb); have n1_ := am (below_step (hbA HB) hb); have n2_ := am (hbox); have n3_ := gwA hg HB; have n4_ := gwA hg HB; have n5_ := ltA hg BK192; have n6_ := gtA hg BK192; clear BK192; clear HB; have BK192 := n0_; have HB := n1_; have BK193 := n2_; have GW193 := n3_; have GE193 := n4_; have NB192_193 := n5_; have NB193_192 := n6_; clear n0_ n1_ n2_ n3_ n4_ n5_ n6_; clear hb hbox hg) | ((with_reducible refine gate_dst (N := 4) rfl ?_); refine bxE 4 #[.int .u32 0, .int .u32 0] 24 ?_; intro gb194 hg w7 hbox hb; have n0_ := am (blk_below (g := gb192) (o := .cells #[.int .u32 a0_0, .int .u32 a0_1] 24 (0, 0)) (bkA BK192) hb); have n1_ := am (blk_below (g := gb193) (o := .cells #[.int .u32 a1_0, .int .u32 a1_1] 24 (0, 0)) (bkA BK193) hb); have n2_ := am (below_step (hbA HB) hb); have n3_ := am (hbox); have n4_ := gwA hg HB; have n5_ := gwA hg HB; have n6_ := ltA hg BK192; have n7_ := gtA hg BK192; have n8_ := ltA hg BK193; have n9_ := gtA hg BK193; clear BK192; clear BK193; clear HB; have BK192 := n0_; have BK193 := n1_; have HB := n2_; have BK194 := n3_; have GW194 := n4_; have GE194 := n5_; have NB192_194 := n6_; have NB194_192 := n7_; have NB193_194 := n8_; have NB194_193 := n9_; clear n0_ n1_ n2_ n3_ n4_ n5_ n6_ n7_ n8_ n9_; clear hb hbox hg; have hnb8 := NB193_192.out; have hnc8 := NB192_193.out; have hnb9 := NB193_194.out; have hnc9 := NB194_193.out; have hcz10_0 : w7.cell? ⟨gb193, 0, none⟩ = some (.int .u32 a1_0) := cz BK193; have hcz10_1 : w7.cell? ⟨gb193, 1, none⟩ = some (.int .u32 a1_1) := cz BK193; have hfz10_0 := blk_frozen BK193.out 0; have hfz10_1 := blk_frozen BK193.out 1) | ((with_reducible refine gate_callee (f := 20) rfl ?_); refine goesL_ (some 9) rfl rfl Try.func20 (by kernel_rfl) rfl #[.int .u32 0] rfl (by (try simp only [List.map_toArray, List.map_cons, List.map_nil]); first | done | rfl | (simp only [List.length_drop, List.length_take]; rfl)) ?_; (with_reducible refine (interval_One.calls 0 t195 t196 _ A4.out).mono ?_); rintro e w11 ⟨rfl, hb⟩; refine ⟨_, rfl, ?_⟩; have n0_ := am (blk_below (g := gb192) (o := .cells #[.int .u32 a0_0, .int .u32 a0_1] 24 (0, 0)) (bkA BK192) hb); have n1_ := am (blk_below (g := gb193) (o := .cells #[.int .u32 a1_0, .int .u32 a1_1] 24 (0, 0)) (bkA BK193) hb); have n2_ := am (blk_below (g := gb194) (o := .cells #[.int .u32 0, .int .u32 0] 24 (0, 0)) (bkA BK194) hb); have n3_ := am (below_step (hbA HB) hb); clear BK192; clear BK193; clear BK194; clear HB; have BK192 := n0_; have BK193 := n1_; have BK194 := n2_; have HB := n3_; clear n0_ n1_ n2_ n3_; (try clear hb); (try clear hb2); (try clear hk); (try clear hi); have hnb12 := NB194_192.out; have hnc12 := NB192_194.out; have hcz13_0 : w11.cell? ⟨gb194, 0, none⟩ = some (.int .u32 0) := cz BK194; have hcz13_1 : w11.cell? ⟨gb194, 1, none⟩ = some (.int .u32 0) := cz BK194; have hfz13_0 := blk_frozen BK194.out 0; have hfz13_1 := blk_frozen BK194.out 1))
    refine bodyPost_ret (results_cell_row rfl _ _ gb194 24 #[.int .u32 t195, .int .u32 t196] (0, 0) _ rfl (by refine bkT ?_; refine blk_put (cs := #[.int .u32 t195, .int .u32 0]) ?_ 1 _ rfl; refine bkT ?_; refine blk_put (cs := #[.int .u32 0, .int .u32 0]) ?_ 0 _ rfl; refine bkT ?_; exact BK194.out) Try.underlying24 rfl (by kernel_rfl)) rfl ?_
    exact ⟨by first | rfl | (simp [errW_none, errW_some] <;> rfl) | (simp [*, errW_none, errW_some] <;> rfl), hbA HB⟩
  · rw [if_neg c3] at H
    have c3b0 : decide (32 ≤ a1_0) = false := decide_eq_false c3
    clear c3
    by_cases c14 : a1_0 = a1_1
    · rw [if_pos c14] at H
      have c14b0 : (a1_0 == a1_1) = true := beq_iff_eq.mpr c14
      have c14b1 : (a1_0 != a1_1) = false := bne_eq_false_iff_eq.mpr c14
      clear c14
      by_cases c15 : 0 ≤ a1_0
      · rw [if_pos c15] at H
        have c15b0 := eq_true c15
        have c15b1 : decide (0 ≤ a1_0) = true := decide_eq_true c15
        clear c15
        obtain ⟨ji16, hji16⟩ : ∃ j_ : Int, (shl .u64 (IntKind.u64.wrap (a0_1)) a1_0) = j_ := ⟨_, rfl⟩
        replace H : (if (ji16) > 4294967295 then ((interval_All.f).bind fun bt197 => (some (bt197.1, bt197.2))) else (some (shl .u32 a0_0 a1_0, shl .u32 a0_1 a1_0))) = some (r1, r2) := by first | (rw [hji16] at H; exact H) | (simp only [hji16] at H ⊢; exact H)
        have hji16_ : (IntKind.u64.wrap ((IntKind.u64.wrap (a0_1)) * 2 ^ min a1_0.toNat 64)) = ji16 := hji16
        have hji16z : a1_0 ≤ 64 → (IntKind.u64.wrap ((IntKind.u64.wrap (a0_1)) * 2 ^ a1_0.toNat)) = ji16 := shl_small hji16
        by_cases c17 : (ji16) > 4294967295
        · rw [if_pos c17] at H
          have c17b0 : decide (4294967295 < (ji16)) = true := decide_eq_true c17
          clear c17
          replace H := Option.bind_eq_some_iff.mp H
          obtain ⟨⟨t197, t198⟩, A180, H⟩ := H
          replace H : (some (t197, t198)) = some (r1, r2) := H
          have A18 := am A180
          clear A180
          simp only [Option.some.injEq, Prod.mk.injEq] at H
          obtain ⟨rfl, rfl⟩ := H
          go_enter Try.func61, Try.ntmps61
          go_wp2_with (first | ((with_reducible refine gate_dst (N := 2) rfl ?_); refine bxE 2 #[.int .u32 a0_0, .int .u32 a0_1] 24 ?_; intro gb192 hg w19 hbox hb; have n0_ := am (below_step (hbA HB) hb); have n1_ := am (hbox); have n2_ := gwA hg HB; have n3_ := gwA hg HB; clear HB; have HB := n0_; have BK192 := n1_; have GW192 := n2_; have GE192 := n3_; clear n0_ n1_ n2_ n3_; clear hb hbox hg) | ((with_reducible refine gate_dst (N := 3) rfl ?_); refine bxE 3 #[.int .u32 a1_0, .int .u32 a1_1] 24 ?_; intro gb193 hg w20 hbox hb; have n0_ := am (blk_below (g := gb192) (o := .cells #[.int .u32 a0_0, .int .u32 a0_1] 24 (0, 0)) (bkA BK192) hb); have n1_ := am (below_step (hbA HB) hb); have n2_ := am (hbox); have n3_ := gwA hg HB; have n4_ := gwA hg HB; have n5_ := ltA hg BK192; have n6_ := gtA hg BK192; clear BK192; clear HB; have BK192 := n0_; have HB := n1_; have BK193 := n2_; have GW193 := n3_; have GE193 := n4_; have NB192_193 := n5_; have NB193_192 := n6_; clear n0_ n1_ n2_ n3_ n4_ n5_ n6_; clear hb hbox hg) | ((with_reducible refine gate_dst (N := 4) rfl ?_); refine bxE 4 #[.int .u32 0, .int .u32 0] 24 ?_; intro gb194 hg w21 hbox hb; have n0_ := am (blk_below (g := gb192) (o := .cells #[.int .u32 a0_0, .int .u32 a0_1] 24 (0, 0)) (bkA BK192) hb); have n1_ := am (blk_below (g := gb193) (o := .cells #[.int .u32 a1_0, .int .u32 a1_1] 24 (0, 0)) (bkA BK193) hb); have n2_ := am (below_step (hbA HB) hb); have n3_ := am (hbox); have n4_ := gwA hg HB; have n5_ := gwA hg HB; have n6_ := ltA hg BK192; have n7_ := gtA hg BK192; have n8_ := ltA hg BK193; have n9_ := gtA hg BK193; clear BK192; clear BK193; clear HB; have BK192 := n0_; have BK193 := n1_; have HB := n2_; have BK194 := n3_; have GW194 := n4_; have GE194 := n5_; have NB192_194 := n6_; have NB194_192 := n7_; have NB193_194 := n8_; have NB194_193 := n9_; clear n0_ n1_ n2_ n3_ n4_ n5_ n6_ n7_ n8_ n9_; clear hb hbox hg; have hnb22 := NB193_192.out; have hnc22 := NB192_193.out; have hnb23 := NB193_194.out; have hnc23 := NB194_193.out; have hcz24_0 : w21.cell? ⟨gb193, 0, none⟩ = some (.int .u32 a1_0) := cz BK193; have hcz24_1 : w21.cell? ⟨gb193, 1, none⟩ = some (.int .u32 a1_1) := cz BK193; have hfz24_0 := blk_frozen BK193.out 0; have hfz24_1 := blk_frozen BK193.out 1; have hnb25 := NB192_194.out; have hnc25 := NB194_192.out; have hcz26_0 : w21.cell? ⟨gb192, 0, none⟩ = some (.int .u32 a0_0) := cz BK192; have hcz26_1 : w21.cell? ⟨gb192, 1, none⟩ = some (.int .u32 a0_1) := cz BK192; have hfz26_0 := blk_frozen BK192.out 0; have hfz26_1 := blk_frozen BK192.out 1) | ((with_reducible refine gate_callee (f := 19) rfl ?_); refine goesL_ (some 25) rfl rfl Try.func19 (by kernel_rfl) rfl #[] rfl (by (try simp only [List.map_toArray, List.map_cons, List.map_nil]); first | done | rfl | (simp only [List.length_drop, List.length_take]; rfl)) ?_; (with_reducible refine (interval_All.calls  t197 t198 _ A18.out).mono ?_); rintro e w27 ⟨rfl, hb⟩; refine ⟨_, rfl, ?_⟩; have n0_ := am (blk_below (g := gb192) (o := .cells #[.int .u32 a0_0, .int .u32 a0_1] 24 (0, 0)) (bkA BK192) hb); have n1_ := am (blk_below (g := gb193) (o := .cells #[.int .u32 a1_0, .int .u32 a1_1] 24 (0, 0)) (bkA BK193) hb); have n2_ := am (blk_below (g := gb194) (o := .cells #[.int .u32 0, .int .u32 0] 24 (0, 0)) (bkA BK194) hb); have n3_ := am (below_step (hbA HB) hb); clear BK192; clear BK193; clear BK194; clear HB; have BK192 := n0_; have BK193 := n1_; have BK194 := n2_; have HB := n3_; clear n0_ n1_ n2_ n3_; (try clear hb); (try clear hb2); (try clear hk); (try clear hi); have hcz28_0 : w27.cell? ⟨gb194, 0, none⟩ = some (.int .u32 0) := cz BK194; have hcz28_1 : w27.cell? ⟨gb194, 1, none⟩ = some (.int .u32 0) := cz BK194; have hfz28_0 := blk_frozen BK194.out 0; have hfz28_1 := blk_frozen BK194.out 1))
          refine bodyPost_ret (results_cell_row rfl _ _ gb194 24 #[.int .u32 t197, .int .u32 t198] (0, 0) _ rfl (by refine bkT ?_; refine blk_put (cs := #[.int .u32 t197, .int .u32 0]) ?_ 1 _ rfl; refine bkT ?_; refine blk_put (cs := #[.int .u32 0, .int .u32 0]) ?_ 0 _ rfl; refine bkT ?_; exact BK194.out) Try.underlying24 rfl (by kernel_rfl)) rfl ?_
          exact ⟨by first | rfl | (simp [errW_none, errW_some] <;> rfl) | (simp only [← hji16]; first | rfl | (simp [errW_none, errW_some] <;> rfl)) | (simp [*, errW_none, errW_some] <;> rfl), hbA HB⟩
        · rw [if_neg c17] at H
          have c17b0 : decide (4294967295 < (ji16)) = false := decide_eq_false c17
          clear c17
          have c29b0 := eq_true (of_decide_eq_true (by first | (with_reducible assumption) | assumption) : 0 ≤ a1_0)
          obtain ⟨ji30, hji30⟩ : ∃ j_ : Int, (shl .u32 a0_0 a1_0) = j_ := ⟨_, rfl⟩
          replace H : (some (ji30, shl .u32 a0_1 a1_0)) = some (r1, r2) := by first | (rw [hji30] at H; exact H) | (simp only [hji30] at H ⊢; exact H)
          have hji30_ : (IntKind.u32.wrap (a0_0 * 2 ^ min a1_0.toNat 32)) = ji30 := hji30
          have hji30z : a1_0 ≤ 32 → (IntKind.u32.wrap (a0_0 * 2 ^ a1_0.toNat)) = ji30 := shl_small hji30
          have c31b0 := eq_true (of_decide_eq_true (by first | (with_reducible assumption) | assumption) : 0 ≤ a1_0)
          obtain ⟨ji32, hji32⟩ : ∃ j_ : Int, (shl .u32 a0_1 a1_0) = j_ := ⟨_, rfl⟩
          replace H : (some (ji30, ji32)) = some (r1, r2) := by first | (rw [hji32] at H; exact H) | (simp only [hji32] at H ⊢; exact H)
          have hji32_ : (IntKind.u32.wrap (a0_1 * 2 ^ min a1_0.toNat 32)) = ji32 := hji32
          have hji32z : a1_0 ≤ 32 → (IntKind.u32.wrap (a0_1 * 2 ^ a1_0.toNat)) = ji32 := shl_small hji32
          simp only [Option.some.injEq, Prod.mk.injEq] at H
          obtain ⟨rfl, rfl⟩ := H
          go_enter Try.func61, Try.ntmps61
          go_wp2_with (first | ((with_reducible refine gate_dst (N := 2) rfl ?_); refine bxE 2 #[.int .u32 a0_0, .int .u32 a0_1] 24 ?_; intro gb192 hg w33 hbox hb; have n0_ := am (below_step (hbA HB) hb); have n1_ := am (hbox); have n2_ := gwA hg HB; have n3_ := gwA hg HB; clear HB; have HB := n0_; have BK192 := n1_; have GW192 := n2_; have GE192 := n3_; clear n0_ n1_ n2_ n3_; clear hb hbox hg) | ((with_reducible refine gate_dst (N := 3) rfl ?_); refine bxE 3 #[.int .u32 a1_0, .int .u32 a1_1] 24 ?_; intro gb193 hg w34 hbox hb; have n0_ := am (blk_below (g := gb192) (o := .cells #[.int .u32 a0_0, .int .u32 a0_1] 24 (0, 0)) (bkA BK192) hb); have n1_ := am (below_step (hbA HB) hb); have n2_ := am (hbox); have n3_ := gwA hg HB; have n4_ := gwA hg HB; have n5_ := ltA hg BK192; have n6_ := gtA hg BK192; clear BK192; clear HB; have BK192 := n0_; have HB := n1_; have BK193 := n2_; have GW193 := n3_; have GE193 := n4_; have NB192_193 := n5_; have NB193_192 := n6_; clear n0_ n1_ n2_ n3_ n4_ n5_ n6_; clear hb hbox hg) | ((with_reducible refine gate_dst (N := 4) rfl ?_); refine bxE 4 #[.int .u32 0, .int .u32 0] 24 ?_; intro gb194 hg w35 hbox hb; have n0_ := am (blk_below (g := gb192) (o := .cells #[.int .u32 a0_0, .int .u32 a0_1] 24 (0, 0)) (bkA BK192) hb); have n1_ := am (blk_below (g := gb193) (o := .cells #[.int .u32 a1_0, .int .u32 a1_1] 24 (0, 0)) (bkA BK193) hb); have n2_ := am (below_step (hbA HB) hb); have n3_ := am (hbox); have n4_ := gwA hg HB; have n5_ := gwA hg HB; have n6_ := ltA hg BK192; have n7_ := gtA hg BK192; have n8_ := ltA hg BK193; have n9_ := gtA hg BK193; clear BK192; clear BK193; clear HB; have BK192 := n0_; have BK193 := n1_; have HB := n2_; have BK194 := n3_; have GW194 := n4_; have GE194 := n5_; have NB192_194 := n6_; have NB194_192 := n7_; have NB193_194 := n8_; have NB194_193 := n9_; clear n0_ n1_ n2_ n3_ n4_ n5_ n6_ n7_ n8_ n9_; clear hb hbox hg; have hnb36 := NB193_192.out; have hnc36 := NB192_193.out; have hnb37 := NB193_194.out; have hnc37 := NB194_193.out; have hcz38_0 : w35.cell? ⟨gb193, 0, none⟩ = some (.int .u32 a1_0) := cz BK193; have hcz38_1 : w35.cell? ⟨gb193, 1, none⟩ = some (.int .u32 a1_1) := cz BK193; have hfz38_0 := blk_frozen BK193.out 0; have hfz38_1 := blk_frozen BK193.out 1; have hnb39 := NB192_194.out; have hnc39 := NB194_192.out; have hcz40_0 : w35.cell? ⟨gb192, 0, none⟩ = some (.int .u32 a0_0) := cz BK192; have hcz40_1 : w35.cell? ⟨gb192, 1, none⟩ = some (.int .u32 a0_1) := cz BK192; have hfz40_0 := blk_frozen BK192.out 0; have hfz40_1 := blk_frozen BK192.out 1; have hcz41_0 : w35.cell? ⟨gb194, 0, none⟩ = some (.int .u32 0) := cz BK194; have hcz41_1 : w35.cell? ⟨gb194, 1, none⟩ = some (.int .u32 0) := cz BK194; have hfz41_0 := blk_frozen BK194.out 0; have hfz41_1 := blk_frozen BK194.out 1))
          refine bodyPost_ret (results_cell_row rfl _ _ gb194 24 #[.int .u32 ji30, .int .u32 ji32] (0, 0) _ rfl (by refine bkT ?_; refine blk_put (cs := #[.int .u32 ji30, .int .u32 0]) ?_ 1 _ rfl; refine bkT ?_; refine blk_put (cs := #[.int .u32 0, .int .u32 0]) ?_ 0 _ rfl; refine bkT ?_; exact BK194.out) Try.underlying24 rfl (by kernel_rfl)) rfl ?_
          exact ⟨by first | rfl | (simp [errW_none, errW_some] <;> rfl) | (simp only [← hji16, ← hji30, ← hji32]; first | rfl | (simp [errW_none, errW_some] <;> rfl)) | (simp [*, errW_none, errW_some] <;> rfl), hbA HB⟩
      · rw [if_neg c15] at H
        exact absurd H (by simp)
    · rw [if_neg c14] at H
      have c14b0 : (a1_0 == a1_1) = false := beq_eq_false_iff_ne.mpr c14
      have c14b1 : (a1_0 != a1_1) = true := bne_iff_ne.mpr c14
      replace H := Option.bind_eq_some_iff.mp H
      obtain ⟨⟨t199, t200⟩, A420, H⟩ := H
      replace H : (some (t199, t200)) = some (r1, r2) := H
      have A42 := am A420
      clear A420
      simp only [Option.some.injEq, Prod.mk.injEq] at H
      obtain ⟨rfl, rfl⟩ := H
      go_enter Try.func61, Try.ntmps61
      go_wp2_with (first | ((with_reducible refine gate_dst (N := 2) rfl ?_); refine bxE 2 #[.int .u32 a0_0, .int .u32 a0_1] 24 ?_; intro gb192 hg w43 hbox hb; have n0_ := am (below_step (hbA HB) hb); have n1_ := am (hbox); have n2_ := gwA hg HB; have n3_ := gwA hg HB; clear HB; have HB := n0_; have BK192 := n1_; have GW192 := n2_; have GE192 := n3_; clear n0_ n1_ n2_ n3_; clear hb hbox hg) | ((with_reducible refine gate_dst (N := 3) rfl ?_); refine bxE 3 #[.int .u32 a1_0, .int .u32 a1_1] 24 ?_; intro gb193 hg w44 hbox hb; have n0_ := am (blk_below (g := gb192) (o := .cells #[.int .u32 a0_0, .int .u32 a0_1] 24 (0, 0)) (bkA BK192) hb); have n1_ := am (below_step (hbA HB) hb); have n2_ := am (hbox); have n3_ := gwA hg HB; have n4_ := gwA hg HB; have n5_ := ltA hg BK192; have n6_ := gtA hg BK192; clear BK192; clear HB; have BK192 := n0_; have HB := n1_; have BK193 := n2_; have GW193 := n3_; have GE193 := n4_; have NB192_193 := n5_; have NB193_192 := n6_; clear n0_ n1_ n2_ n3_ n4_ n5_ n6_; clear hb hbox hg) | ((with_reducible refine gate_dst (N := 4) rfl ?_); refine bxE 4 #[.int .u32 0, .int .u32 0] 24 ?_; intro gb194 hg w45 hbox hb; have n0_ := am (blk_below (g := gb192) (o := .cells #[.int .u32 a0_0, .int .u32 a0_1] 24 (0, 0)) (bkA BK192) hb); have n1_ := am (blk_below (g := gb193) (o := .cells #[.int .u32 a1_0, .int .u32 a1_1] 24 (0, 0)) (bkA BK193) hb); have n2_ := am (below_step (hbA HB) hb); have n3_ := am (hbox); have n4_ := gwA hg HB; have n5_ := gwA hg HB; have n6_ := ltA hg BK192; have n7_ := gtA hg BK192; have n8_ := ltA hg BK193; have n9_ := gtA hg BK193; clear BK192; clear BK193; clear HB; have BK192 := n0_; have BK193 := n1_; have HB := n2_; have BK194 := n3_; have GW194 := n4_; have GE194 := n5_; have NB192_194 := n6_; have NB194_192 := n7_; have NB193_194 := n8_; have NB194_193 := n9_; clear n0_ n1_ n2_ n3_ n4_ n5_ n6_ n7_ n8_ n9_; clear hb hbox hg; have hnb46 := NB193_192.out; have hnc46 := NB192_193.out; have hnb47 := NB193_194.out; have hnc47 := NB194_193.out; have hcz48_0 : w45.cell? ⟨gb193, 0, none⟩ = some (.int .u32 a1_0) := cz BK193; have hcz48_1 : w45.cell? ⟨gb193, 1, none⟩ = some (.int .u32 a1_1) := cz BK193; have hfz48_0 := blk_frozen BK193.out 0; have hfz48_1 := blk_frozen BK193.out 1) | ((with_reducible refine gate_callee (f := 19) rfl ?_); refine goesL_ (some 25) rfl rfl Try.func19 (by kernel_rfl) rfl #[] rfl (by (try simp only [List.map_toArray, List.map_cons, List.map_nil]); first | done | rfl | (simp only [List.length_drop, List.length_take]; rfl)) ?_; (with_reducible refine (interval_All.calls  t199 t200 _ A42.out).mono ?_); rintro e w49 ⟨rfl, hb⟩; refine ⟨_, rfl, ?_⟩; have n0_ := am (blk_below (g := gb192) (o := .cells #[.int .u32 a0_0, .int .u32 a0_1] 24 (0, 0)) (bkA BK192) hb); have n1_ := am (blk_below (g := gb193) (o := .cells #[.int .u32 a1_0, .int .u32 a1_1] 24 (0, 0)) (bkA BK193) hb); have n2_ := am (blk_below (g := gb194) (o := .cells #[.int .u32 0, .int .u32 0] 24 (0, 0)) (bkA BK194) hb); have n3_ := am (below_step (hbA HB) hb); clear BK192; clear BK193; clear BK194; clear HB; have BK192 := n0_; have BK193 := n1_; have BK194 := n2_; have HB := n3_; clear n0_ n1_ n2_ n3_; (try clear hb); (try clear hb2); (try clear hk); (try clear hi); have hnb50 := NB194_192.out; have hnc50 := NB192_194.out; have hcz51_0 : w49.cell? ⟨gb194, 0, none⟩ = some (.int .u32 0) := cz BK194; have hcz51_1 : w49.cell? ⟨gb194, 1, none⟩ = some (.int .u32 0) := cz BK194; have hfz51_0 := blk_frozen BK194.out 0; have hfz51_1 := blk_frozen BK194.out 1))
      refine bodyPost_ret (results_cell_row rfl _ _ gb194 24 #[.int .u32 t199, .int .u32 t200] (0, 0) _ rfl (by refine bkT ?_; refine blk_put (cs := #[.int .u32 t199, .int .u32 0]) ?_ 1 _ rfl; refine bkT ?_; refine blk_put (cs := #[.int .u32 0, .int .u32 0]) ?_ 0 _ rfl; refine bkT ?_; exact BK194.out) Try.underlying24 rfl (by kernel_rfl)) rfl ?_
      exact ⟨by first | rfl | (simp [errW_none, errW_some] <;> rfl) | (simp [*, errW_none, errW_some] <;> rfl), hbA HB⟩

/-! ### interval_shr: function 62 -/
def interval_shr.f (a0_0 : Int) (a0_1 : Int) (a1_0 : Int) (a1_1 : Int) : Option (Int × Int) := if 0 ≤ a1_1 then (if 0 ≤ a1_0 then (some (shr .u32 a0_0 a1_1, shr .u32 a0_1 a1_0)) else (none)) else (none)
set_option maxHeartbeats 8000000 in
set_option maxRecDepth 100000 in
theorem interval_shr.calls (a0_0 : Int) (a0_1 : Int) (a1_0 : Int) (a1_1 : Int) (r1 : Int) (r2 : Int) (w : World) (h : interval_shr.f a0_0 a0_1 a1_0 a1_1 = some (r1, r2)) :
    Calls Try.prog 62 #[.agg #[.int .u32 a0_0, .int .u32 a0_1], .agg #[.int .u32 a1_0, .int .u32 a1_1]] w fun e w' => e = .returned (.agg #[.int .u32 r1, .int .u32 r2]) ∧ Below w.heap.size w w' := by
  have hu24 := Try.underlying24
  have HB := am (Below.refl w.heap.size w)
  have H : (if 0 ≤ a1_1 then (if 0 ≤ a1_0 then (some (shr .u32 a0_0 a1_1, shr .u32 a0_1 a1_0)) else (none)) else (none)) = some (r1, r2) := h
  clear h
  by_cases c3 : 0 ≤ a1_1
  · rw [if_pos c3] at H
    have c3b0 := eq_true c3
    have c3b1 : decide (0 ≤ a1_1) = true := decide_eq_true c3
    clear c3
    obtain ⟨ji4, hji4⟩ : ∃ j_ : Int, (shr .u32 a0_0 a1_1) = j_ := ⟨_, rfl⟩
    replace H : (if 0 ≤ a1_0 then (some (ji4, shr .u32 a0_1 a1_0)) else (none)) = some (r1, r2) := by first | (rw [hji4] at H; exact H) | (simp only [hji4] at H ⊢; exact H)
    have hji4_ : (a0_0 / 2 ^ min a1_1.toNat 32) = ji4 := hji4
    have hji4z : a1_1 ≤ 32 → (a0_0 / 2 ^ a1_1.toNat) = ji4 := shr_small hji4
    by_cases c5 : 0 ≤ a1_0
    · rw [if_pos c5] at H
      have c5b0 := eq_true c5
      have c5b1 : decide (0 ≤ a1_0) = true := decide_eq_true c5
      clear c5
      obtain ⟨ji6, hji6⟩ : ∃ j_ : Int, (shr .u32 a0_1 a1_0) = j_ := ⟨_, rfl⟩
      replace H : (some (ji4, ji6)) = some (r1, r2) := by first | (rw [hji6] at H; exact H) | (simp only [hji6] at H ⊢; exact H)
      have hji6_ : (a0_1 / 2 ^ min a1_0.toNat 32) = ji6 := hji6
      have hji6z : a1_0 ≤ 32 → (a0_1 / 2 ^ a1_0.toNat) = ji6 := shr_small hji6
      simp only [Option.some.injEq, Prod.mk.injEq] at H
      obtain ⟨rfl, rfl⟩ := H
      go_enter Try.func62, Try.ntmps62
      go_wp2_with (first | ((with_reducible refine gate_dst (N := 2) rfl ?_); refine bxE 2 #[.int .u32 a0_0, .int .u32 a0_1] 24 ?_; intro gb201 hg w7 hbox hb; have n0_ := am (below_step (hbA HB) hb); have n1_ := am (hbox); have n2_ := gwA hg HB; have n3_ := gwA hg HB; clear HB; have HB := n0_; have BK201 := n1_; have GW201 := n2_; have GE201 := n3_; clear n0_ n1_ n2_ n3_; clear hb hbox hg) | ((with_reducible refine gate_dst (N := 3) rfl ?_); refine bxE 3 #[.int .u32 a1_0, .int .u32 a1_1] 24 ?_; intro gb202 hg w8 hbox hb; have n0_ := am (blk_below (g := gb201) (o := .cells #[.int .u32 a0_0, .int .u32 a0_1] 24 (0, 0)) (bkA BK201) hb); have n1_ := am (below_step (hbA HB) hb); have n2_ := am (hbox); have n3_ := gwA hg HB; have n4_ := gwA hg HB; have n5_ := ltA hg BK201; have n6_ := gtA hg BK201; clear BK201; clear HB; have BK201 := n0_; have HB := n1_; have BK202 := n2_; have GW202 := n3_; have GE202 := n4_; have NB201_202 := n5_; have NB202_201 := n6_; clear n0_ n1_ n2_ n3_ n4_ n5_ n6_; clear hb hbox hg) | ((with_reducible refine gate_dst (N := 4) rfl ?_); refine bxE 4 #[.int .u32 0, .int .u32 0] 24 ?_; intro gb203 hg w9 hbox hb; have n0_ := am (blk_below (g := gb201) (o := .cells #[.int .u32 a0_0, .int .u32 a0_1] 24 (0, 0)) (bkA BK201) hb); have n1_ := am (blk_below (g := gb202) (o := .cells #[.int .u32 a1_0, .int .u32 a1_1] 24 (0, 0)) (bkA BK202) hb); have n2_ := am (below_step (hbA HB) hb); have n3_ := am (hbox); have n4_ := gwA hg HB; have n5_ := gwA hg HB; have n6_ := ltA hg BK201; have n7_ := gtA hg BK201; have n8_ := ltA hg BK202; have n9_ := gtA hg BK202; clear BK201; clear BK202; clear HB; have BK201 := n0_; have BK202 := n1_; have HB := n2_; have BK203 := n3_; have GW203 := n4_; have GE203 := n5_; have NB201_203 := n6_; have NB203_201 := n7_; have NB202_203 := n8_; have NB203_202 := n9_; clear n0_ n1_ n2_ n3_ n4_ n5_ n6_ n7_ n8_ n9_; clear hb hbox hg; have hnb10 := NB201_202.out; have hnc10 := NB202_201.out; have hnb11 := NB201_203.out; have hnc11 := NB203_201.out; have hcz12_0 : w9.cell? ⟨gb201, 0, none⟩ = some (.int .u32 a0_0) := cz BK201; have hcz12_1 : w9.cell? ⟨gb201, 1, none⟩ = some (.int .u32 a0_1) := cz BK201; have hfz12_0 := blk_frozen BK201.out 0; have hfz12_1 := blk_frozen BK201.out 1; have hnb13 := NB202_203.out; have hnc13 := NB203_202.out; have hcz14_0 : w9.cell? ⟨gb202, 0, none⟩ = some (.int .u32 a1_0) := cz BK202; have hcz14_1 : w9.cell? ⟨gb202, 1, none⟩ = some (.int .u32 a1_1) := cz BK202; have hfz14_0 := blk_frozen BK202.out 0; have hfz14_1 := blk_frozen BK202.out 1; have hcz15_0 : w9.cell? ⟨gb203, 0, none⟩ = some (.int .u32 0) := cz BK203; have hcz15_1 : w9.cell? ⟨gb203, 1, none⟩ = some (.int .u32 0) := cz BK203; have hfz15_0 := blk_frozen BK203.out 0; have hfz15_1 := blk_frozen BK203.out 1))
      refine bodyPost_ret (results_cell_row rfl _ _ gb203 24 #[.int .u32 ji4, .int .u32 ji6] (0, 0) _ rfl (by refine bkT ?_; refine blk_put (cs := #[.int .u32 ji4, .int .u32 0]) ?_ 1 _ rfl; refine bkT ?_; refine blk_put (cs := #[.int .u32 0, .int .u32 0]) ?_ 0 _ rfl; refine bkT ?_; exact BK203.out) Try.underlying24 rfl (by kernel_rfl)) rfl ?_
      exact ⟨by first | rfl | (simp [errW_none, errW_some] <;> rfl) | (simp only [← hji4, ← hji6]; first | rfl | (simp [errW_none, errW_some] <;> rfl)) | (simp [*, errW_none, errW_some] <;> rfl), hbA HB⟩
    · rw [if_neg c5] at H
      exact absurd H (by simp)
  · rw [if_neg c3] at H
    exact absurd H (by simp)

/-! ### interval_sar: function 63 -/
def interval_sar.f (a0_0 : Int) (a0_1 : Int) (a1_0 : Int) (a1_1 : Int) : Option (Int × Int) := if a0_1 ≥ 2147483648 then ((interval_All.f).bind fun bt207 => (some (bt207.1, bt207.2))) else ((interval_shr.f a0_0 a0_1 a1_0 a1_1).bind fun bt209 => (some (bt209.1, bt209.2)))
set_option maxHeartbeats 8000000 in
set_option maxRecDepth 100000 in
theorem interval_sar.calls (a0_0 : Int) (a0_1 : Int) (a1_0 : Int) (a1_1 : Int) (r1 : Int) (r2 : Int) (w : World) (h : interval_sar.f a0_0 a0_1 a1_0 a1_1 = some (r1, r2)) :
    Calls Try.prog 63 #[.agg #[.int .u32 a0_0, .int .u32 a0_1], .agg #[.int .u32 a1_0, .int .u32 a1_1]] w fun e w' => e = .returned (.agg #[.int .u32 r1, .int .u32 r2]) ∧ Below w.heap.size w w' := by
  have hu24 := Try.underlying24
  have HB := am (Below.refl w.heap.size w)
  have H : (if a0_1 ≥ 2147483648 then ((interval_All.f).bind fun bt207 => (some (bt207.1, bt207.2))) else ((interval_shr.f a0_0 a0_1 a1_0 a1_1).bind fun bt209 => (some (bt209.1, bt209.2)))) = some (r1, r2) := h
  clear h
  by_cases c3 : a0_1 ≥ 2147483648
  · rw [if_pos c3] at H
    have c3b0 : decide (2147483648 ≤ a0_1) = true := decide_eq_true c3
    clear c3
    replace H := Option.bind_eq_some_iff.mp H
    obtain ⟨⟨t207, t208⟩, A40, H⟩ := H
    replace H : (some (t207, t208)) = some (r1, r2) := H
    have A4 := am A40
    clear A40
    simp only [Option.some.injEq, Prod.mk.injEq] at H
    obtain ⟨rfl, rfl⟩ := H
    go_enter Try.func63, Try.ntmps63
    go_wp2_with (first | ((with_reducible refine gate_dst (N := 2) rfl ?_); refine bxE 2 #[.int .u32 a0_0, .int .u32 a0_1] 24 ?_; intro gb204 hg w5 hbox hb; have n0_ := am (below_step (hbA HB) hb); have n1_ := am (hbox); have n2_ := gwA hg HB; have n3_ := gwA hg HB; clear HB; have HB := n0_; have BK204 := n1_; have GW204 := n2_; have GE204 := n3_; clear n0_ n1_ n2_ n3_; clear hb hbox hg) | ((with_reducible refine gate_dst (N := 3) rfl ?_); refine bxE 3 #[.int .u32 a1_0, .int .u32 a1_1] 24 ?_; intro gb205 hg w6 hbox hb; have n0_ := am (blk_below (g := gb204) (o := .cells #[.int .u32 a0_0, .int .u32 a0_1] 24 (0, 0)) (bkA BK204) hb); have n1_ := am (below_step (hbA HB) hb); have n2_ := am (hbox); have n3_ := gwA hg HB; have n4_ := gwA hg HB; have n5_ := ltA hg BK204; have n6_ := gtA hg BK204; clear BK204; clear HB; have BK204 := n0_; have HB := n1_; have BK205 := n2_; have GW205 := n3_; have GE205 := n4_; have NB204_205 := n5_; have NB205_204 := n6_; clear n0_ n1_ n2_ n3_ n4_ n5_ n6_; clear hb hbox hg) | ((with_reducible refine gate_dst (N := 4) rfl ?_); refine bxE 4 #[.int .u32 0, .int .u32 0] 24 ?_; intro gb206 hg w7 hbox hb; have n0_ := am (blk_below (g := gb204) (o := .cells #[.int .u32 a0_0, .int .u32 a0_1] 24 (0, 0)) (bkA BK204) hb); have n1_ := am (blk_below (g := gb205) (o := .cells #[.int .u32 a1_0, .int .u32 a1_1] 24 (0, 0)) (bkA BK205) hb); have n2_ := am (below_step (hbA HB) hb); have n3_ := am (hbox); have n4_ := gwA hg HB; have n5_ := gwA hg HB; have n6_ := ltA hg BK204; have n7_ := gtA hg BK204; have n8_ := ltA hg BK205; have n9_ := gtA hg BK205; clear BK204; clear BK205; clear HB; have BK204 := n0_; have BK205 := n1_; have HB := n2_; have BK206 := n3_; have GW206 := n4_; have GE206 := n5_; have NB204_206 := n6_; have NB206_204 := n7_; have NB205_206 := n8_; have NB206_205 := n9_; clear n0_ n1_ n2_ n3_ n4_ n5_ n6_ n7_ n8_ n9_; clear hb hbox hg; have hnb8 := NB204_205.out; have hnc8 := NB205_204.out; have hnb9 := NB204_206.out; have hnc9 := NB206_204.out; have hcz10_0 : w7.cell? ⟨gb204, 0, none⟩ = some (.int .u32 a0_0) := cz BK204; have hcz10_1 : w7.cell? ⟨gb204, 1, none⟩ = some (.int .u32 a0_1) := cz BK204; have hfz10_0 := blk_frozen BK204.out 0; have hfz10_1 := blk_frozen BK204.out 1) | ((with_reducible refine gate_callee (f := 19) rfl ?_); refine goesL_ (some 8) rfl rfl Try.func19 (by kernel_rfl) rfl #[] rfl (by (try simp only [List.map_toArray, List.map_cons, List.map_nil]); first | done | rfl | (simp only [List.length_drop, List.length_take]; rfl)) ?_; (with_reducible refine (interval_All.calls  t207 t208 _ A4.out).mono ?_); rintro e w11 ⟨rfl, hb⟩; refine ⟨_, rfl, ?_⟩; have n0_ := am (blk_below (g := gb204) (o := .cells #[.int .u32 a0_0, .int .u32 a0_1] 24 (0, 0)) (bkA BK204) hb); have n1_ := am (blk_below (g := gb205) (o := .cells #[.int .u32 a1_0, .int .u32 a1_1] 24 (0, 0)) (bkA BK205) hb); have n2_ := am (blk_below (g := gb206) (o := .cells #[.int .u32 0, .int .u32 0] 24 (0, 0)) (bkA BK206) hb); have n3_ := am (below_step (hbA HB) hb); clear BK204; clear BK205; clear BK206; clear HB; have BK204 := n0_; have BK205 := n1_; have BK206 := n2_; have HB := n3_; clear n0_ n1_ n2_ n3_; (try clear hb); (try clear hb2); (try clear hk); (try clear hi); have hnb12 := NB206_205.out; have hnc12 := NB205_206.out; have hcz13_0 : w11.cell? ⟨gb206, 0, none⟩ = some (.int .u32 0) := cz BK206; have hcz13_1 : w11.cell? ⟨gb206, 1, none⟩ = some (.int .u32 0) := cz BK206; have hfz13_0 := blk_frozen BK206.out 0; have hfz13_1 := blk_frozen BK206.out 1))
    refine bodyPost_ret (results_cell_row rfl _ _ gb206 24 #[.int .u32 t207, .int .u32 t208] (0, 0) _ rfl (by refine bkT ?_; refine blk_put (cs := #[.int .u32 t207, .int .u32 0]) ?_ 1 _ rfl; refine bkT ?_; refine blk_put (cs := #[.int .u32 0, .int .u32 0]) ?_ 0 _ rfl; refine bkT ?_; exact BK206.out) Try.underlying24 rfl (by kernel_rfl)) rfl ?_
    exact ⟨by first | rfl | (simp [errW_none, errW_some] <;> rfl) | (simp [*, errW_none, errW_some] <;> rfl), hbA HB⟩
  · rw [if_neg c3] at H
    have c3b0 : decide (2147483648 ≤ a0_1) = false := decide_eq_false c3
    clear c3
    replace H := Option.bind_eq_some_iff.mp H
    obtain ⟨⟨t209, t210⟩, A140, H⟩ := H
    replace H : (some (t209, t210)) = some (r1, r2) := H
    have A14 := am A140
    clear A140
    simp only [Option.some.injEq, Prod.mk.injEq] at H
    obtain ⟨rfl, rfl⟩ := H
    go_enter Try.func63, Try.ntmps63
    go_wp2_with (first | ((with_reducible refine gate_dst (N := 2) rfl ?_); refine bxE 2 #[.int .u32 a0_0, .int .u32 a0_1] 24 ?_; intro gb204 hg w15 hbox hb; have n0_ := am (below_step (hbA HB) hb); have n1_ := am (hbox); have n2_ := gwA hg HB; have n3_ := gwA hg HB; clear HB; have HB := n0_; have BK204 := n1_; have GW204 := n2_; have GE204 := n3_; clear n0_ n1_ n2_ n3_; clear hb hbox hg) | ((with_reducible refine gate_dst (N := 3) rfl ?_); refine bxE 3 #[.int .u32 a1_0, .int .u32 a1_1] 24 ?_; intro gb205 hg w16 hbox hb; have n0_ := am (blk_below (g := gb204) (o := .cells #[.int .u32 a0_0, .int .u32 a0_1] 24 (0, 0)) (bkA BK204) hb); have n1_ := am (below_step (hbA HB) hb); have n2_ := am (hbox); have n3_ := gwA hg HB; have n4_ := gwA hg HB; have n5_ := ltA hg BK204; have n6_ := gtA hg BK204; clear BK204; clear HB; have BK204 := n0_; have HB := n1_; have BK205 := n2_; have GW205 := n3_; have GE205 := n4_; have NB204_205 := n5_; have NB205_204 := n6_; clear n0_ n1_ n2_ n3_ n4_ n5_ n6_; clear hb hbox hg) | ((with_reducible refine gate_dst (N := 4) rfl ?_); refine bxE 4 #[.int .u32 0, .int .u32 0] 24 ?_; intro gb206 hg w17 hbox hb; have n0_ := am (blk_below (g := gb204) (o := .cells #[.int .u32 a0_0, .int .u32 a0_1] 24 (0, 0)) (bkA BK204) hb); have n1_ := am (blk_below (g := gb205) (o := .cells #[.int .u32 a1_0, .int .u32 a1_1] 24 (0, 0)) (bkA BK205) hb); have n2_ := am (below_step (hbA HB) hb); have n3_ := am (hbox); have n4_ := gwA hg HB; have n5_ := gwA hg HB; have n6_ := ltA hg BK204; have n7_ := gtA hg BK204; have n8_ := ltA hg BK205; have n9_ := gtA hg BK205; clear BK204; clear BK205; clear HB; have BK204 := n0_; have BK205 := n1_; have HB := n2_; have BK206 := n3_; have GW206 := n4_; have GE206 := n5_; have NB204_206 := n6_; have NB206_204 := n7_; have NB205_206 := n8_; have NB206_205 := n9_; clear n0_ n1_ n2_ n3_ n4_ n5_ n6_ n7_ n8_ n9_; clear hb hbox hg; have hnb18 := NB204_205.out; have hnc18 := NB205_204.out; have hnb19 := NB204_206.out; have hnc19 := NB206_204.out; have hcz20_0 : w17.cell? ⟨gb204, 0, none⟩ = some (.int .u32 a0_0) := cz BK204; have hcz20_1 : w17.cell? ⟨gb204, 1, none⟩ = some (.int .u32 a0_1) := cz BK204; have hfz20_0 := blk_frozen BK204.out 0; have hfz20_1 := blk_frozen BK204.out 1; have hnb21 := NB205_206.out; have hnc21 := NB206_205.out; have hcz22_0 : w17.cell? ⟨gb205, 0, none⟩ = some (.int .u32 a1_0) := cz BK205; have hcz22_1 : w17.cell? ⟨gb205, 1, none⟩ = some (.int .u32 a1_1) := cz BK205; have hfz22_0 := blk_frozen BK205.out 0; have hfz22_1 := blk_frozen BK205.out 1) | ((with_reducible refine gate_callee (f := 62) rfl ?_); refine goesL_ (some 11) rfl rfl Try.func62 (by kernel_rfl) rfl #[.agg #[.int .u32 a0_0, .int .u32 a0_1], .agg #[.int .u32 a1_0, .int .u32 a1_1]] rfl (by (try simp only [List.map_toArray, List.map_cons, List.map_nil]); first | done | rfl | (simp only [List.length_drop, List.length_take]; rfl)) ?_; (with_reducible refine (interval_shr.calls a0_0 a0_1 a1_0 a1_1 t209 t210 _ A14.out).mono ?_); rintro e w23 ⟨rfl, hb⟩; refine ⟨_, rfl, ?_⟩; have n0_ := am (blk_below (g := gb204) (o := .cells #[.int .u32 a0_0, .int .u32 a0_1] 24 (0, 0)) (bkA BK204) hb); have n1_ := am (blk_below (g := gb205) (o := .cells #[.int .u32 a1_0, .int .u32 a1_1] 24 (0, 0)) (bkA BK205) hb); have n2_ := am (blk_below (g := gb206) (o := .cells #[.int .u32 0, .int .u32 0] 24 (0, 0)) (bkA BK206) hb); have n3_ := am (below_step (hbA HB) hb); clear BK204; clear BK205; clear BK206; clear HB; have BK204 := n0_; have BK205 := n1_; have BK206 := n2_; have HB := n3_; clear n0_ n1_ n2_ n3_; (try clear hb); (try clear hb2); (try clear hk); (try clear hi); have hcz24_0 : w23.cell? ⟨gb206, 0, none⟩ = some (.int .u32 0) := cz BK206; have hcz24_1 : w23.cell? ⟨gb206, 1, none⟩ = some (.int .u32 0) := cz BK206; have hfz24_0 := blk_frozen BK206.out 0; have hfz24_1 := blk_frozen BK206.out 1))
    refine bodyPost_ret (results_cell_row rfl _ _ gb206 24 #[.int .u32 t209, .int .u32 t210] (0, 0) _ rfl (by refine bkT ?_; refine blk_put (cs := #[.int .u32 t209, .int .u32 0]) ?_ 1 _ rfl; refine bkT ?_; refine blk_put (cs := #[.int .u32 0, .int .u32 0]) ?_ 0 _ rfl; refine bkT ?_; exact BK206.out) Try.underlying24 rfl (by kernel_rfl)) rfl ?_
    exact ⟨by first | rfl | (simp [errW_none, errW_some] <;> rfl) | (simp [*, errW_none, errW_some] <;> rfl), hbA HB⟩

/-! ### interval_may: function 36 -/
def interval_may.l0 : Nat → List (S24) → Int → Int → Option (Bool)
  | 0, _, _, _ => none
  | k + 1, x5, x6, x7 => if x7 < x6 then (if 0 ≤ x7 then (if x7 < (x5.length : Int) then (if ((rd_T24 x5 x7).f0) > ((rd_T24 x5 x7).f1) then (some false) else (interval_may.l0 k x5 x6 (wrap64 (x7 + 1)))) else (none)) else (none)) else (some true)
def interval_may.f (k : Nat) (l0 : List (S24)) : Option (Bool) := interval_may.l0 k l0 (l0.length : Int) 0
theorem interval_may.mono_l : ∀ k, (∀ y0 y1 y2, LeO (interval_may.l0 k y0 y1 y2) (interval_may.l0 (k + 1) y0 y1 y2))
  | 0 => fun _ _ _ r h => by simp [interval_may.l0] at h
  | k + 1 => by
    have ih0 := interval_may.mono_l k
    · intro y0 y1 y2
      unfold interval_may.l0
      repeat' first
      | (with_reducible exact ih0 _ _ _)
      | (with_reducible exact LeO.refl _)
      | (with_reducible exact LeO.none _)
      | (with_reducible refine LeO.ite ?_ ?_)
      | (with_reducible refine LeO.bind ?_ (fun _ => ?_))
      | exact ih0 _ _ _
      | exact LeO.none _
      | refine LeO.ite ?_ ?_
      | refine LeO.bind ?_ (fun _ => ?_)
theorem interval_may.mono : ∀ a0 k, LeO (interval_may.f k a0) (interval_may.f (k + 1) a0) := by
  intro a0 k
  have ih0 := interval_may.mono_l k
  unfold interval_may.f
  repeat' first
      | (with_reducible exact ih0 _ _ _)
      | (with_reducible exact LeO.refl _)
      | (with_reducible exact LeO.none _)
      | (with_reducible refine LeO.ite ?_ ?_)
      | (with_reducible refine LeO.bind ?_ (fun _ => ?_))
      | exact ih0 _ _ _
      | exact LeO.none _
      | refine LeO.ite ?_ ?_
      | refine LeO.bind ?_ (fun _ => ?_)
set_option maxHeartbeats 8000000 in
set_option maxRecDepth 100000 in
theorem interval_may.calls (k : Nat) (A0 : Option Addr) (c0 : Nat) (l0 : List (S24)) (r : Bool) (w : World) (hr0 : Kd.C k24 w A0 l0.length l0) (hc0 : l0.length ≤ c0) (h : interval_may.f k l0 = some r) :
    Calls Try.prog 36 #[.slice A0 l0.length c0] w fun e w' => e = .returned (.bool r) ∧ Below w.heap.size w w' := by
  have hu24 := Try.underlying24
  have HR0 := am hr0
  have HC0 := am hc0
  clear hr0 hc0
  have HB := am (Below.refl w.heap.size w)
  have H : (interval_may.l0 k l0 (l0.length : Int) 0) = some r := h
  clear h
  have H' := am H
  clear H
  go_enter Try.func36, Try.ntmps36
  go_wp2
  go_loopg [7] k (fun kq v7 w' => ∃ (x7_1 : Int), v7 = .int .i64 x7_1 ∧ Aside0 (interval_may.l0 kq l0 (l0.length : Int) x7_1 = some r) ∧ Aside0 (kq ≤ k) ∧ Aside0 (Below w.heap.size w w'))
  case atStart => exact ⟨(0), (by first | rfl | (simp; done) | (simp [*]; done)), H', ⟨Nat.le_refl _⟩, ⟨by repeat (first | (with_reducible first | exact HB.out | apply below_alloc | apply pw_below_drewN | apply below_drew1) | exact HB.out)⟩⟩
  case round =>
    clear H'
    obtain ⟨x7_1, rfl, HA, HK1, HB⟩ := hrel
    cases gk with
    | zero => exact absurd HA.out (by simp [interval_may.l0])
    | succ k1 =>
      have H := HA.out
      clear HA
      simp only [interval_may.l0] at H
      by_cases c2 : x7_1 < (l0.length : Int)
      · rw [if_pos c2] at H
        have c2b0 : decide (x7_1 < (l0.length : Int)) = true := decide_eq_true c2
        clear c2
        by_cases c3 : 0 ≤ x7_1
        · rw [if_pos c3] at H
          have c3b0 : decide (0 ≤ x7_1) = true := decide_eq_true c3
          clear c3
          by_cases c4 : x7_1 < (l0.length : Int)
          · rw [if_pos c4] at H
            have c4b0 : decide (x7_1 < (l0.length : Int)) = true := decide_eq_true c4
            clear c4
            by_cases c5 : ((rd_T24 l0 x7_1).f0) > ((rd_T24 l0 x7_1).f1)
            · rw [if_pos c5] at H
              have c5b0 : decide (((rd_T24 l0 x7_1).f1) < ((rd_T24 l0 x7_1).f0)) = true := decide_eq_true c5
              clear c5
              obtain rfl := Option.some.inj H
              have p211 : 0 ≤ (x7_1 : Int) := of_decide_eq_true (by first | (with_reducible assumption) | assumption)
              have q211 : x7_1 < (l0.length : Int) := of_decide_eq_true (by first | (with_reducible assumption) | assumption)
              obtain ⟨ad211, e211, hx211_0, hx211_1⟩ := at_T24 HR0.out x7_1 p211 q211
              cases e211
              replace hx211_0 := (HB.out.cell (World.block_lt_of_cell? w _ hx211_0)).trans hx211_0
              replace hx211_1 := (HB.out.cell (World.block_lt_of_cell? w _ hx211_1)).trans hx211_1
              replace p211 := eq_true p211
              replace q211 := eq_true q211
              go_wp2_with (first | ((with_reducible refine gate_dst (N := 4) rfl ?_); refine bxE 4 #[.int .u32 0, .int .u32 0] 24 ?_; intro gb212 hg w6 hbox hb; have n0_ := am (below_step (hbA HB) hb); have n1_ := am (hbox); have n2_ := gwA hg HB; have n3_ := gwA hg HB; clear HB; have HB := n0_; have BK212 := n1_; have GW212 := n2_; have GE212 := n3_; clear n0_ n1_ n2_ n3_; clear hb hbox hg; have hcz7_0 : w6.cell? ⟨gb212, 0, none⟩ = some (.int .u32 0) := cz BK212; have hcz7_1 : w6.cell? ⟨gb212, 1, none⟩ = some (.int .u32 0) := cz BK212; have hfz7_0 := blk_frozen BK212.out 0; have hfz7_1 := blk_frozen BK212.out 1))
              go_ret
              exact ⟨by first | rfl | (simp [errW_none, errW_some] <;> rfl) | (simp [*, errW_none, errW_some] <;> rfl), hbA HB⟩
            · rw [if_neg c5] at H
              have c5b0 : decide (((rd_T24 l0 x7_1).f1) < ((rd_T24 l0 x7_1).f0)) = false := decide_eq_false c5
              clear c5
              have H' := am H
              clear H
              have p211 : 0 ≤ (x7_1 : Int) := of_decide_eq_true (by first | (with_reducible assumption) | assumption)
              have q211 : x7_1 < (l0.length : Int) := of_decide_eq_true (by first | (with_reducible assumption) | assumption)
              obtain ⟨ad211, e211, hx211_0, hx211_1⟩ := at_T24 HR0.out x7_1 p211 q211
              cases e211
              replace hx211_0 := (HB.out.cell (World.block_lt_of_cell? w _ hx211_0)).trans hx211_0
              replace hx211_1 := (HB.out.cell (World.block_lt_of_cell? w _ hx211_1)).trans hx211_1
              replace p211 := eq_true p211
              replace q211 := eq_true q211
              go_wp2_with (first | ((with_reducible refine gate_dst (N := 4) rfl ?_); refine bxE 4 #[.int .u32 0, .int .u32 0] 24 ?_; intro gb212 hg w8 hbox hb; have n0_ := am (below_step (hbA HB) hb); have n1_ := am (hbox); have n2_ := gwA hg HB; have n3_ := gwA hg HB; clear HB; have HB := n0_; have BK212 := n1_; have GW212 := n2_; have GE212 := n3_; clear n0_ n1_ n2_ n3_; clear hb hbox hg; have hcz9_0 : w8.cell? ⟨gb212, 0, none⟩ = some (.int .u32 0) := cz BK212; have hcz9_1 : w8.cell? ⟨gb212, 1, none⟩ = some (.int .u32 0) := cz BK212; have hfz9_0 := blk_frozen BK212.out 0; have hfz9_1 := blk_frozen BK212.out 1))
              go_roundg k1
              case measure => have := HK1.out; omega
              case rel => exact ⟨(wrap64 (x7_1 + 1)), (by first | rfl | (simp; done) | (simp [*]; done)), H', ⟨by have := HK1.out; omega⟩, ⟨by repeat (first | (with_reducible first | exact HB.out | apply below_alloc | apply pw_below_drewN | apply below_drew1 | refine below_set ?_ GE212.out) | exact HB.out)⟩⟩
          · rw [if_neg c4] at H
            exact absurd H (by simp)
        · rw [if_neg c3] at H
          exact absurd H (by simp)
      · rw [if_neg c2] at H
        have c2b0 : decide (x7_1 < (l0.length : Int)) = false := decide_eq_false c2
        clear c2
        obtain rfl := Option.some.inj H
        go_wp2
        go_ret
        exact ⟨by first | rfl | (simp [errW_none, errW_some] <;> rfl) | (simp [*, errW_none, errW_some] <;> rfl), hbA HB⟩

/-! ### interval_Meet: function 18 -/
def interval_Meet.f (k : Nat) (a0_0 : Int) (a0_1 : Int) (a1_0 : Int) (a1_1 : Int) : Option (Int × Int × Bool) := (interval_may.f k (([(⟨a0_0, a0_1⟩ : S24), (⟨a1_0, a1_1⟩ : S24), (⟨mx a0_0 a1_0, mn a0_1 a1_1⟩ : S24)] : List (S24)))).bind fun t220 => (if t220 = true then (some (mx a0_0 a1_0, mn a0_1 a1_1, true)) else (some (0, 0, false)))
theorem interval_Meet.mono : ∀ a0 a1 a2 a3 k, LeO (interval_Meet.f k a0 a1 a2 a3) (interval_Meet.f (k + 1) a0 a1 a2 a3) := by
  intro a0 a1 a2 a3 k
  unfold interval_Meet.f
  repeat' first
      | (with_reducible exact interval_may.mono _ _)
      | (with_reducible exact LeO.refl _)
      | (with_reducible exact LeO.none _)
      | (with_reducible refine LeO.ite ?_ ?_)
      | (with_reducible refine LeO.bind ?_ (fun _ => ?_))
      | exact interval_may.mono _ _
      | exact LeO.none _
      | refine LeO.ite ?_ ?_
      | refine LeO.bind ?_ (fun _ => ?_)
set_option maxHeartbeats 8000000 in
set_option maxRecDepth 100000 in
theorem interval_Meet.calls (k : Nat) (a0_0 : Int) (a0_1 : Int) (a1_0 : Int) (a1_1 : Int) (r1 : Int) (r2 : Int) (r3 : Bool) (w : World) (h : interval_Meet.f k a0_0 a0_1 a1_0 a1_1 = some (r1, r2, r3)) :
    Calls Try.prog 18 #[.agg #[.int .u32 a0_0, .int .u32 a0_1], .agg #[.int .u32 a1_0, .int .u32 a1_1]] w fun e w' => e = .returned (.tuple #[.agg #[.int .u32 r1, .int .u32 r2], .bool r3]) ∧ Below w.heap.size w w' := by
  have hu24 := Try.underlying24
  have HB := am (Below.refl w.heap.size w)
  have H : ((interval_may.f k (([(⟨a0_0, a0_1⟩ : S24), (⟨a1_0, a1_1⟩ : S24), (⟨mx a0_0 a1_0, mn a0_1 a1_1⟩ : S24)] : List (S24)))).bind fun t220 => (if t220 = true then (some (mx a0_0 a1_0, mn a0_1 a1_1, true)) else (some (0, 0, false)))) = some (r1, r2, r3) := h
  clear h
  obtain ⟨ji3, hji3⟩ : ∃ j_ : Int, (mx a0_0 a1_0) = j_ := ⟨_, rfl⟩
  replace H : ((interval_may.f k (([(⟨a0_0, a0_1⟩ : S24), (⟨a1_0, a1_1⟩ : S24), (⟨ji3, mn a0_1 a1_1⟩ : S24)] : List (S24)))).bind fun t220 => (if t220 = true then (some (ji3, mn a0_1 a1_1, true)) else (some (0, 0, false)))) = some (r1, r2, r3) := by first | (rw [hji3] at H; exact H) | (simp only [hji3] at H ⊢; exact H)
  have hji3_ : (if a0_0 < a1_0 then a1_0 else a0_0) = ji3 := hji3
  obtain ⟨ji4, hji4⟩ : ∃ j_ : Int, (mn a0_1 a1_1) = j_ := ⟨_, rfl⟩
  replace H : ((interval_may.f k (([(⟨a0_0, a0_1⟩ : S24), (⟨a1_0, a1_1⟩ : S24), (⟨ji3, ji4⟩ : S24)] : List (S24)))).bind fun t220 => (if t220 = true then (some (ji3, ji4, true)) else (some (0, 0, false)))) = some (r1, r2, r3) := by first | (rw [hji4] at H; exact H) | (simp only [hji4] at H ⊢; exact H)
  have hji4_ : (if a1_1 < a0_1 then a1_1 else a0_1) = ji4 := hji4
  obtain ⟨y217, hy217⟩ : ∃ y_ : List (S24), y_ = (([(⟨a0_0, a0_1⟩ : S24), (⟨a1_0, a1_1⟩ : S24), (⟨ji3, ji4⟩ : S24)] : List (S24))) := ⟨_, rfl⟩
  replace H : ((interval_may.f k y217).bind fun t220 => (if t220 = true then (some (ji3, ji4, true)) else (some (0, 0, false)))) = some (r1, r2, r3) := by first | (rw [hy217]; with_reducible exact H) | (have H2_ := (Option.bind_some _ _).symm.trans H; rw [hy217]; with_reducible exact H2_) | (have H2_ := (Option.bind_some _ _).symm.trans H; with_reducible exact H2_) | with_reducible exact H | (rw [hy217]; exact H) | exact H
  have Ny217 := am hy217
  clear hy217
  replace H := Option.bind_eq_some_iff.mp H
  obtain ⟨t220, A50, H⟩ := H
  replace H : (if t220 = true then (some (ji3, ji4, true)) else (some (0, 0, false))) = some (r1, r2, r3) := H
  have A5 := am A50
  clear A50
  by_cases c6 : t220 = true
  · subst c6
    have H1 : (some (ji3, ji4, true)) = some (r1, r2, r3) := by rw [if_pos rfl] at H; exact H
    clear H
    have H := H1
    clear H1
    simp only [Option.some.injEq, Prod.mk.injEq] at H
    obtain ⟨rfl, rfl, rfl⟩ := H
    go_enter Try.func18, Try.ntmps18
    go_wp2_with (first | ((with_reducible refine gate_dst (N := 2) rfl ?_); refine bxE 2 #[.int .u32 a0_0, .int .u32 a0_1] 24 ?_; intro gb213 hg w7 hbox hb; have n0_ := am (below_step (hbA HB) hb); have n1_ := am (hbox); have n2_ := gwA hg HB; have n3_ := gwA hg HB; clear HB; have HB := n0_; have BK213 := n1_; have GW213 := n2_; have GE213 := n3_; clear n0_ n1_ n2_ n3_; clear hb hbox hg) | ((with_reducible refine gate_dst (N := 3) rfl ?_); refine bxE 3 #[.int .u32 a1_0, .int .u32 a1_1] 24 ?_; intro gb214 hg w8 hbox hb; have n0_ := am (blk_below (g := gb213) (o := .cells #[.int .u32 a0_0, .int .u32 a0_1] 24 (0, 0)) (bkA BK213) hb); have n1_ := am (below_step (hbA HB) hb); have n2_ := am (hbox); have n3_ := gwA hg HB; have n4_ := gwA hg HB; have n5_ := ltA hg BK213; have n6_ := gtA hg BK213; clear BK213; clear HB; have BK213 := n0_; have HB := n1_; have BK214 := n2_; have GW214 := n3_; have GE214 := n4_; have NB213_214 := n5_; have NB214_213 := n6_; clear n0_ n1_ n2_ n3_ n4_ n5_ n6_; clear hb hbox hg) | ((with_reducible refine gate_dst (N := 4) rfl ?_); refine bxE 4 #[.int .u32 0, .int .u32 0] 24 ?_; intro gb215 hg w9 hbox hb; have n0_ := am (blk_below (g := gb213) (o := .cells #[.int .u32 a0_0, .int .u32 a0_1] 24 (0, 0)) (bkA BK213) hb); have n1_ := am (blk_below (g := gb214) (o := .cells #[.int .u32 a1_0, .int .u32 a1_1] 24 (0, 0)) (bkA BK214) hb); have n2_ := am (below_step (hbA HB) hb); have n3_ := am (hbox); have n4_ := gwA hg HB; have n5_ := gwA hg HB; have n6_ := ltA hg BK213; have n7_ := gtA hg BK213; have n8_ := ltA hg BK214; have n9_ := gtA hg BK214; clear BK213; clear BK214; clear HB; have BK213 := n0_; have BK214 := n1_; have HB := n2_; have BK215 := n3_; have GW215 := n4_; have GE215 := n5_; have NB213_215 := n6_; have NB215_213 := n7_; have NB214_215 := n8_; have NB215_214 := n9_; clear n0_ n1_ n2_ n3_ n4_ n5_ n6_ n7_ n8_ n9_; clear hb hbox hg; have hnb10 := NB213_214.out; have hnc10 := NB214_213.out; have hnb11 := NB213_215.out; have hnc11 := NB215_213.out; have hcz12_0 : w9.cell? ⟨gb213, 0, none⟩ = some (.int .u32 a0_0) := cz BK213; have hcz12_1 : w9.cell? ⟨gb213, 1, none⟩ = some (.int .u32 a0_1) := cz BK213; have hfz12_0 := blk_frozen BK213.out 0; have hfz12_1 := blk_frozen BK213.out 1; have hnb13 := NB214_215.out; have hnc13 := NB215_214.out; have hcz14_0 : w9.cell? ⟨gb214, 0, none⟩ = some (.int .u32 a1_0) := cz BK214; have hcz14_1 : w9.cell? ⟨gb214, 1, none⟩ = some (.int .u32 a1_1) := cz BK214; have hfz14_0 := blk_frozen BK214.out 0; have hfz14_1 := blk_frozen BK214.out 1) | ((with_reducible refine gate_dst (N := 6) rfl ?_); refine bxE 6 #[.int .u32 0, .int .u32 0] 24 ?_; intro gb216 hg w15 hbox hb; have n0_ := am (blk_below (g := gb213) (o := .cells #[.int .u32 a0_0, .int .u32 a0_1] 24 (0, 0)) (bkA BK213) hb); have n1_ := am (blk_below (g := gb214) (o := .cells #[.int .u32 a1_0, .int .u32 a1_1] 24 (0, 0)) (bkA BK214) hb); have n2_ := am (blk_below (g := gb215) (o := .cells #[.int .u32 0, .int .u32 0] 24 (0, 0)) (bkA BK215) hb); have n3_ := am (below_step (hbA HB) hb); have n4_ := am (hbox); have n5_ := gwA hg HB; have n6_ := gwA hg HB; have n7_ := ltA hg BK213; have n8_ := gtA hg BK213; have n9_ := ltA hg BK214; have n10_ := gtA hg BK214; have n11_ := ltA hg BK215; have n12_ := gtA hg BK215; clear BK213; clear BK214; clear BK215; clear HB; have BK213 := n0_; have BK214 := n1_; have BK215 := n2_; have HB := n3_; have BK216 := n4_; have GW216 := n5_; have GE216 := n6_; have NB213_216 := n7_; have NB216_213 := n8_; have NB214_216 := n9_; have NB216_214 := n10_; have NB215_216 := n11_; have NB216_215 := n12_; clear n0_ n1_ n2_ n3_ n4_ n5_ n6_ n7_ n8_ n9_ n10_ n11_ n12_; clear hb hbox hg; have hnb16 := NB216_213.out; have hnc16 := NB213_216.out; have hnb17 := NB216_214.out; have hnc17 := NB214_216.out; have hnb18 := NB216_215.out; have hnc18 := NB215_216.out; have hcz19_0 : w15.cell? ⟨gb216, 0, none⟩ = some (.int .u32 0) := cz BK216; have hcz19_1 : w15.cell? ⟨gb216, 1, none⟩ = some (.int .u32 0) := cz BK216; have hfz19_0 := blk_frozen BK216.out 0; have hfz19_1 := blk_frozen BK216.out 1; have hcz20_0 : w15.cell? ⟨gb213, 0, none⟩ = some (.int .u32 a0_0) := cz BK213; have hcz20_1 : w15.cell? ⟨gb213, 1, none⟩ = some (.int .u32 a0_1) := cz BK213; have hfz20_0 := blk_frozen BK213.out 0; have hfz20_1 := blk_frozen BK213.out 1; have hcz21_0 : w15.cell? ⟨gb214, 0, none⟩ = some (.int .u32 a1_0) := cz BK214; have hcz21_1 : w15.cell? ⟨gb214, 1, none⟩ = some (.int .u32 a1_1) := cz BK214; have hfz21_0 := blk_frozen BK214.out 0; have hfz21_1 := blk_frozen BK214.out 1) | ((with_reducible refine gate_dst (N := 21) rfl ?_); refine Kd.R_lit k24 _ 24 ?hg (N := 21) ?hd (xs := ([(⟨a0_0, a0_1⟩ : S24), (⟨a1_0, a1_1⟩ : S24), (⟨ji3, ji4⟩ : S24)] : List (S24))) (inner := [.int .u32 a0_0, .int .u32 a0_1, .int .u32 a1_0, .int .u32 a1_1, .int .u32 ji3, .int .u32 ji4]) (ok := fun _ => True) (okp := fun _ => True) ?hr ?hp (fun _ hk => hk) trivial (Below.refl _ _) (Nat.le_refl _) (by simp) ?_; (case hd => rfl); (case hg => rfl); (case hr => first | (go_simp; done) | (go_simp; rfl)); (case hp => exact (Reps.c2 (show Kd.M k24 _ _ _ (⟨a0_0, a0_1⟩ : S24) [.int .u32 a0_0, .int .u32 a0_1] from (k24_mkM _ _ _ (⟨a0_0, a0_1⟩ : S24) )) (Reps.c2 (show Kd.M k24 _ _ _ (⟨a1_0, a1_1⟩ : S24) [.int .u32 a1_0, .int .u32 a1_1] from (k24_mkM _ _ _ (⟨a1_0, a1_1⟩ : S24) )) (Reps.c2 (show Kd.M k24 _ _ _ (⟨ji3, ji4⟩ : S24) [.int .u32 ji3, .int .u32 ji4] from (k24_mkM _ _ _ (⟨ji3, ji4⟩ : S24) )) (Reps.none _ _))))); intro v218 w22 ho23 hb hg_ hnew_; clear hg_ hnew_; (first | rw [← Ny217.out] at ho23 | (simp only [Int.reduceToNat] at ho23; rw [← Ny217.out] at ho23)); have n0_ := am (Kd.R_lower (Kd.R_newB (Kd.R_newB (Kd.R_newB (Kd.R_newB ho23 (g := gb213) (o := .cells #[.int .u32 a0_0, .int .u32 a0_1] 24 (0, 0)) (by refine bkT ?_; refine blk_far ?_ NB213_216.out _; refine bkT ?_; refine blk_far ?_ NB213_216.out _; refine bkT ?_; exact BK213.out)) (g := gb214) (o := .cells #[.int .u32 a1_0, .int .u32 a1_1] 24 (0, 0)) (by refine bkT ?_; refine blk_far ?_ NB214_216.out _; refine bkT ?_; refine blk_far ?_ NB214_216.out _; refine bkT ?_; exact BK214.out)) (g := gb215) (o := .cells #[.int .u32 0, .int .u32 0] 24 (0, 0)) (by refine bkT ?_; refine blk_far ?_ NB215_216.out _; refine bkT ?_; refine blk_far ?_ NB215_216.out _; refine bkT ?_; exact BK215.out)) (g := gb216) (o := .cells #[.int .u32 ji3, .int .u32 ji4] 24 (0, 0)) (by refine bkT ?_; refine blk_put (cs := #[.int .u32 ji3, .int .u32 0]) ?_ 1 _ rfl; refine bkT ?_; refine blk_put (cs := #[.int .u32 0, .int .u32 0]) ?_ 0 _ rfl; refine bkT ?_; exact BK216.out)) (below_size (hbA HB))); have n1_ := am (blk_below (g := gb213) (o := .cells #[.int .u32 a0_0, .int .u32 a0_1] 24 (0, 0)) (by refine bkT ?_; refine blk_far ?_ NB213_216.out _; refine bkT ?_; refine blk_far ?_ NB213_216.out _; refine bkT ?_; exact BK213.out) hb); have n2_ := am (blk_below (g := gb214) (o := .cells #[.int .u32 a1_0, .int .u32 a1_1] 24 (0, 0)) (by refine bkT ?_; refine blk_far ?_ NB214_216.out _; refine bkT ?_; refine blk_far ?_ NB214_216.out _; refine bkT ?_; exact BK214.out) hb); have n3_ := am (blk_below (g := gb215) (o := .cells #[.int .u32 0, .int .u32 0] 24 (0, 0)) (by refine bkT ?_; refine blk_far ?_ NB215_216.out _; refine bkT ?_; refine blk_far ?_ NB215_216.out _; refine bkT ?_; exact BK215.out) hb); have n4_ := am (blk_below (g := gb216) (o := .cells #[.int .u32 ji3, .int .u32 ji4] 24 (0, 0)) (by refine bkT ?_; refine blk_put (cs := #[.int .u32 ji3, .int .u32 0]) ?_ 1 _ rfl; refine bkT ?_; refine blk_put (cs := #[.int .u32 0, .int .u32 0]) ?_ 0 _ rfl; refine bkT ?_; exact BK216.out) hb); have n5_ := am (below_step (hbA HB) hb); clear BK213; clear BK214; clear BK215; clear BK216; clear HB; have HO219 := n0_; have BK213 := n1_; have BK214 := n2_; have BK215 := n3_; have BK216 := n4_; have HB := n5_; clear n0_ n1_ n2_ n3_ n4_ n5_; clear hb ho23; obtain ⟨Ao24, co24, eo24⟩ := Kd.R_slice HO219.out; subst eo24) | ((with_reducible refine gate_callee (f := 36) rfl ?_); refine goesL_ (some 22) rfl rfl Try.func36 (by kernel_rfl) rfl #[.slice Ao24 y217.length co24] rfl (by (try simp only [List.map_toArray, List.map_cons, List.map_nil]); first | done | rfl | (simp only [List.length_drop, List.length_take]; rfl)) ?_; (with_reducible refine (interval_may.calls k _ _ y217 true _ ?side1 ?side2 A5.out).mono ?_); (case side1 => repeat (first | exact (Kd.R_reads' HO219.out).2.2 | (with_reducible refine Kd.C_alloc ?_ _) | (with_reducible refine Kd.C_drewN ?_ _) | (with_reducible refine Kd.C_drew ?_))); (case side2 => exact (Kd.R_reads' HO219.out).2.1); rintro e w25 ⟨rfl, hb⟩; refine ⟨_, rfl, ?_⟩; have n0_ := am (Kd.R_below (by (with_reducible repeat (first | apply Kd.R_alloc | apply Kd.R_drewN | apply Kd.R_drew)); exact HO219.out) hb); have n1_ := am (blk_below (g := gb213) (o := .cells #[.int .u32 a0_0, .int .u32 a0_1] 24 (0, 0)) (bkA BK213) hb); have n2_ := am (blk_below (g := gb214) (o := .cells #[.int .u32 a1_0, .int .u32 a1_1] 24 (0, 0)) (bkA BK214) hb); have n3_ := am (blk_below (g := gb215) (o := .cells #[.int .u32 0, .int .u32 0] 24 (0, 0)) (bkA BK215) hb); have n4_ := am (blk_below (g := gb216) (o := .cells #[.int .u32 ji3, .int .u32 ji4] 24 (0, 0)) (bkA BK216) hb); have n5_ := am (below_step (hbA HB) hb); clear HO219; clear BK213; clear BK214; clear BK215; clear BK216; clear HB; have HO219 := n0_; have BK213 := n1_; have BK214 := n2_; have BK215 := n3_; have BK216 := n4_; have HB := n5_; clear n0_ n1_ n2_ n3_ n4_ n5_; (try clear hb); (try clear hb2); (try clear hk); (try clear hi); have hcz26_0 : w25.cell? ⟨gb216, 0, none⟩ = some (.int .u32 ji3) := cz BK216; have hcz26_1 : w25.cell? ⟨gb216, 1, none⟩ = some (.int .u32 ji4) := cz BK216; have hfz26_0 := blk_frozen BK216.out 0; have hfz26_1 := blk_frozen BK216.out 1; have hcz27_0 : w25.cell? ⟨gb215, 0, none⟩ = some (.int .u32 0) := cz BK215; have hcz27_1 : w25.cell? ⟨gb215, 1, none⟩ = some (.int .u32 0) := cz BK215; have hfz27_0 := blk_frozen BK215.out 0; have hfz27_1 := blk_frozen BK215.out 1))
    refine bodyPost_ret (results_ct rfl _ _ gb215 24 #[.int .u32 ji3, .int .u32 ji4] (0, 0) _ rfl (by refine bkT ?_; refine blk_put (cs := #[.int .u32 ji3, .int .u32 0]) ?_ 1 _ rfl; refine bkT ?_; refine blk_put (cs := #[.int .u32 0, .int .u32 0]) ?_ 0 _ rfl; refine bkT ?_; exact BK215.out) Try.underlying24 rfl (by kernel_rfl)) rfl ?_
    exact ⟨by first | rfl | (simp [errW_none, errW_some] <;> rfl) | (simp only [← hji3, ← hji4]; first | rfl | (simp [errW_none, errW_some] <;> rfl)) | (simp [*, errW_none, errW_some] <;> rfl), hbA HB⟩
  · replace c6 := Bool.eq_false_iff.mpr c6
    subst c6
    have H1 : (some (0, 0, false)) = some (r1, r2, r3) := by rw [if_neg (show ¬ (false = true) by decide)] at H; exact H
    clear H
    have H := H1
    clear H1
    simp only [Option.some.injEq, Prod.mk.injEq] at H
    obtain ⟨rfl, rfl, rfl⟩ := H
    go_enter Try.func18, Try.ntmps18
    go_wp2_with (first | ((with_reducible refine gate_dst (N := 2) rfl ?_); refine bxE 2 #[.int .u32 a0_0, .int .u32 a0_1] 24 ?_; intro gb213 hg w28 hbox hb; have n0_ := am (below_step (hbA HB) hb); have n1_ := am (hbox); have n2_ := gwA hg HB; have n3_ := gwA hg HB; clear HB; have HB := n0_; have BK213 := n1_; have GW213 := n2_; have GE213 := n3_; clear n0_ n1_ n2_ n3_; clear hb hbox hg) | ((with_reducible refine gate_dst (N := 3) rfl ?_); refine bxE 3 #[.int .u32 a1_0, .int .u32 a1_1] 24 ?_; intro gb214 hg w29 hbox hb; have n0_ := am (blk_below (g := gb213) (o := .cells #[.int .u32 a0_0, .int .u32 a0_1] 24 (0, 0)) (bkA BK213) hb); have n1_ := am (below_step (hbA HB) hb); have n2_ := am (hbox); have n3_ := gwA hg HB; have n4_ := gwA hg HB; have n5_ := ltA hg BK213; have n6_ := gtA hg BK213; clear BK213; clear HB; have BK213 := n0_; have HB := n1_; have BK214 := n2_; have GW214 := n3_; have GE214 := n4_; have NB213_214 := n5_; have NB214_213 := n6_; clear n0_ n1_ n2_ n3_ n4_ n5_ n6_; clear hb hbox hg) | ((with_reducible refine gate_dst (N := 4) rfl ?_); refine bxE 4 #[.int .u32 0, .int .u32 0] 24 ?_; intro gb215 hg w30 hbox hb; have n0_ := am (blk_below (g := gb213) (o := .cells #[.int .u32 a0_0, .int .u32 a0_1] 24 (0, 0)) (bkA BK213) hb); have n1_ := am (blk_below (g := gb214) (o := .cells #[.int .u32 a1_0, .int .u32 a1_1] 24 (0, 0)) (bkA BK214) hb); have n2_ := am (below_step (hbA HB) hb); have n3_ := am (hbox); have n4_ := gwA hg HB; have n5_ := gwA hg HB; have n6_ := ltA hg BK213; have n7_ := gtA hg BK213; have n8_ := ltA hg BK214; have n9_ := gtA hg BK214; clear BK213; clear BK214; clear HB; have BK213 := n0_; have BK214 := n1_; have HB := n2_; have BK215 := n3_; have GW215 := n4_; have GE215 := n5_; have NB213_215 := n6_; have NB215_213 := n7_; have NB214_215 := n8_; have NB215_214 := n9_; clear n0_ n1_ n2_ n3_ n4_ n5_ n6_ n7_ n8_ n9_; clear hb hbox hg; have hnb31 := NB213_214.out; have hnc31 := NB214_213.out; have hnb32 := NB213_215.out; have hnc32 := NB215_213.out; have hcz33_0 : w30.cell? ⟨gb213, 0, none⟩ = some (.int .u32 a0_0) := cz BK213; have hcz33_1 : w30.cell? ⟨gb213, 1, none⟩ = some (.int .u32 a0_1) := cz BK213; have hfz33_0 := blk_frozen BK213.out 0; have hfz33_1 := blk_frozen BK213.out 1; have hnb34 := NB214_215.out; have hnc34 := NB215_214.out; have hcz35_0 : w30.cell? ⟨gb214, 0, none⟩ = some (.int .u32 a1_0) := cz BK214; have hcz35_1 : w30.cell? ⟨gb214, 1, none⟩ = some (.int .u32 a1_1) := cz BK214; have hfz35_0 := blk_frozen BK214.out 0; have hfz35_1 := blk_frozen BK214.out 1) | ((with_reducible refine gate_dst (N := 6) rfl ?_); refine bxE 6 #[.int .u32 0, .int .u32 0] 24 ?_; intro gb216 hg w36 hbox hb; have n0_ := am (blk_below (g := gb213) (o := .cells #[.int .u32 a0_0, .int .u32 a0_1] 24 (0, 0)) (bkA BK213) hb); have n1_ := am (blk_below (g := gb214) (o := .cells #[.int .u32 a1_0, .int .u32 a1_1] 24 (0, 0)) (bkA BK214) hb); have n2_ := am (blk_below (g := gb215) (o := .cells #[.int .u32 0, .int .u32 0] 24 (0, 0)) (bkA BK215) hb); have n3_ := am (below_step (hbA HB) hb); have n4_ := am (hbox); have n5_ := gwA hg HB; have n6_ := gwA hg HB; have n7_ := ltA hg BK213; have n8_ := gtA hg BK213; have n9_ := ltA hg BK214; have n10_ := gtA hg BK214; have n11_ := ltA hg BK215; have n12_ := gtA hg BK215; clear BK213; clear BK214; clear BK215; clear HB; have BK213 := n0_; have BK214 := n1_; have BK215 := n2_; have HB := n3_; have BK216 := n4_; have GW216 := n5_; have GE216 := n6_; have NB213_216 := n7_; have NB216_213 := n8_; have NB214_216 := n9_; have NB216_214 := n10_; have NB215_216 := n11_; have NB216_215 := n12_; clear n0_ n1_ n2_ n3_ n4_ n5_ n6_ n7_ n8_ n9_ n10_ n11_ n12_; clear hb hbox hg; have hnb37 := NB216_213.out; have hnc37 := NB213_216.out; have hnb38 := NB216_214.out; have hnc38 := NB214_216.out; have hnb39 := NB216_215.out; have hnc39 := NB215_216.out; have hcz40_0 : w36.cell? ⟨gb216, 0, none⟩ = some (.int .u32 0) := cz BK216; have hcz40_1 : w36.cell? ⟨gb216, 1, none⟩ = some (.int .u32 0) := cz BK216; have hfz40_0 := blk_frozen BK216.out 0; have hfz40_1 := blk_frozen BK216.out 1; have hcz41_0 : w36.cell? ⟨gb213, 0, none⟩ = some (.int .u32 a0_0) := cz BK213; have hcz41_1 : w36.cell? ⟨gb213, 1, none⟩ = some (.int .u32 a0_1) := cz BK213; have hfz41_0 := blk_frozen BK213.out 0; have hfz41_1 := blk_frozen BK213.out 1; have hcz42_0 : w36.cell? ⟨gb214, 0, none⟩ = some (.int .u32 a1_0) := cz BK214; have hcz42_1 : w36.cell? ⟨gb214, 1, none⟩ = some (.int .u32 a1_1) := cz BK214; have hfz42_0 := blk_frozen BK214.out 0; have hfz42_1 := blk_frozen BK214.out 1) | ((with_reducible refine gate_dst (N := 21) rfl ?_); refine Kd.R_lit k24 _ 24 ?hg (N := 21) ?hd (xs := ([(⟨a0_0, a0_1⟩ : S24), (⟨a1_0, a1_1⟩ : S24), (⟨ji3, ji4⟩ : S24)] : List (S24))) (inner := [.int .u32 a0_0, .int .u32 a0_1, .int .u32 a1_0, .int .u32 a1_1, .int .u32 ji3, .int .u32 ji4]) (ok := fun _ => True) (okp := fun _ => True) ?hr ?hp (fun _ hk => hk) trivial (Below.refl _ _) (Nat.le_refl _) (by simp) ?_; (case hd => rfl); (case hg => rfl); (case hr => first | (go_simp; done) | (go_simp; rfl)); (case hp => exact (Reps.c2 (show Kd.M k24 _ _ _ (⟨a0_0, a0_1⟩ : S24) [.int .u32 a0_0, .int .u32 a0_1] from (k24_mkM _ _ _ (⟨a0_0, a0_1⟩ : S24) )) (Reps.c2 (show Kd.M k24 _ _ _ (⟨a1_0, a1_1⟩ : S24) [.int .u32 a1_0, .int .u32 a1_1] from (k24_mkM _ _ _ (⟨a1_0, a1_1⟩ : S24) )) (Reps.c2 (show Kd.M k24 _ _ _ (⟨ji3, ji4⟩ : S24) [.int .u32 ji3, .int .u32 ji4] from (k24_mkM _ _ _ (⟨ji3, ji4⟩ : S24) )) (Reps.none _ _))))); intro v218 w43 ho44 hb hg_ hnew_; clear hg_ hnew_; (first | rw [← Ny217.out] at ho44 | (simp only [Int.reduceToNat] at ho44; rw [← Ny217.out] at ho44)); have n0_ := am (Kd.R_lower (Kd.R_newB (Kd.R_newB (Kd.R_newB (Kd.R_newB ho44 (g := gb213) (o := .cells #[.int .u32 a0_0, .int .u32 a0_1] 24 (0, 0)) (by refine bkT ?_; refine blk_far ?_ NB213_216.out _; refine bkT ?_; refine blk_far ?_ NB213_216.out _; refine bkT ?_; exact BK213.out)) (g := gb214) (o := .cells #[.int .u32 a1_0, .int .u32 a1_1] 24 (0, 0)) (by refine bkT ?_; refine blk_far ?_ NB214_216.out _; refine bkT ?_; refine blk_far ?_ NB214_216.out _; refine bkT ?_; exact BK214.out)) (g := gb215) (o := .cells #[.int .u32 0, .int .u32 0] 24 (0, 0)) (by refine bkT ?_; refine blk_far ?_ NB215_216.out _; refine bkT ?_; refine blk_far ?_ NB215_216.out _; refine bkT ?_; exact BK215.out)) (g := gb216) (o := .cells #[.int .u32 ji3, .int .u32 ji4] 24 (0, 0)) (by refine bkT ?_; refine blk_put (cs := #[.int .u32 ji3, .int .u32 0]) ?_ 1 _ rfl; refine bkT ?_; refine blk_put (cs := #[.int .u32 0, .int .u32 0]) ?_ 0 _ rfl; refine bkT ?_; exact BK216.out)) (below_size (hbA HB))); have n1_ := am (blk_below (g := gb213) (o := .cells #[.int .u32 a0_0, .int .u32 a0_1] 24 (0, 0)) (by refine bkT ?_; refine blk_far ?_ NB213_216.out _; refine bkT ?_; refine blk_far ?_ NB213_216.out _; refine bkT ?_; exact BK213.out) hb); have n2_ := am (blk_below (g := gb214) (o := .cells #[.int .u32 a1_0, .int .u32 a1_1] 24 (0, 0)) (by refine bkT ?_; refine blk_far ?_ NB214_216.out _; refine bkT ?_; refine blk_far ?_ NB214_216.out _; refine bkT ?_; exact BK214.out) hb); have n3_ := am (blk_below (g := gb215) (o := .cells #[.int .u32 0, .int .u32 0] 24 (0, 0)) (by refine bkT ?_; refine blk_far ?_ NB215_216.out _; refine bkT ?_; refine blk_far ?_ NB215_216.out _; refine bkT ?_; exact BK215.out) hb); have n4_ := am (blk_below (g := gb216) (o := .cells #[.int .u32 ji3, .int .u32 ji4] 24 (0, 0)) (by refine bkT ?_; refine blk_put (cs := #[.int .u32 ji3, .int .u32 0]) ?_ 1 _ rfl; refine bkT ?_; refine blk_put (cs := #[.int .u32 0, .int .u32 0]) ?_ 0 _ rfl; refine bkT ?_; exact BK216.out) hb); have n5_ := am (below_step (hbA HB) hb); clear BK213; clear BK214; clear BK215; clear BK216; clear HB; have HO219 := n0_; have BK213 := n1_; have BK214 := n2_; have BK215 := n3_; have BK216 := n4_; have HB := n5_; clear n0_ n1_ n2_ n3_ n4_ n5_; clear hb ho44; obtain ⟨Ao45, co45, eo45⟩ := Kd.R_slice HO219.out; subst eo45) | ((with_reducible refine gate_callee (f := 36) rfl ?_); refine goesL_ (some 22) rfl rfl Try.func36 (by kernel_rfl) rfl #[.slice Ao45 y217.length co45] rfl (by (try simp only [List.map_toArray, List.map_cons, List.map_nil]); first | done | rfl | (simp only [List.length_drop, List.length_take]; rfl)) ?_; (with_reducible refine (interval_may.calls k _ _ y217 false _ ?side1 ?side2 A5.out).mono ?_); (case side1 => repeat (first | exact (Kd.R_reads' HO219.out).2.2 | (with_reducible refine Kd.C_alloc ?_ _) | (with_reducible refine Kd.C_drewN ?_ _) | (with_reducible refine Kd.C_drew ?_))); (case side2 => exact (Kd.R_reads' HO219.out).2.1); rintro e w46 ⟨rfl, hb⟩; refine ⟨_, rfl, ?_⟩; have n0_ := am (Kd.R_below (by (with_reducible repeat (first | apply Kd.R_alloc | apply Kd.R_drewN | apply Kd.R_drew)); exact HO219.out) hb); have n1_ := am (blk_below (g := gb213) (o := .cells #[.int .u32 a0_0, .int .u32 a0_1] 24 (0, 0)) (bkA BK213) hb); have n2_ := am (blk_below (g := gb214) (o := .cells #[.int .u32 a1_0, .int .u32 a1_1] 24 (0, 0)) (bkA BK214) hb); have n3_ := am (blk_below (g := gb215) (o := .cells #[.int .u32 0, .int .u32 0] 24 (0, 0)) (bkA BK215) hb); have n4_ := am (blk_below (g := gb216) (o := .cells #[.int .u32 ji3, .int .u32 ji4] 24 (0, 0)) (bkA BK216) hb); have n5_ := am (below_step (hbA HB) hb); clear HO219; clear BK213; clear BK214; clear BK215; clear BK216; clear HB; have HO219 := n0_; have BK213 := n1_; have BK214 := n2_; have BK215 := n3_; have BK216 := n4_; have HB := n5_; clear n0_ n1_ n2_ n3_ n4_ n5_; (try clear hb); (try clear hb2); (try clear hk); (try clear hi); have hcz47_0 : w46.cell? ⟨gb215, 0, none⟩ = some (.int .u32 0) := cz BK215; have hcz47_1 : w46.cell? ⟨gb215, 1, none⟩ = some (.int .u32 0) := cz BK215; have hfz47_0 := blk_frozen BK215.out 0; have hfz47_1 := blk_frozen BK215.out 1))
    refine bodyPost_ret (results_ct rfl _ _ gb215 24 #[.int .u32 0, .int .u32 0] (0, 0) _ rfl (by refine bkT ?_; refine blk_put (cs := #[.int .u32 0, .int .u32 0]) ?_ 1 _ rfl; refine bkT ?_; refine blk_put (cs := #[.int .u32 0, .int .u32 0]) ?_ 0 _ rfl; refine bkT ?_; exact BK215.out) Try.underlying24 rfl (by kernel_rfl)) rfl ?_
    exact ⟨by first | rfl | (simp [errW_none, errW_some] <;> rfl) | (simp only [← hji3, ← hji4]; first | rfl | (simp [errW_none, errW_some] <;> rfl)) | (simp [*, errW_none, errW_some] <;> rfl), hbA HB⟩

/-! ### interval_eq: function 64 -/
def interval_eq.f (k : Nat) (a0_0 : Int) (a0_1 : Int) (a1_0 : Int) (a1_1 : Int) : Option (Int × Int) := (interval_Meet.f k a0_0 a0_1 a1_0 a1_1).bind fun bt224 => (if (a0_0 == a1_0 && (a0_1 == a1_1)) = true then ((interval_yes.f (a0_0 == a0_1) (!bt224.2.2)).bind fun bt228 => (some (bt228.1, bt228.2))) else ((interval_yes.f false (!bt224.2.2)).bind fun bt230 => (some (bt230.1, bt230.2))))
theorem interval_eq.mono : ∀ a0 a1 a2 a3 k, LeO (interval_eq.f k a0 a1 a2 a3) (interval_eq.f (k + 1) a0 a1 a2 a3) := by
  intro a0 a1 a2 a3 k
  unfold interval_eq.f
  repeat' first
      | (with_reducible exact interval_Meet.mono _ _ _ _ _)
      | (with_reducible exact LeO.refl _)
      | (with_reducible exact LeO.none _)
      | (with_reducible refine LeO.ite ?_ ?_)
      | (with_reducible refine LeO.bind ?_ (fun _ => ?_))
      | exact interval_Meet.mono _ _ _ _ _
      | exact LeO.none _
      | refine LeO.ite ?_ ?_
      | refine LeO.bind ?_ (fun _ => ?_)
set_option maxHeartbeats 8000000 in
set_option maxRecDepth 100000 in
theorem interval_eq.calls (k : Nat) (a0_0 : Int) (a0_1 : Int) (a1_0 : Int) (a1_1 : Int) (r1 : Int) (r2 : Int) (w : World) (h : interval_eq.f k a0_0 a0_1 a1_0 a1_1 = some (r1, r2)) :
    Calls Try.prog 64 #[.agg #[.int .u32 a0_0, .int .u32 a0_1], .agg #[.int .u32 a1_0, .int .u32 a1_1]] w fun e w' => e = .returned (.agg #[.int .u32 r1, .int .u32 r2]) ∧ Below w.heap.size w w' := by
  have hu24 := Try.underlying24
  have HB := am (Below.refl w.heap.size w)
  have H : ((interval_Meet.f k a0_0 a0_1 a1_0 a1_1).bind fun bt224 => (if (a0_0 == a1_0 && (a0_1 == a1_1)) = true then ((interval_yes.f (a0_0 == a0_1) (!bt224.2.2)).bind fun bt228 => (some (bt228.1, bt228.2))) else ((interval_yes.f false (!bt224.2.2)).bind fun bt230 => (some (bt230.1, bt230.2))))) = some (r1, r2) := h
  clear h
  replace H := Option.bind_eq_some_iff.mp H
  obtain ⟨⟨t224, t225, t226⟩, A30, H⟩ := H
  replace H : (if (a0_0 == a1_0 && (a0_1 == a1_1)) = true then ((interval_yes.f (a0_0 == a0_1) (!t226)).bind fun bt228 => (some (bt228.1, bt228.2))) else ((interval_yes.f false (!t226)).bind fun bt230 => (some (bt230.1, bt230.2)))) = some (r1, r2) := H
  have A3 := am A30
  clear A30
  by_cases c4 : (a0_0 == a1_0 && (a0_1 == a1_1)) = true
  · rw [if_pos c4] at H
    have c4b0 : (a0_0 == a1_0 && (a0_1 == a1_1)) = true := c4
    (try (have c4b1 : decide (a0_0 = a1_0 && (a0_1 == a1_1)) = true := by simpa using c4))
    (try (have c4b2 : (a0_0 == a1_0 && (a0_1 == a1_1)) = true := by simpa using c4))
    clear c4
    replace H := Option.bind_eq_some_iff.mp H
    obtain ⟨⟨t228, t229⟩, A50, H⟩ := H
    replace H : (some (t228, t229)) = some (r1, r2) := H
    have A5 := am A50
    clear A50
    simp only [Option.some.injEq, Prod.mk.injEq] at H
    obtain ⟨rfl, rfl⟩ := H
    go_enter Try.func64, Try.ntmps64
    go_wp2_with (first | ((with_reducible refine gate_dst (N := 2) rfl ?_); refine bxE 2 #[.int .u32 a0_0, .int .u32 a0_1] 24 ?_; intro gb221 hg w6 hbox hb; have n0_ := am (below_step (hbA HB) hb); have n1_ := am (hbox); have n2_ := gwA hg HB; have n3_ := gwA hg HB; clear HB; have HB := n0_; have BK221 := n1_; have GW221 := n2_; have GE221 := n3_; clear n0_ n1_ n2_ n3_; clear hb hbox hg) | ((with_reducible refine gate_dst (N := 3) rfl ?_); refine bxE 3 #[.int .u32 a1_0, .int .u32 a1_1] 24 ?_; intro gb222 hg w7 hbox hb; have n0_ := am (blk_below (g := gb221) (o := .cells #[.int .u32 a0_0, .int .u32 a0_1] 24 (0, 0)) (bkA BK221) hb); have n1_ := am (below_step (hbA HB) hb); have n2_ := am (hbox); have n3_ := gwA hg HB; have n4_ := gwA hg HB; have n5_ := ltA hg BK221; have n6_ := gtA hg BK221; clear BK221; clear HB; have BK221 := n0_; have HB := n1_; have BK222 := n2_; have GW222 := n3_; have GE222 := n4_; have NB221_222 := n5_; have NB222_221 := n6_; clear n0_ n1_ n2_ n3_ n4_ n5_ n6_; clear hb hbox hg) | ((with_reducible refine gate_dst (N := 4) rfl ?_); refine bxE 4 #[.int .u32 0, .int .u32 0] 24 ?_; intro gb223 hg w8 hbox hb; have n0_ := am (blk_below (g := gb221) (o := .cells #[.int .u32 a0_0, .int .u32 a0_1] 24 (0, 0)) (bkA BK221) hb); have n1_ := am (blk_below (g := gb222) (o := .cells #[.int .u32 a1_0, .int .u32 a1_1] 24 (0, 0)) (bkA BK222) hb); have n2_ := am (below_step (hbA HB) hb); have n3_ := am (hbox); have n4_ := gwA hg HB; have n5_ := gwA hg HB; have n6_ := ltA hg BK221; have n7_ := gtA hg BK221; have n8_ := ltA hg BK222; have n9_ := gtA hg BK222; clear BK221; clear BK222; clear HB; have BK221 := n0_; have BK222 := n1_; have HB := n2_; have BK223 := n3_; have GW223 := n4_; have GE223 := n5_; have NB221_223 := n6_; have NB223_221 := n7_; have NB222_223 := n8_; have NB223_222 := n9_; clear n0_ n1_ n2_ n3_ n4_ n5_ n6_ n7_ n8_ n9_; clear hb hbox hg; have hnb9 := NB221_222.out; have hnc9 := NB222_221.out; have hnb10 := NB221_223.out; have hnc10 := NB223_221.out; have hcz11_0 : w8.cell? ⟨gb221, 0, none⟩ = some (.int .u32 a0_0) := cz BK221; have hcz11_1 : w8.cell? ⟨gb221, 1, none⟩ = some (.int .u32 a0_1) := cz BK221; have hfz11_0 := blk_frozen BK221.out 0; have hfz11_1 := blk_frozen BK221.out 1; have hnb12 := NB222_223.out; have hnc12 := NB223_222.out; have hcz13_0 : w8.cell? ⟨gb222, 0, none⟩ = some (.int .u32 a1_0) := cz BK222; have hcz13_1 : w8.cell? ⟨gb222, 1, none⟩ = some (.int .u32 a1_1) := cz BK222; have hfz13_0 := blk_frozen BK222.out 0; have hfz13_1 := blk_frozen BK222.out 1) | ((with_reducible refine gate_callee (f := 18) rfl ?_); refine goesL_ (some 10) rfl rfl Try.func18 (by kernel_rfl) rfl #[.agg #[.int .u32 a0_0, .int .u32 a0_1], .agg #[.int .u32 a1_0, .int .u32 a1_1]] rfl (by (try simp only [List.map_toArray, List.map_cons, List.map_nil]); first | done | rfl | (simp only [List.length_drop, List.length_take]; rfl)) ?_; (with_reducible refine (interval_Meet.calls k a0_0 a0_1 a1_0 a1_1 t224 t225 t226 _ A3.out).mono ?_); rintro e w14 ⟨rfl, hb⟩; refine ⟨_, rfl, ?_⟩; have n0_ := am (blk_below (g := gb221) (o := .cells #[.int .u32 a0_0, .int .u32 a0_1] 24 (0, 0)) (bkA BK221) hb); have n1_ := am (blk_below (g := gb222) (o := .cells #[.int .u32 a1_0, .int .u32 a1_1] 24 (0, 0)) (bkA BK222) hb); have n2_ := am (blk_below (g := gb223) (o := .cells #[.int .u32 0, .int .u32 0] 24 (0, 0)) (bkA BK223) hb); have n3_ := am (below_step (hbA HB) hb); clear BK221; clear BK222; clear BK223; clear HB; have BK221 := n0_; have BK222 := n1_; have BK223 := n2_; have HB := n3_; clear n0_ n1_ n2_ n3_; (try clear hb); (try clear hb2); (try clear hk); (try clear hi)) | ((with_reducible refine gate_dst (N := 5) rfl ?_); refine bxE 5 #[.int .u32 0, .int .u32 0] 24 ?_; intro gb227 hg w15 hbox hb; have n0_ := am (blk_below (g := gb221) (o := .cells #[.int .u32 a0_0, .int .u32 a0_1] 24 (0, 0)) (bkA BK221) hb); have n1_ := am (blk_below (g := gb222) (o := .cells #[.int .u32 a1_0, .int .u32 a1_1] 24 (0, 0)) (bkA BK222) hb); have n2_ := am (blk_below (g := gb223) (o := .cells #[.int .u32 0, .int .u32 0] 24 (0, 0)) (bkA BK223) hb); have n3_ := am (below_step (hbA HB) hb); have n4_ := am (hbox); have n5_ := gwA hg HB; have n6_ := gwA hg HB; have n7_ := ltA hg BK221; have n8_ := gtA hg BK221; have n9_ := ltA hg BK222; have n10_ := gtA hg BK222; have n11_ := ltA hg BK223; have n12_ := gtA hg BK223; clear BK221; clear BK222; clear BK223; clear HB; have BK221 := n0_; have BK222 := n1_; have BK223 := n2_; have HB := n3_; have BK227 := n4_; have GW227 := n5_; have GE227 := n6_; have NB221_227 := n7_; have NB227_221 := n8_; have NB222_227 := n9_; have NB227_222 := n10_; have NB223_227 := n11_; have NB227_223 := n12_; clear n0_ n1_ n2_ n3_ n4_ n5_ n6_ n7_ n8_ n9_ n10_ n11_ n12_; clear hb hbox hg; have hnb16 := NB227_221.out; have hnc16 := NB221_227.out; have hnb17 := NB227_222.out; have hnc17 := NB222_227.out; have hnb18 := NB227_223.out; have hnc18 := NB223_227.out; have hcz19_0 : w15.cell? ⟨gb227, 0, none⟩ = some (.int .u32 0) := cz BK227; have hcz19_1 : w15.cell? ⟨gb227, 1, none⟩ = some (.int .u32 0) := cz BK227; have hfz19_0 := blk_frozen BK227.out 0; have hfz19_1 := blk_frozen BK227.out 1; have hcz20_0 : w15.cell? ⟨gb221, 0, none⟩ = some (.int .u32 a0_0) := cz BK221; have hcz20_1 : w15.cell? ⟨gb221, 1, none⟩ = some (.int .u32 a0_1) := cz BK221; have hfz20_0 := blk_frozen BK221.out 0; have hfz20_1 := blk_frozen BK221.out 1; have hcz21_0 : w15.cell? ⟨gb222, 0, none⟩ = some (.int .u32 a1_0) := cz BK222; have hcz21_1 : w15.cell? ⟨gb222, 1, none⟩ = some (.int .u32 a1_1) := cz BK222; have hfz21_0 := blk_frozen BK222.out 0; have hfz21_1 := blk_frozen BK222.out 1) | ((with_reducible refine gate_callee (f := 37) rfl ?_); refine goesL_ (some 25) rfl rfl Try.func37 (by kernel_rfl) rfl #[.bool (a0_0 == a0_1), .bool (!t226)] rfl (by (try simp only [List.map_toArray, List.map_cons, List.map_nil]); first | done | rfl | (simp only [List.length_drop, List.length_take]; rfl)) ?_; (with_reducible refine (interval_yes.calls (a0_0 == a0_1) (!t226) t228 t229 _ A5.out).mono ?_); rintro e w22 ⟨rfl, hb⟩; refine ⟨_, rfl, ?_⟩; have n0_ := am (blk_below (g := gb221) (o := .cells #[.int .u32 a0_0, .int .u32 a0_1] 24 (0, 0)) (by refine bkT ?_; refine blk_far ?_ NB221_227.out _; refine bkT ?_; refine blk_far ?_ NB221_227.out _; refine bkT ?_; exact BK221.out) hb); have n1_ := am (blk_below (g := gb222) (o := .cells #[.int .u32 a1_0, .int .u32 a1_1] 24 (0, 0)) (by refine bkT ?_; refine blk_far ?_ NB222_227.out _; refine bkT ?_; refine blk_far ?_ NB222_227.out _; refine bkT ?_; exact BK222.out) hb); have n2_ := am (blk_below (g := gb223) (o := .cells #[.int .u32 0, .int .u32 0] 24 (0, 0)) (by refine bkT ?_; refine blk_far ?_ NB223_227.out _; refine bkT ?_; refine blk_far ?_ NB223_227.out _; refine bkT ?_; exact BK223.out) hb); have n3_ := am (blk_below (g := gb227) (o := .cells #[.int .u32 t224, .int .u32 t225] 24 (0, 0)) (by refine bkT ?_; refine blk_put (cs := #[.int .u32 t224, .int .u32 0]) ?_ 1 _ rfl; refine bkT ?_; refine blk_put (cs := #[.int .u32 0, .int .u32 0]) ?_ 0 _ rfl; refine bkT ?_; exact BK227.out) hb); have n4_ := am (below_step (hbA HB) hb); clear BK221; clear BK222; clear BK223; clear BK227; clear HB; have BK221 := n0_; have BK222 := n1_; have BK223 := n2_; have BK227 := n3_; have HB := n4_; clear n0_ n1_ n2_ n3_ n4_; (try clear hb); (try clear hb2); (try clear hk); (try clear hi); have hcz23_0 : w22.cell? ⟨gb223, 0, none⟩ = some (.int .u32 0) := cz BK223; have hcz23_1 : w22.cell? ⟨gb223, 1, none⟩ = some (.int .u32 0) := cz BK223; have hfz23_0 := blk_frozen BK223.out 0; have hfz23_1 := blk_frozen BK223.out 1))
    refine bodyPost_ret (results_cell_row rfl _ _ gb223 24 #[.int .u32 t228, .int .u32 t229] (0, 0) _ rfl (by refine bkT ?_; refine blk_put (cs := #[.int .u32 t228, .int .u32 0]) ?_ 1 _ rfl; refine bkT ?_; refine blk_put (cs := #[.int .u32 0, .int .u32 0]) ?_ 0 _ rfl; refine bkT ?_; exact BK223.out) Try.underlying24 rfl (by kernel_rfl)) rfl ?_
    exact ⟨by first | rfl | (simp [errW_none, errW_some] <;> rfl) | (simp [*, errW_none, errW_some] <;> rfl), hbA HB⟩
  · rw [if_neg c4] at H
    have c4b0 : (a0_0 == a1_0 && (a0_1 == a1_1)) = false := by simpa using c4
    (try (have c4b1 : decide (a0_0 = a1_0 && (a0_1 == a1_1)) = false := by simpa using c4))
    (try (have c4b2 : (a0_0 == a1_0 && (a0_1 == a1_1)) = false := by simpa using c4))
    (try (have c4b3 : ¬ (a0_0 = a1_0 && (a0_1 == a1_1)) := by simpa using c4))
    clear c4
    replace H := Option.bind_eq_some_iff.mp H
    obtain ⟨⟨t230, t231⟩, A240, H⟩ := H
    replace H : (some (t230, t231)) = some (r1, r2) := H
    have A24 := am A240
    clear A240
    simp only [Option.some.injEq, Prod.mk.injEq] at H
    obtain ⟨rfl, rfl⟩ := H
    go_enter Try.func64, Try.ntmps64
    go_wp2_with (first | ((with_reducible refine gate_dst (N := 2) rfl ?_); refine bxE 2 #[.int .u32 a0_0, .int .u32 a0_1] 24 ?_; intro gb221 hg w25 hbox hb; have n0_ := am (below_step (hbA HB) hb); have n1_ := am (hbox); have n2_ := gwA hg HB; have n3_ := gwA hg HB; clear HB; have HB := n0_; have BK221 := n1_; have GW221 := n2_; have GE221 := n3_; clear n0_ n1_ n2_ n3_; clear hb hbox hg) | ((with_reducible refine gate_dst (N := 3) rfl ?_); refine bxE 3 #[.int .u32 a1_0, .int .u32 a1_1] 24 ?_; intro gb222 hg w26 hbox hb; have n0_ := am (blk_below (g := gb221) (o := .cells #[.int .u32 a0_0, .int .u32 a0_1] 24 (0, 0)) (bkA BK221) hb); have n1_ := am (below_step (hbA HB) hb); have n2_ := am (hbox); have n3_ := gwA hg HB; have n4_ := gwA hg HB; have n5_ := ltA hg BK221; have n6_ := gtA hg BK221; clear BK221; clear HB; have BK221 := n0_; have HB := n1_; have BK222 := n2_; have GW222 := n3_; have GE222 := n4_; have NB221_222 := n5_; have NB222_221 := n6_; clear n0_ n1_ n2_ n3_ n4_ n5_ n6_; clear hb hbox hg) | ((with_reducible refine gate_dst (N := 4) rfl ?_); refine bxE 4 #[.int .u32 0, .int .u32 0] 24 ?_; intro gb223 hg w27 hbox hb; have n0_ := am (blk_below (g := gb221) (o := .cells #[.int .u32 a0_0, .int .u32 a0_1] 24 (0, 0)) (bkA BK221) hb); have n1_ := am (blk_below (g := gb222) (o := .cells #[.int .u32 a1_0, .int .u32 a1_1] 24 (0, 0)) (bkA BK222) hb); have n2_ := am (below_step (hbA HB) hb); have n3_ := am (hbox); have n4_ := gwA hg HB; have n5_ := gwA hg HB; have n6_ := ltA hg BK221; have n7_ := gtA hg BK221; have n8_ := ltA hg BK222; have n9_ := gtA hg BK222; clear BK221; clear BK222; clear HB; have BK221 := n0_; have BK222 := n1_; have HB := n2_; have BK223 := n3_; have GW223 := n4_; have GE223 := n5_; have NB221_223 := n6_; have NB223_221 := n7_; have NB222_223 := n8_; have NB223_222 := n9_; clear n0_ n1_ n2_ n3_ n4_ n5_ n6_ n7_ n8_ n9_; clear hb hbox hg; have hnb28 := NB221_222.out; have hnc28 := NB222_221.out; have hnb29 := NB221_223.out; have hnc29 := NB223_221.out; have hcz30_0 : w27.cell? ⟨gb221, 0, none⟩ = some (.int .u32 a0_0) := cz BK221; have hcz30_1 : w27.cell? ⟨gb221, 1, none⟩ = some (.int .u32 a0_1) := cz BK221; have hfz30_0 := blk_frozen BK221.out 0; have hfz30_1 := blk_frozen BK221.out 1; have hnb31 := NB222_223.out; have hnc31 := NB223_222.out; have hcz32_0 : w27.cell? ⟨gb222, 0, none⟩ = some (.int .u32 a1_0) := cz BK222; have hcz32_1 : w27.cell? ⟨gb222, 1, none⟩ = some (.int .u32 a1_1) := cz BK222; have hfz32_0 := blk_frozen BK222.out 0; have hfz32_1 := blk_frozen BK222.out 1) | ((with_reducible refine gate_callee (f := 18) rfl ?_); refine goesL_ (some 10) rfl rfl Try.func18 (by kernel_rfl) rfl #[.agg #[.int .u32 a0_0, .int .u32 a0_1], .agg #[.int .u32 a1_0, .int .u32 a1_1]] rfl (by (try simp only [List.map_toArray, List.map_cons, List.map_nil]); first | done | rfl | (simp only [List.length_drop, List.length_take]; rfl)) ?_; (with_reducible refine (interval_Meet.calls k a0_0 a0_1 a1_0 a1_1 t224 t225 t226 _ A3.out).mono ?_); rintro e w33 ⟨rfl, hb⟩; refine ⟨_, rfl, ?_⟩; have n0_ := am (blk_below (g := gb221) (o := .cells #[.int .u32 a0_0, .int .u32 a0_1] 24 (0, 0)) (bkA BK221) hb); have n1_ := am (blk_below (g := gb222) (o := .cells #[.int .u32 a1_0, .int .u32 a1_1] 24 (0, 0)) (bkA BK222) hb); have n2_ := am (blk_below (g := gb223) (o := .cells #[.int .u32 0, .int .u32 0] 24 (0, 0)) (bkA BK223) hb); have n3_ := am (below_step (hbA HB) hb); clear BK221; clear BK222; clear BK223; clear HB; have BK221 := n0_; have BK222 := n1_; have BK223 := n2_; have HB := n3_; clear n0_ n1_ n2_ n3_; (try clear hb); (try clear hb2); (try clear hk); (try clear hi)) | ((with_reducible refine gate_dst (N := 5) rfl ?_); refine bxE 5 #[.int .u32 0, .int .u32 0] 24 ?_; intro gb227 hg w34 hbox hb; have n0_ := am (blk_below (g := gb221) (o := .cells #[.int .u32 a0_0, .int .u32 a0_1] 24 (0, 0)) (bkA BK221) hb); have n1_ := am (blk_below (g := gb222) (o := .cells #[.int .u32 a1_0, .int .u32 a1_1] 24 (0, 0)) (bkA BK222) hb); have n2_ := am (blk_below (g := gb223) (o := .cells #[.int .u32 0, .int .u32 0] 24 (0, 0)) (bkA BK223) hb); have n3_ := am (below_step (hbA HB) hb); have n4_ := am (hbox); have n5_ := gwA hg HB; have n6_ := gwA hg HB; have n7_ := ltA hg BK221; have n8_ := gtA hg BK221; have n9_ := ltA hg BK222; have n10_ := gtA hg BK222; have n11_ := ltA hg BK223; have n12_ := gtA hg BK223; clear BK221; clear BK222; clear BK223; clear HB; have BK221 := n0_; have BK222 := n1_; have BK223 := n2_; have HB := n3_; have BK227 := n4_; have GW227 := n5_; have GE227 := n6_; have NB221_227 := n7_; have NB227_221 := n8_; have NB222_227 := n9_; have NB227_222 := n10_; have NB223_227 := n11_; have NB227_223 := n12_; clear n0_ n1_ n2_ n3_ n4_ n5_ n6_ n7_ n8_ n9_ n10_ n11_ n12_; clear hb hbox hg; have hnb35 := NB227_221.out; have hnc35 := NB221_227.out; have hnb36 := NB227_222.out; have hnc36 := NB222_227.out; have hnb37 := NB227_223.out; have hnc37 := NB223_227.out; have hcz38_0 : w34.cell? ⟨gb227, 0, none⟩ = some (.int .u32 0) := cz BK227; have hcz38_1 : w34.cell? ⟨gb227, 1, none⟩ = some (.int .u32 0) := cz BK227; have hfz38_0 := blk_frozen BK227.out 0; have hfz38_1 := blk_frozen BK227.out 1; have hcz39_0 : w34.cell? ⟨gb221, 0, none⟩ = some (.int .u32 a0_0) := cz BK221; have hcz39_1 : w34.cell? ⟨gb221, 1, none⟩ = some (.int .u32 a0_1) := cz BK221; have hfz39_0 := blk_frozen BK221.out 0; have hfz39_1 := blk_frozen BK221.out 1; have hcz40_0 : w34.cell? ⟨gb222, 0, none⟩ = some (.int .u32 a1_0) := cz BK222; have hcz40_1 : w34.cell? ⟨gb222, 1, none⟩ = some (.int .u32 a1_1) := cz BK222; have hfz40_0 := blk_frozen BK222.out 0; have hfz40_1 := blk_frozen BK222.out 1) | ((with_reducible refine gate_callee (f := 37) rfl ?_); refine goesL_ (some 25) rfl rfl Try.func37 (by kernel_rfl) rfl #[.bool false, .bool (!t226)] rfl (by (try simp only [List.map_toArray, List.map_cons, List.map_nil]); first | done | rfl | (simp only [List.length_drop, List.length_take]; rfl)) ?_; (with_reducible refine (interval_yes.calls false (!t226) t230 t231 _ A24.out).mono ?_); rintro e w41 ⟨rfl, hb⟩; refine ⟨_, rfl, ?_⟩; have n0_ := am (blk_below (g := gb221) (o := .cells #[.int .u32 a0_0, .int .u32 a0_1] 24 (0, 0)) (by refine bkT ?_; refine blk_far ?_ NB221_227.out _; refine bkT ?_; refine blk_far ?_ NB221_227.out _; refine bkT ?_; exact BK221.out) hb); have n1_ := am (blk_below (g := gb222) (o := .cells #[.int .u32 a1_0, .int .u32 a1_1] 24 (0, 0)) (by refine bkT ?_; refine blk_far ?_ NB222_227.out _; refine bkT ?_; refine blk_far ?_ NB222_227.out _; refine bkT ?_; exact BK222.out) hb); have n2_ := am (blk_below (g := gb223) (o := .cells #[.int .u32 0, .int .u32 0] 24 (0, 0)) (by refine bkT ?_; refine blk_far ?_ NB223_227.out _; refine bkT ?_; refine blk_far ?_ NB223_227.out _; refine bkT ?_; exact BK223.out) hb); have n3_ := am (blk_below (g := gb227) (o := .cells #[.int .u32 t224, .int .u32 t225] 24 (0, 0)) (by refine bkT ?_; refine blk_put (cs := #[.int .u32 t224, .int .u32 0]) ?_ 1 _ rfl; refine bkT ?_; refine blk_put (cs := #[.int .u32 0, .int .u32 0]) ?_ 0 _ rfl; refine bkT ?_; exact BK227.out) hb); have n4_ := am (below_step (hbA HB) hb); clear BK221; clear BK222; clear BK223; clear BK227; clear HB; have BK221 := n0_; have BK222 := n1_; have BK223 := n2_; have BK227 := n3_; have HB := n4_; clear n0_ n1_ n2_ n3_ n4_; (try clear hb); (try clear hb2); (try clear hk); (try clear hi); have hcz42_0 : w41.cell? ⟨gb223, 0, none⟩ = some (.int .u32 0) := cz BK223; have hcz42_1 : w41.cell? ⟨gb223, 1, none⟩ = some (.int .u32 0) := cz BK223; have hfz42_0 := blk_frozen BK223.out 0; have hfz42_1 := blk_frozen BK223.out 1))
    refine bodyPost_ret (results_cell_row rfl _ _ gb223 24 #[.int .u32 t230, .int .u32 t231] (0, 0) _ rfl (by refine bkT ?_; refine blk_put (cs := #[.int .u32 t230, .int .u32 0]) ?_ 1 _ rfl; refine bkT ?_; refine blk_put (cs := #[.int .u32 0, .int .u32 0]) ?_ 0 _ rfl; refine bkT ?_; exact BK223.out) Try.underlying24 rfl (by kernel_rfl)) rfl ?_
    exact ⟨by first | rfl | (simp [errW_none, errW_some] <;> rfl) | (simp [*, errW_none, errW_some] <;> rfl), hbA HB⟩

end Go.Proofs.Ytmhmfnjbioplhaa.PIntervalSound
