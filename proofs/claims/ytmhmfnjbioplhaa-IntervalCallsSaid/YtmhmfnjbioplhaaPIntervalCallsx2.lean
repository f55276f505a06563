/- Contracts of Go functions of the given program: where NAME.f answers, the call returns that. Conditions: those each theorem names. -/
import Derived.Test.YtmhmfnjbioplhaaPIntervalCallsx0
namespace Go.Proofs.Ytmhmfnjbioplhaa.PIntervalCalls
open Go.RowKit Go.Proofs.YtmhmfnjbioplhaaW.PrintWords Go.Proofs.YtmhmfnjbioplhaaW.PrintLast Go.Proofs.YtmhmfnjbioplhaaW.PrintMore Go.Proofs.Ytmhmfnjbioplhaa.Help
attribute [local go_sem] max2_int min2_int max_two min_two max_three min_three max_four min_four   -- for this text's walks alone
set_option linter.unusedVariables false
set_option linter.unusedSimpArgs false

/-! ### interval_maker_1: function 57 -/
def interval_maker_1.f (a0_0 : Int) (a0_1 : Int) (a1_0 : Int) (a1_1 : Int) : Option (Int × Int) := some (0, mn a0_1 a1_1)
set_option maxHeartbeats 8000000 in
set_option maxRecDepth 100000 in
theorem interval_maker_1.calls (a0_0 : Int) (a0_1 : Int) (a1_0 : Int) (a1_1 : Int) (r1 : Int) (r2 : Int) (w : World) (h : interval_maker_1.f a0_0 a0_1 a1_0 a1_1 = some (r1, r2)) :
    Calls Try.prog 57 #[.agg #[.int .u32 a0_0, .int .u32 a0_1], .agg #[.int .u32 a1_0, .int .u32 a1_1]] w fun e w' => e = .returned (.agg #[.int .u32 r1, .int .u32 r2]) ∧ Below w.heap.size w w' := by
  have hu24 := Try.underlying24
  have HB := am (Below.refl w.heap.size w)
  have H : (some (0, mn a0_1 a1_1)) = some (r1, r2) := h
  clear h; obtain ⟨ji3, hji3⟩ : ∃ j_ : Int, (mn a0_1 a1_1) = j_ := ⟨_, rfl⟩
  replace H : (some (0, ji3)) = some (r1, r2) := by first | (rw [hji3] at H; exact H) | (simp only [hji3] at H ⊢; exact H)
  have hji3_ : (if a1_1 < a0_1 then a1_1 else a0_1) = ji3 := hji3
  simp only [Option.some.injEq, Prod.mk.injEq] at H; obtain ⟨rfl, rfl⟩ := H
  go_enter Try.func57, Try.ntmps57
  go_wp2_with (first | ((with_reducible refine gate_dst (N := 2) rfl ?_); refine bxE 2 #[.int .u32 a0_0, .int .u32 a0_1] 24 ?_; intro gb101 hg w4 hbox hb; have BK101 := am (hbox); have GW101 := gwA hg HB; have GE101 := gwA hg HB; replace HB := bsA HB hb; clear hb hbox hg) | ((with_reducible refine gate_dst (N := 3) rfl ?_); refine bxE 3 #[.int .u32 a1_0, .int .u32 a1_1] 24 ?_; intro gb102 hg w5 hbox hb; have BK102 := am (hbox); have GW102 := gwA hg HB; have GE102 := gwA hg HB; have NB101_102 := ltA hg BK101; have NB102_101 := gtA hg BK101; replace BK101 := bbA BK101 hb; replace HB := bsA HB hb; clear hb hbox hg) | ((with_reducible refine gate_dst (N := 4) rfl ?_); refine bxE 4 #[.int .u32 0, .int .u32 0] 24 ?_; intro gb103 hg w6 hbox hb; have BK103 := am (hbox); have GW103 := gwA hg HB; have GE103 := gwA hg HB; have NB101_103 := ltA hg BK101; have NB103_101 := gtA hg BK101; have NB102_103 := ltA hg BK102; have NB103_102 := gtA hg BK102; replace BK101 := bbA BK101 hb; replace BK102 := bbA BK102 hb; replace HB := bsA HB hb; clear hb hbox hg; have hnb7 := NB101_102.out; have hnc7 := NB102_101.out; have hnb8 := NB101_103.out; have hnc8 := NB103_101.out; have hcz9_0 : w6.cell? ⟨gb101, 0, none⟩ = some (.int .u32 a0_0) := cz BK101; have hcz9_1 : w6.cell? ⟨gb101, 1, none⟩ = some (.int .u32 a0_1) := cz BK101; have hfz9_0 := blk_frozen BK101.out 0; have hfz9_1 := blk_frozen BK101.out 1; have hnb10 := NB102_103.out; have hnc10 := NB103_102.out; have hcz11_0 : w6.cell? ⟨gb102, 0, none⟩ = some (.int .u32 a1_0) := cz BK102; have hcz11_1 : w6.cell? ⟨gb102, 1, none⟩ = some (.int .u32 a1_1) := cz BK102; have hfz11_0 := blk_frozen BK102.out 0; have hfz11_1 := blk_frozen BK102.out 1; have hcz12_0 : w6.cell? ⟨gb103, 0, none⟩ = some (.int .u32 0) := cz BK103; have hcz12_1 : w6.cell? ⟨gb103, 1, none⟩ = some (.int .u32 0) := cz BK103; have hfz12_0 := blk_frozen BK103.out 0; have hfz12_1 := blk_frozen BK103.out 1))
  refine bodyPost_ret (results_cell_row rfl _ _ gb103 24 #[.int .u32 0, .int .u32 ji3] (0, 0) _ rfl (by refine bkT ?_; refine blk_put (cs := #[.int .u32 0, .int .u32 0]) ?_ 1 _ rfl; refine bkT ?_; refine blk_put (cs := #[.int .u32 0, .int .u32 0]) ?_ 0 _ rfl; refine bkT ?_; exact BK103.out) Try.underlying24 rfl (by kernel_rfl)) rfl ?_
  exact ⟨by first | rfl | (simp [errW_none, errW_some] <;> rfl) | (simp only [← hji3]; first | rfl | (simp [errW_none, errW_some] <;> rfl)) | (simp [*, errW_none, errW_some] <;> rfl), hbA HB⟩

/-! ### bits_Len32: function 78 -/
def bits_Len32.f (a0 : Int) : Option (Int) := if a0 ≥ 65536 then (if (a0 / 65536) ≥ 256 then (if 0 ≤ (((a0 / 65536) / 256) % 256) then (if (((a0 / 65536) / 256) % 256) < 256 then (some (wrap64 ((16 + 8) + (wrap64 (bt (⟨#[0, 1, 2, 2, 3, 3, 3, 3, 4, 4, 4, 4, 4, 4, 4, 4, 5, 5, 5, 5, 5, 5, 5, 5, 5, 5, 5, 5, 5, 5, 5, 5, 6, 6, 6, 6, 6, 6, 6, 6, 6, 6, 6, 6, 6, 6, 6, 6, 6, 6, 6, 6, 6, 6, 6, 6, 6, 6, 6, 6, 6, 6, 6, 6, 7, 7, 7, 7, 7, 7, 7, 7, 7, 7, 7, 7, 7, 7, 7, 7, 7, 7, 7, 7, 7, 7, 7, 7, 7, 7, 7, 7, 7, 7, 7, 7, 7, 7, 7, 7, 7, 7, 7, 7, 7, 7, 7, 7, 7, 7, 7, 7, 7, 7, 7, 7, 7, 7, 7, 7, 7, 7, 7, 7, 7, 7, 7, 7, 8, 8, 8, 8, 8, 8, 8, 8, 8, 8, 8, 8, 8, 8, 8, 8, 8, 8, 8, 8, 8, 8, 8, 8, 8, 8, 8, 8, 8, 8, 8, 8, 8, 8, 8, 8, 8, 8, 8, 8, 8, 8, 8, 8, 8, 8, 8, 8, 8, 8, 8, 8, 8, 8, 8, 8, 8, 8, 8, 8, 8, 8, 8, 8, 8, 8, 8, 8, 8, 8, 8, 8, 8, 8, 8, 8, 8, 8, 8, 8, 8, 8, 8, 8, 8, 8, 8, 8, 8, 8, 8, 8, 8, 8, 8, 8, 8, 8, 8, 8, 8, 8, 8, 8, 8, 8, 8, 8, 8, 8, 8, 8, 8, 8, 8, 8, 8, 8, 8, 8, 8, 8, 8, 8, 8, 8, 8, 8]⟩ : ByteArray) (((a0 / 65536) / 256) % 256)))))) else (none)) else (none)) else (if 0 ≤ ((a0 / 65536) % 256) then (if ((a0 / 65536) % 256) < 256 then (some (wrap64 (16 + (wrap64 (bt (⟨#[0, 1, 2, 2, 3, 3, 3, 3, 4, 4, 4, 4, 4, 4, 4, 4, 5, 5, 5, 5, 5, 5, 5, 5, 5, 5, 5, 5, 5, 5, 5, 5, 6, 6, 6, 6, 6, 6, 6, 6, 6, 6, 6, 6, 6, 6, 6, 6, 6, 6, 6, 6, 6, 6, 6, 6, 6, 6, 6, 6, 6, 6, 6, 6, 7, 7, 7, 7, 7, 7, 7, 7, 7, 7, 7, 7, 7, 7, 7, 7, 7, 7, 7, 7, 7, 7, 7, 7, 7, 7, 7, 7, 7, 7, 7, 7, 7, 7, 7, 7, 7, 7, 7, 7, 7, 7, 7, 7, 7, 7, 7, 7, 7, 7, 7, 7, 7, 7, 7, 7, 7, 7, 7, 7, 7, 7, 7, 7, 8, 8, 8, 8, 8, 8, 8, 8, 8, 8, 8, 8, 8, 8, 8, 8, 8, 8, 8, 8, 8, 8, 8, 8, 8, 8, 8, 8, 8, 8, 8, 8, 8, 8, 8, 8, 8, 8, 8, 8, 8, 8, 8, 8, 8, 8, 8, 8, 8, 8, 8, 8, 8, 8, 8, 8, 8, 8, 8, 8, 8, 8, 8, 8, 8, 8, 8, 8, 8, 8, 8, 8, 8, 8, 8, 8, 8, 8, 8, 8, 8, 8, 8, 8, 8, 8, 8, 8, 8, 8, 8, 8, 8, 8, 8, 8, 8, 8, 8, 8, 8, 8, 8, 8, 8, 8, 8, 8, 8, 8, 8, 8, 8, 8, 8, 8, 8, 8, 8, 8, 8, 8, 8, 8, 8, 8, 8, 8]⟩ : ByteArray) ((a0 / 65536) % 256)))))) else (none)) else (none))) else (if a0 ≥ 256 then (if 0 ≤ ((a0 / 256) % 256) then (if ((a0 / 256) % 256) < 256 then (some (wrap64 ((0 + 8) + (wrap64 (bt (⟨#[0, 1, 2, 2, 3, 3, 3, 3, 4, 4, 4, 4, 4, 4, 4, 4, 5, 5, 5, 5, 5, 5, 5, 5, 5, 5, 5, 5, 5, 5, 5, 5, 6, 6, 6, 6, 6, 6, 6, 6, 6, 6, 6, 6, 6, 6, 6, 6, 6, 6, 6, 6, 6, 6, 6, 6, 6, 6, 6, 6, 6, 6, 6, 6, 7, 7, 7, 7, 7, 7, 7, 7, 7, 7, 7, 7, 7, 7, 7, 7, 7, 7, 7, 7, 7, 7, 7, 7, 7, 7, 7, 7, 7, 7, 7, 7, 7, 7, 7, 7, 7, 7, 7, 7, 7, 7, 7, 7, 7, 7, 7, 7, 7, 7, 7, 7, 7, 7, 7, 7, 7, 7, 7, 7, 7, 7, 7, 7, 8, 8, 8, 8, 8, 8, 8, 8, 8, 8, 8, 8, 8, 8, 8, 8, 8, 8, 8, 8, 8, 8, 8, 8, 8, 8, 8, 8, 8, 8, 8, 8, 8, 8, 8, 8, 8, 8, 8, 8, 8, 8, 8, 8, 8, 8, 8, 8, 8, 8, 8, 8, 8, 8, 8, 8, 8, 8, 8, 8, 8, 8, 8, 8, 8, 8, 8, 8, 8, 8, 8, 8, 8, 8, 8, 8, 8, 8, 8, 8, 8, 8, 8, 8, 8, 8, 8, 8, 8, 8, 8, 8, 8, 8, 8, 8, 8, 8, 8, 8, 8, 8, 8, 8, 8, 8, 8, 8, 8, 8, 8, 8, 8, 8, 8, 8, 8, 8, 8, 8, 8, 8, 8, 8, 8, 8, 8, 8]⟩ : ByteArray) ((a0 / 256) % 256)))))) else (none)) else (none)) else (if 0 ≤ ((a0) % 256) then (if ((a0) % 256) < 256 then (some (wrap64 (0 + (wrap64 (bt (⟨#[0, 1, 2, 2, 3, 3, 3, 3, 4, 4, 4, 4, 4, 4, 4, 4, 5, 5, 5, 5, 5, 5, 5, 5, 5, 5, 5, 5, 5, 5, 5, 5, 6, 6, 6, 6, 6, 6, 6, 6, 6, 6, 6, 6, 6, 6, 6, 6, 6, 6, 6, 6, 6, 6, 6, 6, 6, 6, 6, 6, 6, 6, 6, 6, 7, 7, 7, 7, 7, 7, 7, 7, 7, 7, 7, 7, 7, 7, 7, 7, 7, 7, 7, 7, 7, 7, 7, 7, 7, 7, 7, 7, 7, 7, 7, 7, 7, 7, 7, 7, 7, 7, 7, 7, 7, 7, 7, 7, 7, 7, 7, 7, 7, 7, 7, 7, 7, 7, 7, 7, 7, 7, 7, 7, 7, 7, 7, 7, 8, 8, 8, 8, 8, 8, 8, 8, 8, 8, 8, 8, 8, 8, 8, 8, 8, 8, 8, 8, 8, 8, 8, 8, 8, 8, 8, 8, 8, 8, 8, 8, 8, 8, 8, 8, 8, 8, 8, 8, 8, 8, 8, 8, 8, 8, 8, 8, 8, 8, 8, 8, 8, 8, 8, 8, 8, 8, 8, 8, 8, 8, 8, 8, 8, 8, 8, 8, 8, 8, 8, 8, 8, 8, 8, 8, 8, 8, 8, 8, 8, 8, 8, 8, 8, 8, 8, 8, 8, 8, 8, 8, 8, 8, 8, 8, 8, 8, 8, 8, 8, 8, 8, 8, 8, 8, 8, 8, 8, 8, 8, 8, 8, 8, 8, 8, 8, 8, 8, 8, 8, 8, 8, 8, 8, 8, 8, 8]⟩ : ByteArray) ((a0) % 256)))))) else (none)) else (none)))
set_option maxHeartbeats 8000000 in
set_option maxRecDepth 100000 in
theorem bits_Len32.calls (a0 : Int) (r : Int) (w : World) (h : bits_Len32.f a0 = some r) :
    Calls Try.prog 78 #[.int .u32 a0] w fun e w' => e = .returned (.int .i64 r) ∧ Drawn0 w w' := by
  have H : (if a0 ≥ 65536 then (if (a0 / 65536) ≥ 256 then (if 0 ≤ (((a0 / 65536) / 256) % 256) then (if (((a0 / 65536) / 256) % 256) < 256 then (some (wrap64 ((16 + 8) + (wrap64 (bt (⟨#[0, 1, 2, 2, 3, 3, 3, 3, 4, 4, 4, 4, 4, 4, 4, 4, 5, 5, 5, 5, 5, 5, 5, 5, 5, 5, 5, 5, 5, 5, 5, 5, 6, 6, 6, 6, 6, 6, 6, 6, 6, 6, 6, 6, 6, 6, 6, 6, 6, 6, 6, 6, 6, 6, 6, 6, 6, 6, 6, 6, 6, 6, 6, 6, 7, 7, 7, 7, 7, 7, 7, 7, 7, 7, 7, 7, 7, 7, 7, 7, 7, 7, 7, 7, 7, 7, 7, 7, 7, 7, 7, 7, 7, 7, 7, 7, 7, 7, 7, 7, 7, 7, 7, 7, 7, 7, 7, 7, 7, 7, 7, 7, 7, 7, 7, 7, 7, 7, 7, 7, 7, 7, 7, 7, 7, 7, 7, 7, 8, 8, 8, 8, 8, 8, 8, 8, 8, 8, 8, 8, 8, 8, 8, 8, 8, 8, 8, 8, 8, 8, 8, 8, 8, 8, 8, 8, 8, 8, 8, 8, 8, 8, 8, 8, 8, 8, 8, 8, 8, 8, 8, 8, 8, 8, 8, 8, 8, 8, 8, 8, 8, 8, 8, 8, 8, 8, 8, 8, 8, 8, 8, 8, 8, 8, 8, 8, 8, 8, 8, 8, 8, 8, 8, 8, 8, 8, 8, 8, 8, 8, 8, 8, 8, 8, 8, 8, 8, 8, 8, 8, 8, 8, 8, 8, 8, 8, 8, 8, 8, 8, 8, 8, 8, 8, 8, 8, 8, 8, 8, 8, 8, 8, 8, 8, 8, 8, 8, 8, 8, 8, 8, 8, 8, 8, 8, 8]⟩ : ByteArray) (((a0 / 65536) / 256) % 256)))))) else (none)) else (none)) else (if 0 ≤ ((a0 / 65536) % 256) then (if ((a0 / 65536) % 256) < 256 then (some (wrap64 (16 + (wrap64 (bt (⟨#[0, 1, 2, 2, 3, 3, 3, 3, 4, 4, 4, 4, 4, 4, 4, 4, 5, 5, 5, 5, 5, 5, 5, 5, 5, 5, 5, 5, 5, 5, 5, 5, 6, 6, 6, 6, 6, 6, 6, 6, 6, 6, 6, 6, 6, 6, 6, 6, 6, 6, 6, 6, 6, 6, 6, 6, 6, 6, 6, 6, 6, 6, 6, 6, 7, 7, 7, 7, 7, 7, 7, 7, 7, 7, 7, 7, 7, 7, 7, 7, 7, 7, 7, 7, 7, 7, 7, 7, 7, 7, 7, 7, 7, 7, 7, 7, 7, 7, 7, 7, 7, 7, 7, 7, 7, 7, 7, 7, 7, 7, 7, 7, 7, 7, 7, 7, 7, 7, 7, 7, 7, 7, 7, 7, 7, 7, 7, 7, 8, 8, 8, 8, 8, 8, 8, 8, 8, 8, 8, 8, 8, 8, 8, 8, 8, 8, 8, 8, 8, 8, 8, 8, 8, 8, 8, 8, 8, 8, 8, 8, 8, 8, 8, 8, 8, 8, 8, 8, 8, 8, 8, 8, 8, 8, 8, 8, 8, 8, 8, 8, 8, 8, 8, 8, 8, 8, 8, 8, 8, 8, 8, 8, 8, 8, 8, 8, 8, 8, 8, 8, 8, 8, 8, 8, 8, 8, 8, 8, 8, 8, 8, 8, 8, 8, 8, 8, 8, 8, 8, 8, 8, 8, 8, 8, 8, 8, 8, 8, 8, 8, 8, 8, 8, 8, 8, 8, 8, 8, 8, 8, 8, 8, 8, 8, 8, 8, 8, 8, 8, 8, 8, 8, 8, 8, 8, 8]⟩ : ByteArray) ((a0 / 65536) % 256)))))) else (none)) else (none))) else (if a0 ≥ 256 then (if 0 ≤ ((a0 / 256) % 256) then (if ((a0 / 256) % 256) < 256 then (some (wrap64 ((0 + 8) + (wrap64 (bt (⟨#[0, 1, 2, 2, 3, 3, 3, 3, 4, 4, 4, 4, 4, 4, 4, 4, 5, 5, 5, 5, 5, 5, 5, 5, 5, 5, 5, 5, 5, 5, 5, 5, 6, 6, 6, 6, 6, 6, 6, 6, 6, 6, 6, 6, 6, 6, 6, 6, 6, 6, 6, 6, 6, 6, 6, 6, 6, 6, 6, 6, 6, 6, 6, 6, 7, 7, 7, 7, 7, 7, 7, 7, 7, 7, 7, 7, 7, 7, 7, 7, 7, 7, 7, 7, 7, 7, 7, 7, 7, 7, 7, 7, 7, 7, 7, 7, 7, 7, 7, 7, 7, 7, 7, 7, 7, 7, 7, 7, 7, 7, 7, 7, 7, 7, 7, 7, 7, 7, 7, 7, 7, 7, 7, 7, 7, 7, 7, 7, 8, 8, 8, 8, 8, 8, 8, 8, 8, 8, 8, 8, 8, 8, 8, 8, 8, 8, 8, 8, 8, 8, 8, 8, 8, 8, 8, 8, 8, 8, 8, 8, 8, 8, 8, 8, 8, 8, 8, 8, 8, 8, 8, 8, 8, 8, 8, 8, 8, 8, 8, 8, 8, 8, 8, 8, 8, 8, 8, 8, 8, 8, 8, 8, 8, 8, 8, 8, 8, 8, 8, 8, 8, 8, 8, 8, 8, 8, 8, 8, 8, 8, 8, 8, 8, 8, 8, 8, 8, 8, 8, 8, 8, 8, 8, 8, 8, 8, 8, 8, 8, 8, 8, 8, 8, 8, 8, 8, 8, 8, 8, 8, 8, 8, 8, 8, 8, 8, 8, 8, 8, 8, 8, 8, 8, 8, 8, 8]⟩ : ByteArray) ((a0 / 256) % 256)))))) else (none)) else (none)) else (if 0 ≤ ((a0) % 256) then (if ((a0) % 256) < 256 then (some (wrap64 (0 + (wrap64 (bt (⟨#[0, 1, 2, 2, 3, 3, 3, 3, 4, 4, 4, 4, 4, 4, 4, 4, 5, 5, 5, 5, 5, 5, 5, 5, 5, 5, 5, 5, 5, 5, 5, 5, 6, 6, 6, 6, 6, 6, 6, 6, 6, 6, 6, 6, 6, 6, 6, 6, 6, 6, 6, 6, 6, 6, 6, 6, 6, 6, 6, 6, 6, 6, 6, 6, 7, 7, 7, 7, 7, 7, 7, 7, 7, 7, 7, 7, 7, 7, 7, 7, 7, 7, 7, 7, 7, 7, 7, 7, 7, 7, 7, 7, 7, 7, 7, 7, 7, 7, 7, 7, 7, 7, 7, 7, 7, 7, 7, 7, 7, 7, 7, 7, 7, 7, 7, 7, 7, 7, 7, 7, 7, 7, 7, 7, 7, 7, 7, 7, 8, 8, 8, 8, 8, 8, 8, 8, 8, 8, 8, 8, 8, 8, 8, 8, 8, 8, 8, 8, 8, 8, 8, 8, 8, 8, 8, 8, 8, 8, 8, 8, 8, 8, 8, 8, 8, 8, 8, 8, 8, 8, 8, 8, 8, 8, 8, 8, 8, 8, 8, 8, 8, 8, 8, 8, 8, 8, 8, 8, 8, 8, 8, 8, 8, 8, 8, 8, 8, 8, 8, 8, 8, 8, 8, 8, 8, 8, 8, 8, 8, 8, 8, 8, 8, 8, 8, 8, 8, 8, 8, 8, 8, 8, 8, 8, 8, 8, 8, 8, 8, 8, 8, 8, 8, 8, 8, 8, 8, 8, 8, 8, 8, 8, 8, 8, 8, 8, 8, 8, 8, 8, 8, 8, 8, 8, 8, 8]⟩ : ByteArray) ((a0) % 256)))))) else (none)) else (none)))) = some r := h
  clear h; by_cases c2 : a0 ≥ 65536
  · rw [if_pos c2] at H; have c2b0 : decide (65536 ≤ a0) = true := decide_eq_true c2; clear c2; by_cases c3 : (a0 / 65536) ≥ 256
    · rw [if_pos c3] at H; have c3b0 : decide (256 ≤ (a0 / 65536)) = true := decide_eq_true c3; clear c3; obtain ⟨ji4, hji4⟩ : ∃ j_ : Int, (((a0 / 65536) / 256) % 256) = j_ := ⟨_, rfl⟩
      replace H : (if 0 ≤ (ji4) then (if (ji4) < 256 then (some (wrap64 ((16 + 8) + (wrap64 (bt (⟨#[0, 1, 2, 2, 3, 3, 3, 3, 4, 4, 4, 4, 4, 4, 4, 4, 5, 5, 5, 5, 5, 5, 5, 5, 5, 5, 5, 5, 5, 5, 5, 5, 6, 6, 6, 6, 6, 6, 6, 6, 6, 6, 6, 6, 6, 6, 6, 6, 6, 6, 6, 6, 6, 6, 6, 6, 6, 6, 6, 6, 6, 6, 6, 6, 7, 7, 7, 7, 7, 7, 7, 7, 7, 7, 7, 7, 7, 7, 7, 7, 7, 7, 7, 7, 7, 7, 7, 7, 7, 7, 7, 7, 7, 7, 7, 7, 7, 7, 7, 7, 7, 7, 7, 7, 7, 7, 7, 7, 7, 7, 7, 7, 7, 7, 7, 7, 7, 7, 7, 7, 7, 7, 7, 7, 7, 7, 7, 7, 8, 8, 8, 8, 8, 8, 8, 8, 8, 8, 8, 8, 8, 8, 8, 8, 8, 8, 8, 8, 8, 8, 8, 8, 8, 8, 8, 8, 8, 8, 8, 8, 8, 8, 8, 8, 8, 8, 8, 8, 8, 8, 8, 8, 8, 8, 8, 8, 8, 8, 8, 8, 8, 8, 8, 8, 8, 8, 8, 8, 8, 8, 8, 8, 8, 8, 8, 8, 8, 8, 8, 8, 8, 8, 8, 8, 8, 8, 8, 8, 8, 8, 8, 8, 8, 8, 8, 8, 8, 8, 8, 8, 8, 8, 8, 8, 8, 8, 8, 8, 8, 8, 8, 8, 8, 8, 8, 8, 8, 8, 8, 8, 8, 8, 8, 8, 8, 8, 8, 8, 8, 8, 8, 8, 8, 8, 8, 8]⟩ : ByteArray) (ji4)))))) else (none)) else (none)) = some r := by first | (rw [hji4] at H; exact H) | (simp only [hji4] at H ⊢; exact H)
      by_cases c5 : 0 ≤ (ji4)
      · rw [if_pos c5] at H; have c5b0 : decide (0 ≤ (ji4)) = true := decide_eq_true c5; clear c5; by_cases c6 : (ji4) < 256
        · rw [if_pos c6] at H; have c6b0 : decide ((ji4) < 256) = true := decide_eq_true c6; clear c6; obtain rfl := Option.some.inj H; have p7 : 0 ≤ ((ji4) : Int) := of_decide_eq_true (by first | (with_reducible assumption) | assumption)
          have q7 : (ji4) < (256 : Int) := of_decide_eq_true (by first | (with_reducible assumption) | assumption)
          have hx7 := bt_at (⟨#[0, 1, 2, 2, 3, 3, 3, 3, 4, 4, 4, 4, 4, 4, 4, 4, 5, 5, 5, 5, 5, 5, 5, 5, 5, 5, 5, 5, 5, 5, 5, 5, 6, 6, 6, 6, 6, 6, 6, 6, 6, 6, 6, 6, 6, 6, 6, 6, 6, 6, 6, 6, 6, 6, 6, 6, 6, 6, 6, 6, 6, 6, 6, 6, 7, 7, 7, 7, 7, 7, 7, 7, 7, 7, 7, 7, 7, 7, 7, 7, 7, 7, 7, 7, 7, 7, 7, 7, 7, 7, 7, 7, 7, 7, 7, 7, 7, 7, 7, 7, 7, 7, 7, 7, 7, 7, 7, 7, 7, 7, 7, 7, 7, 7, 7, 7, 7, 7, 7, 7, 7, 7, 7, 7, 7, 7, 7, 7, 8, 8, 8, 8, 8, 8, 8, 8, 8, 8, 8, 8, 8, 8, 8, 8, 8, 8, 8, 8, 8, 8, 8, 8, 8, 8, 8, 8, 8, 8, 8, 8, 8, 8, 8, 8, 8, 8, 8, 8, 8, 8, 8, 8, 8, 8, 8, 8, 8, 8, 8, 8, 8, 8, 8, 8, 8, 8, 8, 8, 8, 8, 8, 8, 8, 8, 8, 8, 8, 8, 8, 8, 8, 8, 8, 8, 8, 8, 8, 8, 8, 8, 8, 8, 8, 8, 8, 8, 8, 8, 8, 8, 8, 8, 8, 8, 8, 8, 8, 8, 8, 8, 8, 8, 8, 8, 8, 8, 8, 8, 8, 8, 8, 8, 8, 8, 8, 8, 8, 8, 8, 8, 8, 8, 8, 8, 8, 8]⟩ : ByteArray) (ji4)
          replace p7 := eq_true p7
          replace q7 := eq_true q7
          go_enter Try.func78, Try.ntmps78
          go_wp2
          go_ret
          exact ⟨by first | rfl | (simp; done) | (simp only [← hji4] <;> (first | rfl | simp)) | (simp [*]; done), by repeat (first | exact Drawn0.refl _ | apply Drawn0.step)⟩
        rw [if_neg c6] at H; exact absurd H (by simp)
      rw [if_neg c5] at H; exact absurd H (by simp)
    rw [if_neg c3] at H; have c3b0 : decide (256 ≤ (a0 / 65536)) = false := decide_eq_false c3; clear c3; obtain ⟨ji8, hji8⟩ : ∃ j_ : Int, ((a0 / 65536) % 256) = j_ := ⟨_, rfl⟩
    replace H : (if 0 ≤ (ji8) then (if (ji8) < 256 then (some (wrap64 (16 + (wrap64 (bt (⟨#[0, 1, 2, 2, 3, 3, 3, 3, 4, 4, 4, 4, 4, 4, 4, 4, 5, 5, 5, 5, 5, 5, 5, 5, 5, 5, 5, 5, 5, 5, 5, 5, 6, 6, 6, 6, 6, 6, 6, 6, 6, 6, 6, 6, 6, 6, 6, 6, 6, 6, 6, 6, 6, 6, 6, 6, 6, 6, 6, 6, 6, 6, 6, 6, 7, 7, 7, 7, 7, 7, 7, 7, 7, 7, 7, 7, 7, 7, 7, 7, 7, 7, 7, 7, 7, 7, 7, 7, 7, 7, 7, 7, 7, 7, 7, 7, 7, 7, 7, 7, 7, 7, 7, 7, 7, 7, 7, 7, 7, 7, 7, 7, 7, 7, 7, 7, 7, 7, 7, 7, 7, 7, 7, 7, 7, 7, 7, 7, 8, 8, 8, 8, 8, 8, 8, 8, 8, 8, 8, 8, 8, 8, 8, 8, 8, 8, 8, 8, 8, 8, 8, 8, 8, 8, 8, 8, 8, 8, 8, 8, 8, 8, 8, 8, 8, 8, 8, 8, 8, 8, 8, 8, 8, 8, 8, 8, 8, 8, 8, 8, 8, 8, 8, 8, 8, 8, 8, 8, 8, 8, 8, 8, 8, 8, 8, 8, 8, 8, 8, 8, 8, 8, 8, 8, 8, 8, 8, 8, 8, 8, 8, 8, 8, 8, 8, 8, 8, 8, 8, 8, 8, 8, 8, 8, 8, 8, 8, 8, 8, 8, 8, 8, 8, 8, 8, 8, 8, 8, 8, 8, 8, 8, 8, 8, 8, 8, 8, 8, 8, 8, 8, 8, 8, 8, 8, 8]⟩ : ByteArray) (ji8)))))) else (none)) else (none)) = some r := by first | (rw [hji8] at H; exact H) | (simp only [hji8] at H ⊢; exact H)
    by_cases c9 : 0 ≤ (ji8)
    · rw [if_pos c9] at H; have c9b0 : decide (0 ≤ (ji8)) = true := decide_eq_true c9; clear c9; by_cases c10 : (ji8) < 256
      · rw [if_pos c10] at H; have c10b0 : decide ((ji8) < 256) = true := decide_eq_true c10; clear c10; obtain rfl := Option.some.inj H; have p11 : 0 ≤ ((ji8) : Int) := of_decide_eq_true (by first | (with_reducible assumption) | assumption)
        have q11 : (ji8) < (256 : Int) := of_decide_eq_true (by first | (with_reducible assumption) | assumption)
        have hx11 := bt_at (⟨#[0, 1, 2, 2, 3, 3, 3, 3, 4, 4, 4, 4, 4, 4, 4, 4, 5, 5, 5, 5, 5, 5, 5, 5, 5, 5, 5, 5, 5, 5, 5, 5, 6, 6, 6, 6, 6, 6, 6, 6, 6, 6, 6, 6, 6, 6, 6, 6, 6, 6, 6, 6, 6, 6, 6, 6, 6, 6, 6, 6, 6, 6, 6, 6, 7, 7, 7, 7, 7, 7, 7, 7, 7, 7, 7, 7, 7, 7, 7, 7, 7, 7, 7, 7, 7, 7, 7, 7, 7, 7, 7, 7, 7, 7, 7, 7, 7, 7, 7, 7, 7, 7, 7, 7, 7, 7, 7, 7, 7, 7, 7, 7, 7, 7, 7, 7, 7, 7, 7, 7, 7, 7, 7, 7, 7, 7, 7, 7, 8, 8, 8, 8, 8, 8, 8, 8, 8, 8, 8, 8, 8, 8, 8, 8, 8, 8, 8, 8, 8, 8, 8, 8, 8, 8, 8, 8, 8, 8, 8, 8, 8, 8, 8, 8, 8, 8, 8, 8, 8, 8, 8, 8, 8, 8, 8, 8, 8, 8, 8, 8, 8, 8, 8, 8, 8, 8, 8, 8, 8, 8, 8, 8, 8, 8, 8, 8, 8, 8, 8, 8, 8, 8, 8, 8, 8, 8, 8, 8, 8, 8, 8, 8, 8, 8, 8, 8, 8, 8, 8, 8, 8, 8, 8, 8, 8, 8, 8, 8, 8, 8, 8, 8, 8, 8, 8, 8, 8, 8, 8, 8, 8, 8, 8, 8, 8, 8, 8, 8, 8, 8, 8, 8, 8, 8, 8, 8]⟩ : ByteArray) (ji8)
        replace p11 := eq_true p11
        replace q11 := eq_true q11
        go_enter Try.func78, Try.ntmps78
        go_wp2
        go_ret
        exact ⟨by first | rfl | (simp; done) | (simp only [← hji8] <;> (first | rfl | simp)) | (simp [*]; done), by repeat (first | exact Drawn0.refl _ | apply Drawn0.step)⟩
      rw [if_neg c10] at H; exact absurd H (by simp)
    rw [if_neg c9] at H; exact absurd H (by simp)
  rw [if_neg c2] at H; have c2b0 : decide (65536 ≤ a0) = false := decide_eq_false c2; clear c2; by_cases c12 : a0 ≥ 256
  · rw [if_pos c12] at H; have c12b0 : decide (256 ≤ a0) = true := decide_eq_true c12; clear c12; obtain ⟨ji13, hji13⟩ : ∃ j_ : Int, ((a0 / 256) % 256) = j_ := ⟨_, rfl⟩
    replace H : (if 0 ≤ (ji13) then (if (ji13) < 256 then (some (wrap64 ((0 + 8) + (wrap64 (bt (⟨#[0, 1, 2, 2, 3, 3, 3, 3, 4, 4, 4, 4, 4, 4, 4, 4, 5, 5, 5, 5, 5, 5, 5, 5, 5, 5, 5, 5, 5, 5, 5, 5, 6, 6, 6, 6, 6, 6, 6, 6, 6, 6, 6, 6, 6, 6, 6, 6, 6, 6, 6, 6, 6, 6, 6, 6, 6, 6, 6, 6, 6, 6, 6, 6, 7, 7, 7, 7, 7, 7, 7, 7, 7, 7, 7, 7, 7, 7, 7, 7, 7, 7, 7, 7, 7, 7, 7, 7, 7, 7, 7, 7, 7, 7, 7, 7, 7, 7, 7, 7, 7, 7, 7, 7, 7, 7, 7, 7, 7, 7, 7, 7, 7, 7, 7, 7, 7, 7, 7, 7, 7, 7, 7, 7, 7, 7, 7, 7, 8, 8, 8, 8, 8, 8, 8, 8, 8, 8, 8, 8, 8, 8, 8, 8, 8, 8, 8, 8, 8, 8, 8, 8, 8, 8, 8, 8, 8, 8, 8, 8, 8, 8, 8, 8, 8, 8, 8, 8, 8, 8, 8, 8, 8, 8, 8, 8, 8, 8, 8, 8, 8, 8, 8, 8, 8, 8, 8, 8, 8, 8, 8, 8, 8, 8, 8, 8, 8, 8, 8, 8, 8, 8, 8, 8, 8, 8, 8, 8, 8, 8, 8, 8, 8, 8, 8, 8, 8, 8, 8, 8, 8, 8, 8, 8, 8, 8, 8, 8, 8, 8, 8, 8, 8, 8, 8, 8, 8, 8, 8, 8, 8, 8, 8, 8, 8, 8, 8, 8, 8, 8, 8, 8, 8, 8, 8, 8]⟩ : ByteArray) (ji13)))))) else (none)) else (none)) = some r := by first | (rw [hji13] at H; exact H) | (simp only [hji13] at H ⊢; exact H)
    by_cases c14 : 0 ≤ (ji13)
    · rw [if_pos c14] at H; have c14b0 : decide (0 ≤ (ji13)) = true := decide_eq_true c14; clear c14; by_cases c15 : (ji13) < 256
      · rw [if_pos c15] at H; have c15b0 : decide ((ji13) < 256) = true := decide_eq_true c15; clear c15; obtain rfl := Option.some.inj H; have p16 : 0 ≤ ((ji13) : Int) := of_decide_eq_true (by first | (with_reducible assumption) | assumption)
        have q16 : (ji13) < (256 : Int) := of_decide_eq_true (by first | (with_reducible assumption) | assumption)
        have hx16 := bt_at (⟨#[0, 1, 2, 2, 3, 3, 3, 3, 4, 4, 4, 4, 4, 4, 4, 4, 5, 5, 5, 5, 5, 5, 5, 5, 5, 5, 5, 5, 5, 5, 5, 5, 6, 6, 6, 6, 6, 6, 6, 6, 6, 6, 6, 6, 6, 6, 6, 6, 6, 6, 6, 6, 6, 6, 6, 6, 6, 6, 6, 6, 6, 6, 6, 6, 7, 7, 7, 7, 7, 7, 7, 7, 7, 7, 7, 7, 7, 7, 7, 7, 7, 7, 7, 7, 7, 7, 7, 7, 7, 7, 7, 7, 7, 7, 7, 7, 7, 7, 7, 7, 7, 7, 7, 7, 7, 7, 7, 7, 7, 7, 7, 7, 7, 7, 7, 7, 7, 7, 7, 7, 7, 7, 7, 7, 7, 7, 7, 7, 8, 8, 8, 8, 8, 8, 8, 8, 8, 8, 8, 8, 8, 8, 8, 8, 8, 8, 8, 8, 8, 8, 8, 8, 8, 8, 8, 8, 8, 8, 8, 8, 8, 8, 8, 8, 8, 8, 8, 8, 8, 8, 8, 8, 8, 8, 8, 8, 8, 8, 8, 8, 8, 8, 8, 8, 8, 8, 8, 8, 8, 8, 8, 8, 8, 8, 8, 8, 8, 8, 8, 8, 8, 8, 8, 8, 8, 8, 8, 8, 8, 8, 8, 8, 8, 8, 8, 8, 8, 8, 8, 8, 8, 8, 8, 8, 8, 8, 8, 8, 8, 8, 8, 8, 8, 8, 8, 8, 8, 8, 8, 8, 8, 8, 8, 8, 8, 8, 8, 8, 8, 8, 8, 8, 8, 8, 8, 8]⟩ : ByteArray) (ji13)
        replace p16 := eq_true p16
        replace q16 := eq_true q16
        go_enter Try.func78, Try.ntmps78
        go_wp2
        go_ret
        exact ⟨by first | rfl | (simp; done) | (simp only [← hji13] <;> (first | rfl | simp)) | (simp [*]; done), by repeat (first | exact Drawn0.refl _ | apply Drawn0.step)⟩
      rw [if_neg c15] at H; exact absurd H (by simp)
    rw [if_neg c14] at H; exact absurd H (by simp)
  rw [if_neg c12] at H; have c12b0 : decide (256 ≤ a0) = false := decide_eq_false c12; clear c12; obtain ⟨ji17, hji17⟩ : ∃ j_ : Int, ((a0) % 256) = j_ := ⟨_, rfl⟩
  replace H : (if 0 ≤ (ji17) then (if (ji17) < 256 then (some (wrap64 (0 + (wrap64 (bt (⟨#[0, 1, 2, 2, 3, 3, 3, 3, 4, 4, 4, 4, 4, 4, 4, 4, 5, 5, 5, 5, 5, 5, 5, 5, 5, 5, 5, 5, 5, 5, 5, 5, 6, 6, 6, 6, 6, 6, 6, 6, 6, 6, 6, 6, 6, 6, 6, 6, 6, 6, 6, 6, 6, 6, 6, 6, 6, 6, 6, 6, 6, 6, 6, 6, 7, 7, 7, 7, 7, 7, 7, 7, 7, 7, 7, 7, 7, 7, 7, 7, 7, 7, 7, 7, 7, 7, 7, 7, 7, 7, 7, 7, 7, 7, 7, 7, 7, 7, 7, 7, 7, 7, 7, 7, 7, 7, 7, 7, 7, 7, 7, 7, 7, 7, 7, 7, 7, 7, 7, 7, 7, 7, 7, 7, 7, 7, 7, 7, 8, 8, 8, 8, 8, 8, 8, 8, 8, 8, 8, 8, 8, 8, 8, 8, 8, 8, 8, 8, 8, 8, 8, 8, 8, 8, 8, 8, 8, 8, 8, 8, 8, 8, 8, 8, 8, 8, 8, 8, 8, 8, 8, 8, 8, 8, 8, 8, 8, 8, 8, 8, 8, 8, 8, 8, 8, 8, 8, 8, 8, 8, 8, 8, 8, 8, 8, 8, 8, 8, 8, 8, 8, 8, 8, 8, 8, 8, 8, 8, 8, 8, 8, 8, 8, 8, 8, 8, 8, 8, 8, 8, 8, 8, 8, 8, 8, 8, 8, 8, 8, 8, 8, 8, 8, 8, 8, 8, 8, 8, 8, 8, 8, 8, 8, 8, 8, 8, 8, 8, 8, 8, 8, 8, 8, 8, 8, 8]⟩ : ByteArray) (ji17)))))) else (none)) else (none)) = some r := by first | (rw [hji17] at H; exact H) | (simp only [hji17] at H ⊢; exact H)
  by_cases c18 : 0 ≤ (ji17)
  · rw [if_pos c18] at H; have c18b0 : decide (0 ≤ (ji17)) = true := decide_eq_true c18; clear c18; by_cases c19 : (ji17) < 256
    · rw [if_pos c19] at H; have c19b0 : decide ((ji17) < 256) = true := decide_eq_true c19; clear c19; obtain rfl := Option.some.inj H; have p20 : 0 ≤ ((ji17) : Int) := of_decide_eq_true (by first | (with_reducible assumption) | assumption)
      have q20 : (ji17) < (256 : Int) := of_decide_eq_true (by first | (with_reducible assumption) | assumption)
      have hx20 := bt_at (⟨#[0, 1, 2, 2, 3, 3, 3, 3, 4, 4, 4, 4, 4, 4, 4, 4, 5, 5, 5, 5, 5, 5, 5, 5, 5, 5, 5, 5, 5, 5, 5, 5, 6, 6, 6, 6, 6, 6, 6, 6, 6, 6, 6, 6, 6, 6, 6, 6, 6, 6, 6, 6, 6, 6, 6, 6, 6, 6, 6, 6, 6, 6, 6, 6, 7, 7, 7, 7, 7, 7, 7, 7, 7, 7, 7, 7, 7, 7, 7, 7, 7, 7, 7, 7, 7, 7, 7, 7, 7, 7, 7, 7, 7, 7, 7, 7, 7, 7, 7, 7, 7, 7, 7, 7, 7, 7, 7, 7, 7, 7, 7, 7, 7, 7, 7, 7, 7, 7, 7, 7, 7, 7, 7, 7, 7, 7, 7, 7, 8, 8, 8, 8, 8, 8, 8, 8, 8, 8, 8, 8, 8, 8, 8, 8, 8, 8, 8, 8, 8, 8, 8, 8, 8, 8, 8, 8, 8, 8, 8, 8, 8, 8, 8, 8, 8, 8, 8, 8, 8, 8, 8, 8, 8, 8, 8, 8, 8, 8, 8, 8, 8, 8, 8, 8, 8, 8, 8, 8, 8, 8, 8, 8, 8, 8, 8, 8, 8, 8, 8, 8, 8, 8, 8, 8, 8, 8, 8, 8, 8, 8, 8, 8, 8, 8, 8, 8, 8, 8, 8, 8, 8, 8, 8, 8, 8, 8, 8, 8, 8, 8, 8, 8, 8, 8, 8, 8, 8, 8, 8, 8, 8, 8, 8, 8, 8, 8, 8, 8, 8, 8, 8, 8, 8, 8, 8, 8]⟩ : ByteArray) (ji17)
      replace p20 := eq_true p20
      replace q20 := eq_true q20
      go_enter Try.func78, Try.ntmps78
      go_wp2
      go_ret
      exact ⟨by first | rfl | (simp; done) | (simp only [← hji17] <;> (first | rfl | simp)) | (simp [*]; done), by repeat (first | exact Drawn0.refl _ | apply Drawn0.step)⟩
    rw [if_neg c19] at H; exact absurd H (by simp)
  rw [if_neg c18] at H; exact absurd H (by simp)

/-! ### interval_upto: function 59 -/
def interval_upto.f (a0 : Int) : Option (Int) := (bits_Len32.f a0).bind fun t104 => (if 0 ≤ t104 then (some (((shl .u32 1 t104) - 1) % 4294967296)) else (none))
set_option maxHeartbeats 8000000 in
set_option maxRecDepth 100000 in
theorem interval_upto.calls (a0 : Int) (r : Int) (w : World) (h : interval_upto.f a0 = some r) :
    Calls Try.prog 59 #[.int .u32 a0] w fun e w' => e = .returned (.int .u32 r) ∧ Drawn0 w w' := by
  have H : ((bits_Len32.f a0).bind fun t104 => (if 0 ≤ t104 then (some (((shl .u32 1 t104) - 1) % 4294967296)) else (none))) = some r := h
  clear h; replace H := Option.bind_eq_some_iff.mp H; obtain ⟨t104, A20, H⟩ := H; replace H : (if 0 ≤ t104 then (some (((shl .u32 1 t104) - 1) % 4294967296)) else (none)) = some r := H; have A2 := am A20; clear A20; by_cases c3 : 0 ≤ t104
  · rw [if_pos c3] at H; have c3b0 := eq_true c3; have c3b1 : decide (0 ≤ t104) = true := decide_eq_true c3; clear c3; obtain ⟨ji4, hji4⟩ : ∃ j_ : Int, (shl .u32 1 t104) = j_ := ⟨_, rfl⟩
    replace H : (some (((ji4) - 1) % 4294967296)) = some r := by first | (rw [hji4] at H; exact H) | (simp only [hji4] at H ⊢; exact H)
    (try rw [hji4] at A2)
    have hji4_ : (IntKind.u32.wrap (1 * 2 ^ min t104.toNat 32)) = ji4 := hji4
    have hji4z : t104 ≤ 32 → (IntKind.u32.wrap (1 * 2 ^ t104.toNat)) = ji4 := shl_small hji4
    have hji4u : (IntKind.u32.wrap (2 ^ min t104.toNat 32)) = ji4 := by have h_ := hji4_; rw [Int.one_mul] at h_; exact h_
    have hji4v : t104 ≤ 32 → (IntKind.u32.wrap (2 ^ t104.toNat)) = ji4 := fun hle_ => by have h_ := hji4z hle_; rw [Int.one_mul] at h_; exact h_
    obtain rfl := Option.some.inj H
    go_enter Try.func59, Try.ntmps59
    go_wp2_with (first | ((with_reducible refine gate_callee (f := 78) rfl ?_); refine goesL_ (some 4) rfl rfl Try.func78 (by kernel_rfl) rfl #[.int .u32 a0] rfl (by (try simp only [List.map_toArray, List.map_cons, List.map_nil]); first | done | rfl | (simp only [List.length_drop, List.length_take]; rfl)) ?_; (with_reducible refine (bits_Len32.calls a0 t104 _ A2.out).mono ?_); rintro e w' ⟨rfl, ⟨nd, rfl⟩⟩; refine ⟨_, rfl, ?_⟩))
    go_ret
    exact ⟨by first | rfl | (simp; done) | (simp only [← hji4] <;> (first | rfl | simp)) | (simp [*]; done), by repeat (first | exact Drawn0.refl _ | apply Drawn0.step)⟩
  rw [if_neg c3] at H; exact absurd H (by simp)

/-! ### interval_maker_2: function 58 -/
def interval_maker_2.f (a0_0 : Int) (a0_1 : Int) (a1_0 : Int) (a1_1 : Int) : Option (Int × Int) := (interval_upto.f (mx a0_1 a1_1)).bind fun t108 => (some (mx a0_0 a1_0, t108))
def interval_maker_2.T1 : Bool × List (List Nat × List Nat) := (true, [([], []), ([0], [0]), ([], []), ([2], [2]), ([1, 3], [1, 3]), ([], []), ([5], [5]), ([], []), ([7], [7]), ([6, 8], [6, 8]), ([9], [9]), ([4, 10], [4, 10]), ([11, 10, 0, 1, 2, 3, 4, 5, 6, 7, 8, 9, 10, 11], [11])])
def interval_maker_2.B1 : List Nat := [0, 1, 0, 4, 15, 0, 32, 0, 128, 480, 992, 2047, 4095]
theorem interval_maker_2.tab1 : rtab .any (opsOf Try.f58 1) = interval_maker_2.T1 := by kernel_rfl
theorem interval_maker_2.bits1 : waitsOk interval_maker_2.T1.2 interval_maker_2.B1 = true := by kernel_rfl
set_option maxHeartbeats 8000000 in
set_option maxRecDepth 100000 in
theorem interval_maker_2.calls (a0_0 : Int) (a0_1 : Int) (a1_0 : Int) (a1_1 : Int) (r1 : Int) (r2 : Int) (w : World) (h : interval_maker_2.f a0_0 a0_1 a1_0 a1_1 = some (r1, r2)) :
    Calls Try.prog 58 #[.agg #[.int .u32 a0_0, .int .u32 a0_1], .agg #[.int .u32 a1_0, .int .u32 a1_1]] w fun e w' => e = .returned (.agg #[.int .u32 r1, .int .u32 r2]) ∧ Below w.heap.size w w' := by
  have hu24 := Try.underlying24
  have HB := am (Below.refl w.heap.size w)
  have H : ((interval_upto.f (mx a0_1 a1_1)).bind fun t108 => (some (mx a0_0 a1_0, t108))) = some (r1, r2) := h
  clear h; obtain ⟨ji3, hji3⟩ : ∃ j_ : Int, (mx a0_0 a1_0) = j_ := ⟨_, rfl⟩
  replace H : ((interval_upto.f (mx a0_1 a1_1)).bind fun t108 => (some (ji3, t108))) = some (r1, r2) := by first | (rw [hji3] at H; exact H) | (simp only [hji3] at H ⊢; exact H)
  have hji3_ : (if a0_0 < a1_0 then a1_0 else a0_0) = ji3 := hji3
  obtain ⟨ji4, hji4⟩ : ∃ j_ : Int, (mx a0_1 a1_1) = j_ := ⟨_, rfl⟩
  replace H : ((interval_upto.f (ji4)).bind fun t108 => (some (ji3, t108))) = some (r1, r2) := by first | (rw [hji4] at H; exact H) | (simp only [hji4] at H ⊢; exact H)
  have hji4_ : (if a0_1 < a1_1 then a1_1 else a0_1) = ji4 := hji4
  replace H := Option.bind_eq_some_iff.mp H; obtain ⟨t108, A50, H⟩ := H; replace H : (some (ji3, t108)) = some (r1, r2) := H; have A5 := am A50; clear A50; simp only [Option.some.injEq, Prod.mk.injEq] at H; obtain ⟨rfl, rfl⟩ := H
  go_enter Try.func58, Try.ntmps58
  try go_wp2_with (first | ((with_reducible refine gate_dst (N := 2) rfl ?_); refine bxE 2 #[.int .u32 a0_0, .int .u32 a0_1] 24 ?_; intro gb105 hg w6 hbox hb; have BK105 := am (hbox); have GW105 := gwA hg HB; have GE105 := gwA hg HB; replace HB := bsA HB hb; clear hb hbox hg) | ((with_reducible refine gate_dst (N := 3) rfl ?_); refine bxE 3 #[.int .u32 a1_0, .int .u32 a1_1] 24 ?_; intro gb106 hg w7 hbox hb; have BK106 := am (hbox); have GW106 := gwA hg HB; have GE106 := gwA hg HB; have NB105_106 := ltA hg BK105; have NB106_105 := gtA hg BK105; replace BK105 := bbA BK105 hb; replace HB := bsA HB hb; clear hb hbox hg) | ((with_reducible refine gate_dst (N := 4) rfl ?_); refine bxE 4 #[.int .u32 0, .int .u32 0] 24 ?_; intro gb107 hg w8 hbox hb; have BK107 := am (hbox); have GW107 := gwA hg HB; have GE107 := gwA hg HB; have NB105_107 := ltA hg BK105; have NB107_105 := gtA hg BK105; have NB106_107 := ltA hg BK106; have NB107_106 := gtA hg BK106; replace BK105 := bbA BK105 hb; replace BK106 := bbA BK106 hb; replace HB := bsA HB hb; clear hb hbox hg))
  have n0_ := am (blk_drew BK105.out)
  have n1_ := am (blk_drew BK106.out)
  have n2_ := am (blk_drew BK107.out)
  have n3_ := am (below_drew1 HB.out)
  clear BK105; clear BK106; clear BK107; clear HB; have BK105 := n0_; have BK106 := n1_; have BK107 := n2_; have HB := n3_; clear n0_ n1_ n2_ n3_; refine start_ (n := 13) (S := fun w' => w'.cell? ⟨gb105, 0, none⟩ = some (.int .u32 a0_0) ∧ w'.cell? ⟨gb105, 1, none⟩ = some (.int .u32 a0_1) ∧ w'.cell? ⟨gb106, 0, none⟩ = some (.int .u32 a1_0) ∧ w'.cell? ⟨gb106, 1, none⟩ = some (.int .u32 a1_1)) (ds := []) #[false, false, false, false, false, false, false, false, false, false, false, false, false] (by kernel_rfl) rfl rfl ⟨(blk_cell BK105.out 0).trans rfl, (blk_cell BK105.out 1).trans rfl, (blk_cell BK106.out 0).trans rfl, (blk_cell BK106.out 1).trans rfl⟩ (fun hHeld => ?_); refine with_tabW interval_maker_2.tab1 interval_maker_2.bits1 (fun HT_ HW_ => ?_)
  generalize w8.drew = w9 at BK105 BK106 BK107 HB hHeld ⊢
  refine pure_ (i := 0) (N := some 5) (v := ?_) (a' := ?_) #[true, false, false, false, false, false, false, false, false, false, false, false, false] rfl rfl (any_of HT_.out (by kernel_rfl)) (fun _ _ _ h => h) (Or.inl ⟨by rfl, ?_⟩) ?_ ?_
  rotate_left
  · intro w'
    go_simp
    with_reducible rfl
  rotate_left
  · simp only [Act.put, s1, s2, s3, i64_w, i32_w]
    rfl
  refine pure_ (i := 2) (N := some 7) (v := ?_) (a' := ?_) #[true, false, true, false, false, false, false, false, false, false, false, false, false] rfl rfl (any_of HT_.out (by kernel_rfl)) (fun _ _ _ h => h) (Or.inl ⟨by rfl, ?_⟩) ?_ ?_
  rotate_left
  · intro w'
    go_simp
    with_reducible rfl
  rotate_left
  · simp only [Act.put, s1, s2, s3, i64_w, i32_w]
    rfl
  refine pure_ (i := 5) (N := some 10) (v := ?_) (a' := ?_) #[true, false, true, false, false, true, false, false, false, false, false, false, false] rfl rfl (any_of HT_.out (by kernel_rfl)) (fun _ _ _ h => h) (Or.inl ⟨by rfl, ?_⟩) ?_ ?_
  rotate_left
  · intro w'
    go_simp
    with_reducible rfl
  rotate_left
  · simp only [Act.put, s1, s2, s3, i64_w, i32_w]
    rfl
  refine pure_ (i := 7) (N := some 12) (v := ?_) (a' := ?_) #[true, false, true, false, false, true, false, true, false, false, false, false, false] rfl rfl (any_of HT_.out (by kernel_rfl)) (fun _ _ _ h => h) (Or.inl ⟨by rfl, ?_⟩) ?_ ?_
  rotate_left
  · intro w'
    go_simp
    with_reducible rfl
  rotate_left
  · simp only [Act.put, s1, s2, s3, i64_w, i32_w]
    rfl
  refine take_ (i := 1) (N := some 6) (v := ?_) (a' := ?_) #[true, true, true, false, false, true, false, true, false, false, false, false, false] rfl rfl (take_ofW HT_.out HW_.out (by kernel_rfl)) (fun _ _ _ h => h) (Or.inl ⟨by rfl, ?_⟩) hHeld ?_ ?_
  rotate_left
  · rintro w' ⟨s0, s1, s2, s3⟩
    go_simp
    with_reducible rfl
  rotate_left
  · simp only [Act.put, s1, s2, s3, i64_w, i32_w]
    rfl
  refine take_ (i := 3) (N := some 8) (v := ?_) (a' := ?_) #[true, true, true, true, false, true, false, true, false, false, false, false, false] rfl rfl (take_ofW HT_.out HW_.out (by kernel_rfl)) (fun _ _ _ h => h) (Or.inl ⟨by rfl, ?_⟩) hHeld ?_ ?_
  rotate_left
  · rintro w' ⟨s0, s1, s2, s3⟩
    go_simp
    with_reducible rfl
  rotate_left
  · simp only [Act.put, s1, s2, s3, i64_w, i32_w]
    rfl
  refine pure_ (i := 4) (N := some 9) (v := ?_) (a' := ?_) #[true, true, true, true, true, true, false, true, false, false, false, false, false] rfl rfl (any_of HT_.out (by kernel_rfl)) (fun _ _ _ h => h) (Or.inl ⟨by rfl, ?_⟩) ?_ ?_
  rotate_left
  · intro w'
    go_simp
    with_reducible rfl
  rotate_left
  · simp only [Act.put, s1, s2, s3, i64_w, i32_w]
    rfl
  refine take_ (i := 6) (N := some 11) (v := ?_) (a' := ?_) #[true, true, true, true, true, true, true, true, false, false, false, false, false] rfl rfl (take_ofW HT_.out HW_.out (by kernel_rfl)) (fun _ _ _ h => h) (Or.inl ⟨by rfl, ?_⟩) hHeld ?_ ?_
  rotate_left
  · rintro w' ⟨s0, s1, s2, s3⟩
    go_simp
    with_reducible rfl
  rotate_left
  · simp only [Act.put, s1, s2, s3, i64_w, i32_w]
    rfl
  refine take_ (i := 8) (N := some 13) (v := ?_) (a' := ?_) #[true, true, true, true, true, true, true, true, true, false, false, false, false] rfl rfl (take_ofW HT_.out HW_.out (by kernel_rfl)) (fun _ _ _ h => h) (Or.inl ⟨by rfl, ?_⟩) hHeld ?_ ?_
  rotate_left
  · rintro w' ⟨s0, s1, s2, s3⟩
    go_simp
    with_reducible rfl
  rotate_left
  · simp only [Act.put, s1, s2, s3, i64_w, i32_w]
    rfl
  refine pure_ (i := 9) (N := some 14) (v := ?_) (a' := ?_) #[true, true, true, true, true, true, true, true, true, true, false, false, false] rfl rfl (any_of HT_.out (by kernel_rfl)) (fun _ _ _ h => h) (Or.inl ⟨by rfl, ?_⟩) ?_ ?_
  rotate_left
  · intro w'
    go_simp
    with_reducible rfl
  rotate_left
  · simp only [Act.put, s1, s2, s3, i64_w, i32_w]
    rfl
  refine one_ (i := 10) (N := some 15) #[true, true, true, true, true, true, true, true, true, true, true, false, false] rfl rfl (one_of HT_.out (by kernel_rfl)) (by decide) (fun K hK => ?_)
  refine goes_ Try.func59 (by kernel_rfl) rfl #[.int .u32 ji4] (by rfl) rfl rfl (by (try simp only [List.map_toArray, List.map_cons, List.map_nil]); first | done | (simp only [hji4]; rfl) | rfl | (simp only [List.length_drop, List.length_take]; rfl)) ?_
  with_reducible refine (interval_upto.calls ji4 t108 _ A5.out).mono ?_
  rintro e w' ⟨rfl, ⟨nd, rfl⟩⟩
  refine ⟨_, rfl, ?_⟩
  refine hK.out _ _ ⟨(blk_cell BK105.out 0).trans rfl, (blk_cell BK105.out 1).trans rfl, (blk_cell BK106.out 0).trans rfl, (blk_cell BK106.out 1).trans rfl⟩ (fun hHeld => ?_)
  clear hK K; refine norm_ (a' := ?_) ?_ ?_
  rotate_left
  · show Act.put _ (some 15) _ = _
    simp only [Act.put, s1, s2, s3, i64_w, i32_w]
    rfl
  refine pure_ (i := 11) (N := some 16) (v := ?_) (a' := ?_) #[true, true, true, true, true, true, true, true, true, true, true, true, false] rfl rfl (any_of HT_.out (by kernel_rfl)) (fun _ _ _ h => h) (Or.inl ⟨by rfl, ?_⟩) ?_ ?_
  rotate_left
  · intro w'
    go_simp
    with_reducible rfl
  rotate_left
  · simp only [Act.put, s1, s2, s3, i64_w, i32_w]
    rfl
  refine one_ (i := 12) (N := none) #[true, true, true, true, true, true, true, true, true, true, true, true, true] rfl rfl (one_of HT_.out (by kernel_rfl)) (by decide) (fun K hK => ?_)
  have hs10 : w9.cell? ⟨gb107, 0, none⟩ = some (.int .u32 0) := cz BK107
  have hfs10 := blk_frozen BK107.out 0
  have hns10_0 := NB105_107.out
  have hns10_1 := NB106_107.out
  have hms10_0 := NB107_105.out
  have hms10_1 := NB107_106.out
  have hs11 : w9.cell? ⟨gb107, 1, none⟩ = some (.int .u32 0) := cz BK107
  have hfs11 := blk_frozen BK107.out 1
  have hns11_0 := NB105_107.out
  have hns11_1 := NB106_107.out
  have hms11_0 := NB107_105.out
  have hms11_1 := NB107_106.out
  refine skip_ (w1 := ?_) (by rfl) rfl ?_ ?_
  rotate_left
  · go_simp
    rfl
  refine hK.out _ _ ⟨((cell_far (p := ⟨gb107, _, none⟩) NB105_107.out _).trans (((cell_far (p := ⟨gb107, _, none⟩) NB105_107.out _).trans (hHeld.1)))), ((cell_far (p := ⟨gb107, _, none⟩) NB105_107.out _).trans (((cell_far (p := ⟨gb107, _, none⟩) NB105_107.out _).trans (hHeld.2.1)))), ((cell_far (p := ⟨gb107, _, none⟩) NB106_107.out _).trans (((cell_far (p := ⟨gb107, _, none⟩) NB106_107.out _).trans (hHeld.2.2.1)))), ((cell_far (p := ⟨gb107, _, none⟩) NB106_107.out _).trans (((cell_far (p := ⟨gb107, _, none⟩) NB106_107.out _).trans (hHeld.2.2.2))))⟩ (fun hHeld => ?_)
  clear hK K; refine done_ (done_of HT_.out (by kernel_rfl)) ?_
  try go_wp2
  refine bodyPost_ret (results_cell_row rfl _ _ gb107 24 #[.int .u32 ji3, .int .u32 t108] (0, 0) _ rfl (by refine bkT ?_; refine blk_put (cs := #[.int .u32 ji3, .int .u32 0]) ?_ 1 _ rfl; refine bkT ?_; refine blk_put (cs := #[.int .u32 0, .int .u32 0]) ?_ 0 _ rfl; refine bkT ?_; exact BK107.out) Try.underlying24 rfl (by kernel_rfl)) rfl ?_
  exact ⟨by first | rfl | (simp [errW_none, errW_some] <;> rfl) | (simp only [← hji3, ← hji4]; first | rfl | (simp [errW_none, errW_some] <;> rfl)) | (simp [*, errW_none, errW_some] <;> rfl), hbA HB⟩

/-! ### interval_maker_3: function 60 -/
def interval_maker_3.f (a0_0 : Int) (a0_1 : Int) (a1_0 : Int) (a1_1 : Int) : Option (Int × Int) := (interval_upto.f (mx a0_1 a1_1)).bind fun t112 => (some (0, t112))
set_option maxHeartbeats 8000000 in
set_option maxRecDepth 100000 in
theorem interval_maker_3.calls (a0_0 : Int) (a0_1 : Int) (a1_0 : Int) (a1_1 : Int) (r1 : Int) (r2 : Int) (w : World) (h : interval_maker_3.f a0_0 a0_1 a1_0 a1_1 = some (r1, r2)) :
    Calls Try.prog 60 #[.agg #[.int .u32 a0_0, .int .u32 a0_1], .agg #[.int .u32 a1_0, .int .u32 a1_1]] w fun e w' => e = .returned (.agg #[.int .u32 r1, .int .u32 r2]) ∧ Below w.heap.size w w' := by
  have hu24 := Try.underlying24
  have HB := am (Below.refl w.heap.size w)
  have H : ((interval_upto.f (mx a0_1 a1_1)).bind fun t112 => (some (0, t112))) = some (r1, r2) := h
  clear h; obtain ⟨ji3, hji3⟩ : ∃ j_ : Int, (mx a0_1 a1_1) = j_ := ⟨_, rfl⟩
  replace H : ((interval_upto.f (ji3)).bind fun t112 => (some (0, t112))) = some (r1, r2) := by first | (rw [hji3] at H; exact H) | (simp only [hji3] at H ⊢; exact H)
  have hji3_ : (if a0_1 < a1_1 then a1_1 else a0_1) = ji3 := hji3
  replace H := Option.bind_eq_some_iff.mp H; obtain ⟨t112, A40, H⟩ := H; replace H : (some (0, t112)) = some (r1, r2) := H; have A4 := am A40; clear A40; simp only [Option.some.injEq, Prod.mk.injEq] at H; obtain ⟨rfl, rfl⟩ := H
  go_enter Try.func60, Try.ntmps60
  go_wp2_with (first | ((with_reducible refine gate_dst (N := 2) rfl ?_); refine bxE 2 #[.int .u32 a0_0, .int .u32 a0_1] 24 ?_; intro gb109 hg w5 hbox hb; have BK109 := am (hbox); have GW109 := gwA hg HB; have GE109 := gwA hg HB; replace HB := bsA HB hb; clear hb hbox hg) | ((with_reducible refine gate_dst (N := 3) rfl ?_); refine bxE 3 #[.int .u32 a1_0, .int .u32 a1_1] 24 ?_; intro gb110 hg w6 hbox hb; have BK110 := am (hbox); have GW110 := gwA hg HB; have GE110 := gwA hg HB; have NB109_110 := ltA hg BK109; have NB110_109 := gtA hg BK109; replace BK109 := bbA BK109 hb; replace HB := bsA HB hb; clear hb hbox hg) | ((with_reducible refine gate_dst (N := 4) rfl ?_); refine bxE 4 #[.int .u32 0, .int .u32 0] 24 ?_; intro gb111 hg w7 hbox hb; have BK111 := am (hbox); have GW111 := gwA hg HB; have GE111 := gwA hg HB; have NB109_111 := ltA hg BK109; have NB111_109 := gtA hg BK109; have NB110_111 := ltA hg BK110; have NB111_110 := gtA hg BK110; replace BK109 := bbA BK109 hb; replace BK110 := bbA BK110 hb; replace HB := bsA HB hb; clear hb hbox hg; have hnb8 := NB109_110.out; have hnc8 := NB110_109.out; have hnb9 := NB109_111.out; have hnc9 := NB111_109.out; have hcz10_0 : w7.cell? ⟨gb109, 0, none⟩ = some (.int .u32 a0_0) := cz BK109; have hcz10_1 : w7.cell? ⟨gb109, 1, none⟩ = some (.int .u32 a0_1) := cz BK109; have hfz10_0 := blk_frozen BK109.out 0; have hfz10_1 := blk_frozen BK109.out 1; have hnb11 := NB110_111.out; have hnc11 := NB111_110.out; have hcz12_0 : w7.cell? ⟨gb110, 0, none⟩ = some (.int .u32 a1_0) := cz BK110; have hcz12_1 : w7.cell? ⟨gb110, 1, none⟩ = some (.int .u32 a1_1) := cz BK110; have hfz12_0 := blk_frozen BK110.out 0; have hfz12_1 := blk_frozen BK110.out 1) | ((with_reducible refine gate_callee (f := 59) rfl ?_); refine goesL_ (some 10) rfl rfl Try.func59 (by kernel_rfl) rfl #[.int .u32 ji3] rfl (by (try simp only [List.map_toArray, List.map_cons, List.map_nil]); first | done | (simp only [hji3]; rfl) | rfl | (simp only [List.length_drop, List.length_take]; rfl)) ?_; (with_reducible refine (interval_upto.calls ji3 t112 _ A4.out).mono ?_); rintro e w' ⟨rfl, ⟨nd, rfl⟩⟩; refine ⟨_, rfl, ?_⟩; (try (rw [drewN_self w7]; generalize hq_ : World.drewN w7 _ = w7; have n0_ : Aside0 (w7.heap[gb109]? = some (.cells #[.int .u32 a0_0, .int .u32 a0_1] 24 (0, 0))) := ⟨by rw [← hq_]; exact (bkA BK109)⟩; have n1_ : Aside0 (w7.heap[gb110]? = some (.cells #[.int .u32 a1_0, .int .u32 a1_1] 24 (0, 0))) := ⟨by rw [← hq_]; exact (bkA BK110)⟩; have n2_ : Aside0 (w7.heap[gb111]? = some (.cells #[.int .u32 0, .int .u32 0] 24 (0, 0))) := ⟨by rw [← hq_]; exact (bkA BK111)⟩; have n3_ : Aside0 (Below w.heap.size w w7) := ⟨by rw [← hq_]; exact (hbA HB)⟩; clear BK109 BK110 BK111 HB hq_; have BK109 := n0_; have BK110 := n1_; have BK111 := n2_; have HB := n3_; clear n0_ n1_ n2_ n3_; clear hcz10_0; have hcz10_0 : w7.cell? ⟨gb109, 0, none⟩ = some (.int .u32 a0_0) := cz BK109; clear hfz10_0; have hfz10_0 := blk_frozen BK109.out 0; clear hcz10_1; have hcz10_1 : w7.cell? ⟨gb109, 1, none⟩ = some (.int .u32 a0_1) := cz BK109; clear hfz10_1; have hfz10_1 := blk_frozen BK109.out 1; clear hcz12_0; have hcz12_0 : w7.cell? ⟨gb110, 0, none⟩ = some (.int .u32 a1_0) := cz BK110; clear hfz12_0; have hfz12_0 := blk_frozen BK110.out 0; clear hcz12_1; have hcz12_1 : w7.cell? ⟨gb110, 1, none⟩ = some (.int .u32 a1_1) := cz BK110; clear hfz12_1; have hfz12_1 := blk_frozen BK110.out 1)); have hcz13_0 : w7.cell? ⟨gb111, 0, none⟩ = some (.int .u32 0) := cz BK111; have hcz13_1 : w7.cell? ⟨gb111, 1, none⟩ = some (.int .u32 0) := cz BK111; have hfz13_0 := blk_frozen BK111.out 0; have hfz13_1 := blk_frozen BK111.out 1))
  refine bodyPost_ret (results_cell_row rfl _ _ gb111 24 #[.int .u32 0, .int .u32 t112] (0, 0) _ rfl (by refine bkT ?_; refine blk_put (cs := #[.int .u32 0, .int .u32 0]) ?_ 1 _ rfl; refine bkT ?_; refine blk_put (cs := #[.int .u32 0, .int .u32 0]) ?_ 0 _ rfl; refine bkT ?_; exact BK111.out) Try.underlying24 rfl (by kernel_rfl)) rfl ?_
  exact ⟨by first | rfl | (simp [errW_none, errW_some] <;> rfl) | (simp only [← hji3]; first | rfl | (simp [errW_none, errW_some] <;> rfl)) | (simp [*, errW_none, errW_some] <;> rfl), hbA HB⟩

/-! ### interval_One: function 20 -/
def interval_One.f (a0 : Int) : Option (Int × Int) := some (a0, a0)
set_option maxHeartbeats 8000000 in
set_option maxRecDepth 100000 in
theorem interval_One.calls (a0 : Int) (r1 : Int) (r2 : Int) (w : World) (h : interval_One.f a0 = some (r1, r2)) :
    Calls Try.prog 20 #[.int .u32 a0] w fun e w' => e = .returned (.agg #[.int .u32 r1, .int .u32 r2]) ∧ Below w.heap.size w w' := by
  have hu24 := Try.underlying24
  have HB := am (Below.refl w.heap.size w)
  have H : (some (a0, a0)) = some (r1, r2) := h
  clear h; simp only [Option.some.injEq, Prod.mk.injEq] at H; obtain ⟨rfl, rfl⟩ := H
  go_enter Try.func20, Try.ntmps20
  go_wp2_with (first | ((with_reducible refine gate_dst (N := 2) rfl ?_); refine bxE 2 #[.int .u32 0, .int .u32 0] 24 ?_; intro gb113 hg w2 hbox hb; have BK113 := am (hbox); have GW113 := gwA hg HB; have GE113 := gwA hg HB; replace HB := bsA HB hb; clear hb hbox hg; have hcz3_0 : w2.cell? ⟨gb113, 0, none⟩ = some (.int .u32 0) := cz BK113; have hcz3_1 : w2.cell? ⟨gb113, 1, none⟩ = some (.int .u32 0) := cz BK113; have hfz3_0 := blk_frozen BK113.out 0; have hfz3_1 := blk_frozen BK113.out 1))
  refine bodyPost_ret (results_cell_row rfl _ _ gb113 24 #[.int .u32 a0, .int .u32 a0] (0, 0) _ rfl (by refine bkT ?_; refine blk_put (cs := #[.int .u32 a0, .int .u32 0]) ?_ 1 _ rfl; refine bkT ?_; refine blk_put (cs := #[.int .u32 0, .int .u32 0]) ?_ 0 _ rfl; refine bkT ?_; exact BK113.out) Try.underlying24 rfl (by kernel_rfl)) rfl ?_
  exact ⟨by first | rfl | (simp [errW_none, errW_some] <;> rfl) | (simp [*, errW_none, errW_some] <;> rfl), hbA HB⟩

/-! ### interval_yes: function 37 -/
def interval_yes.f (a0 : Bool) (a1 : Bool) : Option (Int × Int) := if a0 = true then ((interval_One.f 1).bind fun bt115 => (some (bt115.1, bt115.2))) else (if a1 = true then ((interval_One.f 0).bind fun bt117 => (some (bt117.1, bt117.2))) else (some (0, 1)))
set_option maxHeartbeats 8000000 in
set_option maxRecDepth 100000 in
theorem interval_yes.calls (a0 : Bool) (a1 : Bool) (r1 : Int) (r2 : Int) (w : World) (h : interval_yes.f a0 a1 = some (r1, r2)) :
    Calls Try.prog 37 #[.bool a0, .bool a1] w fun e w' => e = .returned (.agg #[.int .u32 r1, .int .u32 r2]) ∧ Below w.heap.size w w' := by
  have hu24 := Try.underlying24
  have HB := am (Below.refl w.heap.size w)
  have H : (if a0 = true then ((interval_One.f 1).bind fun bt115 => (some (bt115.1, bt115.2))) else (if a1 = true then ((interval_One.f 0).bind fun bt117 => (some (bt117.1, bt117.2))) else (some (0, 1)))) = some (r1, r2) := h
  clear h; by_cases c3 : a0 = true
  · subst c3; have H1 : ((interval_One.f 1).bind fun bt115 => (some (bt115.1, bt115.2))) = some (r1, r2) := by rw [if_pos rfl] at H; exact H
    clear H; have H := H1; clear H1; replace H := Option.bind_eq_some_iff.mp H; obtain ⟨⟨t115, t116⟩, A40, H⟩ := H; replace H : (some (t115, t116)) = some (r1, r2) := H; have A4 := am A40; clear A40; simp only [Option.some.injEq, Prod.mk.injEq] at H; obtain ⟨rfl, rfl⟩ := H
    go_enter Try.func37, Try.ntmps37
    go_wp2_with (first | ((with_reducible refine gate_dst (N := 4) rfl ?_); refine bxE 4 #[.int .u32 0, .int .u32 0] 24 ?_; intro gb114 hg w5 hbox hb; have BK114 := am (hbox); have GW114 := gwA hg HB; have GE114 := gwA hg HB; replace HB := bsA HB hb; clear hb hbox hg) | ((with_reducible refine gate_callee (f := 20) rfl ?_); refine goesL_ (some 7) rfl rfl Try.func20 (by kernel_rfl) rfl #[.int .u32 1] rfl (by (try simp only [List.map_toArray, List.map_cons, List.map_nil]); first | done | rfl | (simp only [List.length_drop, List.length_take]; rfl)) ?_; (with_reducible refine (interval_One.calls 1 t115 t116 _ A4.out).mono ?_); rintro e w6 ⟨rfl, hb⟩; refine ⟨_, rfl, ?_⟩; replace BK114 := bbA BK114 hb; replace HB := bsA HB hb; (try clear hb); (try clear hb2); (try clear hk); (try clear hi); have hcz7_0 : w6.cell? ⟨gb114, 0, none⟩ = some (.int .u32 0) := cz BK114; have hcz7_1 : w6.cell? ⟨gb114, 1, none⟩ = some (.int .u32 0) := cz BK114; have hfz7_0 := blk_frozen BK114.out 0; have hfz7_1 := blk_frozen BK114.out 1))
    refine bodyPost_ret (results_cell_row rfl _ _ gb114 24 #[.int .u32 t115, .int .u32 t116] (0, 0) _ rfl (by refine bkT ?_; refine blk_put (cs := #[.int .u32 t115, .int .u32 0]) ?_ 1 _ rfl; refine bkT ?_; refine blk_put (cs := #[.int .u32 0, .int .u32 0]) ?_ 0 _ rfl; refine bkT ?_; exact BK114.out) Try.underlying24 rfl (by kernel_rfl)) rfl ?_
    exact ⟨by first | rfl | (simp [errW_none, errW_some] <;> rfl) | (simp [*, errW_none, errW_some] <;> rfl), hbA HB⟩
  replace c3 := Bool.eq_false_iff.mpr c3; subst c3; have H1 : (if a1 = true then ((interval_One.f 0).bind fun bt117 => (some (bt117.1, bt117.2))) else (some (0, 1))) = some (r1, r2) := by rw [if_neg (show ¬ (false = true) by decide)] at H; exact H
  clear H; have H := H1; clear H1; by_cases c8 : a1 = true
  · subst c8; have H1 : ((interval_One.f 0).bind fun bt117 => (some (bt117.1, bt117.2))) = some (r1, r2) := by rw [if_pos rfl] at H; exact H
    clear H; have H := H1; clear H1; replace H := Option.bind_eq_some_iff.mp H; obtain ⟨⟨t117, t118⟩, A90, H⟩ := H; replace H : (some (t117, t118)) = some (r1, r2) := H; have A9 := am A90; clear A90; simp only [Option.some.injEq, Prod.mk.injEq] at H; obtain ⟨rfl, rfl⟩ := H
    go_enter Try.func37, Try.ntmps37
    go_wp2_with (first | ((with_reducible refine gate_dst (N := 4) rfl ?_); refine bxE 4 #[.int .u32 0, .int .u32 0] 24 ?_; intro gb114 hg w10 hbox hb; have BK114 := am (hbox); have GW114 := gwA hg HB; have GE114 := gwA hg HB; replace HB := bsA HB hb; clear hb hbox hg) | ((with_reducible refine gate_callee (f := 20) rfl ?_); refine goesL_ (some 10) rfl rfl Try.func20 (by kernel_rfl) rfl #[.int .u32 0] rfl (by (try simp only [List.map_toArray, List.map_cons, List.map_nil]); first | done | rfl | (simp only [List.length_drop, List.length_take]; rfl)) ?_; (with_reducible refine (interval_One.calls 0 t117 t118 _ A9.out).mono ?_); rintro e w11 ⟨rfl, hb⟩; refine ⟨_, rfl, ?_⟩; replace BK114 := bbA BK114 hb; replace HB := bsA HB hb; (try clear hb); (try clear hb2); (try clear hk); (try clear hi); have hcz12_0 : w11.cell? ⟨gb114, 0, none⟩ = some (.int .u32 0) := cz BK114; have hcz12_1 : w11.cell? ⟨gb114, 1, none⟩ = some (.int .u32 0) := cz BK114; have hfz12_0 := blk_frozen BK114.out 0; have hfz12_1 := blk_frozen BK114.out 1))
    refine bodyPost_ret (results_cell_row rfl _ _ gb114 24 #[.int .u32 t117, .int .u32 t118] (0, 0) _ rfl (by refine bkT ?_; refine blk_put (cs := #[.int .u32 t117, .int .u32 0]) ?_ 1 _ rfl; refine bkT ?_; refine blk_put (cs := #[.int .u32 0, .int .u32 0]) ?_ 0 _ rfl; refine bkT ?_; exact BK114.out) Try.underlying24 rfl (by kernel_rfl)) rfl ?_
    exact ⟨by first | rfl | (simp [errW_none, errW_some] <;> rfl) | (simp [*, errW_none, errW_some] <;> rfl), hbA HB⟩
  replace c8 := Bool.eq_false_iff.mpr c8; subst c8; have H1 : (some (0, 1)) = some (r1, r2) := by rw [if_neg (show ¬ (false = true) by decide)] at H; exact H
  clear H; have H := H1; clear H1; simp only [Option.some.injEq, Prod.mk.injEq] at H; obtain ⟨rfl, rfl⟩ := H
  go_enter Try.func37, Try.ntmps37
  go_wp2_with (first | ((with_reducible refine gate_dst (N := 4) rfl ?_); refine bxE 4 #[.int .u32 0, .int .u32 0] 24 ?_; intro gb114 hg w13 hbox hb; have BK114 := am (hbox); have GW114 := gwA hg HB; have GE114 := gwA hg HB; replace HB := bsA HB hb; clear hb hbox hg; have hcz14_0 : w13.cell? ⟨gb114, 0, none⟩ = some (.int .u32 0) := cz BK114; have hcz14_1 : w13.cell? ⟨gb114, 1, none⟩ = some (.int .u32 0) := cz BK114; have hfz14_0 := blk_frozen BK114.out 0; have hfz14_1 := blk_frozen BK114.out 1))
  refine bodyPost_ret (results_cell_row rfl _ _ gb114 24 #[.int .u32 0, .int .u32 1] (0, 0) _ rfl (by refine bkT ?_; refine blk_put (cs := #[.int .u32 0, .int .u32 0]) ?_ 1 _ rfl; refine bkT ?_; refine blk_put (cs := #[.int .u32 0, .int .u32 0]) ?_ 0 _ rfl; refine bkT ?_; exact BK114.out) Try.underlying24 rfl (by kernel_rfl)) rfl ?_
  exact ⟨by first | rfl | (simp [errW_none, errW_some] <;> rfl) | (simp [*, errW_none, errW_some] <;> rfl), hbA HB⟩

/-! ### interval_maker_4: function 66 -/
def interval_maker_4.f (a0_0 : Int) (a0_1 : Int) (a1_0 : Int) (a1_1 : Int) : Option (Int × Int) := (interval_yes.f (decide (a0_1 < a1_0)) (decide (a0_0 ≥ a1_1))).bind fun bt122 => (some (bt122.1, bt122.2))
set_option maxHeartbeats 8000000 in
set_option maxRecDepth 100000 in
theorem interval_maker_4.calls (a0_0 : Int) (a0_1 : Int) (a1_0 : Int) (a1_1 : Int) (r1 : Int) (r2 : Int) (w : World) (h : interval_maker_4.f a0_0 a0_1 a1_0 a1_1 = some (r1, r2)) :
    Calls Try.prog 66 #[.agg #[.int .u32 a0_0, .int .u32 a0_1], .agg #[.int .u32 a1_0, .int .u32 a1_1]] w fun e w' => e = .returned (.agg #[.int .u32 r1, .int .u32 r2]) ∧ Below w.heap.size w w' := by
  have hu24 := Try.underlying24
  have HB := am (Below.refl w.heap.size w)
  have H : ((interval_yes.f (decide (a0_1 < a1_0)) (decide (a0_0 ≥ a1_1))).bind fun bt122 => (some (bt122.1, bt122.2))) = some (r1, r2) := h
  clear h; replace H := Option.bind_eq_some_iff.mp H; obtain ⟨⟨t122, t123⟩, A30, H⟩ := H; replace H : (some (t122, t123)) = some (r1, r2) := H; have A3 := am A30; clear A30; simp only [Option.some.injEq, Prod.mk.injEq] at H; obtain ⟨rfl, rfl⟩ := H
  go_enter Try.func66, Try.ntmps66
  go_wp2_with (first | ((with_reducible refine gate_dst (N := 2) rfl ?_); refine bxE 2 #[.int .u32 a0_0, .int .u32 a0_1] 24 ?_; intro gb119 hg w4 hbox hb; have BK119 := am (hbox); have GW119 := gwA hg HB; have GE119 := gwA hg HB; replace HB := bsA HB hb; clear hb hbox hg) | ((with_reducible refine gate_dst (N := 3) rfl ?_); refine bxE 3 #[.int .u32 a1_0, .int .u32 a1_1] 24 ?_; intro gb120 hg w5 hbox hb; have BK120 := am (hbox); have GW120 := gwA hg HB; have GE120 := gwA hg HB; have NB119_120 := ltA hg BK119; have NB120_119 := gtA hg BK119; replace BK119 := bbA BK119 hb; replace HB := bsA HB hb; clear hb hbox hg) | ((with_reducible refine gate_dst (N := 4) rfl ?_); refine bxE 4 #[.int .u32 0, .int .u32 0] 24 ?_; intro gb121 hg w6 hbox hb; have BK121 := am (hbox); have GW121 := gwA hg HB; have GE121 := gwA hg HB; have NB119_121 := ltA hg BK119; have NB121_119 := gtA hg BK119; have NB120_121 := ltA hg BK120; have NB121_120 := gtA hg BK120; replace BK119 := bbA BK119 hb; replace BK120 := bbA BK120 hb; replace HB := bsA HB hb; clear hb hbox hg; have hnb7 := NB119_120.out; have hnc7 := NB120_119.out; have hnb8 := NB119_121.out; have hnc8 := NB121_119.out; have hcz9_0 : w6.cell? ⟨gb119, 0, none⟩ = some (.int .u32 a0_0) := cz BK119; have hcz9_1 : w6.cell? ⟨gb119, 1, none⟩ = some (.int .u32 a0_1) := cz BK119; have hfz9_0 := blk_frozen BK119.out 0; have hfz9_1 := blk_frozen BK119.out 1; have hnb10 := NB120_121.out; have hnc10 := NB121_120.out; have hcz11_0 : w6.cell? ⟨gb120, 0, none⟩ = some (.int .u32 a1_0) := cz BK120; have hcz11_1 : w6.cell? ⟨gb120, 1, none⟩ = some (.int .u32 a1_1) := cz BK120; have hfz11_0 := blk_frozen BK120.out 0; have hfz11_1 := blk_frozen BK120.out 1) | ((with_reducible refine gate_callee (f := 37) rfl ?_); refine goesL_ (some 15) rfl rfl Try.func37 (by kernel_rfl) rfl #[.bool (decide (a0_1 < a1_0)), .bool (decide (a0_0 ≥ a1_1))] rfl (by (try simp only [List.map_toArray, List.map_cons, List.map_nil]); first | done | rfl | (simp only [List.length_drop, List.length_take]; rfl)) ?_; (with_reducible refine (interval_yes.calls (decide (a0_1 < a1_0)) (decide (a0_0 ≥ a1_1)) t122 t123 _ A3.out).mono ?_); rintro e w12 ⟨rfl, hb⟩; refine ⟨_, rfl, ?_⟩; replace BK119 := bbA BK119 hb; replace BK120 := bbA BK120 hb; replace BK121 := bbA BK121 hb; replace HB := bsA HB hb; (try clear hb); (try clear hb2); (try clear hk); (try clear hi); have hcz13_0 : w12.cell? ⟨gb121, 0, none⟩ = some (.int .u32 0) := cz BK121; have hcz13_1 : w12.cell? ⟨gb121, 1, none⟩ = some (.int .u32 0) := cz BK121; have hfz13_0 := blk_frozen BK121.out 0; have hfz13_1 := blk_frozen BK121.out 1))
  refine bodyPost_ret (results_cell_row rfl _ _ gb121 24 #[.int .u32 t122, .int .u32 t123] (0, 0) _ rfl (by refine bkT ?_; refine blk_put (cs := #[.int .u32 t122, .int .u32 0]) ?_ 1 _ rfl; refine bkT ?_; refine blk_put (cs := #[.int .u32 0, .int .u32 0]) ?_ 0 _ rfl; refine bkT ?_; exact BK121.out) Try.underlying24 rfl (by kernel_rfl)) rfl ?_
  exact ⟨by first | rfl | (simp [errW_none, errW_some] <;> rfl) | (simp [*, errW_none, errW_some] <;> rfl), hbA HB⟩

/-! ### interval_maker_5: function 67 -/
def interval_maker_5.f (a0_0 : Int) (a0_1 : Int) (a1_0 : Int) (a1_1 : Int) : Option (Int × Int) := (interval_yes.f (decide (a0_1 ≤ a1_0)) (decide (a0_0 > a1_1))).bind fun bt127 => (some (bt127.1, bt127.2))
set_option maxHeartbeats 8000000 in
set_option maxRecDepth 100000 in
theorem interval_maker_5.calls (a0_0 : Int) (a0_1 : Int) (a1_0 : Int) (a1_1 : Int) (r1 : Int) (r2 : Int) (w : World) (h : interval_maker_5.f a0_0 a0_1 a1_0 a1_1 = some (r1, r2)) :
    Calls Try.prog 67 #[.agg #[.int .u32 a0_0, .int .u32 a0_1], .agg #[.int .u32 a1_0, .int .u32 a1_1]] w fun e w' => e = .returned (.agg #[.int .u32 r1, .int .u32 r2]) ∧ Below w.heap.size w w' := by
  have hu24 := Try.underlying24
  have HB := am (Below.refl w.heap.size w)
  have H : ((interval_yes.f (decide (a0_1 ≤ a1_0)) (decide (a0_0 > a1_1))).bind fun bt127 => (some (bt127.1, bt127.2))) = some (r1, r2) := h
  clear h; replace H := Option.bind_eq_some_iff.mp H; obtain ⟨⟨t127, t128⟩, A30, H⟩ := H; replace H : (some (t127, t128)) = some (r1, r2) := H; have A3 := am A30; clear A30; simp only [Option.some.injEq, Prod.mk.injEq] at H; obtain ⟨rfl, rfl⟩ := H
  go_enter Try.func67, Try.ntmps67
  go_wp2_with (first | ((with_reducible refine gate_dst (N := 2) rfl ?_); refine bxE 2 #[.int .u32 a0_0, .int .u32 a0_1] 24 ?_; intro gb124 hg w4 hbox hb; have BK124 := am (hbox); have GW124 := gwA hg HB; have GE124 := gwA hg HB; replace HB := bsA HB hb; clear hb hbox hg) | ((with_reducible refine gate_dst (N := 3) rfl ?_); refine bxE 3 #[.int .u32 a1_0, .int .u32 a1_1] 24 ?_; intro gb125 hg w5 hbox hb; have BK125 := am (hbox); have GW125 := gwA hg HB; have GE125 := gwA hg HB; have NB124_125 := ltA hg BK124; have NB125_124 := gtA hg BK124; replace BK124 := bbA BK124 hb; replace HB := bsA HB hb; clear hb hbox hg) | ((with_reducible refine gate_dst (N := 4) rfl ?_); refine bxE 4 #[.int .u32 0, .int .u32 0] 24 ?_; intro gb126 hg w6 hbox hb; have BK126 := am (hbox); have GW126 := gwA hg HB; have GE126 := gwA hg HB; have NB124_126 := ltA hg BK124; have NB126_124 := gtA hg BK124; have NB125_126 := ltA hg BK125; have NB126_125 := gtA hg BK125; replace BK124 := bbA BK124 hb; replace BK125 := bbA BK125 hb; replace HB := bsA HB hb; clear hb hbox hg; have hnb7 := NB124_125.out; have hnc7 := NB125_124.out; have hnb8 := NB124_126.out; have hnc8 := NB126_124.out; have hcz9_0 : w6.cell? ⟨gb124, 0, none⟩ = some (.int .u32 a0_0) := cz BK124; have hcz9_1 : w6.cell? ⟨gb124, 1, none⟩ = some (.int .u32 a0_1) := cz BK124; have hfz9_0 := blk_frozen BK124.out 0; have hfz9_1 := blk_frozen BK124.out 1; have hnb10 := NB125_126.out; have hnc10 := NB126_125.out; have hcz11_0 : w6.cell? ⟨gb125, 0, none⟩ = some (.int .u32 a1_0) := cz BK125; have hcz11_1 : w6.cell? ⟨gb125, 1, none⟩ = some (.int .u32 a1_1) := cz BK125; have hfz11_0 := blk_frozen BK125.out 0; have hfz11_1 := blk_frozen BK125.out 1) | ((with_reducible refine gate_callee (f := 37) rfl ?_); refine goesL_ (some 15) rfl rfl Try.func37 (by kernel_rfl) rfl #[.bool (decide (a0_1 ≤ a1_0)), .bool (decide (a0_0 > a1_1))] rfl (by (try simp only [List.map_toArray, List.map_cons, List.map_nil]); first | done | rfl | (simp only [List.length_drop, List.length_take]; rfl)) ?_; (with_reducible refine (interval_yes.calls (decide (a0_1 ≤ a1_0)) (decide (a0_0 > a1_1)) t127 t128 _ A3.out).mono ?_); rintro e w12 ⟨rfl, hb⟩; refine ⟨_, rfl, ?_⟩; replace BK124 := bbA BK124 hb; replace BK125 := bbA BK125 hb; replace BK126 := bbA BK126 hb; replace HB := bsA HB hb; (try clear hb); (try clear hb2); (try clear hk); (try clear hi); have hcz13_0 : w12.cell? ⟨gb126, 0, none⟩ = some (.int .u32 0) := cz BK126; have hcz13_1 : w12.cell? ⟨gb126, 1, none⟩ = some (.int .u32 0) := cz BK126; have hfz13_0 := blk_frozen BK126.out 0; have hfz13_1 := blk_frozen BK126.out 1))
  refine bodyPost_ret (results_cell_row rfl _ _ gb126 24 #[.int .u32 t127, .int .u32 t128] (0, 0) _ rfl (by refine bkT ?_; refine blk_put (cs := #[.int .u32 t127, .int .u32 0]) ?_ 1 _ rfl; refine bkT ?_; refine blk_put (cs := #[.int .u32 0, .int .u32 0]) ?_ 0 _ rfl; refine bkT ?_; exact BK126.out) Try.underlying24 rfl (by kernel_rfl)) rfl ?_
  exact ⟨by first | rfl | (simp [errW_none, errW_some] <;> rfl) | (simp [*, errW_none, errW_some] <;> rfl), hbA HB⟩

/-! ### word_Signed: function 79 -/
def word_Signed.f (a0 : Int) : Option (Int) := some (wrap64 (wrap32 (a0)))
set_option maxHeartbeats 8000000 in
set_option maxRecDepth 100000 in
theorem word_Signed.calls (a0 : Int) (r : Int) (w : World) (h : word_Signed.f a0 = some r) :
    Calls Try.prog 79 #[.int .u32 a0] w fun e w' => e = .returned (.int .i64 r) ∧ Drawn0 w w' := by
  have H : (some (wrap64 (wrap32 (a0)))) = some r := h
  clear h; obtain rfl := Option.some.inj H
  go_enter Try.func79, Try.ntmps79
  go_wp2
  go_ret
  exact ⟨by first | rfl | (simp; done) | (simp [*]; done) | (congr 1; omega) | (congr 2; omega) | (rw [Int.tdiv_eq_ediv_of_nonneg (by decide)]; done), by repeat (first | exact Drawn0.refl _ | apply Drawn0.step)⟩

/-! ### interval_signed: function 69 -/
def interval_signed.j0 : Nat → Bool → Int → Int → Option (Int × Int)
  | 0, _, _, _ => none
  | k + 1, x11, x130000, x130001 => if x11 = true then ((word_Signed.f x130000).bind fun t130 => ((word_Signed.f x130001).bind fun t131 => (some (t130, t131)))) else (some ((-2147483648), 2147483647))
def interval_signed.f (k : Nat) (a0_0 : Int) (a0_1 : Int) : Option (Int × Int) := if a0_1 < 2147483648 then (interval_signed.j0 k true a0_0 a0_1) else (interval_signed.j0 k (decide (a0_0 ≥ 2147483648)) a0_0 a0_1)
theorem interval_signed.mono_l : ∀ k, (∀ y0 y1 y2, LeO (interval_signed.j0 k y0 y1 y2) (interval_signed.j0 (k + 1) y0 y1 y2))
  | 0 => fun _ _ _ r h => by simp [interval_signed.j0] at h
  | k + 1 => by
    have ih0 := interval_signed.mono_l k
    · intro y0 y1 y2
      unfold interval_signed.j0
      repeat' first
      | (with_reducible exact ih0 _ _ _)
      | (with_reducible exact LeO.refl _)
      | (with_reducible exact LeO.none _)
      | (with_reducible refine LeO.ite ?_ ?_)
      | (with_reducible refine LeO.bind ?_ (fun _ => ?_))
      | exact ih0 _ _ _
      | exact LeO.none _
      | refine LeO.ite ?_ ?_
      | refine LeO.bind ?_ (fun _ => ?_)
theorem interval_signed.mono : ∀ a0 a1 k, LeO (interval_signed.f k a0 a1) (interval_signed.f (k + 1) a0 a1) := by
  intro a0 a1 k
  have ih0 := interval_signed.mono_l k
  unfold interval_signed.f
  repeat' first
      | (with_reducible exact ih0 _ _ _)
      | (with_reducible exact LeO.refl _)
      | (with_reducible exact LeO.none _)
      | (with_reducible refine LeO.ite ?_ ?_)
      | (with_reducible refine LeO.bind ?_ (fun _ => ?_))
      | exact ih0 _ _ _
      | exact LeO.none _
      | refine LeO.ite ?_ ?_
      | refine LeO.bind ?_ (fun _ => ?_)
set_option maxHeartbeats 8000000 in
set_option maxRecDepth 100000 in
theorem interval_signed.calls (k : Nat) (a0_0 : Int) (a0_1 : Int) (r1 : Int) (r2 : Int) (w : World) (h : interval_signed.f k a0_0 a0_1 = some (r1, r2)) :
    Calls Try.prog 69 #[.agg #[.int .u32 a0_0, .int .u32 a0_1]] w fun e w' => e = .returned (.tuple #[.int .i64 r1, .int .i64 r2]) ∧ Below w.heap.size w w' := by
  have hu24 := Try.underlying24
  have HB := am (Below.refl w.heap.size w)
  have H : (if a0_1 < 2147483648 then (interval_signed.j0 k true a0_0 a0_1) else (interval_signed.j0 k (decide (a0_0 ≥ 2147483648)) a0_0 a0_1)) = some (r1, r2) := h
  clear h; have HC2 := am H; clear H
  go_enter Try.func69, Try.ntmps69
  go_upto_region 1 with (first | ((with_reducible refine gate_dst (N := 1) rfl ?_); refine bxE 1 #[.int .u32 a0_0, .int .u32 a0_1] 24 ?_; intro gb129 hg w3 hbox hb; have BK129 := am (hbox); have GW129 := gwA hg HB; have GE129 := gwA hg HB; replace HB := bsA HB hb; clear hb hbox hg))
  repeat (go_quiet (first | ((with_reducible refine gate_dst (N := 1) rfl ?_); refine bxE 1 #[.int .u32 a0_0, .int .u32 a0_1] 24 ?_; intro gb129 hg w3 hbox hb; have BK129 := am (hbox); have GW129 := gwA hg HB; have GE129 := gwA hg HB; replace HB := bsA HB hb; clear hb hbox hg)); go_upto_region 1 with (first | ((with_reducible refine gate_dst (N := 1) rfl ?_); refine bxE 1 #[.int .u32 a0_0, .int .u32 a0_1] 24 ?_; intro gb129 hg w3 hbox hb; have BK129 := am (hbox); have GW129 := gwA hg HB; have GE129 := gwA hg HB; replace HB := bsA HB hb; clear hb hbox hg)))
  (try simp only [Act.put, s1, s2, s3])
  go_cut [11] (fun v11 wc => ∃ (kq : Nat) (x11_1 : Bool), v11 = .bool x11_1 ∧ Aside0 (interval_signed.j0 kq x11_1 a0_0 a0_1 = some (r1, r2)) ∧ Aside0 (kq ≤ k) ∧ Aside0 (wc.heap[gb129]? = some (.cells #[.int .u32 a0_0, .int .u32 a0_1] 24 (0, 0))) ∧ Aside0 (Below w.heap.size w wc))
  case first => as_aux_lemma =>
    have H := HC2.out
    clear HC2; by_cases c4 : a0_1 < 2147483648
    · rw [if_pos c4] at H; have c4b0 : decide (a0_1 < 2147483648) = true := decide_eq_true c4; clear c4; (first | rw [c4b0] | (simp only [i64_w, i32_w]; rw [c4b0]) | skip)
      have H' := am H; clear H; have hcz5_0 : w3.cell? ⟨gb129, 0, none⟩ = some (.int .u32 a0_0) := cz BK129
      have hcz5_1 : w3.cell? ⟨gb129, 1, none⟩ = some (.int .u32 a0_1) := cz BK129
      have hfz5_0 := blk_frozen BK129.out 0
      have hfz5_1 := blk_frozen BK129.out 1
      go_wp2
      repeat (go_quiet (fail); try go_wp2)
      go_meet
      case rel => exact ⟨_, (true), (by first | rfl | (simp; done) | (simp [*]; done) | (congr 1; omega) | (congr 2; omega) | (rw [Int.tdiv_eq_ediv_of_nonneg (by decide)]; done)), H', ⟨by first | omega | exact Nat.le_refl _⟩, ⟨by refine bkT ?_; exact BK129.out⟩, ⟨by repeat (first | (with_reducible first | exact HB.out | apply below_alloc | apply pw_below_drewN | apply below_drew1 | refine below_set ?_ GE129.out) | exact HB.out)⟩⟩
    rw [if_neg c4] at H; have c4b0 : decide (a0_1 < 2147483648) = false := decide_eq_false c4; clear c4; (first | rw [c4b0] | (simp only [i64_w, i32_w]; rw [c4b0]) | skip)
    have H' := am H; clear H; have hcz6_0 : w3.cell? ⟨gb129, 0, none⟩ = some (.int .u32 a0_0) := cz BK129
    have hcz6_1 : w3.cell? ⟨gb129, 1, none⟩ = some (.int .u32 a0_1) := cz BK129
    have hfz6_0 := blk_frozen BK129.out 0
    have hfz6_1 := blk_frozen BK129.out 1
    go_wp2
    repeat (go_quiet (fail); try go_wp2)
    go_meet
    case rel => exact ⟨_, (decide (a0_0 ≥ 2147483648)), (by first | rfl | (simp; done) | (simp [*]; done) | (congr 1; omega) | (congr 2; omega) | (rw [Int.tdiv_eq_ediv_of_nonneg (by decide)]; done)), H', ⟨by first | omega | exact Nat.le_refl _⟩, ⟨by refine bkT ?_; exact BK129.out⟩, ⟨by repeat (first | (with_reducible first | exact HB.out | apply below_alloc | apply pw_below_drewN | apply below_drew1 | refine below_set ?_ GE129.out) | exact HB.out)⟩⟩
  case rest => as_aux_lemma =>
    clear HC2
    try clear p2
    try clear c4
    try clear c4b0
    try clear c6
    try clear hcz5_0
    try clear hcz5_1
    try clear hcz6_0
    try clear hcz6_1
    try clear hfz5_0
    try clear hfz5_1
    try clear hfz6_0
    try clear hfz6_1
    obtain ⟨kq, x11_1, rfl, HA, HJ1, BK129, HB⟩ := hcut
    cases kq with
    | zero => exact absurd HA.out (by simp [interval_signed.j0])
    | succ kj1 =>
      have H := HA.out
      clear HA; simp only [interval_signed.j0] at H
      by_cases c7 : x11_1 = true
      · subst c7; have H1 : ((word_Signed.f a0_0).bind fun t130 => ((word_Signed.f a0_1).bind fun t131 => (some (t130, t131)))) = some (r1, r2) := by rw [if_pos rfl] at H; exact H
        clear H; have H := H1; clear H1; replace H := Option.bind_eq_some_iff.mp H; obtain ⟨t130, A80, H⟩ := H; replace H : ((word_Signed.f a0_1).bind fun t131 => (some (t130, t131))) = some (r1, r2) := H; have A8 := am A80; clear A80; replace H := Option.bind_eq_some_iff.mp H; obtain ⟨t131, A90, H⟩ := H; replace H : (some (t130, t131)) = some (r1, r2) := H; have A9 := am A90; clear A90; simp only [Option.some.injEq, Prod.mk.injEq] at H; obtain ⟨rfl, rfl⟩ := H; have hcz10_0 : wc.cell? ⟨gb129, 0, none⟩ = some (.int .u32 a0_0) := cz BK129
        have hcz10_1 : wc.cell? ⟨gb129, 1, none⟩ = some (.int .u32 a0_1) := cz BK129
        have hfz10_0 := blk_frozen BK129.out 0
        have hfz10_1 := blk_frozen BK129.out 1
        go_wp2_with (first | (go_at_call 79; (with_reducible refine (word_Signed.calls a0_0 t130 _ A8.out).mono ?_); rintro e w' ⟨rfl, ⟨nd, rfl⟩⟩; (try first | exact ⟨rfl, _, World.drewN_drewN _ _ _⟩ | exact ⟨rfl, _, Eq.trans (World.drewN_drewN _ _ _) (congrArg (World.drewN _) (Nat.add_assoc _ _ _))⟩)) | (go_at_call 79; (with_reducible refine (word_Signed.calls a0_1 t131 _ A9.out).mono ?_); rintro e w' ⟨rfl, ⟨nd, rfl⟩⟩; (try first | exact ⟨rfl, _, World.drewN_drewN _ _ _⟩ | exact ⟨rfl, _, Eq.trans (World.drewN_drewN _ _ _) (congrArg (World.drewN _) (Nat.add_assoc _ _ _))⟩)))
        repeat (go_quiet (first | (go_at_call 79; (with_reducible refine (word_Signed.calls a0_0 t130 _ A8.out).mono ?_); rintro e w' ⟨rfl, ⟨nd, rfl⟩⟩; (try first | exact ⟨rfl, _, World.drewN_drewN _ _ _⟩ | exact ⟨rfl, _, Eq.trans (World.drewN_drewN _ _ _) (congrArg (World.drewN _) (Nat.add_assoc _ _ _))⟩)) | (go_at_call 79; (with_reducible refine (word_Signed.calls a0_1 t131 _ A9.out).mono ?_); rintro e w' ⟨rfl, ⟨nd, rfl⟩⟩; (try first | exact ⟨rfl, _, World.drewN_drewN _ _ _⟩ | exact ⟨rfl, _, Eq.trans (World.drewN_drewN _ _ _) (congrArg (World.drewN _) (Nat.add_assoc _ _ _))⟩))); try go_wp2_with (first | (go_at_call 79; (with_reducible refine (word_Signed.calls a0_0 t130 _ A8.out).mono ?_); rintro e w' ⟨rfl, ⟨nd, rfl⟩⟩; (try first | exact ⟨rfl, _, World.drewN_drewN _ _ _⟩ | exact ⟨rfl, _, Eq.trans (World.drewN_drewN _ _ _) (congrArg (World.drewN _) (Nat.add_assoc _ _ _))⟩)) | (go_at_call 79; (with_reducible refine (word_Signed.calls a0_1 t131 _ A9.out).mono ?_); rintro e w' ⟨rfl, ⟨nd, rfl⟩⟩; (try first | exact ⟨rfl, _, World.drewN_drewN _ _ _⟩ | exact ⟨rfl, _, Eq.trans (World.drewN_drewN _ _ _) (congrArg (World.drewN _) (Nat.add_assoc _ _ _))⟩))))
        go_ret2
        exact ⟨by first | rfl | (simp [errW_none, errW_some] <;> rfl) | (simp [*, errW_none, errW_some] <;> rfl), hbA HB⟩
      replace c7 := Bool.eq_false_iff.mpr c7; subst c7; have H1 : (some ((-2147483648), 2147483647)) = some (r1, r2) := by rw [if_neg (show ¬ (false = true) by decide)] at H; exact H
      clear H; have H := H1; clear H1; simp only [Option.some.injEq, Prod.mk.injEq] at H; obtain ⟨rfl, rfl⟩ := H
      go_wp2
      repeat (go_quiet (fail); try go_wp2)
      go_ret2
      exact ⟨by first | rfl | (simp [errW_none, errW_some] <;> rfl) | (simp [*, errW_none, errW_some] <;> rfl), hbA HB⟩

/-! ### interval_maker_6: function 68 -/
def interval_maker_6.f (k : Nat) (a0_0 : Int) (a0_1 : Int) (a1_0 : Int) (a1_1 : Int) : Option (Int × Int) := (interval_signed.f k a0_0 a0_1).bind fun bt135 => ((interval_signed.f k a1_0 a1_1).bind fun bt137 => ((interval_yes.f (decide (bt135.2 < bt137.1)) (decide (bt135.1 ≥ bt137.2))).bind fun bt139 => (some (bt139.1, bt139.2))))
theorem interval_maker_6.mono : ∀ a0 a1 a2 a3 k, LeO (interval_maker_6.f k a0 a1 a2 a3) (interval_maker_6.f (k + 1) a0 a1 a2 a3) := by
  intro a0 a1 a2 a3 k
  unfold interval_maker_6.f
  repeat' first
      | (with_reducible exact interval_signed.mono _ _ _)
      | (with_reducible exact LeO.refl _)
      | (with_reducible exact LeO.none _)
      | (with_reducible refine LeO.ite ?_ ?_)
      | (with_reducible refine LeO.bind ?_ (fun _ => ?_))
      | exact interval_signed.mono _ _ _
      | exact LeO.none _
      | refine LeO.ite ?_ ?_
      | refine LeO.bind ?_ (fun _ => ?_)
set_option maxHeartbeats 8000000 in
set_option maxRecDepth 100000 in
theorem interval_maker_6.calls (k : Nat) (a0_0 : Int) (a0_1 : Int) (a1_0 : Int) (a1_1 : Int) (r1 : Int) (r2 : Int) (w : World) (h : interval_maker_6.f k a0_0 a0_1 a1_0 a1_1 = some (r1, r2)) :
    Calls Try.prog 68 #[.agg #[.int .u32 a0_0, .int .u32 a0_1], .agg #[.int .u32 a1_0, .int .u32 a1_1]] w fun e w' => e = .returned (.agg #[.int .u32 r1, .int .u32 r2]) ∧ Below w.heap.size w w' := by
  have hu24 := Try.underlying24
  have HB := am (Below.refl w.heap.size w)
  have H : ((interval_signed.f k a0_0 a0_1).bind fun bt135 => ((interval_signed.f k a1_0 a1_1).bind fun bt137 => ((interval_yes.f (decide (bt135.2 < bt137.1)) (decide (bt135.1 ≥ bt137.2))).bind fun bt139 => (some (bt139.1, bt139.2))))) = some (r1, r2) := h
  clear h; replace H := Option.bind_eq_some_iff.mp H; obtain ⟨⟨t135, t136⟩, A30, H⟩ := H; replace H : ((interval_signed.f k a1_0 a1_1).bind fun bt137 => ((interval_yes.f (decide (t136 < bt137.1)) (decide (t135 ≥ bt137.2))).bind fun bt139 => (some (bt139.1, bt139.2)))) = some (r1, r2) := H; have A3 := am A30; clear A30; replace H := Option.bind_eq_some_iff.mp H; obtain ⟨⟨t137, t138⟩, A40, H⟩ := H; replace H : ((interval_yes.f (decide (t136 < t137)) (decide (t135 ≥ t138))).bind fun bt139 => (some (bt139.1, bt139.2))) = some (r1, r2) := H; have A4 := am A40; clear A40; replace H := Option.bind_eq_some_iff.mp H; obtain ⟨⟨t139, t140⟩, A50, H⟩ := H; replace H : (some (t139, t140)) = some (r1, r2) := H; have A5 := am A50; clear A50; simp only [Option.some.injEq, Prod.mk.injEq] at H; obtain ⟨rfl, rfl⟩ := H
  go_enter Try.func68, Try.ntmps68
  go_wp2_with (first | ((with_reducible refine gate_dst (N := 2) rfl ?_); refine bxE 2 #[.int .u32 a0_0, .int .u32 a0_1] 24 ?_; intro gb132 hg w6 hbox hb; have BK132 := am (hbox); have GW132 := gwA hg HB; have GE132 := gwA hg HB; replace HB := bsA HB hb; clear hb hbox hg) | ((with_reducible refine gate_dst (N := 3) rfl ?_); refine bxE 3 #[.int .u32 a1_0, .int .u32 a1_1] 24 ?_; intro gb133 hg w7 hbox hb; have BK133 := am (hbox); have GW133 := gwA hg HB; have GE133 := gwA hg HB; have NB132_133 := ltA hg BK132; have NB133_132 := gtA hg BK132; replace BK132 := bbA BK132 hb; replace HB := bsA HB hb; clear hb hbox hg) | ((with_reducible refine gate_dst (N := 4) rfl ?_); refine bxE 4 #[.int .u32 0, .int .u32 0] 24 ?_; intro gb134 hg w8 hbox hb; have BK134 := am (hbox); have GW134 := gwA hg HB; have GE134 := gwA hg HB; have NB132_134 := ltA hg BK132; have NB134_132 := gtA hg BK132; have NB133_134 := ltA hg BK133; have NB134_133 := gtA hg BK133; replace BK132 := bbA BK132 hb; replace BK133 := bbA BK133 hb; replace HB := bsA HB hb; clear hb hbox hg; have hnb9 := NB132_133.out; have hnc9 := NB133_132.out; have hnb10 := NB132_134.out; have hnc10 := NB134_132.out; have hcz11_0 : w8.cell? ⟨gb132, 0, none⟩ = some (.int .u32 a0_0) := cz BK132; have hcz11_1 : w8.cell? ⟨gb132, 1, none⟩ = some (.int .u32 a0_1) := cz BK132; have hfz11_0 := blk_frozen BK132.out 0; have hfz11_1 := blk_frozen BK132.out 1) | ((with_reducible refine gate_callee (f := 69) rfl ?_); refine goesL_ (some 11) rfl rfl Try.func69 (by kernel_rfl) rfl #[.agg #[.int .u32 a0_0, .int .u32 a0_1]] rfl (by (try simp only [List.map_toArray, List.map_cons, List.map_nil]); first | done | rfl | (simp only [List.length_drop, List.length_take]; rfl)) ?_; (with_reducible refine (interval_signed.calls k a0_0 a0_1 t135 t136 _ A3.out).mono ?_); rintro e w12 ⟨rfl, hb⟩; refine ⟨_, rfl, ?_⟩; replace BK132 := bbA BK132 hb; replace BK133 := bbA BK133 hb; replace BK134 := bbA BK134 hb; replace HB := bsA HB hb; (try clear hb); (try clear hb2); (try clear hk); (try clear hi); have hnb13 := NB133_134.out; have hnc13 := NB134_133.out; have hcz14_0 : w12.cell? ⟨gb133, 0, none⟩ = some (.int .u32 a1_0) := cz BK133; have hcz14_1 : w12.cell? ⟨gb133, 1, none⟩ = some (.int .u32 a1_1) := cz BK133; have hfz14_0 := blk_frozen BK133.out 0; have hfz14_1 := blk_frozen BK133.out 1) | ((with_reducible refine gate_callee (f := 69) rfl ?_); refine goesL_ (some 16) rfl rfl Try.func69 (by kernel_rfl) rfl #[.agg #[.int .u32 a1_0, .int .u32 a1_1]] rfl (by (try simp only [List.map_toArray, List.map_cons, List.map_nil]); first | done | rfl | (simp only [List.length_drop, List.length_take]; rfl)) ?_; (with_reducible refine (interval_signed.calls k a1_0 a1_1 t137 t138 _ A4.out).mono ?_); rintro e w15 ⟨rfl, hb⟩; refine ⟨_, rfl, ?_⟩; replace BK132 := bbA BK132 hb; replace BK133 := bbA BK133 hb; replace BK134 := bbA BK134 hb; replace HB := bsA HB hb; (try clear hb); (try clear hb2); (try clear hk); (try clear hi)) | ((with_reducible refine gate_callee (f := 37) rfl ?_); refine goesL_ (some 25) rfl rfl Try.func37 (by kernel_rfl) rfl #[.bool (decide (t136 < t137)), .bool (decide (t135 ≥ t138))] rfl (by (try simp only [List.map_toArray, List.map_cons, List.map_nil]); first | done | rfl | (simp only [List.length_drop, List.length_take]; rfl)) ?_; (with_reducible refine (interval_yes.calls (decide (t136 < t137)) (decide (t135 ≥ t138)) t139 t140 _ A5.out).mono ?_); rintro e w16 ⟨rfl, hb⟩; refine ⟨_, rfl, ?_⟩; replace BK132 := bbA BK132 hb; replace BK133 := bbA BK133 hb; replace BK134 := bbA BK134 hb; replace HB := bsA HB hb; (try clear hb); (try clear hb2); (try clear hk); (try clear hi); have hcz17_0 : w16.cell? ⟨gb134, 0, none⟩ = some (.int .u32 0) := cz BK134; have hcz17_1 : w16.cell? ⟨gb134, 1, none⟩ = some (.int .u32 0) := cz BK134; have hfz17_0 := blk_frozen BK134.out 0; have hfz17_1 := blk_frozen BK134.out 1))
  refine bodyPost_ret (results_cell_row rfl _ _ gb134 24 #[.int .u32 t139, .int .u32 t140] (0, 0) _ rfl (by refine bkT ?_; refine blk_put (cs := #[.int .u32 t139, .int .u32 0]) ?_ 1 _ rfl; refine bkT ?_; refine blk_put (cs := #[.int .u32 0, .int .u32 0]) ?_ 0 _ rfl; refine bkT ?_; exact BK134.out) Try.underlying24 rfl (by kernel_rfl)) rfl ?_
  exact ⟨by first | rfl | (simp [errW_none, errW_some] <;> rfl) | (simp [*, errW_none, errW_some] <;> rfl), hbA HB⟩

/-! ### interval_maker_7: function 70 -/
def interval_maker_7.f (k : Nat) (a0_0 : Int) (a0_1 : Int) (a1_0 : Int) (a1_1 : Int) : Option (Int × Int) := (interval_signed.f k a0_0 a0_1).bind fun bt144 => ((interval_signed.f k a1_0 a1_1).bind fun bt146 => ((interval_yes.f (decide (bt144.2 ≤ bt146.1)) (decide (bt144.1 > bt146.2))).bind fun bt148 => (some (bt148.1, bt148.2))))
theorem interval_maker_7.mono : ∀ a0 a1 a2 a3 k, LeO (interval_maker_7.f k a0 a1 a2 a3) (interval_maker_7.f (k + 1) a0 a1 a2 a3) := by
  intro a0 a1 a2 a3 k
  unfold interval_maker_7.f
  repeat' first
      | (with_reducible exact interval_signed.mono _ _ _)
      | (with_reducible exact LeO.refl _)
      | (with_reducible exact LeO.none _)
      | (with_reducible refine LeO.ite ?_ ?_)
      | (with_reducible refine LeO.bind ?_ (fun _ => ?_))
      | exact interval_signed.mono _ _ _
      | exact LeO.none _
      | refine LeO.ite ?_ ?_
      | refine LeO.bind ?_ (fun _ => ?_)
set_option maxHeartbeats 8000000 in
set_option maxRecDepth 100000 in
theorem interval_maker_7.calls (k : Nat) (a0_0 : Int) (a0_1 : Int) (a1_0 : Int) (a1_1 : Int) (r1 : Int) (r2 : Int) (w : World) (h : interval_maker_7.f k a0_0 a0_1 a1_0 a1_1 = some (r1, r2)) :
    Calls Try.prog 70 #[.agg #[.int .u32 a0_0, .int .u32 a0_1], .agg #[.int .u32 a1_0, .int .u32 a1_1]] w fun e w' => e = .returned (.agg #[.int .u32 r1, .int .u32 r2]) ∧ Below w.heap.size w w' := by
  have hu24 := Try.underlying24
  have HB := am (Below.refl w.heap.size w)
  have H : ((interval_signed.f k a0_0 a0_1).bind fun bt144 => ((interval_signed.f k a1_0 a1_1).bind fun bt146 => ((interval_yes.f (decide (bt144.2 ≤ bt146.1)) (decide (bt144.1 > bt146.2))).bind fun bt148 => (some (bt148.1, bt148.2))))) = some (r1, r2) := h
  clear h; replace H := Option.bind_eq_some_iff.mp H; obtain ⟨⟨t144, t145⟩, A30, H⟩ := H; replace H : ((interval_signed.f k a1_0 a1_1).bind fun bt146 => ((interval_yes.f (decide (t145 ≤ bt146.1)) (decide (t144 > bt146.2))).bind fun bt148 => (some (bt148.1, bt148.2)))) = some (r1, r2) := H; have A3 := am A30; clear A30; replace H := Option.bind_eq_some_iff.mp H; obtain ⟨⟨t146, t147⟩, A40, H⟩ := H; replace H : ((interval_yes.f (decide (t145 ≤ t146)) (decide (t144 > t147))).bind fun bt148 => (some (bt148.1, bt148.2))) = some (r1, r2) := H; have A4 := am A40; clear A40; replace H := Option.bind_eq_some_iff.mp H; obtain ⟨⟨t148, t149⟩, A50, H⟩ := H; replace H : (some (t148, t149)) = some (r1, r2) := H; have A5 := am A50; clear A50; simp only [Option.some.injEq, Prod.mk.injEq] at H; obtain ⟨rfl, rfl⟩ := H
  go_enter Try.func70, Try.ntmps70
  go_wp2_with (first | ((with_reducible refine gate_dst (N := 2) rfl ?_); refine bxE 2 #[.int .u32 a0_0, .int .u32 a0_1] 24 ?_; intro gb141 hg w6 hbox hb; have BK141 := am (hbox); have GW141 := gwA hg HB; have GE141 := gwA hg HB; replace HB := bsA HB hb; clear hb hbox hg) | ((with_reducible refine gate_dst (N := 3) rfl ?_); refine bxE 3 #[.int .u32 a1_0, .int .u32 a1_1] 24 ?_; intro gb142 hg w7 hbox hb; have BK142 := am (hbox); have GW142 := gwA hg HB; have GE142 := gwA hg HB; have NB141_142 := ltA hg BK141; have NB142_141 := gtA hg BK141; replace BK141 := bbA BK141 hb; replace HB := bsA HB hb; clear hb hbox hg) | ((with_reducible refine gate_dst (N := 4) rfl ?_); refine bxE 4 #[.int .u32 0, .int .u32 0] 24 ?_; intro gb143 hg w8 hbox hb; have BK143 := am (hbox); have GW143 := gwA hg HB; have GE143 := gwA hg HB; have NB141_143 := ltA hg BK141; have NB143_141 := gtA hg BK141; have NB142_143 := ltA hg BK142; have NB143_142 := gtA hg BK142; replace BK141 := bbA BK141 hb; replace BK142 := bbA BK142 hb; replace HB := bsA HB hb; clear hb hbox hg; have hnb9 := NB141_142.out; have hnc9 := NB142_141.out; have hnb10 := NB141_143.out; have hnc10 := NB143_141.out; have hcz11_0 : w8.cell? ⟨gb141, 0, none⟩ = some (.int .u32 a0_0) := cz BK141; have hcz11_1 : w8.cell? ⟨gb141, 1, none⟩ = some (.int .u32 a0_1) := cz BK141; have hfz11_0 := blk_frozen BK141.out 0; have hfz11_1 := blk_frozen BK141.out 1) | ((with_reducible refine gate_callee (f := 69) rfl ?_); refine goesL_ (some 11) rfl rfl Try.func69 (by kernel_rfl) rfl #[.agg #[.int .u32 a0_0, .int .u32 a0_1]] rfl (by (try simp only [List.map_toArray, List.map_cons, List.map_nil]); first | done | rfl | (simp only [List.length_drop, List.length_take]; rfl)) ?_; (with_reducible refine (interval_signed.calls k a0_0 a0_1 t144 t145 _ A3.out).mono ?_); rintro e w12 ⟨rfl, hb⟩; refine ⟨_, rfl, ?_⟩; replace BK141 := bbA BK141 hb; replace BK142 := bbA BK142 hb; replace BK143 := bbA BK143 hb; replace HB := bsA HB hb; (try clear hb); (try clear hb2); (try clear hk); (try clear hi); have hnb13 := NB142_143.out; have hnc13 := NB143_142.out; have hcz14_0 : w12.cell? ⟨gb142, 0, none⟩ = some (.int .u32 a1_0) := cz BK142; have hcz14_1 : w12.cell? ⟨gb142, 1, none⟩ = some (.int .u32 a1_1) := cz BK142; have hfz14_0 := blk_frozen BK142.out 0; have hfz14_1 := blk_frozen BK142.out 1) | ((with_reducible refine gate_callee (f := 69) rfl ?_); refine goesL_ (some 16) rfl rfl Try.func69 (by kernel_rfl) rfl #[.agg #[.int .u32 a1_0, .int .u32 a1_1]] rfl (by (try simp only [List.map_toArray, List.map_cons, List.map_nil]); first | done | rfl | (simp only [List.length_drop, List.length_take]; rfl)) ?_; (with_reducible refine (interval_signed.calls k a1_0 a1_1 t146 t147 _ A4.out).mono ?_); rintro e w15 ⟨rfl, hb⟩; refine ⟨_, rfl, ?_⟩; replace BK141 := bbA BK141 hb; replace BK142 := bbA BK142 hb; replace BK143 := bbA BK143 hb; replace HB := bsA HB hb; (try clear hb); (try clear hb2); (try clear hk); (try clear hi)) | ((with_reducible refine gate_callee (f := 37) rfl ?_); refine goesL_ (some 25) rfl rfl Try.func37 (by kernel_rfl) rfl #[.bool (decide (t145 ≤ t146)), .bool (decide (t144 > t147))] rfl (by (try simp only [List.map_toArray, List.map_cons, List.map_nil]); first | done | rfl | (simp only [List.length_drop, List.length_take]; rfl)) ?_; (with_reducible refine (interval_yes.calls (decide (t145 ≤ t146)) (decide (t144 > t147)) t148 t149 _ A5.out).mono ?_); rintro e w16 ⟨rfl, hb⟩; refine ⟨_, rfl, ?_⟩; replace BK141 := bbA BK141 hb; replace BK142 := bbA BK142 hb; replace BK143 := bbA BK143 hb; replace HB := bsA HB hb; (try clear hb); (try clear hb2); (try clear hk); (try clear hi); have hcz17_0 : w16.cell? ⟨gb143, 0, none⟩ = some (.int .u32 0) := cz BK143; have hcz17_1 : w16.cell? ⟨gb143, 1, none⟩ = some (.int .u32 0) := cz BK143; have hfz17_0 := blk_frozen BK143.out 0; have hfz17_1 := blk_frozen BK143.out 1))
  refine bodyPost_ret (results_cell_row rfl _ _ gb143 24 #[.int .u32 t148, .int .u32 t149] (0, 0) _ rfl (by refine bkT ?_; refine blk_put (cs := #[.int .u32 t148, .int .u32 0]) ?_ 1 _ rfl; refine bkT ?_; refine blk_put (cs := #[.int .u32 0, .int .u32 0]) ?_ 0 _ rfl; refine bkT ?_; exact BK143.out) Try.underlying24 rfl (by kernel_rfl)) rfl ?_
  exact ⟨by first | rfl | (simp [errW_none, errW_some] <;> rfl) | (simp [*, errW_none, errW_some] <;> rfl), hbA HB⟩

-- NOT PRINTED: function 50 (interval_sure)

/-! ### interval_All: function 19 -/
def interval_All.f  : Option (Int × Int) := some (0, 4294967295)
set_option maxHeartbeats 8000000 in
set_option maxRecDepth 100000 in
theorem interval_All.calls  (r1 : Int) (r2 : Int) (w : World) (h : interval_All.f  = some (r1, r2)) :
    Calls Try.prog 19 #[] w fun e w' => e = .returned (.agg #[.int .u32 r1, .int .u32 r2]) ∧ Below w.heap.size w w' := by
  have hu24 := Try.underlying24
  have HB := am (Below.refl w.heap.size w)
  have H : (some (0, 4294967295)) = some (r1, r2) := h
  clear h; simp only [Option.some.injEq, Prod.mk.injEq] at H; obtain ⟨rfl, rfl⟩ := H
  go_enter Try.func19, Try.ntmps19
  go_wp2_with (first | ((with_reducible refine gate_dst (N := 0) rfl ?_); refine bxE 0 #[.int .u32 0, .int .u32 0] 24 ?_; intro gb150 hg w1 hbox hb; have BK150 := am (hbox); have GW150 := gwA hg HB; have GE150 := gwA hg HB; replace HB := bsA HB hb; clear hb hbox hg; have hcz2_0 : w1.cell? ⟨gb150, 0, none⟩ = some (.int .u32 0) := cz BK150; have hcz2_1 : w1.cell? ⟨gb150, 1, none⟩ = some (.int .u32 0) := cz BK150; have hfz2_0 := blk_frozen BK150.out 0; have hfz2_1 := blk_frozen BK150.out 1))
  refine bodyPost_ret (results_cell_row rfl _ _ gb150 24 #[.int .u32 0, .int .u32 4294967295] (0, 0) _ rfl (by refine bkT ?_; refine blk_put (cs := #[.int .u32 0, .int .u32 0]) ?_ 1 _ rfl; refine bkT ?_; refine blk_put (cs := #[.int .u32 0, .int .u32 0]) ?_ 0 _ rfl; refine bkT ?_; exact BK150.out) Try.underlying24 rfl (by kernel_rfl)) rfl ?_
  exact ⟨by first | rfl | (simp [errW_none, errW_some] <;> rfl) | (simp [*, errW_none, errW_some] <;> rfl), hbA HB⟩

/-! ### bits_Add32: function 73 -/
def bits_Add32.f (a0 : Int) (a1 : Int) (a2 : Int) : Option (Int × Int) := some ((IntKind.u64.wrap ((IntKind.u64.wrap ((IntKind.u64.wrap (a0)) + (IntKind.u64.wrap (a1)))) + (IntKind.u64.wrap (a2)))) % 4294967296, ((IntKind.u64.wrap ((IntKind.u64.wrap ((IntKind.u64.wrap (a0)) + (IntKind.u64.wrap (a1)))) + (IntKind.u64.wrap (a2)))) / 4294967296) % 4294967296)
set_option maxHeartbeats 8000000 in
set_option maxRecDepth 100000 in
theorem bits_Add32.calls (a0 : Int) (a1 : Int) (a2 : Int) (r1 : Int) (r2 : Int) (w : World) (h : bits_Add32.f a0 a1 a2 = some (r1, r2)) :
    Calls Try.prog 73 #[.int .u32 a0, .int .u32 a1, .int .u32 a2] w fun e w' => e = .returned (.tuple #[.int .u32 r1, .int .u32 r2]) ∧ Drawn0 w w' := by
  have H : (some ((IntKind.u64.wrap ((IntKind.u64.wrap ((IntKind.u64.wrap (a0)) + (IntKind.u64.wrap (a1)))) + (IntKind.u64.wrap (a2)))) % 4294967296, ((IntKind.u64.wrap ((IntKind.u64.wrap ((IntKind.u64.wrap (a0)) + (IntKind.u64.wrap (a1)))) + (IntKind.u64.wrap (a2)))) / 4294967296) % 4294967296)) = some (r1, r2) := h
  clear h; simp only [Option.some.injEq, Prod.mk.injEq] at H; obtain ⟨rfl, rfl⟩ := H
  go_enter Try.func73, Try.ntmps73
  go_wp2
  go_ret2
  exact ⟨by first | rfl | (simp; done) | (simp [*]; done) | (congr 1; omega) | (congr 2; omega) | (rw [Int.tdiv_eq_ediv_of_nonneg (by decide)]; done), by repeat (first | exact Drawn0.refl _ | apply Drawn0.step)⟩

/-! ### interval_add: function 51 -/
def interval_add.f (a0_0 : Int) (a0_1 : Int) (a1_0 : Int) (a1_1 : Int) : Option (Int × Int) := (bits_Add32.f a0_0 a1_0 0).bind fun bt154 => ((bits_Add32.f a0_1 a1_1 0).bind fun bt156 => (if bt154.2 = bt156.2 then (some (bt154.1, bt156.1)) else ((interval_All.f).bind fun bt158 => (some (bt158.1, bt158.2)))))
set_option maxHeartbeats 8000000 in
set_option maxRecDepth 100000 in
theorem interval_add.calls (a0_0 : Int) (a0_1 : Int) (a1_0 : Int) (a1_1 : Int) (r1 : Int) (r2 : Int) (w : World) (h : interval_add.f a0_0 a0_1 a1_0 a1_1 = some (r1, r2)) :
    Calls Try.prog 51 #[.agg #[.int .u32 a0_0, .int .u32 a0_1], .agg #[.int .u32 a1_0, .int .u32 a1_1]] w fun e w' => e = .returned (.agg #[.int .u32 r1, .int .u32 r2]) ∧ Below w.heap.size w w' := by
  have hu24 := Try.underlying24
  have HB := am (Below.refl w.heap.size w)
  have H : ((bits_Add32.f a0_0 a1_0 0).bind fun bt154 => ((bits_Add32.f a0_1 a1_1 0).bind fun bt156 => (if bt154.2 = bt156.2 then (some (bt154.1, bt156.1)) else ((interval_All.f).bind fun bt158 => (some (bt158.1, bt158.2)))))) = some (r1, r2) := h
  clear h; replace H := Option.bind_eq_some_iff.mp H; obtain ⟨⟨t154, t155⟩, A30, H⟩ := H; replace H : ((bits_Add32.f a0_1 a1_1 0).bind fun bt156 => (if t155 = bt156.2 then (some (t154, bt156.1)) else ((interval_All.f).bind fun bt158 => (some (bt158.1, bt158.2))))) = some (r1, r2) := H; have A3 := am A30; clear A30; replace H := Option.bind_eq_some_iff.mp H; obtain ⟨⟨t156, t157⟩, A40, H⟩ := H; replace H : (if t155 = t157 then (some (t154, t156)) else ((interval_All.f).bind fun bt158 => (some (bt158.1, bt158.2)))) = some (r1, r2) := H; have A4 := am A40; clear A40; by_cases c5 : t155 = t157
  · rw [if_pos c5] at H; have c5b0 : (t155 == t157) = true := beq_iff_eq.mpr c5; have c5b1 : (t155 != t157) = false := bne_eq_false_iff_eq.mpr c5; clear c5; simp only [Option.some.injEq, Prod.mk.injEq] at H; obtain ⟨rfl, rfl⟩ := H
    go_enter Try.func51, Try.ntmps51
    go_wp2_with (first | ((with_reducible refine gate_dst (N := 2) rfl ?_); refine bxE 2 #[.int .u32 a0_0, .int .u32 a0_1] 24 ?_; intro gb151 hg w6 hbox hb; have BK151 := am (hbox); have GW151 := gwA hg HB; have GE151 := gwA hg HB; replace HB := bsA HB hb; clear hb hbox hg) | ((with_reducible refine gate_dst (N := 3) rfl ?_); refine bxE 3 #[.int .u32 a1_0, .int .u32 a1_1] 24 ?_; intro gb152 hg w7 hbox hb; have BK152 := am (hbox); have GW152 := gwA hg HB; have GE152 := gwA hg HB; have NB151_152 := ltA hg BK151; have NB152_151 := gtA hg BK151; replace BK151 := bbA BK151 hb; replace HB := bsA HB hb; clear hb hbox hg) | ((with_reducible refine gate_dst (N := 4) rfl ?_); refine bxE 4 #[.int .u32 0, .int .u32 0] 24 ?_; intro gb153 hg w8 hbox hb; have BK153 := am (hbox); have GW153 := gwA hg HB; have GE153 := gwA hg HB; have NB151_153 := ltA hg BK151; have NB153_151 := gtA hg BK151; have NB152_153 := ltA hg BK152; have NB153_152 := gtA hg BK152; replace BK151 := bbA BK151 hb; replace BK152 := bbA BK152 hb; replace HB := bsA HB hb; clear hb hbox hg; have hnb9 := NB151_152.out; have hnc9 := NB152_151.out; have hnb10 := NB151_153.out; have hnc10 := NB153_151.out; have hcz11_0 : w8.cell? ⟨gb151, 0, none⟩ = some (.int .u32 a0_0) := cz BK151; have hcz11_1 : w8.cell? ⟨gb151, 1, none⟩ = some (.int .u32 a0_1) := cz BK151; have hfz11_0 := blk_frozen BK151.out 0; have hfz11_1 := blk_frozen BK151.out 1; have hnb12 := NB152_153.out; have hnc12 := NB153_152.out; have hcz13_0 : w8.cell? ⟨gb152, 0, none⟩ = some (.int .u32 a1_0) := cz BK152; have hcz13_1 : w8.cell? ⟨gb152, 1, none⟩ = some (.int .u32 a1_1) := cz BK152; have hfz13_0 := blk_frozen BK152.out 0; have hfz13_1 := blk_frozen BK152.out 1) | ((with_reducible refine gate_callee (f := 73) rfl ?_); refine goesL_ (some 14) rfl rfl Try.func73 (by kernel_rfl) rfl #[.int .u32 a0_0, .int .u32 a1_0, .int .u32 0] rfl (by (try simp only [List.map_toArray, List.map_cons, List.map_nil]); first | done | rfl | (simp only [List.length_drop, List.length_take]; rfl)) ?_; (with_reducible refine (bits_Add32.calls a0_0 a1_0 0 t154 t155 _ A3.out).mono ?_); rintro e w' ⟨rfl, ⟨nd, rfl⟩⟩; refine ⟨_, rfl, ?_⟩; (try (rw [drewN_self w8]; generalize hq_ : World.drewN w8 _ = w8; have n0_ : Aside0 (w8.heap[gb151]? = some (.cells #[.int .u32 a0_0, .int .u32 a0_1] 24 (0, 0))) := ⟨by rw [← hq_]; exact (bkA BK151)⟩; have n1_ : Aside0 (w8.heap[gb152]? = some (.cells #[.int .u32 a1_0, .int .u32 a1_1] 24 (0, 0))) := ⟨by rw [← hq_]; exact (bkA BK152)⟩; have n2_ : Aside0 (w8.heap[gb153]? = some (.cells #[.int .u32 0, .int .u32 0] 24 (0, 0))) := ⟨by rw [← hq_]; exact (bkA BK153)⟩; have n3_ : Aside0 (Below w.heap.size w w8) := ⟨by rw [← hq_]; exact (hbA HB)⟩; clear BK151 BK152 BK153 HB hq_; have BK151 := n0_; have BK152 := n1_; have BK153 := n2_; have HB := n3_; clear n0_ n1_ n2_ n3_; clear hcz11_0; have hcz11_0 : w8.cell? ⟨gb151, 0, none⟩ = some (.int .u32 a0_0) := cz BK151; clear hfz11_0; have hfz11_0 := blk_frozen BK151.out 0; clear hcz11_1; have hcz11_1 : w8.cell? ⟨gb151, 1, none⟩ = some (.int .u32 a0_1) := cz BK151; clear hfz11_1; have hfz11_1 := blk_frozen BK151.out 1; clear hcz13_0; have hcz13_0 : w8.cell? ⟨gb152, 0, none⟩ = some (.int .u32 a1_0) := cz BK152; clear hfz13_0; have hfz13_0 := blk_frozen BK152.out 0; clear hcz13_1; have hcz13_1 : w8.cell? ⟨gb152, 1, none⟩ = some (.int .u32 a1_1) := cz BK152; clear hfz13_1; have hfz13_1 := blk_frozen BK152.out 1))) | ((with_reducible refine gate_callee (f := 73) rfl ?_); refine goesL_ (some 22) rfl rfl Try.func73 (by kernel_rfl) rfl #[.int .u32 a0_1, .int .u32 a1_1, .int .u32 0] rfl (by (try simp only [List.map_toArray, List.map_cons, List.map_nil]); first | done | rfl | (simp only [List.length_drop, List.length_take]; rfl)) ?_; (with_reducible refine (bits_Add32.calls a0_1 a1_1 0 t156 t157 _ A4.out).mono ?_); rintro e w' ⟨rfl, ⟨nd, rfl⟩⟩; refine ⟨_, rfl, ?_⟩; (try (rw [drewN_self w8]; generalize hq_ : World.drewN w8 _ = w8; have n0_ : Aside0 (w8.heap[gb151]? = some (.cells #[.int .u32 a0_0, .int .u32 a0_1] 24 (0, 0))) := ⟨by rw [← hq_]; exact (bkA BK151)⟩; have n1_ : Aside0 (w8.heap[gb152]? = some (.cells #[.int .u32 a1_0, .int .u32 a1_1] 24 (0, 0))) := ⟨by rw [← hq_]; exact (bkA BK152)⟩; have n2_ : Aside0 (w8.heap[gb153]? = some (.cells #[.int .u32 0, .int .u32 0] 24 (0, 0))) := ⟨by rw [← hq_]; exact (bkA BK153)⟩; have n3_ : Aside0 (Below w.heap.size w w8) := ⟨by rw [← hq_]; exact (hbA HB)⟩; clear BK151 BK152 BK153 HB hq_; have BK151 := n0_; have BK152 := n1_; have BK153 := n2_; have HB := n3_; clear n0_ n1_ n2_ n3_; clear hcz11_0; have hcz11_0 : w8.cell? ⟨gb151, 0, none⟩ = some (.int .u32 a0_0) := cz BK151; clear hfz11_0; have hfz11_0 := blk_frozen BK151.out 0; clear hcz11_1; have hcz11_1 : w8.cell? ⟨gb151, 1, none⟩ = some (.int .u32 a0_1) := cz BK151; clear hfz11_1; have hfz11_1 := blk_frozen BK151.out 1; clear hcz13_0; have hcz13_0 : w8.cell? ⟨gb152, 0, none⟩ = some (.int .u32 a1_0) := cz BK152; clear hfz13_0; have hfz13_0 := blk_frozen BK152.out 0; clear hcz13_1; have hcz13_1 : w8.cell? ⟨gb152, 1, none⟩ = some (.int .u32 a1_1) := cz BK152; clear hfz13_1; have hfz13_1 := blk_frozen BK152.out 1)); have hcz14_0 : w8.cell? ⟨gb153, 0, none⟩ = some (.int .u32 0) := cz BK153; have hcz14_1 : w8.cell? ⟨gb153, 1, none⟩ = some (.int .u32 0) := cz BK153; have hfz14_0 := blk_frozen BK153.out 0; have hfz14_1 := blk_frozen BK153.out 1))
    refine bodyPost_ret (results_cell_row rfl _ _ gb153 24 #[.int .u32 t154, .int .u32 t156] (0, 0) _ rfl (by refine bkT ?_; refine blk_put (cs := #[.int .u32 t154, .int .u32 0]) ?_ 1 _ rfl; refine bkT ?_; refine blk_put (cs := #[.int .u32 0, .int .u32 0]) ?_ 0 _ rfl; refine bkT ?_; exact BK153.out) Try.underlying24 rfl (by kernel_rfl)) rfl ?_
    exact ⟨by first | rfl | (simp [errW_none, errW_some] <;> rfl) | (simp [*, errW_none, errW_some] <;> rfl), hbA HB⟩
  rw [if_neg c5] at H; have c5b0 : (t155 == t157) = false := beq_eq_false_iff_ne.mpr c5; have c5b1 : (t155 != t157) = true := bne_iff_ne.mpr c5; replace H := Option.bind_eq_some_iff.mp H; obtain ⟨⟨t158, t159⟩, A150, H⟩ := H; replace H : (some (t158, t159)) = some (r1, r2) := H; have A15 := am A150; clear A150; simp only [Option.some.injEq, Prod.mk.injEq] at H; obtain ⟨rfl, rfl⟩ := H
  go_enter Try.func51, Try.ntmps51
  go_wp2_with (first | ((with_reducible refine gate_dst (N := 2) rfl ?_); refine bxE 2 #[.int .u32 a0_0, .int .u32 a0_1] 24 ?_; intro gb151 hg w16 hbox hb; have BK151 := am (hbox); have GW151 := gwA hg HB; have GE151 := gwA hg HB; replace HB := bsA HB hb; clear hb hbox hg) | ((with_reducible refine gate_dst (N := 3) rfl ?_); refine bxE 3 #[.int .u32 a1_0, .int .u32 a1_1] 24 ?_; intro gb152 hg w17 hbox hb; have BK152 := am (hbox); have GW152 := gwA hg HB; have GE152 := gwA hg HB; have NB151_152 := ltA hg BK151; have NB152_151 := gtA hg BK151; replace BK151 := bbA BK151 hb; replace HB := bsA HB hb; clear hb hbox hg) | ((with_reducible refine gate_dst (N := 4) rfl ?_); refine bxE 4 #[.int .u32 0, .int .u32 0] 24 ?_; intro gb153 hg w18 hbox hb; have BK153 := am (hbox); have GW153 := gwA hg HB; have GE153 := gwA hg HB; have NB151_153 := ltA hg BK151; have NB153_151 := gtA hg BK151; have NB152_153 := ltA hg BK152; have NB153_152 := gtA hg BK152; replace BK151 := bbA BK151 hb; replace BK152 := bbA BK152 hb; replace HB := bsA HB hb; clear hb hbox hg; have hnb19 := NB151_152.out; have hnc19 := NB152_151.out; have hnb20 := NB151_153.out; have hnc20 := NB153_151.out; have hcz21_0 : w18.cell? ⟨gb151, 0, none⟩ = some (.int .u32 a0_0) := cz BK151; have hcz21_1 : w18.cell? ⟨gb151, 1, none⟩ = some (.int .u32 a0_1) := cz BK151; have hfz21_0 := blk_frozen BK151.out 0; have hfz21_1 := blk_frozen BK151.out 1; have hnb22 := NB152_153.out; have hnc22 := NB153_152.out; have hcz23_0 : w18.cell? ⟨gb152, 0, none⟩ = some (.int .u32 a1_0) := cz BK152; have hcz23_1 : w18.cell? ⟨gb152, 1, none⟩ = some (.int .u32 a1_1) := cz BK152; have hfz23_0 := blk_frozen BK152.out 0; have hfz23_1 := blk_frozen BK152.out 1) | ((with_reducible refine gate_callee (f := 73) rfl ?_); refine goesL_ (some 14) rfl rfl Try.func73 (by kernel_rfl) rfl #[.int .u32 a0_0, .int .u32 a1_0, .int .u32 0] rfl (by (try simp only [List.map_toArray, List.map_cons, List.map_nil]); first | done | rfl | (simp only [List.length_drop, List.length_take]; rfl)) ?_; (with_reducible refine (bits_Add32.calls a0_0 a1_0 0 t154 t155 _ A3.out).mono ?_); rintro e w' ⟨rfl, ⟨nd, rfl⟩⟩; refine ⟨_, rfl, ?_⟩; (try (rw [drewN_self w18]; generalize hq_ : World.drewN w18 _ = w18; have n0_ : Aside0 (w18.heap[gb151]? = some (.cells #[.int .u32 a0_0, .int .u32 a0_1] 24 (0, 0))) := ⟨by rw [← hq_]; exact (bkA BK151)⟩; have n1_ : Aside0 (w18.heap[gb152]? = some (.cells #[.int .u32 a1_0, .int .u32 a1_1] 24 (0, 0))) := ⟨by rw [← hq_]; exact (bkA BK152)⟩; have n2_ : Aside0 (w18.heap[gb153]? = some (.cells #[.int .u32 0, .int .u32 0] 24 (0, 0))) := ⟨by rw [← hq_]; exact (bkA BK153)⟩; have n3_ : Aside0 (Below w.heap.size w w18) := ⟨by rw [← hq_]; exact (hbA HB)⟩; clear BK151 BK152 BK153 HB hq_; have BK151 := n0_; have BK152 := n1_; have BK153 := n2_; have HB := n3_; clear n0_ n1_ n2_ n3_; clear hcz21_0; have hcz21_0 : w18.cell? ⟨gb151, 0, none⟩ = some (.int .u32 a0_0) := cz BK151; clear hfz21_0; have hfz21_0 := blk_frozen BK151.out 0; clear hcz21_1; have hcz21_1 : w18.cell? ⟨gb151, 1, none⟩ = some (.int .u32 a0_1) := cz BK151; clear hfz21_1; have hfz21_1 := blk_frozen BK151.out 1; clear hcz23_0; have hcz23_0 : w18.cell? ⟨gb152, 0, none⟩ = some (.int .u32 a1_0) := cz BK152; clear hfz23_0; have hfz23_0 := blk_frozen BK152.out 0; clear hcz23_1; have hcz23_1 : w18.cell? ⟨gb152, 1, none⟩ = some (.int .u32 a1_1) := cz BK152; clear hfz23_1; have hfz23_1 := blk_frozen BK152.out 1))) | ((with_reducible refine gate_callee (f := 73) rfl ?_); refine goesL_ (some 22) rfl rfl Try.func73 (by kernel_rfl) rfl #[.int .u32 a0_1, .int .u32 a1_1, .int .u32 0] rfl (by (try simp only [List.map_toArray, List.map_cons, List.map_nil]); first | done | rfl | (simp only [List.length_drop, List.length_take]; rfl)) ?_; (with_reducible refine (bits_Add32.calls a0_1 a1_1 0 t156 t157 _ A4.out).mono ?_); rintro e w' ⟨rfl, ⟨nd, rfl⟩⟩; refine ⟨_, rfl, ?_⟩; (try (rw [drewN_self w18]; generalize hq_ : World.drewN w18 _ = w18; have n0_ : Aside0 (w18.heap[gb151]? = some (.cells #[.int .u32 a0_0, .int .u32 a0_1] 24 (0, 0))) := ⟨by rw [← hq_]; exact (bkA BK151)⟩; have n1_ : Aside0 (w18.heap[gb152]? = some (.cells #[.int .u32 a1_0, .int .u32 a1_1] 24 (0, 0))) := ⟨by rw [← hq_]; exact (bkA BK152)⟩; have n2_ : Aside0 (w18.heap[gb153]? = some (.cells #[.int .u32 0, .int .u32 0] 24 (0, 0))) := ⟨by rw [← hq_]; exact (bkA BK153)⟩; have n3_ : Aside0 (Below w.heap.size w w18) := ⟨by rw [← hq_]; exact (hbA HB)⟩; clear BK151 BK152 BK153 HB hq_; have BK151 := n0_; have BK152 := n1_; have BK153 := n2_; have HB := n3_; clear n0_ n1_ n2_ n3_; clear hcz21_0; have hcz21_0 : w18.cell? ⟨gb151, 0, none⟩ = some (.int .u32 a0_0) := cz BK151; clear hfz21_0; have hfz21_0 := blk_frozen BK151.out 0; clear hcz21_1; have hcz21_1 : w18.cell? ⟨gb151, 1, none⟩ = some (.int .u32 a0_1) := cz BK151; clear hfz21_1; have hfz21_1 := blk_frozen BK151.out 1; clear hcz23_0; have hcz23_0 : w18.cell? ⟨gb152, 0, none⟩ = some (.int .u32 a1_0) := cz BK152; clear hfz23_0; have hfz23_0 := blk_frozen BK152.out 0; clear hcz23_1; have hcz23_1 : w18.cell? ⟨gb152, 1, none⟩ = some (.int .u32 a1_1) := cz BK152; clear hfz23_1; have hfz23_1 := blk_frozen BK152.out 1))) | ((with_reducible refine gate_callee (f := 19) rfl ?_); refine goesL_ (some 28) rfl rfl Try.func19 (by kernel_rfl) rfl #[] rfl (by (try simp only [List.map_toArray, List.map_cons, List.map_nil]); first | done | rfl | (simp only [List.length_drop, List.length_take]; rfl)) ?_; (with_reducible refine (interval_All.calls  t158 t159 _ A15.out).mono ?_); rintro e w24 ⟨rfl, hb⟩; refine ⟨_, rfl, ?_⟩; replace BK151 := bbA BK151 hb; replace BK152 := bbA BK152 hb; replace BK153 := bbA BK153 hb; replace HB := bsA HB hb; (try clear hb); (try clear hb2); (try clear hk); (try clear hi); have hcz25_0 : w24.cell? ⟨gb153, 0, none⟩ = some (.int .u32 0) := cz BK153; have hcz25_1 : w24.cell? ⟨gb153, 1, none⟩ = some (.int .u32 0) := cz BK153; have hfz25_0 := blk_frozen BK153.out 0; have hfz25_1 := blk_frozen BK153.out 1))
  refine bodyPost_ret (results_cell_row rfl _ _ gb153 24 #[.int .u32 t158, .int .u32 t159] (0, 0) _ rfl (by refine bkT ?_; refine blk_put (cs := #[.int .u32 t158, .int .u32 0]) ?_ 1 _ rfl; refine bkT ?_; refine blk_put (cs := #[.int .u32 0, .int .u32 0]) ?_ 0 _ rfl; refine bkT ?_; exact BK153.out) Try.underlying24 rfl (by kernel_rfl)) rfl ?_
  exact ⟨by first | rfl | (simp [errW_none, errW_some] <;> rfl) | (simp [*, errW_none, errW_some] <;> rfl), hbA HB⟩

/-! ### bits_Sub32: function 74 -/
def bits_Sub32.f (a0 : Int) (a1 : Int) (a2 : Int) : Option (Int × Int) := some ((((a0 - a1) % 4294967296) - a2) % 4294967296, (Go.bits .or .u32 (Go.bits .and .u32 (Go.bits .xor .u32 IntKind.u32.max a0) a1) (Go.bits .and .u32 (Go.bits .xor .u32 IntKind.u32.max (Go.bits .xor .u32 a0 a1)) ((((a0 - a1) % 4294967296) - a2) % 4294967296))) / 2147483648)
set_option maxHeartbeats 8000000 in
set_option maxRecDepth 100000 in
theorem bits_Sub32.calls (a0 : Int) (a1 : Int) (a2 : Int) (r1 : Int) (r2 : Int) (w : World) (h : bits_Sub32.f a0 a1 a2 = some (r1, r2)) :
    Calls Try.prog 74 #[.int .u32 a0, .int .u32 a1, .int .u32 a2] w fun e w' => e = .returned (.tuple #[.int .u32 r1, .int .u32 r2]) ∧ Drawn0 w w' := by
  have hsg_u32 : IntKind.u32.signed = false := rfl
  have H : (some ((((a0 - a1) % 4294967296) - a2) % 4294967296, (Go.bits .or .u32 (Go.bits .and .u32 (Go.bits .xor .u32 IntKind.u32.max a0) a1) (Go.bits .and .u32 (Go.bits .xor .u32 IntKind.u32.max (Go.bits .xor .u32 a0 a1)) ((((a0 - a1) % 4294967296) - a2) % 4294967296))) / 2147483648)) = some (r1, r2) := h
  clear h; simp only [Option.some.injEq, Prod.mk.injEq] at H; obtain ⟨rfl, rfl⟩ := H
  go_enter Try.func74, Try.ntmps74
  go_wp2
  go_ret2
  exact ⟨by first | rfl | (simp; done) | (simp [*]; done) | (congr 1; omega) | (congr 2; omega) | (rw [Int.tdiv_eq_ediv_of_nonneg (by decide)]; done), by repeat (first | exact Drawn0.refl _ | apply Drawn0.step)⟩

/-! ### interval_sub: function 52 -/
def interval_sub.f (a0_0 : Int) (a0_1 : Int) (a1_0 : Int) (a1_1 : Int) : Option (Int × Int) := (bits_Sub32.f a0_0 a1_1 0).bind fun bt163 => ((bits_Sub32.f a0_1 a1_0 0).bind fun bt165 => (if bt163.2 = bt165.2 then (some (bt163.1, bt165.1)) else ((interval_All.f).bind fun bt167 => (some (bt167.1, bt167.2)))))
set_option maxHeartbeats 8000000 in
set_option maxRecDepth 100000 in
theorem interval_sub.calls (a0_0 : Int) (a0_1 : Int) (a1_0 : Int) (a1_1 : Int) (r1 : Int) (r2 : Int) (w : World) (h : interval_sub.f a0_0 a0_1 a1_0 a1_1 = some (r1, r2)) :
    Calls Try.prog 52 #[.agg #[.int .u32 a0_0, .int .u32 a0_1], .agg #[.int .u32 a1_0, .int .u32 a1_1]] w fun e w' => e = .returned (.agg #[.int .u32 r1, .int .u32 r2]) ∧ Below w.heap.size w w' := by
  have hu24 := Try.underlying24
  have HB := am (Below.refl w.heap.size w)
  have H : ((bits_Sub32.f a0_0 a1_1 0).bind fun bt163 => ((bits_Sub32.f a0_1 a1_0 0).bind fun bt165 => (if bt163.2 = bt165.2 then (some (bt163.1, bt165.1)) else ((interval_All.f).bind fun bt167 => (some (bt167.1, bt167.2)))))) = some (r1, r2) := h
  clear h; replace H := Option.bind_eq_some_iff.mp H; obtain ⟨⟨t163, t164⟩, A30, H⟩ := H; replace H : ((bits_Sub32.f a0_1 a1_0 0).bind fun bt165 => (if t164 = bt165.2 then (some (t163, bt165.1)) else ((interval_All.f).bind fun bt167 => (some (bt167.1, bt167.2))))) = some (r1, r2) := H; have A3 := am A30; clear A30; replace H := Option.bind_eq_some_iff.mp H; obtain ⟨⟨t165, t166⟩, A40, H⟩ := H; replace H : (if t164 = t166 then (some (t163, t165)) else ((interval_All.f).bind fun bt167 => (some (bt167.1, bt167.2)))) = some (r1, r2) := H; have A4 := am A40; clear A40; by_cases c5 : t164 = t166
  · rw [if_pos c5] at H; have c5b0 : (t164 == t166) = true := beq_iff_eq.mpr c5; have c5b1 : (t164 != t166) = false := bne_eq_false_iff_eq.mpr c5; clear c5; simp only [Option.some.injEq, Prod.mk.injEq] at H; obtain ⟨rfl, rfl⟩ := H
    go_enter Try.func52, Try.ntmps52
    go_wp2_with (first | ((with_reducible refine gate_dst (N := 2) rfl ?_); refine bxE 2 #[.int .u32 a0_0, .int .u32 a0_1] 24 ?_; intro gb160 hg w6 hbox hb; have BK160 := am (hbox); have GW160 := gwA hg HB; have GE160 := gwA hg HB; replace HB := bsA HB hb; clear hb hbox hg) | ((with_reducible refine gate_dst (N := 3) rfl ?_); refine bxE 3 #[.int .u32 a1_0, .int .u32 a1_1] 24 ?_; intro gb161 hg w7 hbox hb; have BK161 := am (hbox); have GW161 := gwA hg HB; have GE161 := gwA hg HB; have NB160_161 := ltA hg BK160; have NB161_160 := gtA hg BK160; replace BK160 := bbA BK160 hb; replace HB := bsA HB hb; clear hb hbox hg) | ((with_reducible refine gate_dst (N := 4) rfl ?_); refine bxE 4 #[.int .u32 0, .int .u32 0] 24 ?_; intro gb162 hg w8 hbox hb; have BK162 := am (hbox); have GW162 := gwA hg HB; have GE162 := gwA hg HB; have NB160_162 := ltA hg BK160; have NB162_160 := gtA hg BK160; have NB161_162 := ltA hg BK161; have NB162_161 := gtA hg BK161; replace BK160 := bbA BK160 hb; replace BK161 := bbA BK161 hb; replace HB := bsA HB hb; clear hb hbox hg; have hnb9 := NB160_161.out; have hnc9 := NB161_160.out; have hnb10 := NB160_162.out; have hnc10 := NB162_160.out; have hcz11_0 : w8.cell? ⟨gb160, 0, none⟩ = some (.int .u32 a0_0) := cz BK160; have hcz11_1 : w8.cell? ⟨gb160, 1, none⟩ = some (.int .u32 a0_1) := cz BK160; have hfz11_0 := blk_frozen BK160.out 0; have hfz11_1 := blk_frozen BK160.out 1; have hnb12 := NB161_162.out; have hnc12 := NB162_161.out; have hcz13_0 : w8.cell? ⟨gb161, 0, none⟩ = some (.int .u32 a1_0) := cz BK161; have hcz13_1 : w8.cell? ⟨gb161, 1, none⟩ = some (.int .u32 a1_1) := cz BK161; have hfz13_0 := blk_frozen BK161.out 0; have hfz13_1 := blk_frozen BK161.out 1) | ((with_reducible refine gate_callee (f := 74) rfl ?_); refine goesL_ (some 14) rfl rfl Try.func74 (by kernel_rfl) rfl #[.int .u32 a0_0, .int .u32 a1_1, .int .u32 0] rfl (by (try simp only [List.map_toArray, List.map_cons, List.map_nil]); first | done | rfl | (simp only [List.length_drop, List.length_take]; rfl)) ?_; (with_reducible refine (bits_Sub32.calls a0_0 a1_1 0 t163 t164 _ A3.out).mono ?_); rintro e w' ⟨rfl, ⟨nd, rfl⟩⟩; refine ⟨_, rfl, ?_⟩; (try (rw [drewN_self w8]; generalize hq_ : World.drewN w8 _ = w8; have n0_ : Aside0 (w8.heap[gb160]? = some (.cells #[.int .u32 a0_0, .int .u32 a0_1] 24 (0, 0))) := ⟨by rw [← hq_]; exact (bkA BK160)⟩; have n1_ : Aside0 (w8.heap[gb161]? = some (.cells #[.int .u32 a1_0, .int .u32 a1_1] 24 (0, 0))) := ⟨by rw [← hq_]; exact (bkA BK161)⟩; have n2_ : Aside0 (w8.heap[gb162]? = some (.cells #[.int .u32 0, .int .u32 0] 24 (0, 0))) := ⟨by rw [← hq_]; exact (bkA BK162)⟩; have n3_ : Aside0 (Below w.heap.size w w8) := ⟨by rw [← hq_]; exact (hbA HB)⟩; clear BK160 BK161 BK162 HB hq_; have BK160 := n0_; have BK161 := n1_; have BK162 := n2_; have HB := n3_; clear n0_ n1_ n2_ n3_; clear hcz11_0; have hcz11_0 : w8.cell? ⟨gb160, 0, none⟩ = some (.int .u32 a0_0) := cz BK160; clear hfz11_0; have hfz11_0 := blk_frozen BK160.out 0; clear hcz11_1; have hcz11_1 : w8.cell? ⟨gb160, 1, none⟩ = some (.int .u32 a0_1) := cz BK160; clear hfz11_1; have hfz11_1 := blk_frozen BK160.out 1; clear hcz13_0; have hcz13_0 : w8.cell? ⟨gb161, 0, none⟩ = some (.int .u32 a1_0) := cz BK161; clear hfz13_0; have hfz13_0 := blk_frozen BK161.out 0; clear hcz13_1; have hcz13_1 : w8.cell? ⟨gb161, 1, none⟩ = some (.int .u32 a1_1) := cz BK161; clear hfz13_1; have hfz13_1 := blk_frozen BK161.out 1))) | ((with_reducible refine gate_callee (f := 74) rfl ?_); refine goesL_ (some 22) rfl rfl Try.func74 (by kernel_rfl) rfl #[.int .u32 a0_1, .int .u32 a1_0, .int .u32 0] rfl (by (try simp only [List.map_toArray, List.map_cons, List.map_nil]); first | done | rfl | (simp only [List.length_drop, List.length_take]; rfl)) ?_; (with_reducible refine (bits_Sub32.calls a0_1 a1_0 0 t165 t166 _ A4.out).mono ?_); rintro e w' ⟨rfl, ⟨nd, rfl⟩⟩; refine ⟨_, rfl, ?_⟩; (try (rw [drewN_self w8]; generalize hq_ : World.drewN w8 _ = w8; have n0_ : Aside0 (w8.heap[gb160]? = some (.cells #[.int .u32 a0_0, .int .u32 a0_1] 24 (0, 0))) := ⟨by rw [← hq_]; exact (bkA BK160)⟩; have n1_ : Aside0 (w8.heap[gb161]? = some (.cells #[.int .u32 a1_0, .int .u32 a1_1] 24 (0, 0))) := ⟨by rw [← hq_]; exact (bkA BK161)⟩; have n2_ : Aside0 (w8.heap[gb162]? = some (.cells #[.int .u32 0, .int .u32 0] 24 (0, 0))) := ⟨by rw [← hq_]; exact (bkA BK162)⟩; have n3_ : Aside0 (Below w.heap.size w w8) := ⟨by rw [← hq_]; exact (hbA HB)⟩; clear BK160 BK161 BK162 HB hq_; have BK160 := n0_; have BK161 := n1_; have BK162 := n2_; have HB := n3_; clear n0_ n1_ n2_ n3_; clear hcz11_0; have hcz11_0 : w8.cell? ⟨gb160, 0, none⟩ = some (.int .u32 a0_0) := cz BK160; clear hfz11_0; have hfz11_0 := blk_frozen BK160.out 0; clear hcz11_1; have hcz11_1 : w8.cell? ⟨gb160, 1, none⟩ = some (.int .u32 a0_1) := cz BK160; clear hfz11_1; have hfz11_1 := blk_frozen BK160.out 1; clear hcz13_0; have hcz13_0 : w8.cell? ⟨gb161, 0, none⟩ = some (.int .u32 a1_0) := cz BK161; clear hfz13_0; have hfz13_0 := blk_frozen BK161.out 0; clear hcz13_1; have hcz13_1 : w8.cell? ⟨gb161, 1, none⟩ = some (.int .u32 a1_1) := cz BK161; clear hfz13_1; have hfz13_1 := blk_frozen BK161.out 1)); have hcz14_0 : w8.cell? ⟨gb162, 0, none⟩ = some (.int .u32 0) := cz BK162; have hcz14_1 : w8.cell? ⟨gb162, 1, none⟩ = some (.int .u32 0) := cz BK162; have hfz14_0 := blk_frozen BK162.out 0; have hfz14_1 := blk_frozen BK162.out 1))
    refine bodyPost_ret (results_cell_row rfl _ _ gb162 24 #[.int .u32 t163, .int .u32 t165] (0, 0) _ rfl (by refine bkT ?_; refine blk_put (cs := #[.int .u32 t163, .int .u32 0]) ?_ 1 _ rfl; refine bkT ?_; refine blk_put (cs := #[.int .u32 0, .int .u32 0]) ?_ 0 _ rfl; refine bkT ?_; exact BK162.out) Try.underlying24 rfl (by kernel_rfl)) rfl ?_
    exact ⟨by first | rfl | (simp [errW_none, errW_some] <;> rfl) | (simp [*, errW_none, errW_some] <;> rfl), hbA HB⟩
  rw [if_neg c5] at H; have c5b0 : (t164 == t166) = false := beq_eq_false_iff_ne.mpr c5; have c5b1 : (t164 != t166) = true := bne_iff_ne.mpr c5; replace H := Option.bind_eq_some_iff.mp H; obtain ⟨⟨t167, t168⟩, A150, H⟩ := H; replace H : (some (t167, t168)) = some (r1, r2) := H; have A15 := am A150; clear A150; simp only [Option.some.injEq, Prod.mk.injEq] at H; obtain ⟨rfl, rfl⟩ := H
  go_enter Try.func52, Try.ntmps52
  go_wp2_with (first | ((with_reducible refine gate_dst (N := 2) rfl ?_); refine bxE 2 #[.int .u32 a0_0, .int .u32 a0_1] 24 ?_; intro gb160 hg w16 hbox hb; have BK160 := am (hbox); have GW160 := gwA hg HB; have GE160 := gwA hg HB; replace HB := bsA HB hb; clear hb hbox hg) | ((with_reducible refine gate_dst (N := 3) rfl ?_); refine bxE 3 #[.int .u32 a1_0, .int .u32 a1_1] 24 ?_; intro gb161 hg w17 hbox hb; have BK161 := am (hbox); have GW161 := gwA hg HB; have GE161 := gwA hg HB; have NB160_161 := ltA hg BK160; have NB161_160 := gtA hg BK160; replace BK160 := bbA BK160 hb; replace HB := bsA HB hb; clear hb hbox hg) | ((with_reducible refine gate_dst (N := 4) rfl ?_); refine bxE 4 #[.int .u32 0, .int .u32 0] 24 ?_; intro gb162 hg w18 hbox hb; have BK162 := am (hbox); have GW162 := gwA hg HB; have GE162 := gwA hg HB; have NB160_162 := ltA hg BK160; have NB162_160 := gtA hg BK160; have NB161_162 := ltA hg BK161; have NB162_161 := gtA hg BK161; replace BK160 := bbA BK160 hb; replace BK161 := bbA BK161 hb; replace HB := bsA HB hb; clear hb hbox hg; have hnb19 := NB160_161.out; have hnc19 := NB161_160.out; have hnb20 := NB160_162.out; have hnc20 := NB162_160.out; have hcz21_0 : w18.cell? ⟨gb160, 0, none⟩ = some (.int .u32 a0_0) := cz BK160; have hcz21_1 : w18.cell? ⟨gb160, 1, none⟩ = some (.int .u32 a0_1) := cz BK160; have hfz21_0 := blk_frozen BK160.out 0; have hfz21_1 := blk_frozen BK160.out 1; have hnb22 := NB161_162.out; have hnc22 := NB162_161.out; have hcz23_0 : w18.cell? ⟨gb161, 0, none⟩ = some (.int .u32 a1_0) := cz BK161; have hcz23_1 : w18.cell? ⟨gb161, 1, none⟩ = some (.int .u32 a1_1) := cz BK161; have hfz23_0 := blk_frozen BK161.out 0; have hfz23_1 := blk_frozen BK161.out 1) | ((with_reducible refine gate_callee (f := 74) rfl ?_); refine goesL_ (some 14) rfl rfl Try.func74 (by kernel_rfl) rfl #[.int .u32 a0_0, .int .u32 a1_1, .int .u32 0] rfl (by (try simp only [List.map_toArray, List.map_cons, List.map_nil]); first | done | rfl | (simp only [List.length_drop, List.length_take]; rfl)) ?_; (with_reducible refine (bits_Sub32.calls a0_0 a1_1 0 t163 t164 _ A3.out).mono ?_); rintro e w' ⟨rfl, ⟨nd, rfl⟩⟩; refine ⟨_, rfl, ?_⟩; (try (rw [drewN_self w18]; generalize hq_ : World.drewN w18 _ = w18; have n0_ : Aside0 (w18.heap[gb160]? = some (.cells #[.int .u32 a0_0, .int .u32 a0_1] 24 (0, 0))) := ⟨by rw [← hq_]; exact (bkA BK160)⟩; have n1_ : Aside0 (w18.heap[gb161]? = some (.cells #[.int .u32 a1_0, .int .u32 a1_1] 24 (0, 0))) := ⟨by rw [← hq_]; exact (bkA BK161)⟩; have n2_ : Aside0 (w18.heap[gb162]? = some (.cells #[.int .u32 0, .int .u32 0] 24 (0, 0))) := ⟨by rw [← hq_]; exact (bkA BK162)⟩; have n3_ : Aside0 (Below w.heap.size w w18) := ⟨by rw [← hq_]; exact (hbA HB)⟩; clear BK160 BK161 BK162 HB hq_; have BK160 := n0_; have BK161 := n1_; have BK162 := n2_; have HB := n3_; clear n0_ n1_ n2_ n3_; clear hcz21_0; have hcz21_0 : w18.cell? ⟨gb160, 0, none⟩ = some (.int .u32 a0_0) := cz BK160; clear hfz21_0; have hfz21_0 := blk_frozen BK160.out 0; clear hcz21_1; have hcz21_1 : w18.cell? ⟨gb160, 1, none⟩ = some (.int .u32 a0_1) := cz BK160; clear hfz21_1; have hfz21_1 := blk_frozen BK160.out 1; clear hcz23_0; have hcz23_0 : w18.cell? ⟨gb161, 0, none⟩ = some (.int .u32 a1_0) := cz BK161; clear hfz23_0; have hfz23_0 := blk_frozen BK161.out 0; clear hcz23_1; have hcz23_1 : w18.cell? ⟨gb161, 1, none⟩ = some (.int .u32 a1_1) := cz BK161; clear hfz23_1; have hfz23_1 := blk_frozen BK161.out 1))) | ((with_reducible refine gate_callee (f := 74) rfl ?_); refine goesL_ (some 22) rfl rfl Try.func74 (by kernel_rfl) rfl #[.int .u32 a0_1, .int .u32 a1_0, .int .u32 0] rfl (by (try simp only [List.map_toArray, List.map_cons, List.map_nil]); first | done | rfl | (simp only [List.length_drop, List.length_take]; rfl)) ?_; (with_reducible refine (bits_Sub32.calls a0_1 a1_0 0 t165 t166 _ A4.out).mono ?_); rintro e w' ⟨rfl, ⟨nd, rfl⟩⟩; refine ⟨_, rfl, ?_⟩; (try (rw [drewN_self w18]; generalize hq_ : World.drewN w18 _ = w18; have n0_ : Aside0 (w18.heap[gb160]? = some (.cells #[.int .u32 a0_0, .int .u32 a0_1] 24 (0, 0))) := ⟨by rw [← hq_]; exact (bkA BK160)⟩; have n1_ : Aside0 (w18.heap[gb161]? = some (.cells #[.int .u32 a1_0, .int .u32 a1_1] 24 (0, 0))) := ⟨by rw [← hq_]; exact (bkA BK161)⟩; have n2_ : Aside0 (w18.heap[gb162]? = some (.cells #[.int .u32 0, .int .u32 0] 24 (0, 0))) := ⟨by rw [← hq_]; exact (bkA BK162)⟩; have n3_ : Aside0 (Below w.heap.size w w18) := ⟨by rw [← hq_]; exact (hbA HB)⟩; clear BK160 BK161 BK162 HB hq_; have BK160 := n0_; have BK161 := n1_; have BK162 := n2_; have HB := n3_; clear n0_ n1_ n2_ n3_; clear hcz21_0; have hcz21_0 : w18.cell? ⟨gb160, 0, none⟩ = some (.int .u32 a0_0) := cz BK160; clear hfz21_0; have hfz21_0 := blk_frozen BK160.out 0; clear hcz21_1; have hcz21_1 : w18.cell? ⟨gb160, 1, none⟩ = some (.int .u32 a0_1) := cz BK160; clear hfz21_1; have hfz21_1 := blk_frozen BK160.out 1; clear hcz23_0; have hcz23_0 : w18.cell? ⟨gb161, 0, none⟩ = some (.int .u32 a1_0) := cz BK161; clear hfz23_0; have hfz23_0 := blk_frozen BK161.out 0; clear hcz23_1; have hcz23_1 : w18.cell? ⟨gb161, 1, none⟩ = some (.int .u32 a1_1) := cz BK161; clear hfz23_1; have hfz23_1 := blk_frozen BK161.out 1))) | ((with_reducible refine gate_callee (f := 19) rfl ?_); refine goesL_ (some 28) rfl rfl Try.func19 (by kernel_rfl) rfl #[] rfl (by (try simp only [List.map_toArray, List.map_cons, List.map_nil]); first | done | rfl | (simp only [List.length_drop, List.length_take]; rfl)) ?_; (with_reducible refine (interval_All.calls  t167 t168 _ A15.out).mono ?_); rintro e w24 ⟨rfl, hb⟩; refine ⟨_, rfl, ?_⟩; replace BK160 := bbA BK160 hb; replace BK161 := bbA BK161 hb; replace BK162 := bbA BK162 hb; replace HB := bsA HB hb; (try clear hb); (try clear hb2); (try clear hk); (try clear hi); have hcz25_0 : w24.cell? ⟨gb162, 0, none⟩ = some (.int .u32 0) := cz BK162; have hcz25_1 : w24.cell? ⟨gb162, 1, none⟩ = some (.int .u32 0) := cz BK162; have hfz25_0 := blk_frozen BK162.out 0; have hfz25_1 := blk_frozen BK162.out 1))
  refine bodyPost_ret (results_cell_row rfl _ _ gb162 24 #[.int .u32 t167, .int .u32 t168] (0, 0) _ rfl (by refine bkT ?_; refine blk_put (cs := #[.int .u32 t167, .int .u32 0]) ?_ 1 _ rfl; refine bkT ?_; refine blk_put (cs := #[.int .u32 0, .int .u32 0]) ?_ 0 _ rfl; refine bkT ?_; exact BK162.out) Try.underlying24 rfl (by kernel_rfl)) rfl ?_
  exact ⟨by first | rfl | (simp [errW_none, errW_some] <;> rfl) | (simp [*, errW_none, errW_some] <;> rfl), hbA HB⟩

/-! ### bits_Mul32: function 75 -/
def bits_Mul32.f (a0 : Int) (a1 : Int) : Option (Int × Int) := some (((IntKind.u64.wrap ((IntKind.u64.wrap (a0)) * (IntKind.u64.wrap (a1)))) / 4294967296) % 4294967296, (IntKind.u64.wrap ((IntKind.u64.wrap (a0)) * (IntKind.u64.wrap (a1)))) % 4294967296)
set_option maxHeartbeats 8000000 in
set_option maxRecDepth 100000 in
theorem bits_Mul32.calls (a0 : Int) (a1 : Int) (r1 : Int) (r2 : Int) (w : World) (h : bits_Mul32.f a0 a1 = some (r1, r2)) :
    Calls Try.prog 75 #[.int .u32 a0, .int .u32 a1] w fun e w' => e = .returned (.tuple #[.int .u32 r1, .int .u32 r2]) ∧ Drawn0 w w' := by
  have H : (some (((IntKind.u64.wrap ((IntKind.u64.wrap (a0)) * (IntKind.u64.wrap (a1)))) / 4294967296) % 4294967296, (IntKind.u64.wrap ((IntKind.u64.wrap (a0)) * (IntKind.u64.wrap (a1)))) % 4294967296)) = some (r1, r2) := h
  clear h; simp only [Option.some.injEq, Prod.mk.injEq] at H; obtain ⟨rfl, rfl⟩ := H
  go_enter Try.func75, Try.ntmps75
  go_wp2
  go_ret2
  exact ⟨by first | rfl | (simp; done) | (simp [*]; done) | (congr 1; omega) | (congr 2; omega) | (rw [Int.tdiv_eq_ediv_of_nonneg (by decide)]; done), by repeat (first | exact Drawn0.refl _ | apply Drawn0.step)⟩

end Go.Proofs.Ytmhmfnjbioplhaa.PIntervalCalls
