/- Contracts of Go functions of the given program: where NAME.f answers, the call returns that. Conditions: those each theorem names. -/
import Derived.Test.YtmhmfnjbioplhaaPIntervalCallsx0
import Derived.Test.YtmhmfnjbioplhaaPIntervalCallsx2
import Derived.Test.YtmhmfnjbioplhaaPIntervalCallsx3
import Derived.Test.YtmhmfnjbioplhaaPIntervalCallsx4
namespace Go.Proofs.Ytmhmfnjbioplhaa.PIntervalCalls
open Go.RowKit Go.Proofs.YtmhmfnjbioplhaaW.PrintWords Go.Proofs.YtmhmfnjbioplhaaW.PrintLast Go.Proofs.YtmhmfnjbioplhaaW.PrintMore Go.Proofs.Ytmhmfnjbioplhaa.Help
attribute [local go_sem] max2_int min2_int max_two min_two max_three min_three max_four min_four   -- for this text's walks alone
set_option linter.unusedVariables false
set_option linter.unusedSimpArgs false

/-! ### interval_Widen: function 15 -/
mutual
def interval_Widen.j1 : Nat → Int → Int → Int → Int → Int → Int → Option (Int × Int)
  | 0, _, _, _, _, _, _ => none
  | k + 1, x247000, x247001, x248000, x248001, x256000, x256001 => if x248001 > x247001 then ((interval_steps.f).bind fun t260 => (interval_Widen.l1 k t260 (wrap64 ((t260.length : Int) - 1)) x248000 x248001 x256000 x256001)) else (some (x256000, x256001))
def interval_Widen.l1 : Nat → List Int → Int → Int → Int → Int → Int → Option (Int × Int)
  | 0, _, _, _, _, _, _ => none
  | k + 1, x8, x9, x248000, x248001, x256000, x256001 => if x9 ≥ 0 then (if 0 ≤ x9 then (if x9 < (x8.length : Int) then (if (rd x8 x9) ≥ x248001 then (interval_Widen.l1 k x8 (wrap64 (x9 - 1)) x248000 x248001 x256000 (rd x8 x9)) else (interval_Widen.l1 k x8 (wrap64 (x9 - 1)) x248000 x248001 x256000 x256001)) else (none)) else (none)) else (some (x256000, x256001))
def interval_Widen.l0 : Nat → List Int → Int → Int → Int → Int → Int → Int → Int → Int → Option (Int × Int)
  | 0, _, _, _, _, _, _, _, _, _ => none
  | k + 1, x22, x23, x24, x247000, x247001, x248000, x248001, x256000, x256001 => if x24 < x23 then (if 0 ≤ x24 then (if x24 < (x22.length : Int) then (if (rd x22 x24) ≤ x248000 then (interval_Widen.l0 k x22 x23 (wrap64 (x24 + 1)) x247000 x247001 x248000 x248001 (rd x22 x24) x256001) else (interval_Widen.l0 k x22 x23 (wrap64 (x24 + 1)) x247000 x247001 x248000 x248001 x256000 x256001)) else (none)) else (none)) else (interval_Widen.j1 k x247000 x247001 x248000 x248001 x256000 x256001)
end
def interval_Widen.f (k : Nat) (a0_0 : Int) (a0_1 : Int) (a1_0 : Int) (a1_1 : Int) : Option (Int × Int) := (interval_may.f k (([(⟨a0_0, a0_1⟩ : S24), (⟨a1_0, a1_1⟩ : S24)] : List (S24)))).bind fun t252 => (if t252 = true then (if a1_0 < a0_0 then ((interval_steps.f).bind fun t256 => (interval_Widen.l0 k t256 (t256.length : Int) 0 a0_0 a0_1 a1_0 a1_1 a0_0 a0_1)) else (interval_Widen.j1 k a0_0 a0_1 a1_0 a1_1 a0_0 a0_1)) else ((interval_All.f).bind fun bt253 => (some (bt253.1, bt253.2))))
theorem interval_Widen.mono_l : ∀ k, (∀ y0 y1 y2 y3 y4 y5, LeO (interval_Widen.j1 k y0 y1 y2 y3 y4 y5) (interval_Widen.j1 (k + 1) y0 y1 y2 y3 y4 y5)) ∧ (∀ y0 y1 y2 y3 y4 y5, LeO (interval_Widen.l1 k y0 y1 y2 y3 y4 y5) (interval_Widen.l1 (k + 1) y0 y1 y2 y3 y4 y5)) ∧ (∀ y0 y1 y2 y3 y4 y5 y6 y7 y8, LeO (interval_Widen.l0 k y0 y1 y2 y3 y4 y5 y6 y7 y8) (interval_Widen.l0 (k + 1) y0 y1 y2 y3 y4 y5 y6 y7 y8))
  | 0 => ⟨fun _ _ _ _ _ _ r h => by simp [interval_Widen.j1] at h, fun _ _ _ _ _ _ r h => by simp [interval_Widen.l1] at h, fun _ _ _ _ _ _ _ _ _ r h => by simp [interval_Widen.l0] at h⟩
  | k + 1 => by
    obtain ⟨ih0, ih1, ih2⟩ := interval_Widen.mono_l k; refine ⟨?_, ?_, ?_⟩
    · intro y0 y1 y2 y3 y4 y5
      unfold interval_Widen.j1
      repeat' first
      | (with_reducible exact ih0 _ _ _ _ _ _)
      | (with_reducible exact ih1 _ _ _ _ _ _)
      | (with_reducible exact ih2 _ _ _ _ _ _ _ _ _)
      | (with_reducible exact interval_may.mono _ _)
      | (with_reducible exact LeO.refl _)
      | (with_reducible exact LeO.none _)
      | (with_reducible refine LeO.ite ?_ ?_)
      | (with_reducible refine LeO.bind ?_ (fun _ => ?_))
      | exact ih0 _ _ _ _ _ _
      | exact ih1 _ _ _ _ _ _
      | exact ih2 _ _ _ _ _ _ _ _ _
      | exact interval_may.mono _ _
      | exact LeO.none _
      | refine LeO.ite ?_ ?_
      | refine LeO.bind ?_ (fun _ => ?_)
    · intro y0 y1 y2 y3 y4 y5
      unfold interval_Widen.l1
      repeat' first
      | (with_reducible exact ih0 _ _ _ _ _ _)
      | (with_reducible exact ih1 _ _ _ _ _ _)
      | (with_reducible exact ih2 _ _ _ _ _ _ _ _ _)
      | (with_reducible exact interval_may.mono _ _)
      | (with_reducible exact LeO.refl _)
      | (with_reducible exact LeO.none _)
      | (with_reducible refine LeO.ite ?_ ?_)
      | (with_reducible refine LeO.bind ?_ (fun _ => ?_))
      | exact ih0 _ _ _ _ _ _
      | exact ih1 _ _ _ _ _ _
      | exact ih2 _ _ _ _ _ _ _ _ _
      | exact interval_may.mono _ _
      | exact LeO.none _
      | refine LeO.ite ?_ ?_
      | refine LeO.bind ?_ (fun _ => ?_)
    intro y0 y1 y2 y3 y4 y5 y6 y7 y8
    unfold interval_Widen.l0
    repeat' first
    | (with_reducible exact ih0 _ _ _ _ _ _)
    | (with_reducible exact ih1 _ _ _ _ _ _)
    | (with_reducible exact ih2 _ _ _ _ _ _ _ _ _)
    | (with_reducible exact interval_may.mono _ _)
    | (with_reducible exact LeO.refl _)
    | (with_reducible exact LeO.none _)
    | (with_reducible refine LeO.ite ?_ ?_)
    | (with_reducible refine LeO.bind ?_ (fun _ => ?_))
    | exact ih0 _ _ _ _ _ _
    | exact ih1 _ _ _ _ _ _
    | exact ih2 _ _ _ _ _ _ _ _ _
    | exact interval_may.mono _ _
    | exact LeO.none _
    | refine LeO.ite ?_ ?_
    | refine LeO.bind ?_ (fun _ => ?_)
theorem interval_Widen.mono : ∀ a0 a1 a2 a3 k, LeO (interval_Widen.f k a0 a1 a2 a3) (interval_Widen.f (k + 1) a0 a1 a2 a3) := by
  intro a0 a1 a2 a3 k
  obtain ⟨ih0, ih1, ih2⟩ := interval_Widen.mono_l k; unfold interval_Widen.f
  repeat' first
      | (with_reducible exact ih0 _ _ _ _ _ _)
      | (with_reducible exact ih1 _ _ _ _ _ _)
      | (with_reducible exact ih2 _ _ _ _ _ _ _ _ _)
      | (with_reducible exact interval_may.mono _ _)
      | (with_reducible exact LeO.refl _)
      | (with_reducible exact LeO.none _)
      | (with_reducible refine LeO.ite ?_ ?_)
      | (with_reducible refine LeO.bind ?_ (fun _ => ?_))
      | exact ih0 _ _ _ _ _ _
      | exact ih1 _ _ _ _ _ _
      | exact ih2 _ _ _ _ _ _ _ _ _
      | exact interval_may.mono _ _
      | exact LeO.none _
      | refine LeO.ite ?_ ?_
      | refine LeO.bind ?_ (fun _ => ?_)
set_option maxHeartbeats 8000000 in
set_option maxRecDepth 100000 in
theorem interval_Widen.calls (k : Nat) (a0_0 : Int) (a0_1 : Int) (a1_0 : Int) (a1_1 : Int) (r1 : Int) (r2 : Int) (w : World) (h : interval_Widen.f k a0_0 a0_1 a1_0 a1_1 = some (r1, r2)) :
    Calls Try.prog 15 #[.agg #[.int .u32 a0_0, .int .u32 a0_1], .agg #[.int .u32 a1_0, .int .u32 a1_1]] w fun e w' => e = .returned (.agg #[.int .u32 r1, .int .u32 r2]) ∧ Below w.heap.size w w' := by
  have hu24 := Try.underlying24
  have HB := am (Below.refl w.heap.size w)
  have H : ((interval_may.f k (([(⟨a0_0, a0_1⟩ : S24), (⟨a1_0, a1_1⟩ : S24)] : List (S24)))).bind fun t252 => (if t252 = true then (if a1_0 < a0_0 then ((interval_steps.f).bind fun t256 => (interval_Widen.l0 k t256 (t256.length : Int) 0 a0_0 a0_1 a1_0 a1_1 a0_0 a0_1)) else (interval_Widen.j1 k a0_0 a0_1 a1_0 a1_1 a0_0 a0_1)) else ((interval_All.f).bind fun bt253 => (some (bt253.1, bt253.2))))) = some (r1, r2) := h
  clear h; obtain ⟨y249, hy249⟩ : ∃ y_ : List (S24), y_ = (([(⟨a0_0, a0_1⟩ : S24), (⟨a1_0, a1_1⟩ : S24)] : List (S24))) := ⟨_, rfl⟩
  replace H : ((interval_may.f k y249).bind fun t252 => (if t252 = true then (if a1_0 < a0_0 then ((interval_steps.f).bind fun t256 => (interval_Widen.l0 k t256 (t256.length : Int) 0 a0_0 a0_1 a1_0 a1_1 a0_0 a0_1)) else (interval_Widen.j1 k a0_0 a0_1 a1_0 a1_1 a0_0 a0_1)) else ((interval_All.f).bind fun bt253 => (some (bt253.1, bt253.2))))) = some (r1, r2) := by first | (rw [hy249]; with_reducible exact H) | (have H2_ := (Option.bind_some _ _).symm.trans H; rw [hy249]; with_reducible exact H2_) | (have H2_ := (Option.bind_some _ _).symm.trans H; with_reducible exact H2_) | with_reducible exact H | (rw [hy249]; exact H) | exact H
  have Ny249 := am hy249; clear hy249; replace H := Option.bind_eq_some_iff.mp H; obtain ⟨t252, A30, H⟩ := H; replace H : (if t252 = true then (if a1_0 < a0_0 then ((interval_steps.f).bind fun t256 => (interval_Widen.l0 k t256 (t256.length : Int) 0 a0_0 a0_1 a1_0 a1_1 a0_0 a0_1)) else (interval_Widen.j1 k a0_0 a0_1 a1_0 a1_1 a0_0 a0_1)) else ((interval_All.f).bind fun bt253 => (some (bt253.1, bt253.2)))) = some (r1, r2) := H; have A3 := am A30; clear A30; by_cases c4 : t252 = true
  · subst c4; have H1 : (if a1_0 < a0_0 then ((interval_steps.f).bind fun t256 => (interval_Widen.l0 k t256 (t256.length : Int) 0 a0_0 a0_1 a1_0 a1_1 a0_0 a0_1)) else (interval_Widen.j1 k a0_0 a0_1 a1_0 a1_1 a0_0 a0_1)) = some (r1, r2) := by rw [if_pos rfl] at H; exact H
    clear H; have H := H1; clear H1; have HC5 := am H; clear H
    go_enter Try.func15, Try.ntmps15
    go_upto_if 21 with (first | ((with_reducible refine gate_dst (N := 2) rfl ?_); refine bxE 2 #[.int .u32 a0_0, .int .u32 a0_1] 24 ?_; intro gb246 hg w6 hbox hb; have BK246 := am (hbox); have GW246 := gwA hg HB; have GE246 := gwA hg HB; replace HB := bsA HB hb; clear hb hbox hg) | ((with_reducible refine gate_dst (N := 3) rfl ?_); refine bxE 3 #[.int .u32 a1_0, .int .u32 a1_1] 24 ?_; intro gb247 hg w7 hbox hb; have BK247 := am (hbox); have GW247 := gwA hg HB; have GE247 := gwA hg HB; have NB246_247 := ltA hg BK246; have NB247_246 := gtA hg BK246; replace BK246 := bbA BK246 hb; replace HB := bsA HB hb; clear hb hbox hg) | ((with_reducible refine gate_dst (N := 4) rfl ?_); refine bxE 4 #[.int .u32 0, .int .u32 0] 24 ?_; intro gb248 hg w8 hbox hb; have BK248 := am (hbox); have GW248 := gwA hg HB; have GE248 := gwA hg HB; have NB246_248 := ltA hg BK246; have NB248_246 := gtA hg BK246; have NB247_248 := ltA hg BK247; have NB248_247 := gtA hg BK247; replace BK246 := bbA BK246 hb; replace BK247 := bbA BK247 hb; replace HB := bsA HB hb; clear hb hbox hg; have hnb9 := NB246_247.out; have hnc9 := NB247_246.out; have hnb10 := NB246_248.out; have hnc10 := NB248_246.out; have hcz11_0 : w8.cell? ⟨gb246, 0, none⟩ = some (.int .u32 a0_0) := cz BK246; have hcz11_1 : w8.cell? ⟨gb246, 1, none⟩ = some (.int .u32 a0_1) := cz BK246; have hfz11_0 := blk_frozen BK246.out 0; have hfz11_1 := blk_frozen BK246.out 1; have hnb12 := NB247_248.out; have hnc12 := NB248_247.out; have hcz13_0 : w8.cell? ⟨gb247, 0, none⟩ = some (.int .u32 a1_0) := cz BK247; have hcz13_1 : w8.cell? ⟨gb247, 1, none⟩ = some (.int .u32 a1_1) := cz BK247; have hfz13_0 := blk_frozen BK247.out 0; have hfz13_1 := blk_frozen BK247.out 1) | ((with_reducible refine gate_dst (N := 12) rfl ?_); refine Kd.R_lit k24 _ 24 ?hg (N := 12) ?hd (xs := ([(⟨a0_0, a0_1⟩ : S24), (⟨a1_0, a1_1⟩ : S24)] : List (S24))) (inner := [.int .u32 a0_0, .int .u32 a0_1, .int .u32 a1_0, .int .u32 a1_1]) (ok := fun _ => True) (okp := fun _ => True) ?hr ?hp (fun _ hk => hk) trivial (Below.refl _ _) (Nat.le_refl _) (by simp) ?_; (case hd => rfl); (case hg => rfl); (case hr => first | (go_simp; done) | (go_simp; rfl)); (case hp => exact (Reps.c2 (show Kd.M k24 _ _ _ (⟨a0_0, a0_1⟩ : S24) [.int .u32 a0_0, .int .u32 a0_1] from (k24_mkM _ _ _ (⟨a0_0, a0_1⟩ : S24) )) (Reps.c2 (show Kd.M k24 _ _ _ (⟨a1_0, a1_1⟩ : S24) [.int .u32 a1_0, .int .u32 a1_1] from (k24_mkM _ _ _ (⟨a1_0, a1_1⟩ : S24) )) (Reps.none _ _)))); intro v250 w14 ho15 hb hg_ hnew_; clear hg_ hnew_; (first | rw [← Ny249.out] at ho15 | (simp only [Int.reduceToNat] at ho15; rw [← Ny249.out] at ho15)); have HO251 := am (Kd.R_lower (Kd.R_newB (Kd.R_newB (Kd.R_newB ho15 (g := gb246) (o := .cells #[.int .u32 a0_0, .int .u32 a0_1] 24 (0, 0)) (bkA BK246)) (g := gb247) (o := .cells #[.int .u32 a1_0, .int .u32 a1_1] 24 (0, 0)) (bkA BK247)) (g := gb248) (o := .cells #[.int .u32 0, .int .u32 0] 24 (0, 0)) (bkA BK248)) (below_size (hbA HB))); replace BK246 := bbA BK246 hb; replace BK247 := bbA BK247 hb; replace BK248 := bbA BK248 hb; replace HB := bsA HB hb; clear hb ho15; obtain ⟨Ao16, co16, eo16⟩ := Kd.R_slice HO251.out; subst eo16) | (go_at_call 36; (with_reducible refine (interval_may.calls k _ _ y249 true _ ?side1 ?side2 A3.out).mono ?_); (case side1 => repeat (first | exact (Kd.R_reads' HO251.out).2.2 | (with_reducible refine Kd.C_alloc ?_ _) | (with_reducible refine Kd.C_drewN ?_ _) | (with_reducible refine Kd.C_drew ?_))); (case side2 => exact (Kd.R_reads' HO251.out).2.1); rintro e w17 ⟨rfl, hb⟩; replace HO251 := am (Kd.R_below (by (with_reducible repeat (first | apply Kd.R_alloc | apply Kd.R_drewN | apply Kd.R_drew)); exact HO251.out) hb); replace BK246 := bbA BK246 hb; replace BK247 := bbA BK247 hb; replace BK248 := bbA BK248 hb; replace HB := bsA HB hb; (try clear hb); (try clear hb2); (try clear hk); (try clear hi); have hcz18_0 : w17.cell? ⟨gb246, 0, none⟩ = some (.int .u32 a0_0) := cz BK246; have hcz18_1 : w17.cell? ⟨gb246, 1, none⟩ = some (.int .u32 a0_1) := cz BK246; have hfz18_0 := blk_frozen BK246.out 0; have hfz18_1 := blk_frozen BK246.out 1) | ((with_reducible refine gate_dst (N := 5) rfl ?_); refine bxE 5 #[.int .u32 0, .int .u32 0] 24 ?_; intro gb255 hg w19 hbox hb; have BK255 := am (hbox); have GW255 := gwA hg HB; have GE255 := gwA hg HB; have NB246_255 := ltA hg BK246; have NB255_246 := gtA hg BK246; have NB247_255 := ltA hg BK247; have NB255_247 := gtA hg BK247; have NB248_255 := ltA hg BK248; have NB255_248 := gtA hg BK248; replace HO251 := am (Kd.R_below (Kd.R_elderB (by (with_reducible repeat (first | apply Kd.R_alloc | apply Kd.R_drewN | apply Kd.R_drew)); exact HO251.out) gb255 (Nat.le_of_eq hg.symm)) hb); replace BK246 := bbA BK246 hb; replace BK247 := bbA BK247 hb; replace BK248 := bbA BK248 hb; replace HB := bsA HB hb; clear hb hbox hg; have hnb20 := NB255_246.out; have hnc20 := NB246_255.out; have hnb21 := NB255_247.out; have hnc21 := NB247_255.out; have hnb22 := NB255_248.out; have hnc22 := NB248_255.out; have hcz23_0 : w19.cell? ⟨gb255, 0, none⟩ = some (.int .u32 0) := cz BK255; have hcz23_1 : w19.cell? ⟨gb255, 1, none⟩ = some (.int .u32 0) := cz BK255; have hfz23_0 := blk_frozen BK255.out 0; have hfz23_1 := blk_frozen BK255.out 1; have hcz24_0 : w19.cell? ⟨gb247, 0, none⟩ = some (.int .u32 a1_0) := cz BK247; have hcz24_1 : w19.cell? ⟨gb247, 1, none⟩ = some (.int .u32 a1_1) := cz BK247; have hfz24_0 := blk_frozen BK247.out 0; have hfz24_1 := blk_frozen BK247.out 1; have hcz25_0 : w19.cell? ⟨gb246, 0, none⟩ = some (.int .u32 a0_0) := cz BK246; have hcz25_1 : w19.cell? ⟨gb246, 1, none⟩ = some (.int .u32 a0_1) := cz BK246; have hfz25_0 := blk_frozen BK246.out 0; have hfz25_1 := blk_frozen BK246.out 1))
    repeat (go_quiet (first | ((with_reducible refine gate_dst (N := 2) rfl ?_); refine bxE 2 #[.int .u32 a0_0, .int .u32 a0_1] 24 ?_; intro gb246 hg w6 hbox hb; have BK246 := am (hbox); have GW246 := gwA hg HB; have GE246 := gwA hg HB; replace HB := bsA HB hb; clear hb hbox hg) | ((with_reducible refine gate_dst (N := 3) rfl ?_); refine bxE 3 #[.int .u32 a1_0, .int .u32 a1_1] 24 ?_; intro gb247 hg w7 hbox hb; have BK247 := am (hbox); have GW247 := gwA hg HB; have GE247 := gwA hg HB; have NB246_247 := ltA hg BK246; have NB247_246 := gtA hg BK246; replace BK246 := bbA BK246 hb; replace HB := bsA HB hb; clear hb hbox hg) | ((with_reducible refine gate_dst (N := 4) rfl ?_); refine bxE 4 #[.int .u32 0, .int .u32 0] 24 ?_; intro gb248 hg w8 hbox hb; have BK248 := am (hbox); have GW248 := gwA hg HB; have GE248 := gwA hg HB; have NB246_248 := ltA hg BK246; have NB248_246 := gtA hg BK246; have NB247_248 := ltA hg BK247; have NB248_247 := gtA hg BK247; replace BK246 := bbA BK246 hb; replace BK247 := bbA BK247 hb; replace HB := bsA HB hb; clear hb hbox hg; have hnb9 := NB246_247.out; have hnc9 := NB247_246.out; have hnb10 := NB246_248.out; have hnc10 := NB248_246.out; have hcz11_0 : w8.cell? ⟨gb246, 0, none⟩ = some (.int .u32 a0_0) := cz BK246; have hcz11_1 : w8.cell? ⟨gb246, 1, none⟩ = some (.int .u32 a0_1) := cz BK246; have hfz11_0 := blk_frozen BK246.out 0; have hfz11_1 := blk_frozen BK246.out 1; have hnb12 := NB247_248.out; have hnc12 := NB248_247.out; have hcz13_0 : w8.cell? ⟨gb247, 0, none⟩ = some (.int .u32 a1_0) := cz BK247; have hcz13_1 : w8.cell? ⟨gb247, 1, none⟩ = some (.int .u32 a1_1) := cz BK247; have hfz13_0 := blk_frozen BK247.out 0; have hfz13_1 := blk_frozen BK247.out 1) | ((with_reducible refine gate_dst (N := 12) rfl ?_); refine Kd.R_lit k24 _ 24 ?hg (N := 12) ?hd (xs := ([(⟨a0_0, a0_1⟩ : S24), (⟨a1_0, a1_1⟩ : S24)] : List (S24))) (inner := [.int .u32 a0_0, .int .u32 a0_1, .int .u32 a1_0, .int .u32 a1_1]) (ok := fun _ => True) (okp := fun _ => True) ?hr ?hp (fun _ hk => hk) trivial (Below.refl _ _) (Nat.le_refl _) (by simp) ?_; (case hd => rfl); (case hg => rfl); (case hr => first | (go_simp; done) | (go_simp; rfl)); (case hp => exact (Reps.c2 (show Kd.M k24 _ _ _ (⟨a0_0, a0_1⟩ : S24) [.int .u32 a0_0, .int .u32 a0_1] from (k24_mkM _ _ _ (⟨a0_0, a0_1⟩ : S24) )) (Reps.c2 (show Kd.M k24 _ _ _ (⟨a1_0, a1_1⟩ : S24) [.int .u32 a1_0, .int .u32 a1_1] from (k24_mkM _ _ _ (⟨a1_0, a1_1⟩ : S24) )) (Reps.none _ _)))); intro v250 w14 ho15 hb hg_ hnew_; clear hg_ hnew_; (first | rw [← Ny249.out] at ho15 | (simp only [Int.reduceToNat] at ho15; rw [← Ny249.out] at ho15)); have HO251 := am (Kd.R_lower (Kd.R_newB (Kd.R_newB (Kd.R_newB ho15 (g := gb246) (o := .cells #[.int .u32 a0_0, .int .u32 a0_1] 24 (0, 0)) (bkA BK246)) (g := gb247) (o := .cells #[.int .u32 a1_0, .int .u32 a1_1] 24 (0, 0)) (bkA BK247)) (g := gb248) (o := .cells #[.int .u32 0, .int .u32 0] 24 (0, 0)) (bkA BK248)) (below_size (hbA HB))); replace BK246 := bbA BK246 hb; replace BK247 := bbA BK247 hb; replace BK248 := bbA BK248 hb; replace HB := bsA HB hb; clear hb ho15; obtain ⟨Ao16, co16, eo16⟩ := Kd.R_slice HO251.out; subst eo16) | (go_at_call 36; (with_reducible refine (interval_may.calls k _ _ y249 true _ ?side1 ?side2 A3.out).mono ?_); (case side1 => repeat (first | exact (Kd.R_reads' HO251.out).2.2 | (with_reducible refine Kd.C_alloc ?_ _) | (with_reducible refine Kd.C_drewN ?_ _) | (with_reducible refine Kd.C_drew ?_))); (case side2 => exact (Kd.R_reads' HO251.out).2.1); rintro e w17 ⟨rfl, hb⟩; replace HO251 := am (Kd.R_below (by (with_reducible repeat (first | apply Kd.R_alloc | apply Kd.R_drewN | apply Kd.R_drew)); exact HO251.out) hb); replace BK246 := bbA BK246 hb; replace BK247 := bbA BK247 hb; replace BK248 := bbA BK248 hb; replace HB := bsA HB hb; (try clear hb); (try clear hb2); (try clear hk); (try clear hi); have hcz18_0 : w17.cell? ⟨gb246, 0, none⟩ = some (.int .u32 a0_0) := cz BK246; have hcz18_1 : w17.cell? ⟨gb246, 1, none⟩ = some (.int .u32 a0_1) := cz BK246; have hfz18_0 := blk_frozen BK246.out 0; have hfz18_1 := blk_frozen BK246.out 1) | ((with_reducible refine gate_dst (N := 5) rfl ?_); refine bxE 5 #[.int .u32 0, .int .u32 0] 24 ?_; intro gb255 hg w19 hbox hb; have BK255 := am (hbox); have GW255 := gwA hg HB; have GE255 := gwA hg HB; have NB246_255 := ltA hg BK246; have NB255_246 := gtA hg BK246; have NB247_255 := ltA hg BK247; have NB255_247 := gtA hg BK247; have NB248_255 := ltA hg BK248; have NB255_248 := gtA hg BK248; replace HO251 := am (Kd.R_below (Kd.R_elderB (by (with_reducible repeat (first | apply Kd.R_alloc | apply Kd.R_drewN | apply Kd.R_drew)); exact HO251.out) gb255 (Nat.le_of_eq hg.symm)) hb); replace BK246 := bbA BK246 hb; replace BK247 := bbA BK247 hb; replace BK248 := bbA BK248 hb; replace HB := bsA HB hb; clear hb hbox hg; have hnb20 := NB255_246.out; have hnc20 := NB246_255.out; have hnb21 := NB255_247.out; have hnc21 := NB247_255.out; have hnb22 := NB255_248.out; have hnc22 := NB248_255.out; have hcz23_0 : w19.cell? ⟨gb255, 0, none⟩ = some (.int .u32 0) := cz BK255; have hcz23_1 : w19.cell? ⟨gb255, 1, none⟩ = some (.int .u32 0) := cz BK255; have hfz23_0 := blk_frozen BK255.out 0; have hfz23_1 := blk_frozen BK255.out 1; have hcz24_0 : w19.cell? ⟨gb247, 0, none⟩ = some (.int .u32 a1_0) := cz BK247; have hcz24_1 : w19.cell? ⟨gb247, 1, none⟩ = some (.int .u32 a1_1) := cz BK247; have hfz24_0 := blk_frozen BK247.out 0; have hfz24_1 := blk_frozen BK247.out 1; have hcz25_0 : w19.cell? ⟨gb246, 0, none⟩ = some (.int .u32 a0_0) := cz BK246; have hcz25_1 : w19.cell? ⟨gb246, 1, none⟩ = some (.int .u32 a0_1) := cz BK246; have hfz25_0 := blk_frozen BK246.out 0; have hfz25_1 := blk_frozen BK246.out 1)); go_upto_if 21 with (first | ((with_reducible refine gate_dst (N := 2) rfl ?_); refine bxE 2 #[.int .u32 a0_0, .int .u32 a0_1] 24 ?_; intro gb246 hg w6 hbox hb; have BK246 := am (hbox); have GW246 := gwA hg HB; have GE246 := gwA hg HB; replace HB := bsA HB hb; clear hb hbox hg) | ((with_reducible refine gate_dst (N := 3) rfl ?_); refine bxE 3 #[.int .u32 a1_0, .int .u32 a1_1] 24 ?_; intro gb247 hg w7 hbox hb; have BK247 := am (hbox); have GW247 := gwA hg HB; have GE247 := gwA hg HB; have NB246_247 := ltA hg BK246; have NB247_246 := gtA hg BK246; replace BK246 := bbA BK246 hb; replace HB := bsA HB hb; clear hb hbox hg) | ((with_reducible refine gate_dst (N := 4) rfl ?_); refine bxE 4 #[.int .u32 0, .int .u32 0] 24 ?_; intro gb248 hg w8 hbox hb; have BK248 := am (hbox); have GW248 := gwA hg HB; have GE248 := gwA hg HB; have NB246_248 := ltA hg BK246; have NB248_246 := gtA hg BK246; have NB247_248 := ltA hg BK247; have NB248_247 := gtA hg BK247; replace BK246 := bbA BK246 hb; replace BK247 := bbA BK247 hb; replace HB := bsA HB hb; clear hb hbox hg; have hnb9 := NB246_247.out; have hnc9 := NB247_246.out; have hnb10 := NB246_248.out; have hnc10 := NB248_246.out; have hcz11_0 : w8.cell? ⟨gb246, 0, none⟩ = some (.int .u32 a0_0) := cz BK246; have hcz11_1 : w8.cell? ⟨gb246, 1, none⟩ = some (.int .u32 a0_1) := cz BK246; have hfz11_0 := blk_frozen BK246.out 0; have hfz11_1 := blk_frozen BK246.out 1; have hnb12 := NB247_248.out; have hnc12 := NB248_247.out; have hcz13_0 : w8.cell? ⟨gb247, 0, none⟩ = some (.int .u32 a1_0) := cz BK247; have hcz13_1 : w8.cell? ⟨gb247, 1, none⟩ = some (.int .u32 a1_1) := cz BK247; have hfz13_0 := blk_frozen BK247.out 0; have hfz13_1 := blk_frozen BK247.out 1) | ((with_reducible refine gate_dst (N := 12) rfl ?_); refine Kd.R_lit k24 _ 24 ?hg (N := 12) ?hd (xs := ([(⟨a0_0, a0_1⟩ : S24), (⟨a1_0, a1_1⟩ : S24)] : List (S24))) (inner := [.int .u32 a0_0, .int .u32 a0_1, .int .u32 a1_0, .int .u32 a1_1]) (ok := fun _ => True) (okp := fun _ => True) ?hr ?hp (fun _ hk => hk) trivial (Below.refl _ _) (Nat.le_refl _) (by simp) ?_; (case hd => rfl); (case hg => rfl); (case hr => first | (go_simp; done) | (go_simp; rfl)); (case hp => exact (Reps.c2 (show Kd.M k24 _ _ _ (⟨a0_0, a0_1⟩ : S24) [.int .u32 a0_0, .int .u32 a0_1] from (k24_mkM _ _ _ (⟨a0_0, a0_1⟩ : S24) )) (Reps.c2 (show Kd.M k24 _ _ _ (⟨a1_0, a1_1⟩ : S24) [.int .u32 a1_0, .int .u32 a1_1] from (k24_mkM _ _ _ (⟨a1_0, a1_1⟩ : S24) )) (Reps.none _ _)))); intro v250 w14 ho15 hb hg_ hnew_; clear hg_ hnew_; (first | rw [← Ny249.out] at ho15 | (simp only [Int.reduceToNat] at ho15; rw [← Ny249.out] at ho15)); have HO251 := am (Kd.R_lower (Kd.R_newB (Kd.R_newB (Kd.R_newB ho15 (g := gb246) (o := .cells #[.int .u32 a0_0, .int .u32 a0_1] 24 (0, 0)) (bkA BK246)) (g := gb247) (o := .cells #[.int .u32 a1_0, .int .u32 a1_1] 24 (0, 0)) (bkA BK247)) (g := gb248) (o := .cells #[.int .u32 0, .int .u32 0] 24 (0, 0)) (bkA BK248)) (below_size (hbA HB))); replace BK246 := bbA BK246 hb; replace BK247 := bbA BK247 hb; replace BK248 := bbA BK248 hb; replace HB := bsA HB hb; clear hb ho15; obtain ⟨Ao16, co16, eo16⟩ := Kd.R_slice HO251.out; subst eo16) | (go_at_call 36; (with_reducible refine (interval_may.calls k _ _ y249 true _ ?side1 ?side2 A3.out).mono ?_); (case side1 => repeat (first | exact (Kd.R_reads' HO251.out).2.2 | (with_reducible refine Kd.C_alloc ?_ _) | (with_reducible refine Kd.C_drewN ?_ _) | (with_reducible refine Kd.C_drew ?_))); (case side2 => exact (Kd.R_reads' HO251.out).2.1); rintro e w17 ⟨rfl, hb⟩; replace HO251 := am (Kd.R_below (by (with_reducible repeat (first | apply Kd.R_alloc | apply Kd.R_drewN | apply Kd.R_drew)); exact HO251.out) hb); replace BK246 := bbA BK246 hb; replace BK247 := bbA BK247 hb; replace BK248 := bbA BK248 hb; replace HB := bsA HB hb; (try clear hb); (try clear hb2); (try clear hk); (try clear hi); have hcz18_0 : w17.cell? ⟨gb246, 0, none⟩ = some (.int .u32 a0_0) := cz BK246; have hcz18_1 : w17.cell? ⟨gb246, 1, none⟩ = some (.int .u32 a0_1) := cz BK246; have hfz18_0 := blk_frozen BK246.out 0; have hfz18_1 := blk_frozen BK246.out 1) | ((with_reducible refine gate_dst (N := 5) rfl ?_); refine bxE 5 #[.int .u32 0, .int .u32 0] 24 ?_; intro gb255 hg w19 hbox hb; have BK255 := am (hbox); have GW255 := gwA hg HB; have GE255 := gwA hg HB; have NB246_255 := ltA hg BK246; have NB255_246 := gtA hg BK246; have NB247_255 := ltA hg BK247; have NB255_247 := gtA hg BK247; have NB248_255 := ltA hg BK248; have NB255_248 := gtA hg BK248; replace HO251 := am (Kd.R_below (Kd.R_elderB (by (with_reducible repeat (first | apply Kd.R_alloc | apply Kd.R_drewN | apply Kd.R_drew)); exact HO251.out) gb255 (Nat.le_of_eq hg.symm)) hb); replace BK246 := bbA BK246 hb; replace BK247 := bbA BK247 hb; replace BK248 := bbA BK248 hb; replace HB := bsA HB hb; clear hb hbox hg; have hnb20 := NB255_246.out; have hnc20 := NB246_255.out; have hnb21 := NB255_247.out; have hnc21 := NB247_255.out; have hnb22 := NB255_248.out; have hnc22 := NB248_255.out; have hcz23_0 : w19.cell? ⟨gb255, 0, none⟩ = some (.int .u32 0) := cz BK255; have hcz23_1 : w19.cell? ⟨gb255, 1, none⟩ = some (.int .u32 0) := cz BK255; have hfz23_0 := blk_frozen BK255.out 0; have hfz23_1 := blk_frozen BK255.out 1; have hcz24_0 : w19.cell? ⟨gb247, 0, none⟩ = some (.int .u32 a1_0) := cz BK247; have hcz24_1 : w19.cell? ⟨gb247, 1, none⟩ = some (.int .u32 a1_1) := cz BK247; have hfz24_0 := blk_frozen BK247.out 0; have hfz24_1 := blk_frozen BK247.out 1; have hcz25_0 : w19.cell? ⟨gb246, 0, none⟩ = some (.int .u32 a0_0) := cz BK246; have hcz25_1 : w19.cell? ⟨gb246, 1, none⟩ = some (.int .u32 a0_1) := cz BK246; have hfz25_0 := blk_frozen BK246.out 0; have hfz25_1 := blk_frozen BK246.out 1)))
    (try simp only [Act.put, s1, s2, s3])
    go_cut [] (fun wc => ∃ (kq : Nat) (x256000_4 : Int), Aside0 (interval_Widen.j1 kq a0_0 a0_1 a1_0 a1_1 x256000_4 a0_1 = some (r1, r2)) ∧ Aside0 (kq ≤ k) ∧ Aside0 (wc.heap[gb246]? = some (.cells #[.int .u32 a0_0, .int .u32 a0_1] 24 (0, 0))) ∧ Aside0 (wc.heap[gb247]? = some (.cells #[.int .u32 a1_0, .int .u32 a1_1] 24 (0, 0))) ∧ Aside0 (wc.heap[gb248]? = some (.cells #[.int .u32 0, .int .u32 0] 24 (0, 0))) ∧ Aside0 (wc.heap[gb255]? = some (.cells #[.int .u32 x256000_4, .int .u32 a0_1] 24 (0, 0))) ∧ Aside0 (Below w.heap.size w wc))
    case first => as_aux_lemma =>
      have H := HC5.out
      clear HC5; by_cases c26 : a1_0 < a0_0
      · rw [if_pos c26] at H; have c26b0 : decide (a1_0 < a0_0) = true := decide_eq_true c26; clear c26; (first | rw [c26b0] | (simp only [i64_w, i32_w]; rw [c26b0]) | skip)
        replace H := Option.bind_eq_some_iff.mp H; obtain ⟨t256, A270, H⟩ := H; replace H : (interval_Widen.l0 k t256 (t256.length : Int) 0 a0_0 a0_1 a1_0 a1_1 a0_0 a0_1) = some (r1, r2) := H; have A27 := am A270; clear A270; have H' := am H; clear H
        go_wp2_with (first | (go_at_call 38; (with_reducible refine (interval_steps.calls  t256 _ A27.out).mono ?_); rintro e w28 ⟨v257, rfl, ho0, hb⟩; have HO258 := am (Kd.R_lower ho0 (below_size (hbA HB))); replace HO251 := am (Kd.R_below (by (with_reducible repeat (first | apply Kd.R_alloc | apply Kd.R_drewN | apply Kd.R_drew)); exact (Kd.R_mono (Kd.R_far (p := ⟨gb255, 1, none⟩) (Kd.R_far (p := ⟨gb255, 0, none⟩) (Kd.R_mono HO251.out (fun k_ hk => (⟨hk, hk.2⟩ : _ ∧ k_ ≠ gb255))) (fun _ hk => hk.2) (.int .u32 a0_0)) (fun _ hk => hk.2) (.int .u32 a0_1)) (fun _ h_ => h_.1))) hb); replace BK246 := am (blk_below (g := gb246) (o := .cells #[.int .u32 a0_0, .int .u32 a0_1] 24 (0, 0)) (by refine bkT ?_; refine blk_far ?_ NB246_255.out _; refine bkT ?_; refine blk_far ?_ NB246_255.out _; refine bkT ?_; exact BK246.out) hb); replace BK247 := am (blk_below (g := gb247) (o := .cells #[.int .u32 a1_0, .int .u32 a1_1] 24 (0, 0)) (by refine bkT ?_; refine blk_far ?_ NB247_255.out _; refine bkT ?_; refine blk_far ?_ NB247_255.out _; refine bkT ?_; exact BK247.out) hb); replace BK248 := am (blk_below (g := gb248) (o := .cells #[.int .u32 0, .int .u32 0] 24 (0, 0)) (by refine bkT ?_; refine blk_far ?_ NB248_255.out _; refine bkT ?_; refine blk_far ?_ NB248_255.out _; refine bkT ?_; exact BK248.out) hb); replace BK255 := am (blk_below (g := gb255) (o := .cells #[.int .u32 a0_0, .int .u32 a0_1] 24 (0, 0)) (by refine bkT ?_; refine blk_put (cs := #[.int .u32 a0_0, .int .u32 0]) ?_ 1 _ rfl; refine bkT ?_; refine blk_put (cs := #[.int .u32 0, .int .u32 0]) ?_ 0 _ rfl; refine bkT ?_; exact BK255.out) hb); replace HB := bsA HB hb; (try clear hb); (try clear hb2); (try clear hk); (try clear hi); (try clear ho0); obtain ⟨Ao29, co29, eo29⟩ := Kd.R_slice HO258.out; subst eo29))
        repeat (go_quiet (first | (go_at_call 38; (with_reducible refine (interval_steps.calls  t256 _ A27.out).mono ?_); rintro e w28 ⟨v257, rfl, ho0, hb⟩; have HO258 := am (Kd.R_lower ho0 (below_size (hbA HB))); replace HO251 := am (Kd.R_below (by (with_reducible repeat (first | apply Kd.R_alloc | apply Kd.R_drewN | apply Kd.R_drew)); exact (Kd.R_mono (Kd.R_far (p := ⟨gb255, 1, none⟩) (Kd.R_far (p := ⟨gb255, 0, none⟩) (Kd.R_mono HO251.out (fun k_ hk => (⟨hk, hk.2⟩ : _ ∧ k_ ≠ gb255))) (fun _ hk => hk.2) (.int .u32 a0_0)) (fun _ hk => hk.2) (.int .u32 a0_1)) (fun _ h_ => h_.1))) hb); replace BK246 := am (blk_below (g := gb246) (o := .cells #[.int .u32 a0_0, .int .u32 a0_1] 24 (0, 0)) (by refine bkT ?_; refine blk_far ?_ NB246_255.out _; refine bkT ?_; refine blk_far ?_ NB246_255.out _; refine bkT ?_; exact BK246.out) hb); replace BK247 := am (blk_below (g := gb247) (o := .cells #[.int .u32 a1_0, .int .u32 a1_1] 24 (0, 0)) (by refine bkT ?_; refine blk_far ?_ NB247_255.out _; refine bkT ?_; refine blk_far ?_ NB247_255.out _; refine bkT ?_; exact BK247.out) hb); replace BK248 := am (blk_below (g := gb248) (o := .cells #[.int .u32 0, .int .u32 0] 24 (0, 0)) (by refine bkT ?_; refine blk_far ?_ NB248_255.out _; refine bkT ?_; refine blk_far ?_ NB248_255.out _; refine bkT ?_; exact BK248.out) hb); replace BK255 := am (blk_below (g := gb255) (o := .cells #[.int .u32 a0_0, .int .u32 a0_1] 24 (0, 0)) (by refine bkT ?_; refine blk_put (cs := #[.int .u32 a0_0, .int .u32 0]) ?_ 1 _ rfl; refine bkT ?_; refine blk_put (cs := #[.int .u32 0, .int .u32 0]) ?_ 0 _ rfl; refine bkT ?_; exact BK255.out) hb); replace HB := bsA HB hb; (try clear hb); (try clear hb2); (try clear hk); (try clear hi); (try clear ho0); obtain ⟨Ao29, co29, eo29⟩ := Kd.R_slice HO258.out; subst eo29)); try go_wp2_with (first | (go_at_call 38; (with_reducible refine (interval_steps.calls  t256 _ A27.out).mono ?_); rintro e w28 ⟨v257, rfl, ho0, hb⟩; have HO258 := am (Kd.R_lower ho0 (below_size (hbA HB))); replace HO251 := am (Kd.R_below (by (with_reducible repeat (first | apply Kd.R_alloc | apply Kd.R_drewN | apply Kd.R_drew)); exact (Kd.R_mono (Kd.R_far (p := ⟨gb255, 1, none⟩) (Kd.R_far (p := ⟨gb255, 0, none⟩) (Kd.R_mono HO251.out (fun k_ hk => (⟨hk, hk.2⟩ : _ ∧ k_ ≠ gb255))) (fun _ hk => hk.2) (.int .u32 a0_0)) (fun _ hk => hk.2) (.int .u32 a0_1)) (fun _ h_ => h_.1))) hb); replace BK246 := am (blk_below (g := gb246) (o := .cells #[.int .u32 a0_0, .int .u32 a0_1] 24 (0, 0)) (by refine bkT ?_; refine blk_far ?_ NB246_255.out _; refine bkT ?_; refine blk_far ?_ NB246_255.out _; refine bkT ?_; exact BK246.out) hb); replace BK247 := am (blk_below (g := gb247) (o := .cells #[.int .u32 a1_0, .int .u32 a1_1] 24 (0, 0)) (by refine bkT ?_; refine blk_far ?_ NB247_255.out _; refine bkT ?_; refine blk_far ?_ NB247_255.out _; refine bkT ?_; exact BK247.out) hb); replace BK248 := am (blk_below (g := gb248) (o := .cells #[.int .u32 0, .int .u32 0] 24 (0, 0)) (by refine bkT ?_; refine blk_far ?_ NB248_255.out _; refine bkT ?_; refine blk_far ?_ NB248_255.out _; refine bkT ?_; exact BK248.out) hb); replace BK255 := am (blk_below (g := gb255) (o := .cells #[.int .u32 a0_0, .int .u32 a0_1] 24 (0, 0)) (by refine bkT ?_; refine blk_put (cs := #[.int .u32 a0_0, .int .u32 0]) ?_ 1 _ rfl; refine bkT ?_; refine blk_put (cs := #[.int .u32 0, .int .u32 0]) ?_ 0 _ rfl; refine bkT ?_; exact BK255.out) hb); replace HB := bsA HB hb; (try clear hb); (try clear hb2); (try clear hk); (try clear hi); (try clear ho0); obtain ⟨Ao29, co29, eo29⟩ := Kd.R_slice HO258.out; subst eo29)))
        go_loopg [24] k (fun kq v24 w' => ∃ (x24_1 : Int) (x256000_1 : Int), v24 = .int .i64 x24_1 ∧ Aside0 (interval_Widen.l0 kq t256 (t256.length : Int) x24_1 a0_0 a0_1 a1_0 a1_1 x256000_1 a0_1 = some (r1, r2)) ∧ Aside0 (kq ≤ k) ∧ Aside0 (Kd.R (Kd.int .u32) 22 w' w.heap.size (fun _ => True) (.slice Ao29 t256.length co29) t256) ∧ Aside0 (w'.heap[gb246]? = some (.cells #[.int .u32 a0_0, .int .u32 a0_1] 24 (0, 0))) ∧ Aside0 (w'.heap[gb247]? = some (.cells #[.int .u32 a1_0, .int .u32 a1_1] 24 (0, 0))) ∧ Aside0 (w'.heap[gb248]? = some (.cells #[.int .u32 0, .int .u32 0] 24 (0, 0))) ∧ Aside0 (w'.heap[gb255]? = some (.cells #[.int .u32 x256000_1, .int .u32 a0_1] 24 (0, 0))) ∧ Aside0 (Below w.heap.size w w'))
        case atStart => exact ⟨(0), (a0_0), (by first | rfl | (simp; done) | (simp [*]; done) | (congr 1; omega) | (congr 2; omega) | (rw [Int.tdiv_eq_ediv_of_nonneg (by decide)]; done)), H', ⟨Nat.le_refl _⟩, ⟨by (with_reducible repeat (first | apply Kd.R_alloc | apply Kd.R_drewN | apply Kd.R_drew)); exact HO258.out⟩, ⟨by refine bkT ?_; exact BK246.out⟩, ⟨by refine bkT ?_; exact BK247.out⟩, ⟨by refine bkT ?_; exact BK248.out⟩, ⟨by refine bkT ?_; exact BK255.out⟩, ⟨by repeat (first | (with_reducible first | exact HB.out | apply below_alloc | apply pw_below_drewN | apply below_drew1 | refine below_set ?_ GE246.out | refine below_set ?_ GE247.out | refine below_set ?_ GE248.out | refine below_set ?_ GE255.out) | exact HB.out)⟩⟩
        case round =>
          clear H'
          try clear c1
          try clear c2
          try clear p2
          try clear c4
          try clear c9
          try clear c10
          try clear c12
          try clear c15
          try clear c20
          try clear c21
          try clear c22
          try clear c26
          try clear c26b0
          try clear hcz11_0
          try clear hcz11_1
          try clear hcz13_0
          try clear hcz13_1
          try clear hcz18_0
          try clear hcz18_1
          try clear hcz23_0
          try clear hcz23_1
          try clear hcz24_0
          try clear hcz24_1
          try clear hcz25_0
          try clear hcz25_1
          try clear hfz11_0
          try clear hfz11_1
          try clear hfz13_0
          try clear hfz13_1
          try clear hfz18_0
          try clear hfz18_1
          try clear hfz23_0
          try clear hfz23_1
          try clear hfz24_0
          try clear hfz24_1
          try clear hfz25_0
          try clear hfz25_1
          obtain ⟨x24_1, x256000_1, rfl, HA, HK1, HO_22, BK246, BK247, BK248, BK255, HB⟩ := hrel
          cases gk with
          | zero => exact absurd HA.out (by simp [interval_Widen.l0])
          | succ k1 =>
            have H := HA.out
            clear HA; simp only [interval_Widen.l0] at H
            by_cases c30 : x24_1 < (t256.length : Int)
            · rw [if_pos c30] at H; have c30b0 : decide (x24_1 < (t256.length : Int)) = true := decide_eq_true c30; clear c30; by_cases c31 : 0 ≤ x24_1
              · rw [if_pos c31] at H; have c31b0 : decide (0 ≤ x24_1) = true := decide_eq_true c31; clear c31; by_cases c32 : x24_1 < (t256.length : Int)
                · rw [if_pos c32] at H; have c32b0 : decide (x24_1 < (t256.length : Int)) = true := decide_eq_true c32; clear c32; by_cases c33 : (rd t256 x24_1) ≤ a1_0
                  · rw [if_pos c33] at H; have c33b0 : decide ((rd t256 x24_1) ≤ a1_0) = true := decide_eq_true c33; clear c33; have H' := am H; clear H; have p259 : 0 ≤ (x24_1 : Int) := of_decide_eq_true (by first | (with_reducible assumption) | assumption)
                    have q259 : x24_1 < (t256.length : Int) := of_decide_eq_true (by first | (with_reducible assumption) | assumption)
                    obtain ⟨ad259, e259, hx259_0⟩ := Kd.at_int (Kd.R_reads' HO_22.out).2.2 x24_1 p259 q259
                    cases e259
                    replace p259 := eq_true p259
                    replace q259 := eq_true q259
                    have hnb34 := NB247_246.out
                    have hnc34 := NB246_247.out
                    have hnb35 := NB247_248.out
                    have hnc35 := NB248_247.out
                    have hnb36 := NB247_255.out
                    have hnc36 := NB255_247.out
                    have hcz37_0 : wr.cell? ⟨gb247, 0, none⟩ = some (.int .u32 a1_0) := cz BK247
                    have hcz37_1 : wr.cell? ⟨gb247, 1, none⟩ = some (.int .u32 a1_1) := cz BK247
                    have hfz37_0 := blk_frozen BK247.out 0
                    have hfz37_1 := blk_frozen BK247.out 1
                    have hnb38 := NB255_246.out
                    have hnc38 := NB246_255.out
                    have hnb39 := NB255_248.out
                    have hnc39 := NB248_255.out
                    have hcz40_0 : wr.cell? ⟨gb255, 0, none⟩ = some (.int .u32 x256000_1) := cz BK255
                    have hcz40_1 : wr.cell? ⟨gb255, 1, none⟩ = some (.int .u32 a0_1) := cz BK255
                    have hfz40_0 := blk_frozen BK255.out 0
                    have hfz40_1 := blk_frozen BK255.out 1
                    go_wp2
                    repeat (go_quiet (fail); try go_wp2)
                    go_roundg k1
                    case measure => have := HK1.out; omega
                    case rel => exact ⟨(wrap64 (x24_1 + 1)), (rd t256 x24_1), (by first | rfl | (simp; done) | (simp [*]; done) | (congr 1; omega) | (congr 2; omega) | (rw [Int.tdiv_eq_ediv_of_nonneg (by decide)]; done)), H', ⟨by have := HK1.out; omega⟩, ⟨by (with_reducible repeat (first | apply Kd.R_alloc | apply Kd.R_drewN | apply Kd.R_drew)); exact Kd.R_mono (Kd.R_far (p := ⟨gb255, 0, none⟩) (Kd.R_types HO_22.out BK255.out (by decide)) (fun _ hk => hk.2) (.int .u32 (rd t256 x24_1))) (fun _ hk => trivial)⟩, ⟨by refine bkT ?_; refine blk_far ?_ NB246_255.out _; refine bkT ?_; exact BK246.out⟩, ⟨by refine bkT ?_; refine blk_far ?_ NB247_255.out _; refine bkT ?_; exact BK247.out⟩, ⟨by refine bkT ?_; refine blk_far ?_ NB248_255.out _; refine bkT ?_; exact BK248.out⟩, ⟨by refine bkT ?_; refine blk_put (cs := #[.int .u32 x256000_1, .int .u32 a0_1]) ?_ 0 _ rfl; refine bkT ?_; exact BK255.out⟩, ⟨by repeat (first | (with_reducible first | exact HB.out | apply below_alloc | apply pw_below_drewN | apply below_drew1 | refine below_set ?_ GE246.out | refine below_set ?_ GE247.out | refine below_set ?_ GE248.out | refine below_set ?_ GE255.out) | exact HB.out)⟩⟩
                  rw [if_neg c33] at H; have c33b0 : decide ((rd t256 x24_1) ≤ a1_0) = false := decide_eq_false c33; clear c33; have H' := am H; clear H; have p259 : 0 ≤ (x24_1 : Int) := of_decide_eq_true (by first | (with_reducible assumption) | assumption)
                  have q259 : x24_1 < (t256.length : Int) := of_decide_eq_true (by first | (with_reducible assumption) | assumption)
                  obtain ⟨ad259, e259, hx259_0⟩ := Kd.at_int (Kd.R_reads' HO_22.out).2.2 x24_1 p259 q259
                  cases e259
                  replace p259 := eq_true p259
                  replace q259 := eq_true q259
                  have hnb41 := NB247_246.out
                  have hnc41 := NB246_247.out
                  have hnb42 := NB247_248.out
                  have hnc42 := NB248_247.out
                  have hnb43 := NB247_255.out
                  have hnc43 := NB255_247.out
                  have hcz44_0 : wr.cell? ⟨gb247, 0, none⟩ = some (.int .u32 a1_0) := cz BK247
                  have hcz44_1 : wr.cell? ⟨gb247, 1, none⟩ = some (.int .u32 a1_1) := cz BK247
                  have hfz44_0 := blk_frozen BK247.out 0
                  have hfz44_1 := blk_frozen BK247.out 1
                  go_wp2
                  repeat (go_quiet (fail); try go_wp2)
                  go_roundg k1
                  case measure => have := HK1.out; omega
                  case rel => exact ⟨(wrap64 (x24_1 + 1)), (x256000_1), (by first | rfl | (simp; done) | (simp [*]; done) | (congr 1; omega) | (congr 2; omega) | (rw [Int.tdiv_eq_ediv_of_nonneg (by decide)]; done)), H', ⟨by have := HK1.out; omega⟩, ⟨by (with_reducible repeat (first | apply Kd.R_alloc | apply Kd.R_drewN | apply Kd.R_drew)); exact HO_22.out⟩, ⟨by refine bkT ?_; exact BK246.out⟩, ⟨by refine bkT ?_; exact BK247.out⟩, ⟨by refine bkT ?_; exact BK248.out⟩, ⟨by refine bkT ?_; exact BK255.out⟩, ⟨by repeat (first | (with_reducible first | exact HB.out | apply below_alloc | apply pw_below_drewN | apply below_drew1 | refine below_set ?_ GE246.out | refine below_set ?_ GE247.out | refine below_set ?_ GE248.out | refine below_set ?_ GE255.out) | exact HB.out)⟩⟩
                rw [if_neg c32] at H; exact absurd H (by simp)
              rw [if_neg c31] at H; exact absurd H (by simp)
            rw [if_neg c30] at H; have c30b0 : decide (x24_1 < (t256.length : Int)) = false := decide_eq_false c30; clear c30; have H' := am H; clear H
            go_wp2
            repeat (go_quiet (fail); try go_wp2)
            go_meet
            case rel => exact ⟨_, (x256000_1), H', ⟨by have := HK1.out; first | omega | exact Nat.le_refl _⟩, ⟨by refine bkT ?_; exact BK246.out⟩, ⟨by refine bkT ?_; exact BK247.out⟩, ⟨by refine bkT ?_; exact BK248.out⟩, ⟨by refine bkT ?_; exact BK255.out⟩, ⟨by repeat (first | (with_reducible first | exact HB.out | apply below_alloc | apply pw_below_drewN | apply below_drew1 | refine below_set ?_ GE246.out | refine below_set ?_ GE247.out | refine below_set ?_ GE248.out | refine below_set ?_ GE255.out) | exact HB.out)⟩⟩
      rw [if_neg c26] at H; have c26b0 : decide (a1_0 < a0_0) = false := decide_eq_false c26; clear c26; (first | rw [c26b0] | (simp only [i64_w, i32_w]; rw [c26b0]) | skip)
      have H' := am H; clear H
      go_wp2
      repeat (go_quiet (fail); try go_wp2)
      go_meet
      case rel => exact ⟨_, (a0_0), H', ⟨by first | omega | exact Nat.le_refl _⟩, ⟨by refine bkT ?_; refine blk_far ?_ NB246_255.out _; refine bkT ?_; refine blk_far ?_ NB246_255.out _; refine bkT ?_; exact BK246.out⟩, ⟨by refine bkT ?_; refine blk_far ?_ NB247_255.out _; refine bkT ?_; refine blk_far ?_ NB247_255.out _; refine bkT ?_; exact BK247.out⟩, ⟨by refine bkT ?_; refine blk_far ?_ NB248_255.out _; refine bkT ?_; refine blk_far ?_ NB248_255.out _; refine bkT ?_; exact BK248.out⟩, ⟨by refine bkT ?_; refine blk_put (cs := #[.int .u32 a0_0, .int .u32 0]) ?_ 1 _ rfl; refine bkT ?_; refine blk_put (cs := #[.int .u32 0, .int .u32 0]) ?_ 0 _ rfl; refine bkT ?_; exact BK255.out⟩, ⟨by repeat (first | (with_reducible first | exact HB.out | apply below_alloc | apply pw_below_drewN | apply below_drew1 | refine below_set ?_ GE246.out | refine below_set ?_ GE247.out | refine below_set ?_ GE248.out | refine below_set ?_ GE255.out) | exact HB.out)⟩⟩
    case rest => as_aux_lemma =>
      clear HC5
      try clear c1
      try clear c2
      try clear p2
      try clear q2
      try clear hx2
      try clear c3
      try clear c4
      try clear p6
      try clear c9
      try clear c10
      try clear c12
      try clear c15
      try clear c20
      try clear c21
      try clear c22
      try clear p25
      try clear q25
      try clear hx25
      try clear c26
      try clear c26b0
      try clear c30
      try clear c30b0
      try clear c31
      try clear c31b0
      try clear c32
      try clear c32b0
      try clear c33
      try clear c33b0
      try clear c34
      try clear c35
      try clear c36
      try clear c38
      try clear c39
      try clear c41
      try clear c42
      try clear c43
      try clear hcz11_0
      try clear hcz11_1
      try clear hcz13_0
      try clear hcz13_1
      try clear hcz18_0
      try clear hcz18_1
      try clear hcz23_0
      try clear hcz23_1
      try clear hcz24_0
      try clear hcz24_1
      try clear hcz25_0
      try clear hcz25_1
      try clear hcz37_0
      try clear hcz37_1
      try clear hcz40_0
      try clear hcz40_1
      try clear hcz44_0
      try clear hcz44_1
      try clear hfz11_0
      try clear hfz11_1
      try clear hfz13_0
      try clear hfz13_1
      try clear hfz18_0
      try clear hfz18_1
      try clear hfz23_0
      try clear hfz23_1
      try clear hfz24_0
      try clear hfz24_1
      try clear hfz25_0
      try clear hfz25_1
      try clear hfz37_0
      try clear hfz37_1
      try clear hfz40_0
      try clear hfz40_1
      try clear hfz44_0
      try clear hfz44_1
      try clear hx259_0
      try clear p2
      try clear p259
      try clear q259
      obtain ⟨kq, x256000_4, HA, HJ4, BK246, BK247, BK248, BK255, HB⟩ := hcut
      cases kq with
      | zero => exact absurd HA.out (by simp [interval_Widen.j1])
      | succ kj4 =>
        have H := HA.out
        clear HA; simp only [interval_Widen.j1] at H
        by_cases c45 : a1_1 > a0_1
        · rw [if_pos c45] at H; have c45b0 : decide (a0_1 < a1_1) = true := decide_eq_true c45; clear c45; replace H := Option.bind_eq_some_iff.mp H; obtain ⟨t260, A460, H⟩ := H; replace H : (interval_Widen.l1 kj4 t260 (wrap64 ((t260.length : Int) - 1)) a1_0 a1_1 x256000_4 a0_1) = some (r1, r2) := H; have A46 := am A460; clear A460; have H' := am H; clear H; have hnb47 := NB247_246.out
          have hnc47 := NB246_247.out
          have hnb48 := NB247_248.out
          have hnc48 := NB248_247.out
          have hnb49 := NB247_255.out
          have hnc49 := NB255_247.out
          have hcz50_0 : wc.cell? ⟨gb247, 0, none⟩ = some (.int .u32 a1_0) := cz BK247
          have hcz50_1 : wc.cell? ⟨gb247, 1, none⟩ = some (.int .u32 a1_1) := cz BK247
          have hfz50_0 := blk_frozen BK247.out 0
          have hfz50_1 := blk_frozen BK247.out 1
          have hnb51 := NB246_248.out
          have hnc51 := NB248_246.out
          have hnb52 := NB246_255.out
          have hnc52 := NB255_246.out
          have hcz53_0 : wc.cell? ⟨gb246, 0, none⟩ = some (.int .u32 a0_0) := cz BK246
          have hcz53_1 : wc.cell? ⟨gb246, 1, none⟩ = some (.int .u32 a0_1) := cz BK246
          have hfz53_0 := blk_frozen BK246.out 0
          have hfz53_1 := blk_frozen BK246.out 1
          go_wp2_with (first | (go_at_call 38; (with_reducible refine (interval_steps.calls  t260 _ A46.out).mono ?_); rintro e w54 ⟨v261, rfl, ho0, hb⟩; have HO262 := am (Kd.R_lower ho0 (below_size (hbA HB))); replace BK246 := bbA BK246 hb; replace BK247 := bbA BK247 hb; replace BK248 := bbA BK248 hb; replace BK255 := bbA BK255 hb; replace HB := bsA HB hb; (try clear hb); (try clear hb2); (try clear hk); (try clear hi); (try clear ho0); obtain ⟨Ao55, co55, eo55⟩ := Kd.R_slice HO262.out; subst eo55))
          repeat (go_quiet (first | (go_at_call 38; (with_reducible refine (interval_steps.calls  t260 _ A46.out).mono ?_); rintro e w54 ⟨v261, rfl, ho0, hb⟩; have HO262 := am (Kd.R_lower ho0 (below_size (hbA HB))); replace BK246 := bbA BK246 hb; replace BK247 := bbA BK247 hb; replace BK248 := bbA BK248 hb; replace BK255 := bbA BK255 hb; replace HB := bsA HB hb; (try clear hb); (try clear hb2); (try clear hk); (try clear hi); (try clear ho0); obtain ⟨Ao55, co55, eo55⟩ := Kd.R_slice HO262.out; subst eo55)); try go_wp2_with (first | (go_at_call 38; (with_reducible refine (interval_steps.calls  t260 _ A46.out).mono ?_); rintro e w54 ⟨v261, rfl, ho0, hb⟩; have HO262 := am (Kd.R_lower ho0 (below_size (hbA HB))); replace BK246 := bbA BK246 hb; replace BK247 := bbA BK247 hb; replace BK248 := bbA BK248 hb; replace BK255 := bbA BK255 hb; replace HB := bsA HB hb; (try clear hb); (try clear hb2); (try clear hk); (try clear hi); (try clear ho0); obtain ⟨Ao55, co55, eo55⟩ := Kd.R_slice HO262.out; subst eo55)))
          go_loopg [9] kj4 (fun kq v9 w' => ∃ (x9_2 : Int) (x256001_2 : Int), v9 = .int .i64 x9_2 ∧ Aside0 (interval_Widen.l1 kq t260 x9_2 a1_0 a1_1 x256000_4 x256001_2 = some (r1, r2)) ∧ Aside0 (kq ≤ kj4) ∧ Aside0 (Kd.R (Kd.int .u32) 22 w' w.heap.size (fun _ => True) (.slice Ao55 t260.length co55) t260) ∧ Aside0 (w'.heap[gb246]? = some (.cells #[.int .u32 a0_0, .int .u32 a0_1] 24 (0, 0))) ∧ Aside0 (w'.heap[gb247]? = some (.cells #[.int .u32 a1_0, .int .u32 a1_1] 24 (0, 0))) ∧ Aside0 (w'.heap[gb248]? = some (.cells #[.int .u32 0, .int .u32 0] 24 (0, 0))) ∧ Aside0 (w'.heap[gb255]? = some (.cells #[.int .u32 x256000_4, .int .u32 x256001_2] 24 (0, 0))) ∧ Aside0 (Below w.heap.size w w'))
          case atStart => exact ⟨(wrap64 ((t260.length : Int) - 1)), (a0_1), (by first | rfl | (simp; done) | (simp [*]; done) | (congr 1; omega) | (congr 2; omega) | (rw [Int.tdiv_eq_ediv_of_nonneg (by decide)]; done)), H', ⟨Nat.le_refl _⟩, ⟨by (with_reducible repeat (first | apply Kd.R_alloc | apply Kd.R_drewN | apply Kd.R_drew)); exact HO262.out⟩, ⟨by refine bkT ?_; exact BK246.out⟩, ⟨by refine bkT ?_; exact BK247.out⟩, ⟨by refine bkT ?_; exact BK248.out⟩, ⟨by refine bkT ?_; exact BK255.out⟩, ⟨by repeat (first | (with_reducible first | exact HB.out | apply below_alloc | apply pw_below_drewN | apply below_drew1 | refine below_set ?_ GE246.out | refine below_set ?_ GE247.out | refine below_set ?_ GE248.out | refine below_set ?_ GE255.out) | exact HB.out)⟩⟩
          case round =>
            clear H'
            try clear c1
            try clear c2
            try clear p2
            try clear q2
            try clear hx2
            try clear c3
            try clear c4
            try clear c5
            try clear p6
            try clear c9
            try clear c10
            try clear c12
            try clear c15
            try clear c20
            try clear c21
            try clear c22
            try clear p25
            try clear q25
            try clear hx25
            try clear c26
            try clear c26b0
            try clear c30
            try clear c30b0
            try clear c31
            try clear c31b0
            try clear c32
            try clear c32b0
            try clear c33
            try clear c33b0
            try clear c34
            try clear c35
            try clear c36
            try clear c38
            try clear c39
            try clear c41
            try clear c42
            try clear c43
            try clear c45
            try clear c45b0
            try clear c47
            try clear c48
            try clear c49
            try clear c51
            try clear c52
            try clear hcz11_0
            try clear hcz11_1
            try clear hcz13_0
            try clear hcz13_1
            try clear hcz18_0
            try clear hcz18_1
            try clear hcz23_0
            try clear hcz23_1
            try clear hcz24_0
            try clear hcz24_1
            try clear hcz25_0
            try clear hcz25_1
            try clear hcz37_0
            try clear hcz37_1
            try clear hcz40_0
            try clear hcz40_1
            try clear hcz44_0
            try clear hcz44_1
            try clear hcz50_0
            try clear hcz50_1
            try clear hcz53_0
            try clear hcz53_1
            try clear hfz11_0
            try clear hfz11_1
            try clear hfz13_0
            try clear hfz13_1
            try clear hfz18_0
            try clear hfz18_1
            try clear hfz23_0
            try clear hfz23_1
            try clear hfz24_0
            try clear hfz24_1
            try clear hfz25_0
            try clear hfz25_1
            try clear hfz37_0
            try clear hfz37_1
            try clear hfz40_0
            try clear hfz40_1
            try clear hfz44_0
            try clear hfz44_1
            try clear hfz50_0
            try clear hfz50_1
            try clear hfz53_0
            try clear hfz53_1
            try clear hx259_0
            try clear p2
            try clear p25
            try clear p259
            try clear p6
            try clear q2
            try clear q25
            try clear q259
            obtain ⟨x9_2, x256001_2, rfl, HA, HK2, HO_8, BK246, BK247, BK248, BK255, HB⟩ := hrel
            cases gk with
            | zero => exact absurd HA.out (by simp [interval_Widen.l1])
            | succ k2 =>
              have H := HA.out
              clear HA; simp only [interval_Widen.l1] at H
              by_cases c56 : x9_2 ≥ 0
              · rw [if_pos c56] at H; have c56b0 : decide (0 ≤ x9_2) = true := decide_eq_true c56; clear c56; by_cases c57 : 0 ≤ x9_2
                · rw [if_pos c57] at H; have c57b0 : decide (0 ≤ x9_2) = true := decide_eq_true c57; clear c57; by_cases c58 : x9_2 < (t260.length : Int)
                  · rw [if_pos c58] at H; have c58b0 : decide (x9_2 < (t260.length : Int)) = true := decide_eq_true c58; clear c58; by_cases c59 : (rd t260 x9_2) ≥ a1_1
                    · rw [if_pos c59] at H; have c59b0 : decide (a1_1 ≤ (rd t260 x9_2)) = true := decide_eq_true c59; clear c59; have H' := am H; clear H; have p263 : 0 ≤ (x9_2 : Int) := of_decide_eq_true (by first | (with_reducible assumption) | assumption)
                      have q263 : x9_2 < (t260.length : Int) := of_decide_eq_true (by first | (with_reducible assumption) | assumption)
                      obtain ⟨ad263, e263, hx263_0⟩ := Kd.at_int (Kd.R_reads' HO_8.out).2.2 x9_2 p263 q263
                      cases e263
                      replace p263 := eq_true p263
                      replace q263 := eq_true q263
                      have hnb60 := NB247_246.out
                      have hnc60 := NB246_247.out
                      have hnb61 := NB247_248.out
                      have hnc61 := NB248_247.out
                      have hnb62 := NB247_255.out
                      have hnc62 := NB255_247.out
                      have hcz63_0 : wr.cell? ⟨gb247, 0, none⟩ = some (.int .u32 a1_0) := cz BK247
                      have hcz63_1 : wr.cell? ⟨gb247, 1, none⟩ = some (.int .u32 a1_1) := cz BK247
                      have hfz63_0 := blk_frozen BK247.out 0
                      have hfz63_1 := blk_frozen BK247.out 1
                      have p264 : 0 ≤ (x9_2 : Int) := of_decide_eq_true (by first | (with_reducible assumption) | assumption)
                      have q264 : x9_2 < (t260.length : Int) := of_decide_eq_true (by first | (with_reducible assumption) | assumption)
                      obtain ⟨ad264, e264, hx264_0⟩ := Kd.at_int (Kd.R_reads' HO_8.out).2.2 x9_2 p264 q264
                      obtain rfl : ad263 = ad264 := (by injection e264)
                      replace p264 := eq_true p264
                      replace q264 := eq_true q264
                      have hnb64 := NB255_246.out
                      have hnc64 := NB246_255.out
                      have hnb65 := NB255_248.out
                      have hnc65 := NB248_255.out
                      have hcz66_0 : wr.cell? ⟨gb255, 0, none⟩ = some (.int .u32 x256000_4) := cz BK255
                      have hcz66_1 : wr.cell? ⟨gb255, 1, none⟩ = some (.int .u32 x256001_2) := cz BK255
                      have hfz66_0 := blk_frozen BK255.out 0
                      have hfz66_1 := blk_frozen BK255.out 1
                      go_wp2
                      repeat (go_quiet (fail); try go_wp2)
                      go_roundg k2
                      case measure => have := HJ4.out; have := HK2.out; omega
                      case rel => exact ⟨(wrap64 (x9_2 - 1)), (rd t260 x9_2), (by first | rfl | (simp; done) | (simp [*]; done) | (congr 1; omega) | (congr 2; omega) | (rw [Int.tdiv_eq_ediv_of_nonneg (by decide)]; done)), H', ⟨by have := HJ4.out; have := HK2.out; omega⟩, ⟨by (with_reducible repeat (first | apply Kd.R_alloc | apply Kd.R_drewN | apply Kd.R_drew)); exact Kd.R_mono (Kd.R_far (p := ⟨gb255, 1, none⟩) (Kd.R_types HO_8.out BK255.out (by decide)) (fun _ hk => hk.2) (.int .u32 (rd t260 x9_2))) (fun _ hk => trivial)⟩, ⟨by refine bkT ?_; refine blk_far ?_ NB246_255.out _; refine bkT ?_; exact BK246.out⟩, ⟨by refine bkT ?_; refine blk_far ?_ NB247_255.out _; refine bkT ?_; exact BK247.out⟩, ⟨by refine bkT ?_; refine blk_far ?_ NB248_255.out _; refine bkT ?_; exact BK248.out⟩, ⟨by refine bkT ?_; refine blk_put (cs := #[.int .u32 x256000_4, .int .u32 x256001_2]) ?_ 1 _ rfl; refine bkT ?_; exact BK255.out⟩, ⟨by repeat (first | (with_reducible first | exact HB.out | apply below_alloc | apply pw_below_drewN | apply below_drew1 | refine below_set ?_ GE246.out | refine below_set ?_ GE247.out | refine below_set ?_ GE248.out | refine below_set ?_ GE255.out) | exact HB.out)⟩⟩
                    rw [if_neg c59] at H; have c59b0 : decide (a1_1 ≤ (rd t260 x9_2)) = false := decide_eq_false c59; clear c59; have H' := am H; clear H; have p263 : 0 ≤ (x9_2 : Int) := of_decide_eq_true (by first | (with_reducible assumption) | assumption)
                    have q263 : x9_2 < (t260.length : Int) := of_decide_eq_true (by first | (with_reducible assumption) | assumption)
                    obtain ⟨ad263, e263, hx263_0⟩ := Kd.at_int (Kd.R_reads' HO_8.out).2.2 x9_2 p263 q263
                    cases e263
                    replace p263 := eq_true p263
                    replace q263 := eq_true q263
                    have hnb67 := NB247_246.out
                    have hnc67 := NB246_247.out
                    have hnb68 := NB247_248.out
                    have hnc68 := NB248_247.out
                    have hnb69 := NB247_255.out
                    have hnc69 := NB255_247.out
                    have hcz70_0 : wr.cell? ⟨gb247, 0, none⟩ = some (.int .u32 a1_0) := cz BK247
                    have hcz70_1 : wr.cell? ⟨gb247, 1, none⟩ = some (.int .u32 a1_1) := cz BK247
                    have hfz70_0 := blk_frozen BK247.out 0
                    have hfz70_1 := blk_frozen BK247.out 1
                    go_wp2
                    repeat (go_quiet (fail); try go_wp2)
                    go_roundg k2
                    case measure => have := HJ4.out; have := HK2.out; omega
                    case rel => exact ⟨(wrap64 (x9_2 - 1)), (x256001_2), (by first | rfl | (simp; done) | (simp [*]; done) | (congr 1; omega) | (congr 2; omega) | (rw [Int.tdiv_eq_ediv_of_nonneg (by decide)]; done)), H', ⟨by have := HJ4.out; have := HK2.out; omega⟩, ⟨by (with_reducible repeat (first | apply Kd.R_alloc | apply Kd.R_drewN | apply Kd.R_drew)); exact HO_8.out⟩, ⟨by refine bkT ?_; exact BK246.out⟩, ⟨by refine bkT ?_; exact BK247.out⟩, ⟨by refine bkT ?_; exact BK248.out⟩, ⟨by refine bkT ?_; exact BK255.out⟩, ⟨by repeat (first | (with_reducible first | exact HB.out | apply below_alloc | apply pw_below_drewN | apply below_drew1 | refine below_set ?_ GE246.out | refine below_set ?_ GE247.out | refine below_set ?_ GE248.out | refine below_set ?_ GE255.out) | exact HB.out)⟩⟩
                  rw [if_neg c58] at H; exact absurd H (by simp)
                rw [if_neg c57] at H; exact absurd H (by simp)
              rw [if_neg c56] at H; have c56b0 : decide (0 ≤ x9_2) = false := decide_eq_false c56; clear c56; simp only [Option.some.injEq, Prod.mk.injEq] at H; obtain ⟨rfl, rfl⟩ := H; have hnb71 := NB255_246.out
              have hnc71 := NB246_255.out
              have hnb72 := NB255_247.out
              have hnc72 := NB247_255.out
              have hnb73 := NB255_248.out
              have hnc73 := NB248_255.out
              have hcz74_0 : wr.cell? ⟨gb255, 0, none⟩ = some (.int .u32 x256000_4) := cz BK255
              have hcz74_1 : wr.cell? ⟨gb255, 1, none⟩ = some (.int .u32 x256001_2) := cz BK255
              have hfz74_0 := blk_frozen BK255.out 0
              have hfz74_1 := blk_frozen BK255.out 1
              have hnb75 := NB248_246.out
              have hnc75 := NB246_248.out
              have hnb76 := NB248_247.out
              have hnc76 := NB247_248.out
              have hcz77_0 : wr.cell? ⟨gb248, 0, none⟩ = some (.int .u32 0) := cz BK248
              have hcz77_1 : wr.cell? ⟨gb248, 1, none⟩ = some (.int .u32 0) := cz BK248
              have hfz77_0 := blk_frozen BK248.out 0
              have hfz77_1 := blk_frozen BK248.out 1
              go_wp2
              repeat (go_quiet (fail); try go_wp2)
              refine bodyPost_ret (results_cell_row rfl _ _ gb248 24 #[.int .u32 x256000_4, .int .u32 x256001_2] (0, 0) _ rfl (by refine bkT ?_; refine blk_put (cs := #[.int .u32 x256000_4, .int .u32 0]) ?_ 1 _ rfl; refine bkT ?_; refine blk_put (cs := #[.int .u32 0, .int .u32 0]) ?_ 0 _ rfl; refine bkT ?_; exact BK248.out) Try.underlying24 rfl (by kernel_rfl)) rfl ?_
              exact ⟨by first | rfl | (simp [errW_none, errW_some] <;> rfl) | (simp [*, errW_none, errW_some] <;> rfl), hbA HB⟩
        rw [if_neg c45] at H; have c45b0 : decide (a0_1 < a1_1) = false := decide_eq_false c45; clear c45; simp only [Option.some.injEq, Prod.mk.injEq] at H; obtain ⟨rfl, rfl⟩ := H; have hnb78 := NB247_246.out
        have hnc78 := NB246_247.out
        have hnb79 := NB247_248.out
        have hnc79 := NB248_247.out
        have hnb80 := NB247_255.out
        have hnc80 := NB255_247.out
        have hcz81_0 : wc.cell? ⟨gb247, 0, none⟩ = some (.int .u32 a1_0) := cz BK247
        have hcz81_1 : wc.cell? ⟨gb247, 1, none⟩ = some (.int .u32 a1_1) := cz BK247
        have hfz81_0 := blk_frozen BK247.out 0
        have hfz81_1 := blk_frozen BK247.out 1
        have hnb82 := NB246_248.out
        have hnc82 := NB248_246.out
        have hnb83 := NB246_255.out
        have hnc83 := NB255_246.out
        have hcz84_0 : wc.cell? ⟨gb246, 0, none⟩ = some (.int .u32 a0_0) := cz BK246
        have hcz84_1 : wc.cell? ⟨gb246, 1, none⟩ = some (.int .u32 a0_1) := cz BK246
        have hfz84_0 := blk_frozen BK246.out 0
        have hfz84_1 := blk_frozen BK246.out 1
        have hnb85 := NB255_248.out
        have hnc85 := NB248_255.out
        have hcz86_0 : wc.cell? ⟨gb255, 0, none⟩ = some (.int .u32 x256000_4) := cz BK255
        have hcz86_1 : wc.cell? ⟨gb255, 1, none⟩ = some (.int .u32 a0_1) := cz BK255
        have hfz86_0 := blk_frozen BK255.out 0
        have hfz86_1 := blk_frozen BK255.out 1
        have hcz87_0 : wc.cell? ⟨gb248, 0, none⟩ = some (.int .u32 0) := cz BK248
        have hcz87_1 : wc.cell? ⟨gb248, 1, none⟩ = some (.int .u32 0) := cz BK248
        have hfz87_0 := blk_frozen BK248.out 0
        have hfz87_1 := blk_frozen BK248.out 1
        go_wp2
        repeat (go_quiet (fail); try go_wp2)
        refine bodyPost_ret (results_cell_row rfl _ _ gb248 24 #[.int .u32 x256000_4, .int .u32 a0_1] (0, 0) _ rfl (by refine bkT ?_; refine blk_put (cs := #[.int .u32 x256000_4, .int .u32 0]) ?_ 1 _ rfl; refine bkT ?_; refine blk_put (cs := #[.int .u32 0, .int .u32 0]) ?_ 0 _ rfl; refine bkT ?_; exact BK248.out) Try.underlying24 rfl (by kernel_rfl)) rfl ?_
        exact ⟨by first | rfl | (simp [errW_none, errW_some] <;> rfl) | (simp [*, errW_none, errW_some] <;> rfl), hbA HB⟩
  replace c4 := Bool.eq_false_iff.mpr c4; subst c4; have H1 : ((interval_All.f).bind fun bt253 => (some (bt253.1, bt253.2))) = some (r1, r2) := by rw [if_neg (show ¬ (false = true) by decide)] at H; exact H
  clear H; have H := H1; clear H1; replace H := Option.bind_eq_some_iff.mp H; obtain ⟨⟨t253, t254⟩, A880, H⟩ := H; replace H : (some (t253, t254)) = some (r1, r2) := H; have A88 := am A880; clear A880; simp only [Option.some.injEq, Prod.mk.injEq] at H; obtain ⟨rfl, rfl⟩ := H
  go_enter Try.func15, Try.ntmps15
  go_wp2_with (first | ((with_reducible refine gate_dst (N := 2) rfl ?_); refine bxE 2 #[.int .u32 a0_0, .int .u32 a0_1] 24 ?_; intro gb246 hg w89 hbox hb; have BK246 := am (hbox); have GW246 := gwA hg HB; have GE246 := gwA hg HB; replace HB := bsA HB hb; clear hb hbox hg) | ((with_reducible refine gate_dst (N := 3) rfl ?_); refine bxE 3 #[.int .u32 a1_0, .int .u32 a1_1] 24 ?_; intro gb247 hg w90 hbox hb; have BK247 := am (hbox); have GW247 := gwA hg HB; have GE247 := gwA hg HB; have NB246_247 := ltA hg BK246; have NB247_246 := gtA hg BK246; replace BK246 := bbA BK246 hb; replace HB := bsA HB hb; clear hb hbox hg) | ((with_reducible refine gate_dst (N := 4) rfl ?_); refine bxE 4 #[.int .u32 0, .int .u32 0] 24 ?_; intro gb248 hg w91 hbox hb; have BK248 := am (hbox); have GW248 := gwA hg HB; have GE248 := gwA hg HB; have NB246_248 := ltA hg BK246; have NB248_246 := gtA hg BK246; have NB247_248 := ltA hg BK247; have NB248_247 := gtA hg BK247; replace BK246 := bbA BK246 hb; replace BK247 := bbA BK247 hb; replace HB := bsA HB hb; clear hb hbox hg; have hnb92 := NB246_247.out; have hnc92 := NB247_246.out; have hnb93 := NB246_248.out; have hnc93 := NB248_246.out; have hcz94_0 : w91.cell? ⟨gb246, 0, none⟩ = some (.int .u32 a0_0) := cz BK246; have hcz94_1 : w91.cell? ⟨gb246, 1, none⟩ = some (.int .u32 a0_1) := cz BK246; have hfz94_0 := blk_frozen BK246.out 0; have hfz94_1 := blk_frozen BK246.out 1; have hnb95 := NB247_248.out; have hnc95 := NB248_247.out; have hcz96_0 : w91.cell? ⟨gb247, 0, none⟩ = some (.int .u32 a1_0) := cz BK247; have hcz96_1 : w91.cell? ⟨gb247, 1, none⟩ = some (.int .u32 a1_1) := cz BK247; have hfz96_0 := blk_frozen BK247.out 0; have hfz96_1 := blk_frozen BK247.out 1) | ((with_reducible refine gate_dst (N := 12) rfl ?_); refine Kd.R_lit k24 _ 24 ?hg (N := 12) ?hd (xs := ([(⟨a0_0, a0_1⟩ : S24), (⟨a1_0, a1_1⟩ : S24)] : List (S24))) (inner := [.int .u32 a0_0, .int .u32 a0_1, .int .u32 a1_0, .int .u32 a1_1]) (ok := fun _ => True) (okp := fun _ => True) ?hr ?hp (fun _ hk => hk) trivial (Below.refl _ _) (Nat.le_refl _) (by simp) ?_; (case hd => rfl); (case hg => rfl); (case hr => first | (go_simp; done) | (go_simp; rfl)); (case hp => exact (Reps.c2 (show Kd.M k24 _ _ _ (⟨a0_0, a0_1⟩ : S24) [.int .u32 a0_0, .int .u32 a0_1] from (k24_mkM _ _ _ (⟨a0_0, a0_1⟩ : S24) )) (Reps.c2 (show Kd.M k24 _ _ _ (⟨a1_0, a1_1⟩ : S24) [.int .u32 a1_0, .int .u32 a1_1] from (k24_mkM _ _ _ (⟨a1_0, a1_1⟩ : S24) )) (Reps.none _ _)))); intro v250 w97 ho98 hb hg_ hnew_; clear hg_ hnew_; (first | rw [← Ny249.out] at ho98 | (simp only [Int.reduceToNat] at ho98; rw [← Ny249.out] at ho98)); have HO251 := am (Kd.R_lower (Kd.R_newB (Kd.R_newB (Kd.R_newB ho98 (g := gb246) (o := .cells #[.int .u32 a0_0, .int .u32 a0_1] 24 (0, 0)) (bkA BK246)) (g := gb247) (o := .cells #[.int .u32 a1_0, .int .u32 a1_1] 24 (0, 0)) (bkA BK247)) (g := gb248) (o := .cells #[.int .u32 0, .int .u32 0] 24 (0, 0)) (bkA BK248)) (below_size (hbA HB))); replace BK246 := bbA BK246 hb; replace BK247 := bbA BK247 hb; replace BK248 := bbA BK248 hb; replace HB := bsA HB hb; clear hb ho98; obtain ⟨Ao99, co99, eo99⟩ := Kd.R_slice HO251.out; subst eo99) | (go_at_call 36; (with_reducible refine (interval_may.calls k _ _ y249 false _ ?side1 ?side2 A3.out).mono ?_); (case side1 => repeat (first | exact (Kd.R_reads' HO251.out).2.2 | (with_reducible refine Kd.C_alloc ?_ _) | (with_reducible refine Kd.C_drewN ?_ _) | (with_reducible refine Kd.C_drew ?_))); (case side2 => exact (Kd.R_reads' HO251.out).2.1); rintro e w100 ⟨rfl, hb⟩; replace HO251 := am (Kd.R_below (by (with_reducible repeat (first | apply Kd.R_alloc | apply Kd.R_drewN | apply Kd.R_drew)); exact HO251.out) hb); replace BK246 := bbA BK246 hb; replace BK247 := bbA BK247 hb; replace BK248 := bbA BK248 hb; replace HB := bsA HB hb; (try clear hb); (try clear hb2); (try clear hk); (try clear hi)) | (go_at_call 19; (with_reducible refine (interval_All.calls  t253 t254 _ A88.out).mono ?_); rintro e w101 ⟨rfl, hb⟩; replace HO251 := am (Kd.R_below (by (with_reducible repeat (first | apply Kd.R_alloc | apply Kd.R_drewN | apply Kd.R_drew)); exact HO251.out) hb); replace BK246 := bbA BK246 hb; replace BK247 := bbA BK247 hb; replace BK248 := bbA BK248 hb; replace HB := bsA HB hb; (try clear hb); (try clear hb2); (try clear hk); (try clear hi); have hcz102_0 : w101.cell? ⟨gb248, 0, none⟩ = some (.int .u32 0) := cz BK248; have hcz102_1 : w101.cell? ⟨gb248, 1, none⟩ = some (.int .u32 0) := cz BK248; have hfz102_0 := blk_frozen BK248.out 0; have hfz102_1 := blk_frozen BK248.out 1))
  repeat (go_quiet (first | ((with_reducible refine gate_dst (N := 2) rfl ?_); refine bxE 2 #[.int .u32 a0_0, .int .u32 a0_1] 24 ?_; intro gb246 hg w89 hbox hb; have BK246 := am (hbox); have GW246 := gwA hg HB; have GE246 := gwA hg HB; replace HB := bsA HB hb; clear hb hbox hg) | ((with_reducible refine gate_dst (N := 3) rfl ?_); refine bxE 3 #[.int .u32 a1_0, .int .u32 a1_1] 24 ?_; intro gb247 hg w90 hbox hb; have BK247 := am (hbox); have GW247 := gwA hg HB; have GE247 := gwA hg HB; have NB246_247 := ltA hg BK246; have NB247_246 := gtA hg BK246; replace BK246 := bbA BK246 hb; replace HB := bsA HB hb; clear hb hbox hg) | ((with_reducible refine gate_dst (N := 4) rfl ?_); refine bxE 4 #[.int .u32 0, .int .u32 0] 24 ?_; intro gb248 hg w91 hbox hb; have BK248 := am (hbox); have GW248 := gwA hg HB; have GE248 := gwA hg HB; have NB246_248 := ltA hg BK246; have NB248_246 := gtA hg BK246; have NB247_248 := ltA hg BK247; have NB248_247 := gtA hg BK247; replace BK246 := bbA BK246 hb; replace BK247 := bbA BK247 hb; replace HB := bsA HB hb; clear hb hbox hg; have hnb92 := NB246_247.out; have hnc92 := NB247_246.out; have hnb93 := NB246_248.out; have hnc93 := NB248_246.out; have hcz94_0 : w91.cell? ⟨gb246, 0, none⟩ = some (.int .u32 a0_0) := cz BK246; have hcz94_1 : w91.cell? ⟨gb246, 1, none⟩ = some (.int .u32 a0_1) := cz BK246; have hfz94_0 := blk_frozen BK246.out 0; have hfz94_1 := blk_frozen BK246.out 1; have hnb95 := NB247_248.out; have hnc95 := NB248_247.out; have hcz96_0 : w91.cell? ⟨gb247, 0, none⟩ = some (.int .u32 a1_0) := cz BK247; have hcz96_1 : w91.cell? ⟨gb247, 1, none⟩ = some (.int .u32 a1_1) := cz BK247; have hfz96_0 := blk_frozen BK247.out 0; have hfz96_1 := blk_frozen BK247.out 1) | ((with_reducible refine gate_dst (N := 12) rfl ?_); refine Kd.R_lit k24 _ 24 ?hg (N := 12) ?hd (xs := ([(⟨a0_0, a0_1⟩ : S24), (⟨a1_0, a1_1⟩ : S24)] : List (S24))) (inner := [.int .u32 a0_0, .int .u32 a0_1, .int .u32 a1_0, .int .u32 a1_1]) (ok := fun _ => True) (okp := fun _ => True) ?hr ?hp (fun _ hk => hk) trivial (Below.refl _ _) (Nat.le_refl _) (by simp) ?_; (case hd => rfl); (case hg => rfl); (case hr => first | (go_simp; done) | (go_simp; rfl)); (case hp => exact (Reps.c2 (show Kd.M k24 _ _ _ (⟨a0_0, a0_1⟩ : S24) [.int .u32 a0_0, .int .u32 a0_1] from (k24_mkM _ _ _ (⟨a0_0, a0_1⟩ : S24) )) (Reps.c2 (show Kd.M k24 _ _ _ (⟨a1_0, a1_1⟩ : S24) [.int .u32 a1_0, .int .u32 a1_1] from (k24_mkM _ _ _ (⟨a1_0, a1_1⟩ : S24) )) (Reps.none _ _)))); intro v250 w97 ho98 hb hg_ hnew_; clear hg_ hnew_; (first | rw [← Ny249.out] at ho98 | (simp only [Int.reduceToNat] at ho98; rw [← Ny249.out] at ho98)); have HO251 := am (Kd.R_lower (Kd.R_newB (Kd.R_newB (Kd.R_newB ho98 (g := gb246) (o := .cells #[.int .u32 a0_0, .int .u32 a0_1] 24 (0, 0)) (bkA BK246)) (g := gb247) (o := .cells #[.int .u32 a1_0, .int .u32 a1_1] 24 (0, 0)) (bkA BK247)) (g := gb248) (o := .cells #[.int .u32 0, .int .u32 0] 24 (0, 0)) (bkA BK248)) (below_size (hbA HB))); replace BK246 := bbA BK246 hb; replace BK247 := bbA BK247 hb; replace BK248 := bbA BK248 hb; replace HB := bsA HB hb; clear hb ho98; obtain ⟨Ao99, co99, eo99⟩ := Kd.R_slice HO251.out; subst eo99) | (go_at_call 36; (with_reducible refine (interval_may.calls k _ _ y249 false _ ?side1 ?side2 A3.out).mono ?_); (case side1 => repeat (first | exact (Kd.R_reads' HO251.out).2.2 | (with_reducible refine Kd.C_alloc ?_ _) | (with_reducible refine Kd.C_drewN ?_ _) | (with_reducible refine Kd.C_drew ?_))); (case side2 => exact (Kd.R_reads' HO251.out).2.1); rintro e w100 ⟨rfl, hb⟩; replace HO251 := am (Kd.R_below (by (with_reducible repeat (first | apply Kd.R_alloc | apply Kd.R_drewN | apply Kd.R_drew)); exact HO251.out) hb); replace BK246 := bbA BK246 hb; replace BK247 := bbA BK247 hb; replace BK248 := bbA BK248 hb; replace HB := bsA HB hb; (try clear hb); (try clear hb2); (try clear hk); (try clear hi)) | (go_at_call 19; (with_reducible refine (interval_All.calls  t253 t254 _ A88.out).mono ?_); rintro e w101 ⟨rfl, hb⟩; replace HO251 := am (Kd.R_below (by (with_reducible repeat (first | apply Kd.R_alloc | apply Kd.R_drewN | apply Kd.R_drew)); exact HO251.out) hb); replace BK246 := bbA BK246 hb; replace BK247 := bbA BK247 hb; replace BK248 := bbA BK248 hb; replace HB := bsA HB hb; (try clear hb); (try clear hb2); (try clear hk); (try clear hi); have hcz102_0 : w101.cell? ⟨gb248, 0, none⟩ = some (.int .u32 0) := cz BK248; have hcz102_1 : w101.cell? ⟨gb248, 1, none⟩ = some (.int .u32 0) := cz BK248; have hfz102_0 := blk_frozen BK248.out 0; have hfz102_1 := blk_frozen BK248.out 1)); try go_wp2_with (first | ((with_reducible refine gate_dst (N := 2) rfl ?_); refine bxE 2 #[.int .u32 a0_0, .int .u32 a0_1] 24 ?_; intro gb246 hg w89 hbox hb; have BK246 := am (hbox); have GW246 := gwA hg HB; have GE246 := gwA hg HB; replace HB := bsA HB hb; clear hb hbox hg) | ((with_reducible refine gate_dst (N := 3) rfl ?_); refine bxE 3 #[.int .u32 a1_0, .int .u32 a1_1] 24 ?_; intro gb247 hg w90 hbox hb; have BK247 := am (hbox); have GW247 := gwA hg HB; have GE247 := gwA hg HB; have NB246_247 := ltA hg BK246; have NB247_246 := gtA hg BK246; replace BK246 := bbA BK246 hb; replace HB := bsA HB hb; clear hb hbox hg) | ((with_reducible refine gate_dst (N := 4) rfl ?_); refine bxE 4 #[.int .u32 0, .int .u32 0] 24 ?_; intro gb248 hg w91 hbox hb; have BK248 := am (hbox); have GW248 := gwA hg HB; have GE248 := gwA hg HB; have NB246_248 := ltA hg BK246; have NB248_246 := gtA hg BK246; have NB247_248 := ltA hg BK247; have NB248_247 := gtA hg BK247; replace BK246 := bbA BK246 hb; replace BK247 := bbA BK247 hb; replace HB := bsA HB hb; clear hb hbox hg; have hnb92 := NB246_247.out; have hnc92 := NB247_246.out; have hnb93 := NB246_248.out; have hnc93 := NB248_246.out; have hcz94_0 : w91.cell? ⟨gb246, 0, none⟩ = some (.int .u32 a0_0) := cz BK246; have hcz94_1 : w91.cell? ⟨gb246, 1, none⟩ = some (.int .u32 a0_1) := cz BK246; have hfz94_0 := blk_frozen BK246.out 0; have hfz94_1 := blk_frozen BK246.out 1; have hnb95 := NB247_248.out; have hnc95 := NB248_247.out; have hcz96_0 : w91.cell? ⟨gb247, 0, none⟩ = some (.int .u32 a1_0) := cz BK247; have hcz96_1 : w91.cell? ⟨gb247, 1, none⟩ = some (.int .u32 a1_1) := cz BK247; have hfz96_0 := blk_frozen BK247.out 0; have hfz96_1 := blk_frozen BK247.out 1) | ((with_reducible refine gate_dst (N := 12) rfl ?_); refine Kd.R_lit k24 _ 24 ?hg (N := 12) ?hd (xs := ([(⟨a0_0, a0_1⟩ : S24), (⟨a1_0, a1_1⟩ : S24)] : List (S24))) (inner := [.int .u32 a0_0, .int .u32 a0_1, .int .u32 a1_0, .int .u32 a1_1]) (ok := fun _ => True) (okp := fun _ => True) ?hr ?hp (fun _ hk => hk) trivial (Below.refl _ _) (Nat.le_refl _) (by simp) ?_; (case hd => rfl); (case hg => rfl); (case hr => first | (go_simp; done) | (go_simp; rfl)); (case hp => exact (Reps.c2 (show Kd.M k24 _ _ _ (⟨a0_0, a0_1⟩ : S24) [.int .u32 a0_0, .int .u32 a0_1] from (k24_mkM _ _ _ (⟨a0_0, a0_1⟩ : S24) )) (Reps.c2 (show Kd.M k24 _ _ _ (⟨a1_0, a1_1⟩ : S24) [.int .u32 a1_0, .int .u32 a1_1] from (k24_mkM _ _ _ (⟨a1_0, a1_1⟩ : S24) )) (Reps.none _ _)))); intro v250 w97 ho98 hb hg_ hnew_; clear hg_ hnew_; (first | rw [← Ny249.out] at ho98 | (simp only [Int.reduceToNat] at ho98; rw [← Ny249.out] at ho98)); have HO251 := am (Kd.R_lower (Kd.R_newB (Kd.R_newB (Kd.R_newB ho98 (g := gb246) (o := .cells #[.int .u32 a0_0, .int .u32 a0_1] 24 (0, 0)) (bkA BK246)) (g := gb247) (o := .cells #[.int .u32 a1_0, .int .u32 a1_1] 24 (0, 0)) (bkA BK247)) (g := gb248) (o := .cells #[.int .u32 0, .int .u32 0] 24 (0, 0)) (bkA BK248)) (below_size (hbA HB))); replace BK246 := bbA BK246 hb; replace BK247 := bbA BK247 hb; replace BK248 := bbA BK248 hb; replace HB := bsA HB hb; clear hb ho98; obtain ⟨Ao99, co99, eo99⟩ := Kd.R_slice HO251.out; subst eo99) | (go_at_call 36; (with_reducible refine (interval_may.calls k _ _ y249 false _ ?side1 ?side2 A3.out).mono ?_); (case side1 => repeat (first | exact (Kd.R_reads' HO251.out).2.2 | (with_reducible refine Kd.C_alloc ?_ _) | (with_reducible refine Kd.C_drewN ?_ _) | (with_reducible refine Kd.C_drew ?_))); (case side2 => exact (Kd.R_reads' HO251.out).2.1); rintro e w100 ⟨rfl, hb⟩; replace HO251 := am (Kd.R_below (by (with_reducible repeat (first | apply Kd.R_alloc | apply Kd.R_drewN | apply Kd.R_drew)); exact HO251.out) hb); replace BK246 := bbA BK246 hb; replace BK247 := bbA BK247 hb; replace BK248 := bbA BK248 hb; replace HB := bsA HB hb; (try clear hb); (try clear hb2); (try clear hk); (try clear hi)) | (go_at_call 19; (with_reducible refine (interval_All.calls  t253 t254 _ A88.out).mono ?_); rintro e w101 ⟨rfl, hb⟩; replace HO251 := am (Kd.R_below (by (with_reducible repeat (first | apply Kd.R_alloc | apply Kd.R_drewN | apply Kd.R_drew)); exact HO251.out) hb); replace BK246 := bbA BK246 hb; replace BK247 := bbA BK247 hb; replace BK248 := bbA BK248 hb; replace HB := bsA HB hb; (try clear hb); (try clear hb2); (try clear hk); (try clear hi); have hcz102_0 : w101.cell? ⟨gb248, 0, none⟩ = some (.int .u32 0) := cz BK248; have hcz102_1 : w101.cell? ⟨gb248, 1, none⟩ = some (.int .u32 0) := cz BK248; have hfz102_0 := blk_frozen BK248.out 0; have hfz102_1 := blk_frozen BK248.out 1)))
  refine bodyPost_ret (results_cell_row rfl _ _ gb248 24 #[.int .u32 t253, .int .u32 t254] (0, 0) _ rfl (by refine bkT ?_; refine blk_put (cs := #[.int .u32 t253, .int .u32 0]) ?_ 1 _ rfl; refine bkT ?_; refine blk_put (cs := #[.int .u32 0, .int .u32 0]) ?_ 0 _ rfl; refine bkT ?_; exact BK248.out) Try.underlying24 rfl (by kernel_rfl)) rfl ?_
  exact ⟨by first | rfl | (simp [errW_none, errW_some] <;> rfl) | (simp [*, errW_none, errW_some] <;> rfl), hbA HB⟩

/-! ### lamplighterlaw19_r: function 16 -/
def lamplighterlaw19_r.f (a0 : Int) (a1 : Int) : Option (Int × Int) := some (a0, a1)
set_option maxHeartbeats 8000000 in
set_option maxRecDepth 100000 in
theorem lamplighterlaw19_r.calls (a0 : Int) (a1 : Int) (r1 : Int) (r2 : Int) (w : World) (h : lamplighterlaw19_r.f a0 a1 = some (r1, r2)) :
    Calls Try.prog 16 #[.int .u32 a0, .int .u32 a1] w fun e w' => e = .returned (.agg #[.int .u32 r1, .int .u32 r2]) ∧ Below w.heap.size w w' := by
  have hu24 := Try.underlying24
  have HB := am (Below.refl w.heap.size w)
  have H : (some (a0, a1)) = some (r1, r2) := h
  clear h; simp only [Option.some.injEq, Prod.mk.injEq] at H; obtain ⟨rfl, rfl⟩ := H
  go_enter Try.func16, Try.ntmps16
  go_wp2_with (first | ((with_reducible refine gate_dst (N := 4) rfl ?_); refine bxE 4 #[.int .u32 0, .int .u32 0] 24 ?_; intro gb265 hg w3 hbox hb; have BK265 := am (hbox); have GW265 := gwA hg HB; have GE265 := gwA hg HB; replace HB := bsA HB hb; clear hb hbox hg; have hcz4_0 : w3.cell? ⟨gb265, 0, none⟩ = some (.int .u32 0) := cz BK265; have hcz4_1 : w3.cell? ⟨gb265, 1, none⟩ = some (.int .u32 0) := cz BK265; have hfz4_0 := blk_frozen BK265.out 0; have hfz4_1 := blk_frozen BK265.out 1))
  refine bodyPost_ret (results_cell_row rfl _ _ gb265 24 #[.int .u32 a0, .int .u32 a1] (0, 0) _ rfl (by refine bkT ?_; refine blk_put (cs := #[.int .u32 a0, .int .u32 0]) ?_ 1 _ rfl; refine bkT ?_; refine blk_put (cs := #[.int .u32 0, .int .u32 0]) ?_ 0 _ rfl; refine bkT ?_; exact BK265.out) Try.underlying24 rfl (by kernel_rfl)) rfl ?_
  exact ⟨by first | rfl | (simp [errW_none, errW_some] <;> rfl) | (simp [*, errW_none, errW_some] <;> rfl), hbA HB⟩

end Go.Proofs.Ytmhmfnjbioplhaa.PIntervalCalls
