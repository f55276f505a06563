/- Contracts of Go functions of the given program: where NAME.f answers, the call returns that. Conditions: those each theorem names. -/
import Derived.Test.YtmhmfnjbioplhaaPIntervalCallsx0
import Derived.Test.YtmhmfnjbioplhaaPIntervalCallsx1
import Derived.Test.YtmhmfnjbioplhaaPIntervalCallsx7
namespace Go.Proofs.Ytmhmfnjbioplhaa.PIntervalCalls
open Go.RowKit Go.Proofs.YtmhmfnjbioplhaaW.PrintWords Go.Proofs.YtmhmfnjbioplhaaW.PrintLast Go.Proofs.YtmhmfnjbioplhaaW.PrintMore Go.Proofs.Ytmhmfnjbioplhaa.Help
attribute [local go_sem] max2_int min2_int max_two min_two max_three min_three max_four min_four   -- for this text's walks alone
set_option linter.unusedVariables false
set_option linter.unusedSimpArgs false

attribute [local go_sem high] eqA24
/-! ### lamplighterref19_fits: function 44 -/
def lamplighterref19_fits.f (a0 : Int) (a1 : Int) : Option (Int × Int) := if a0 ≥ 0 then (if a1 < 4294967296 then (some ((a0) % 4294967296, (a1) % 4294967296)) else (if a0 ≥ 4294967296 then (some ((a0) % 4294967296, (a1) % 4294967296)) else (if a1 < 0 then (some ((a0) % 4294967296, (a1) % 4294967296)) else ((lamplighterref19_All.f).bind fun bt405 => (some (bt405.1, bt405.2)))))) else (if a0 ≥ 4294967296 then (some ((a0) % 4294967296, (a1) % 4294967296)) else (if a1 < 0 then (some ((a0) % 4294967296, (a1) % 4294967296)) else ((lamplighterref19_All.f).bind fun bt407 => (some (bt407.1, bt407.2)))))
set_option maxHeartbeats 8000000 in
set_option maxRecDepth 100000 in
theorem lamplighterref19_fits.calls (a0 : Int) (a1 : Int) (r1 : Int) (r2 : Int) (w : World) (h : lamplighterref19_fits.f a0 a1 = some (r1, r2)) :
    Calls Try.prog 44 #[.int .i64 a0, .int .i64 a1] w fun e w' => e = .returned (.agg #[.int .u32 r1, .int .u32 r2]) ∧ Below w.heap.size w w' := by
  have hu24 := Try.underlying24
  have HB := am (Below.refl w.heap.size w)
  have H : (if a0 ≥ 0 then (if a1 < 4294967296 then (some ((a0) % 4294967296, (a1) % 4294967296)) else (if a0 ≥ 4294967296 then (some ((a0) % 4294967296, (a1) % 4294967296)) else (if a1 < 0 then (some ((a0) % 4294967296, (a1) % 4294967296)) else ((lamplighterref19_All.f).bind fun bt405 => (some (bt405.1, bt405.2)))))) else (if a0 ≥ 4294967296 then (some ((a0) % 4294967296, (a1) % 4294967296)) else (if a1 < 0 then (some ((a0) % 4294967296, (a1) % 4294967296)) else ((lamplighterref19_All.f).bind fun bt407 => (some (bt407.1, bt407.2)))))) = some (r1, r2) := h
  clear h; by_cases c3 : a0 ≥ 0
  · rw [if_pos c3] at H; have c3b0 : decide (0 ≤ a0) = true := decide_eq_true c3; clear c3; by_cases c4 : a1 < 4294967296
    · rw [if_pos c4] at H; have c4b0 : decide (a1 < 4294967296) = true := decide_eq_true c4; clear c4; simp only [Option.some.injEq, Prod.mk.injEq] at H; obtain ⟨rfl, rfl⟩ := H
      go_enter Try.func44, Try.ntmps44
      go_wp2_with (first | ((with_reducible refine gate_dst (N := 4) rfl ?_); refine bxE 4 #[.int .u32 0, .int .u32 0] 24 ?_; intro gb404 hg w5 hbox hb; have BK404 := am (hbox); have GW404 := gwA hg HB; have GE404 := gwA hg HB; replace HB := bsA HB hb; clear hb hbox hg; have hcz6_0 : w5.cell? ⟨gb404, 0, none⟩ = some (.int .u32 0) := cz BK404; have hcz6_1 : w5.cell? ⟨gb404, 1, none⟩ = some (.int .u32 0) := cz BK404; have hfz6_0 := blk_frozen BK404.out 0; have hfz6_1 := blk_frozen BK404.out 1))
      refine bodyPost_ret (results_cell_row rfl _ _ gb404 24 #[.int .u32 ((a0) % 4294967296), .int .u32 ((a1) % 4294967296)] (0, 0) _ rfl (by refine bkT ?_; refine blk_put (cs := #[.int .u32 ((a0) % 4294967296), .int .u32 0]) ?_ 1 _ rfl; refine bkT ?_; refine blk_put (cs := #[.int .u32 0, .int .u32 0]) ?_ 0 _ rfl; refine bkT ?_; exact BK404.out) Try.underlying24 rfl (by kernel_rfl)) rfl ?_
      exact ⟨by first | rfl | (simp [errW_none, errW_some] <;> rfl) | (simp [*, errW_none, errW_some] <;> rfl), hbA HB⟩
    rw [if_neg c4] at H; have c4b0 : decide (a1 < 4294967296) = false := decide_eq_false c4; clear c4; by_cases c7 : a0 ≥ 4294967296
    · rw [if_pos c7] at H; have c7b0 : decide (4294967296 ≤ a0) = true := decide_eq_true c7; clear c7; simp only [Option.some.injEq, Prod.mk.injEq] at H; obtain ⟨rfl, rfl⟩ := H
      go_enter Try.func44, Try.ntmps44
      go_wp2_with (first | ((with_reducible refine gate_dst (N := 4) rfl ?_); refine bxE 4 #[.int .u32 0, .int .u32 0] 24 ?_; intro gb404 hg w8 hbox hb; have BK404 := am (hbox); have GW404 := gwA hg HB; have GE404 := gwA hg HB; replace HB := bsA HB hb; clear hb hbox hg; have hcz9_0 : w8.cell? ⟨gb404, 0, none⟩ = some (.int .u32 0) := cz BK404; have hcz9_1 : w8.cell? ⟨gb404, 1, none⟩ = some (.int .u32 0) := cz BK404; have hfz9_0 := blk_frozen BK404.out 0; have hfz9_1 := blk_frozen BK404.out 1))
      refine bodyPost_ret (results_cell_row rfl _ _ gb404 24 #[.int .u32 ((a0) % 4294967296), .int .u32 ((a1) % 4294967296)] (0, 0) _ rfl (by refine bkT ?_; refine blk_put (cs := #[.int .u32 ((a0) % 4294967296), .int .u32 0]) ?_ 1 _ rfl; refine bkT ?_; refine blk_put (cs := #[.int .u32 0, .int .u32 0]) ?_ 0 _ rfl; refine bkT ?_; exact BK404.out) Try.underlying24 rfl (by kernel_rfl)) rfl ?_
      exact ⟨by first | rfl | (simp [errW_none, errW_some] <;> rfl) | (simp [*, errW_none, errW_some] <;> rfl), hbA HB⟩
    rw [if_neg c7] at H; have c7b0 : decide (4294967296 ≤ a0) = false := decide_eq_false c7; clear c7; by_cases c10 : a1 < 0
    · rw [if_pos c10] at H; have c10b0 : decide (a1 < 0) = true := decide_eq_true c10; clear c10; simp only [Option.some.injEq, Prod.mk.injEq] at H; obtain ⟨rfl, rfl⟩ := H
      go_enter Try.func44, Try.ntmps44
      go_wp2_with (first | ((with_reducible refine gate_dst (N := 4) rfl ?_); refine bxE 4 #[.int .u32 0, .int .u32 0] 24 ?_; intro gb404 hg w11 hbox hb; have BK404 := am (hbox); have GW404 := gwA hg HB; have GE404 := gwA hg HB; replace HB := bsA HB hb; clear hb hbox hg; have hcz12_0 : w11.cell? ⟨gb404, 0, none⟩ = some (.int .u32 0) := cz BK404; have hcz12_1 : w11.cell? ⟨gb404, 1, none⟩ = some (.int .u32 0) := cz BK404; have hfz12_0 := blk_frozen BK404.out 0; have hfz12_1 := blk_frozen BK404.out 1))
      refine bodyPost_ret (results_cell_row rfl _ _ gb404 24 #[.int .u32 ((a0) % 4294967296), .int .u32 ((a1) % 4294967296)] (0, 0) _ rfl (by refine bkT ?_; refine blk_put (cs := #[.int .u32 ((a0) % 4294967296), .int .u32 0]) ?_ 1 _ rfl; refine bkT ?_; refine blk_put (cs := #[.int .u32 0, .int .u32 0]) ?_ 0 _ rfl; refine bkT ?_; exact BK404.out) Try.underlying24 rfl (by kernel_rfl)) rfl ?_
      exact ⟨by first | rfl | (simp [errW_none, errW_some] <;> rfl) | (simp [*, errW_none, errW_some] <;> rfl), hbA HB⟩
    rw [if_neg c10] at H; have c10b0 : decide (a1 < 0) = false := decide_eq_false c10; clear c10; replace H := Option.bind_eq_some_iff.mp H; obtain ⟨⟨t405, t406⟩, A130, H⟩ := H; replace H : (some (t405, t406)) = some (r1, r2) := H; have A13 := am A130; clear A130; simp only [Option.some.injEq, Prod.mk.injEq] at H; obtain ⟨rfl, rfl⟩ := H
    go_enter Try.func44, Try.ntmps44
    go_wp2_with (first | ((with_reducible refine gate_dst (N := 4) rfl ?_); refine bxE 4 #[.int .u32 0, .int .u32 0] 24 ?_; intro gb404 hg w14 hbox hb; have BK404 := am (hbox); have GW404 := gwA hg HB; have GE404 := gwA hg HB; replace HB := bsA HB hb; clear hb hbox hg) | ((with_reducible refine gate_callee (f := 42) rfl ?_); refine goesL_ (some 24) rfl rfl Try.func42 (by kernel_rfl) rfl #[] rfl (by (try simp only [List.map_toArray, List.map_cons, List.map_nil]); first | done | rfl | (simp only [List.length_drop, List.length_take]; rfl)) ?_; (with_reducible refine (lamplighterref19_All.calls  t405 t406 _ A13.out).mono ?_); rintro e w15 ⟨rfl, hb⟩; refine ⟨_, rfl, ?_⟩; replace BK404 := bbA BK404 hb; replace HB := bsA HB hb; (try clear hb); (try clear hb2); (try clear hk); (try clear hi); have hcz16_0 : w15.cell? ⟨gb404, 0, none⟩ = some (.int .u32 0) := cz BK404; have hcz16_1 : w15.cell? ⟨gb404, 1, none⟩ = some (.int .u32 0) := cz BK404; have hfz16_0 := blk_frozen BK404.out 0; have hfz16_1 := blk_frozen BK404.out 1))
    refine bodyPost_ret (results_cell_row rfl _ _ gb404 24 #[.int .u32 t405, .int .u32 t406] (0, 0) _ rfl (by refine bkT ?_; refine blk_put (cs := #[.int .u32 t405, .int .u32 0]) ?_ 1 _ rfl; refine bkT ?_; refine blk_put (cs := #[.int .u32 0, .int .u32 0]) ?_ 0 _ rfl; refine bkT ?_; exact BK404.out) Try.underlying24 rfl (by kernel_rfl)) rfl ?_
    exact ⟨by first | rfl | (simp [errW_none, errW_some] <;> rfl) | (simp [*, errW_none, errW_some] <;> rfl), hbA HB⟩
  rw [if_neg c3] at H; have c3b0 : decide (0 ≤ a0) = false := decide_eq_false c3; clear c3; by_cases c17 : a0 ≥ 4294967296
  · rw [if_pos c17] at H; have c17b0 : decide (4294967296 ≤ a0) = true := decide_eq_true c17; clear c17; simp only [Option.some.injEq, Prod.mk.injEq] at H; obtain ⟨rfl, rfl⟩ := H
    go_enter Try.func44, Try.ntmps44
    go_wp2_with (first | ((with_reducible refine gate_dst (N := 4) rfl ?_); refine bxE 4 #[.int .u32 0, .int .u32 0] 24 ?_; intro gb404 hg w18 hbox hb; have BK404 := am (hbox); have GW404 := gwA hg HB; have GE404 := gwA hg HB; replace HB := bsA HB hb; clear hb hbox hg; have hcz19_0 : w18.cell? ⟨gb404, 0, none⟩ = some (.int .u32 0) := cz BK404; have hcz19_1 : w18.cell? ⟨gb404, 1, none⟩ = some (.int .u32 0) := cz BK404; have hfz19_0 := blk_frozen BK404.out 0; have hfz19_1 := blk_frozen BK404.out 1))
    refine bodyPost_ret (results_cell_row rfl _ _ gb404 24 #[.int .u32 ((a0) % 4294967296), .int .u32 ((a1) % 4294967296)] (0, 0) _ rfl (by refine bkT ?_; refine blk_put (cs := #[.int .u32 ((a0) % 4294967296), .int .u32 0]) ?_ 1 _ rfl; refine bkT ?_; refine blk_put (cs := #[.int .u32 0, .int .u32 0]) ?_ 0 _ rfl; refine bkT ?_; exact BK404.out) Try.underlying24 rfl (by kernel_rfl)) rfl ?_
    exact ⟨by first | rfl | (simp [errW_none, errW_some] <;> rfl) | (simp [*, errW_none, errW_some] <;> rfl), hbA HB⟩
  rw [if_neg c17] at H; have c17b0 : decide (4294967296 ≤ a0) = false := decide_eq_false c17; clear c17; by_cases c20 : a1 < 0
  · rw [if_pos c20] at H; have c20b0 : decide (a1 < 0) = true := decide_eq_true c20; clear c20; simp only [Option.some.injEq, Prod.mk.injEq] at H; obtain ⟨rfl, rfl⟩ := H
    go_enter Try.func44, Try.ntmps44
    go_wp2_with (first | ((with_reducible refine gate_dst (N := 4) rfl ?_); refine bxE 4 #[.int .u32 0, .int .u32 0] 24 ?_; intro gb404 hg w21 hbox hb; have BK404 := am (hbox); have GW404 := gwA hg HB; have GE404 := gwA hg HB; replace HB := bsA HB hb; clear hb hbox hg; have hcz22_0 : w21.cell? ⟨gb404, 0, none⟩ = some (.int .u32 0) := cz BK404; have hcz22_1 : w21.cell? ⟨gb404, 1, none⟩ = some (.int .u32 0) := cz BK404; have hfz22_0 := blk_frozen BK404.out 0; have hfz22_1 := blk_frozen BK404.out 1))
    refine bodyPost_ret (results_cell_row rfl _ _ gb404 24 #[.int .u32 ((a0) % 4294967296), .int .u32 ((a1) % 4294967296)] (0, 0) _ rfl (by refine bkT ?_; refine blk_put (cs := #[.int .u32 ((a0) % 4294967296), .int .u32 0]) ?_ 1 _ rfl; refine bkT ?_; refine blk_put (cs := #[.int .u32 0, .int .u32 0]) ?_ 0 _ rfl; refine bkT ?_; exact BK404.out) Try.underlying24 rfl (by kernel_rfl)) rfl ?_
    exact ⟨by first | rfl | (simp [errW_none, errW_some] <;> rfl) | (simp [*, errW_none, errW_some] <;> rfl), hbA HB⟩
  rw [if_neg c20] at H; have c20b0 : decide (a1 < 0) = false := decide_eq_false c20; clear c20; replace H := Option.bind_eq_some_iff.mp H; obtain ⟨⟨t407, t408⟩, A230, H⟩ := H; replace H : (some (t407, t408)) = some (r1, r2) := H; have A23 := am A230; clear A230; simp only [Option.some.injEq, Prod.mk.injEq] at H; obtain ⟨rfl, rfl⟩ := H
  go_enter Try.func44, Try.ntmps44
  go_wp2_with (first | ((with_reducible refine gate_dst (N := 4) rfl ?_); refine bxE 4 #[.int .u32 0, .int .u32 0] 24 ?_; intro gb404 hg w24 hbox hb; have BK404 := am (hbox); have GW404 := gwA hg HB; have GE404 := gwA hg HB; replace HB := bsA HB hb; clear hb hbox hg) | ((with_reducible refine gate_callee (f := 42) rfl ?_); refine goesL_ (some 24) rfl rfl Try.func42 (by kernel_rfl) rfl #[] rfl (by (try simp only [List.map_toArray, List.map_cons, List.map_nil]); first | done | rfl | (simp only [List.length_drop, List.length_take]; rfl)) ?_; (with_reducible refine (lamplighterref19_All.calls  t407 t408 _ A23.out).mono ?_); rintro e w25 ⟨rfl, hb⟩; refine ⟨_, rfl, ?_⟩; replace BK404 := bbA BK404 hb; replace HB := bsA HB hb; (try clear hb); (try clear hb2); (try clear hk); (try clear hi); have hcz26_0 : w25.cell? ⟨gb404, 0, none⟩ = some (.int .u32 0) := cz BK404; have hcz26_1 : w25.cell? ⟨gb404, 1, none⟩ = some (.int .u32 0) := cz BK404; have hfz26_0 := blk_frozen BK404.out 0; have hfz26_1 := blk_frozen BK404.out 1))
  refine bodyPost_ret (results_cell_row rfl _ _ gb404 24 #[.int .u32 t407, .int .u32 t408] (0, 0) _ rfl (by refine bkT ?_; refine blk_put (cs := #[.int .u32 t407, .int .u32 0]) ?_ 1 _ rfl; refine bkT ?_; refine blk_put (cs := #[.int .u32 0, .int .u32 0]) ?_ 0 _ rfl; refine bkT ?_; exact BK404.out) Try.underlying24 rfl (by kernel_rfl)) rfl ?_
  exact ⟨by first | rfl | (simp [errW_none, errW_some] <;> rfl) | (simp [*, errW_none, errW_some] <;> rfl), hbA HB⟩

/-! ### lamplighterref19_cap1: function 45 -/
def lamplighterref19_cap1.l0 : Nat → Int → Int → Option (Int)
  | 0, _, _ => none
  | k + 1, x0, x3 => if x3 < x0 then (lamplighterref19_cap1.l0 k x0 ((((2 * x3) % 4294967296) + 1) % 4294967296)) else (some x3)
def lamplighterref19_cap1.f (k : Nat) (a0 : Int) : Option (Int) := lamplighterref19_cap1.l0 k a0 0
theorem lamplighterref19_cap1.mono_l : ∀ k, (∀ y0 y1, LeO (lamplighterref19_cap1.l0 k y0 y1) (lamplighterref19_cap1.l0 (k + 1) y0 y1))
  | 0 => fun _ _ r h => by simp [lamplighterref19_cap1.l0] at h
  | k + 1 => by
    have ih0 := lamplighterref19_cap1.mono_l k
    · intro y0 y1
      unfold lamplighterref19_cap1.l0
      repeat' first
      | (with_reducible exact ih0 _ _)
      | (with_reducible exact LeO.refl _)
      | (with_reducible exact LeO.none _)
      | (with_reducible refine LeO.ite ?_ ?_)
      | (with_reducible refine LeO.bind ?_ (fun _ => ?_))
      | exact ih0 _ _
      | exact LeO.none _
      | refine LeO.ite ?_ ?_
      | refine LeO.bind ?_ (fun _ => ?_)
theorem lamplighterref19_cap1.mono : ∀ a0 k, LeO (lamplighterref19_cap1.f k a0) (lamplighterref19_cap1.f (k + 1) a0) := by
  intro a0 k
  have ih0 := lamplighterref19_cap1.mono_l k
  unfold lamplighterref19_cap1.f
  repeat' first
      | (with_reducible exact ih0 _ _)
      | (with_reducible exact LeO.refl _)
      | (with_reducible exact LeO.none _)
      | (with_reducible refine LeO.ite ?_ ?_)
      | (with_reducible refine LeO.bind ?_ (fun _ => ?_))
      | exact ih0 _ _
      | exact LeO.none _
      | refine LeO.ite ?_ ?_
      | refine LeO.bind ?_ (fun _ => ?_)
set_option maxHeartbeats 8000000 in
set_option maxRecDepth 100000 in
theorem lamplighterref19_cap1.calls (k : Nat) (a0 : Int) (r : Int) (w : World) (h : lamplighterref19_cap1.f k a0 = some r) :
    Calls Try.prog 45 #[.int .u32 a0] w fun e w' => e = .returned (.int .u32 r) ∧ Drawn0 w w' := by
  have H : (lamplighterref19_cap1.l0 k a0 0) = some r := h
  clear h; have H' := am H; clear H
  go_enter Try.func45, Try.ntmps45
  go_wp2
  go_loopg [3] k (fun kq v3 w' => ∃ (x3_1 : Int), v3 = .int .u32 x3_1 ∧ Aside0 (lamplighterref19_cap1.l0 kq a0 x3_1 = some r) ∧ Aside0 (kq ≤ k) ∧ Drawn0 w w')
  case atStart => exact ⟨(0), (by first | rfl | (simp; done) | (simp [*]; done) | (congr 1; omega) | (congr 2; omega) | (rw [Int.tdiv_eq_ediv_of_nonneg (by decide)]; done)), H', ⟨Nat.le_refl _⟩, by repeat (first | exact Drawn0.refl _ | apply Drawn0.step)⟩
  case round =>
    clear H'
    try clear p1
    obtain ⟨x3_1, rfl, HA, HK1, ⟨m1, rfl⟩⟩ := hrel
    cases gk with
    | zero => exact absurd HA.out (by simp [lamplighterref19_cap1.l0])
    | succ k1 =>
      have H := HA.out
      clear HA; simp only [lamplighterref19_cap1.l0] at H
      by_cases c2 : x3_1 < a0
      · rw [if_pos c2] at H; have c2b0 : decide (x3_1 < a0) = true := decide_eq_true c2; clear c2; have H' := am H; clear H
        go_wp2
        go_roundg k1
        case measure => have := HK1.out; omega
        case rel => exact ⟨((((2 * x3_1) % 4294967296) + 1) % 4294967296), (by first | rfl | (simp; done) | (simp [*]; done) | (congr 1; omega) | (congr 2; omega) | (rw [Int.tdiv_eq_ediv_of_nonneg (by decide)]; done)), H', ⟨by have := HK1.out; omega⟩, by repeat (first | exact Drawn0.refl _ | apply Drawn0.step)⟩
      rw [if_neg c2] at H; have c2b0 : decide (x3_1 < a0) = false := decide_eq_false c2; clear c2; obtain rfl := Option.some.inj H
      go_wp2
      go_ret
      exact ⟨by first | rfl | (simp; done) | (simp [*]; done) | (congr 1; omega) | (congr 2; omega) | (rw [Int.tdiv_eq_ediv_of_nonneg (by decide)]; done), by repeat (first | exact Drawn0.refl _ | apply Drawn0.step)⟩

/-! ### lamplighterref19_One: function 46 -/
def lamplighterref19_One.f (a0 : Int) : Option (Int × Int) := some (a0, a0)
set_option maxHeartbeats 8000000 in
set_option maxRecDepth 100000 in
theorem lamplighterref19_One.calls (a0 : Int) (r1 : Int) (r2 : Int) (w : World) (h : lamplighterref19_One.f a0 = some (r1, r2)) :
    Calls Try.prog 46 #[.int .u32 a0] w fun e w' => e = .returned (.agg #[.int .u32 r1, .int .u32 r2]) ∧ Below w.heap.size w w' := by
  have hu24 := Try.underlying24
  have HB := am (Below.refl w.heap.size w)
  have H : (some (a0, a0)) = some (r1, r2) := h
  clear h; simp only [Option.some.injEq, Prod.mk.injEq] at H; obtain ⟨rfl, rfl⟩ := H
  go_enter Try.func46, Try.ntmps46
  go_wp2_with (first | ((with_reducible refine gate_dst (N := 2) rfl ?_); refine bxE 2 #[.int .u32 0, .int .u32 0] 24 ?_; intro gb409 hg w2 hbox hb; have BK409 := am (hbox); have GW409 := gwA hg HB; have GE409 := gwA hg HB; replace HB := bsA HB hb; clear hb hbox hg; have hcz3_0 : w2.cell? ⟨gb409, 0, none⟩ = some (.int .u32 0) := cz BK409; have hcz3_1 : w2.cell? ⟨gb409, 1, none⟩ = some (.int .u32 0) := cz BK409; have hfz3_0 := blk_frozen BK409.out 0; have hfz3_1 := blk_frozen BK409.out 1))
  refine bodyPost_ret (results_cell_row rfl _ _ gb409 24 #[.int .u32 a0, .int .u32 a0] (0, 0) _ rfl (by refine bkT ?_; refine blk_put (cs := #[.int .u32 a0, .int .u32 0]) ?_ 1 _ rfl; refine bkT ?_; refine blk_put (cs := #[.int .u32 0, .int .u32 0]) ?_ 0 _ rfl; refine bkT ?_; exact BK409.out) Try.underlying24 rfl (by kernel_rfl)) rfl ?_
  exact ⟨by first | rfl | (simp [errW_none, errW_some] <;> rfl) | (simp [*, errW_none, errW_some] <;> rfl), hbA HB⟩

/-! ### lamplighterref19_moved: function 47 -/
def lamplighterref19_moved.f (a0 : Int) (a1 : Int) : Option (Int) := if a1 ≥ 32 then (some 0) else (if 0 ≤ a1 then (some (shr .u32 a0 a1)) else (none))
set_option maxHeartbeats 8000000 in
set_option maxRecDepth 100000 in
theorem lamplighterref19_moved.calls (a0 : Int) (a1 : Int) (r : Int) (w : World) (h : lamplighterref19_moved.f a0 a1 = some r) :
    Calls Try.prog 47 #[.int .u32 a0, .int .u32 a1] w fun e w' => e = .returned (.int .u32 r) ∧ Drawn0 w w' := by
  have H : (if a1 ≥ 32 then (some 0) else (if 0 ≤ a1 then (some (shr .u32 a0 a1)) else (none))) = some r := h
  clear h; by_cases c3 : a1 ≥ 32
  · rw [if_pos c3] at H; have c3b0 : decide (32 ≤ a1) = true := decide_eq_true c3; clear c3; obtain rfl := Option.some.inj H
    go_enter Try.func47, Try.ntmps47
    go_wp2
    go_ret
    exact ⟨by first | rfl | (simp; done) | (simp [*]; done) | (congr 1; omega) | (congr 2; omega) | (rw [Int.tdiv_eq_ediv_of_nonneg (by decide)]; done), by repeat (first | exact Drawn0.refl _ | apply Drawn0.step)⟩
  rw [if_neg c3] at H; have c3b0 : decide (32 ≤ a1) = false := decide_eq_false c3; clear c3; by_cases c4 : 0 ≤ a1
  · rw [if_pos c4] at H; have c4b0 := eq_true c4; have c4b1 : decide (0 ≤ a1) = true := decide_eq_true c4; clear c4; obtain ⟨ji5, hji5⟩ : ∃ j_ : Int, (shr .u32 a0 a1) = j_ := ⟨_, rfl⟩
    replace H : (some ji5) = some r := by first | (rw [hji5] at H; exact H) | (simp only [hji5] at H ⊢; exact H)
    have hji5_ : (a0 / 2 ^ min a1.toNat 32) = ji5 := hji5
    have hji5z : a1 ≤ 32 → (a0 / 2 ^ a1.toNat) = ji5 := shr_small hji5
    obtain rfl := Option.some.inj H
    go_enter Try.func47, Try.ntmps47
    go_wp2
    go_ret
    exact ⟨by first | rfl | (simp; done) | (simp only [← hji5] <;> (first | rfl | simp)) | (simp [*]; done), by repeat (first | exact Drawn0.refl _ | apply Drawn0.step)⟩
  rw [if_neg c4] at H; exact absurd H (by simp)

/-! ### lamplighterref19_truth: function 49 -/
def lamplighterref19_truth.f (a0 : Bool) (a1 : Bool) : Option (Int × Int) := if a0 = true then ((lamplighterref19_One.f 1).bind fun bt411 => (some (bt411.1, bt411.2))) else (if a1 = true then ((lamplighterref19_One.f 0).bind fun bt413 => (some (bt413.1, bt413.2))) else (some (0, 1)))
set_option maxHeartbeats 8000000 in
set_option maxRecDepth 100000 in
theorem lamplighterref19_truth.calls (a0 : Bool) (a1 : Bool) (r1 : Int) (r2 : Int) (w : World) (h : lamplighterref19_truth.f a0 a1 = some (r1, r2)) :
    Calls Try.prog 49 #[.bool a0, .bool a1] w fun e w' => e = .returned (.agg #[.int .u32 r1, .int .u32 r2]) ∧ Below w.heap.size w w' := by
  have hu24 := Try.underlying24
  have HB := am (Below.refl w.heap.size w)
  have H : (if a0 = true then ((lamplighterref19_One.f 1).bind fun bt411 => (some (bt411.1, bt411.2))) else (if a1 = true then ((lamplighterref19_One.f 0).bind fun bt413 => (some (bt413.1, bt413.2))) else (some (0, 1)))) = some (r1, r2) := h
  clear h; by_cases c3 : a0 = true
  · subst c3; have H1 : ((lamplighterref19_One.f 1).bind fun bt411 => (some (bt411.1, bt411.2))) = some (r1, r2) := by rw [if_pos rfl] at H; exact H
    clear H; have H := H1; clear H1; replace H := Option.bind_eq_some_iff.mp H; obtain ⟨⟨t411, t412⟩, A40, H⟩ := H; replace H : (some (t411, t412)) = some (r1, r2) := H; have A4 := am A40; clear A40; simp only [Option.some.injEq, Prod.mk.injEq] at H; obtain ⟨rfl, rfl⟩ := H
    go_enter Try.func49, Try.ntmps49
    go_wp2_with (first | ((with_reducible refine gate_dst (N := 4) rfl ?_); refine bxE 4 #[.int .u32 0, .int .u32 0] 24 ?_; intro gb410 hg w5 hbox hb; have BK410 := am (hbox); have GW410 := gwA hg HB; have GE410 := gwA hg HB; replace HB := bsA HB hb; clear hb hbox hg) | ((with_reducible refine gate_callee (f := 46) rfl ?_); refine goesL_ (some 6) rfl rfl Try.func46 (by kernel_rfl) rfl #[.int .u32 1] rfl (by (try simp only [List.map_toArray, List.map_cons, List.map_nil]); first | done | rfl | (simp only [List.length_drop, List.length_take]; rfl)) ?_; (with_reducible refine (lamplighterref19_One.calls 1 t411 t412 _ A4.out).mono ?_); rintro e w6 ⟨rfl, hb⟩; refine ⟨_, rfl, ?_⟩; replace BK410 := bbA BK410 hb; replace HB := bsA HB hb; (try clear hb); (try clear hb2); (try clear hk); (try clear hi); have hcz7_0 : w6.cell? ⟨gb410, 0, none⟩ = some (.int .u32 0) := cz BK410; have hcz7_1 : w6.cell? ⟨gb410, 1, none⟩ = some (.int .u32 0) := cz BK410; have hfz7_0 := blk_frozen BK410.out 0; have hfz7_1 := blk_frozen BK410.out 1))
    refine bodyPost_ret (results_cell_row rfl _ _ gb410 24 #[.int .u32 t411, .int .u32 t412] (0, 0) _ rfl (by refine bkT ?_; refine blk_put (cs := #[.int .u32 t411, .int .u32 0]) ?_ 1 _ rfl; refine bkT ?_; refine blk_put (cs := #[.int .u32 0, .int .u32 0]) ?_ 0 _ rfl; refine bkT ?_; exact BK410.out) Try.underlying24 rfl (by kernel_rfl)) rfl ?_
    exact ⟨by first | rfl | (simp [errW_none, errW_some] <;> rfl) | (simp [*, errW_none, errW_some] <;> rfl), hbA HB⟩
  replace c3 := Bool.eq_false_iff.mpr c3; subst c3; have H1 : (if a1 = true then ((lamplighterref19_One.f 0).bind fun bt413 => (some (bt413.1, bt413.2))) else (some (0, 1))) = some (r1, r2) := by rw [if_neg (show ¬ (false = true) by decide)] at H; exact H
  clear H; have H := H1; clear H1; by_cases c8 : a1 = true
  · subst c8; have H1 : ((lamplighterref19_One.f 0).bind fun bt413 => (some (bt413.1, bt413.2))) = some (r1, r2) := by rw [if_pos rfl] at H; exact H
    clear H; have H := H1; clear H1; replace H := Option.bind_eq_some_iff.mp H; obtain ⟨⟨t413, t414⟩, A90, H⟩ := H; replace H : (some (t413, t414)) = some (r1, r2) := H; have A9 := am A90; clear A90; simp only [Option.some.injEq, Prod.mk.injEq] at H; obtain ⟨rfl, rfl⟩ := H
    go_enter Try.func49, Try.ntmps49
    go_wp2_with (first | ((with_reducible refine gate_dst (N := 4) rfl ?_); refine bxE 4 #[.int .u32 0, .int .u32 0] 24 ?_; intro gb410 hg w10 hbox hb; have BK410 := am (hbox); have GW410 := gwA hg HB; have GE410 := gwA hg HB; replace HB := bsA HB hb; clear hb hbox hg) | ((with_reducible refine gate_callee (f := 46) rfl ?_); refine goesL_ (some 8) rfl rfl Try.func46 (by kernel_rfl) rfl #[.int .u32 0] rfl (by (try simp only [List.map_toArray, List.map_cons, List.map_nil]); first | done | rfl | (simp only [List.length_drop, List.length_take]; rfl)) ?_; (with_reducible refine (lamplighterref19_One.calls 0 t413 t414 _ A9.out).mono ?_); rintro e w11 ⟨rfl, hb⟩; refine ⟨_, rfl, ?_⟩; replace BK410 := bbA BK410 hb; replace HB := bsA HB hb; (try clear hb); (try clear hb2); (try clear hk); (try clear hi); have hcz12_0 : w11.cell? ⟨gb410, 0, none⟩ = some (.int .u32 0) := cz BK410; have hcz12_1 : w11.cell? ⟨gb410, 1, none⟩ = some (.int .u32 0) := cz BK410; have hfz12_0 := blk_frozen BK410.out 0; have hfz12_1 := blk_frozen BK410.out 1))
    refine bodyPost_ret (results_cell_row rfl _ _ gb410 24 #[.int .u32 t413, .int .u32 t414] (0, 0) _ rfl (by refine bkT ?_; refine blk_put (cs := #[.int .u32 t413, .int .u32 0]) ?_ 1 _ rfl; refine bkT ?_; refine blk_put (cs := #[.int .u32 0, .int .u32 0]) ?_ 0 _ rfl; refine bkT ?_; exact BK410.out) Try.underlying24 rfl (by kernel_rfl)) rfl ?_
    exact ⟨by first | rfl | (simp [errW_none, errW_some] <;> rfl) | (simp [*, errW_none, errW_some] <;> rfl), hbA HB⟩
  replace c8 := Bool.eq_false_iff.mpr c8; subst c8; have H1 : (some (0, 1)) = some (r1, r2) := by rw [if_neg (show ¬ (false = true) by decide)] at H; exact H
  clear H; have H := H1; clear H1; simp only [Option.some.injEq, Prod.mk.injEq] at H; obtain ⟨rfl, rfl⟩ := H
  go_enter Try.func49, Try.ntmps49
  go_wp2_with (first | ((with_reducible refine gate_dst (N := 4) rfl ?_); refine bxE 4 #[.int .u32 0, .int .u32 0] 24 ?_; intro gb410 hg w13 hbox hb; have BK410 := am (hbox); have GW410 := gwA hg HB; have GE410 := gwA hg HB; replace HB := bsA HB hb; clear hb hbox hg; have hcz14_0 : w13.cell? ⟨gb410, 0, none⟩ = some (.int .u32 0) := cz BK410; have hcz14_1 : w13.cell? ⟨gb410, 1, none⟩ = some (.int .u32 0) := cz BK410; have hfz14_0 := blk_frozen BK410.out 0; have hfz14_1 := blk_frozen BK410.out 1))
  refine bodyPost_ret (results_cell_row rfl _ _ gb410 24 #[.int .u32 0, .int .u32 1] (0, 0) _ rfl (by refine bkT ?_; refine blk_put (cs := #[.int .u32 0, .int .u32 0]) ?_ 1 _ rfl; refine bkT ?_; refine blk_put (cs := #[.int .u32 0, .int .u32 0]) ?_ 0 _ rfl; refine bkT ?_; exact BK410.out) Try.underlying24 rfl (by kernel_rfl)) rfl ?_
  exact ⟨by first | rfl | (simp [errW_none, errW_some] <;> rfl) | (simp [*, errW_none, errW_some] <;> rfl), hbA HB⟩

/-! ### lamplighterref01_Signed: function 40 -/
def lamplighterref01_Signed.f (a0 : Int) : Option (Int) := if a0 ≥ 2147483648 then (some (wrap64 ((wrap64 (a0)) - 4294967296))) else (some (wrap64 (a0)))
set_option maxHeartbeats 8000000 in
set_option maxRecDepth 100000 in
theorem lamplighterref01_Signed.calls (a0 : Int) (r : Int) (w : World) (h : lamplighterref01_Signed.f a0 = some r) :
    Calls Try.prog 40 #[.int .u32 a0] w fun e w' => e = .returned (.int .i64 r) ∧ Drawn0 w w' := by
  have H : (if a0 ≥ 2147483648 then (some (wrap64 ((wrap64 (a0)) - 4294967296))) else (some (wrap64 (a0)))) = some r := h
  clear h; by_cases c2 : a0 ≥ 2147483648
  · rw [if_pos c2] at H; have c2b0 : decide (2147483648 ≤ a0) = true := decide_eq_true c2; clear c2; obtain rfl := Option.some.inj H
    go_enter Try.func40, Try.ntmps40
    go_wp2
    go_ret
    exact ⟨by first | rfl | (simp; done) | (simp [*]; done) | (congr 1; omega) | (congr 2; omega) | (rw [Int.tdiv_eq_ediv_of_nonneg (by decide)]; done), by repeat (first | exact Drawn0.refl _ | apply Drawn0.step)⟩
  rw [if_neg c2] at H; have c2b0 : decide (2147483648 ≤ a0) = false := decide_eq_false c2; clear c2; obtain rfl := Option.some.inj H
  go_enter Try.func40, Try.ntmps40
  go_wp2
  go_ret
  exact ⟨by first | rfl | (simp; done) | (simp [*]; done) | (congr 1; omega) | (congr 2; omega) | (rw [Int.tdiv_eq_ediv_of_nonneg (by decide)]; done), by repeat (first | exact Drawn0.refl _ | apply Drawn0.step)⟩

/-! ### lamplighterref19_signed: function 71 -/
def lamplighterref19_signed.j0 : Nat → Bool → Int → Int → Option (Int × Int)
  | 0, _, _, _ => none
  | k + 1, x11, x416000, x416001 => if x11 = true then ((lamplighterref01_Signed.f x416000).bind fun t416 => ((lamplighterref01_Signed.f x416001).bind fun t417 => (some (t416, t417)))) else (some ((-2147483648), 2147483647))
def lamplighterref19_signed.f (k : Nat) (a0_0 : Int) (a0_1 : Int) : Option (Int × Int) := if a0_1 < 2147483648 then (lamplighterref19_signed.j0 k true a0_0 a0_1) else (lamplighterref19_signed.j0 k (decide (a0_0 ≥ 2147483648)) a0_0 a0_1)
theorem lamplighterref19_signed.mono_l : ∀ k, (∀ y0 y1 y2, LeO (lamplighterref19_signed.j0 k y0 y1 y2) (lamplighterref19_signed.j0 (k + 1) y0 y1 y2))
  | 0 => fun _ _ _ r h => by simp [lamplighterref19_signed.j0] at h
  | k + 1 => by
    have ih0 := lamplighterref19_signed.mono_l k
    · intro y0 y1 y2
      unfold lamplighterref19_signed.j0
      repeat' first
      | (with_reducible exact ih0 _ _ _)
      | (with_reducible exact LeO.refl _)
      | (with_reducible exact LeO.none _)
      | (with_reducible refine LeO.ite ?_ ?_)
      | (with_reducible refine LeO.bind ?_ (fun _ => ?_))
      | exact ih0 _ _ _
      | exact LeO.none _
      | refine LeO.ite ?_ ?_
      | refine LeO.bind ?_ (fun _ => ?_)
theorem lamplighterref19_signed.mono : ∀ a0 a1 k, LeO (lamplighterref19_signed.f k a0 a1) (lamplighterref19_signed.f (k + 1) a0 a1) := by
  intro a0 a1 k
  have ih0 := lamplighterref19_signed.mono_l k
  unfold lamplighterref19_signed.f
  repeat' first
      | (with_reducible exact ih0 _ _ _)
      | (with_reducible exact LeO.refl _)
      | (with_reducible exact LeO.none _)
      | (with_reducible refine LeO.ite ?_ ?_)
      | (with_reducible refine LeO.bind ?_ (fun _ => ?_))
      | exact ih0 _ _ _
      | exact LeO.none _
      | refine LeO.ite ?_ ?_
      | refine LeO.bind ?_ (fun _ => ?_)
set_option maxHeartbeats 8000000 in
set_option maxRecDepth 100000 in
theorem lamplighterref19_signed.calls (k : Nat) (a0_0 : Int) (a0_1 : Int) (r1 : Int) (r2 : Int) (w : World) (h : lamplighterref19_signed.f k a0_0 a0_1 = some (r1, r2)) :
    Calls Try.prog 71 #[.agg #[.int .u32 a0_0, .int .u32 a0_1]] w fun e w' => e = .returned (.tuple #[.int .i64 r1, .int .i64 r2]) ∧ Below w.heap.size w w' := by
  have hu24 := Try.underlying24
  have HB := am (Below.refl w.heap.size w)
  have H : (if a0_1 < 2147483648 then (lamplighterref19_signed.j0 k true a0_0 a0_1) else (lamplighterref19_signed.j0 k (decide (a0_0 ≥ 2147483648)) a0_0 a0_1)) = some (r1, r2) := h
  clear h; have HC2 := am H; clear H
  go_enter Try.func71, Try.ntmps71
  go_upto_region 1 with (first | ((with_reducible refine gate_dst (N := 1) rfl ?_); refine bxE 1 #[.int .u32 a0_0, .int .u32 a0_1] 24 ?_; intro gb415 hg w3 hbox hb; have BK415 := am (hbox); have GW415 := gwA hg HB; have GE415 := gwA hg HB; replace HB := bsA HB hb; clear hb hbox hg))
  repeat (go_quiet (first | ((with_reducible refine gate_dst (N := 1) rfl ?_); refine bxE 1 #[.int .u32 a0_0, .int .u32 a0_1] 24 ?_; intro gb415 hg w3 hbox hb; have BK415 := am (hbox); have GW415 := gwA hg HB; have GE415 := gwA hg HB; replace HB := bsA HB hb; clear hb hbox hg)); go_upto_region 1 with (first | ((with_reducible refine gate_dst (N := 1) rfl ?_); refine bxE 1 #[.int .u32 a0_0, .int .u32 a0_1] 24 ?_; intro gb415 hg w3 hbox hb; have BK415 := am (hbox); have GW415 := gwA hg HB; have GE415 := gwA hg HB; replace HB := bsA HB hb; clear hb hbox hg)))
  (try simp only [Act.put, s1, s2, s3])
  go_cut [11] (fun v11 wc => ∃ (kq : Nat) (x11_1 : Bool), v11 = .bool x11_1 ∧ Aside0 (lamplighterref19_signed.j0 kq x11_1 a0_0 a0_1 = some (r1, r2)) ∧ Aside0 (kq ≤ k) ∧ Aside0 (wc.heap[gb415]? = some (.cells #[.int .u32 a0_0, .int .u32 a0_1] 24 (0, 0))) ∧ Aside0 (Below w.heap.size w wc))
  case first => as_aux_lemma =>
    have H := HC2.out
    clear HC2; by_cases c4 : a0_1 < 2147483648
    · rw [if_pos c4] at H; have c4b0 : decide (a0_1 < 2147483648) = true := decide_eq_true c4; clear c4; (first | rw [c4b0] | (simp only [i64_w, i32_w]; rw [c4b0]) | skip)
      have H' := am H; clear H; have hcz5_0 : w3.cell? ⟨gb415, 0, none⟩ = some (.int .u32 a0_0) := cz BK415
      have hcz5_1 : w3.cell? ⟨gb415, 1, none⟩ = some (.int .u32 a0_1) := cz BK415
      have hfz5_0 := blk_frozen BK415.out 0
      have hfz5_1 := blk_frozen BK415.out 1
      go_wp2
      repeat (go_quiet (fail); try go_wp2)
      go_meet
      case rel => exact ⟨_, (true), (by first | rfl | (simp; done) | (simp [*]; done) | (congr 1; omega) | (congr 2; omega) | (rw [Int.tdiv_eq_ediv_of_nonneg (by decide)]; done)), H', ⟨by first | omega | exact Nat.le_refl _⟩, ⟨by refine bkT ?_; exact BK415.out⟩, ⟨by repeat (first | (with_reducible first | exact HB.out | apply below_alloc | apply pw_below_drewN | apply below_drew1 | refine below_set ?_ GE415.out) | exact HB.out)⟩⟩
    rw [if_neg c4] at H; have c4b0 : decide (a0_1 < 2147483648) = false := decide_eq_false c4; clear c4; (first | rw [c4b0] | (simp only [i64_w, i32_w]; rw [c4b0]) | skip)
    have H' := am H; clear H; have hcz6_0 : w3.cell? ⟨gb415, 0, none⟩ = some (.int .u32 a0_0) := cz BK415
    have hcz6_1 : w3.cell? ⟨gb415, 1, none⟩ = some (.int .u32 a0_1) := cz BK415
    have hfz6_0 := blk_frozen BK415.out 0
    have hfz6_1 := blk_frozen BK415.out 1
    go_wp2
    repeat (go_quiet (fail); try go_wp2)
    go_meet
    case rel => exact ⟨_, (decide (a0_0 ≥ 2147483648)), (by first | rfl | (simp; done) | (simp [*]; done) | (congr 1; omega) | (congr 2; omega) | (rw [Int.tdiv_eq_ediv_of_nonneg (by decide)]; done)), H', ⟨by first | omega | exact Nat.le_refl _⟩, ⟨by refine bkT ?_; exact BK415.out⟩, ⟨by repeat (first | (with_reducible first | exact HB.out | apply below_alloc | apply pw_below_drewN | apply below_drew1 | refine below_set ?_ GE415.out) | exact HB.out)⟩⟩
  case rest => as_aux_lemma =>
    clear HC2
    try clear p2
    try clear c4
    try clear c4b0
    try clear hcz5_0
    try clear hcz5_1
    try clear hcz6_0
    try clear hcz6_1
    try clear hfz5_0
    try clear hfz5_1
    try clear hfz6_0
    try clear hfz6_1
    obtain ⟨kq, x11_1, rfl, HA, HJ1, BK415, HB⟩ := hcut
    cases kq with
    | zero => exact absurd HA.out (by simp [lamplighterref19_signed.j0])
    | succ kj1 =>
      have H := HA.out
      clear HA; simp only [lamplighterref19_signed.j0] at H
      by_cases c7 : x11_1 = true
      · subst c7; have H1 : ((lamplighterref01_Signed.f a0_0).bind fun t416 => ((lamplighterref01_Signed.f a0_1).bind fun t417 => (some (t416, t417)))) = some (r1, r2) := by rw [if_pos rfl] at H; exact H
        clear H; have H := H1; clear H1; replace H := Option.bind_eq_some_iff.mp H; obtain ⟨t416, A80, H⟩ := H; replace H : ((lamplighterref01_Signed.f a0_1).bind fun t417 => (some (t416, t417))) = some (r1, r2) := H; have A8 := am A80; clear A80; replace H := Option.bind_eq_some_iff.mp H; obtain ⟨t417, A90, H⟩ := H; replace H : (some (t416, t417)) = some (r1, r2) := H; have A9 := am A90; clear A90; simp only [Option.some.injEq, Prod.mk.injEq] at H; obtain ⟨rfl, rfl⟩ := H; have hcz10_0 : wc.cell? ⟨gb415, 0, none⟩ = some (.int .u32 a0_0) := cz BK415
        have hcz10_1 : wc.cell? ⟨gb415, 1, none⟩ = some (.int .u32 a0_1) := cz BK415
        have hfz10_0 := blk_frozen BK415.out 0
        have hfz10_1 := blk_frozen BK415.out 1
        go_wp2_with (first | (go_at_call 40; (with_reducible refine (lamplighterref01_Signed.calls a0_0 t416 _ A8.out).mono ?_); rintro e w' ⟨rfl, ⟨nd, rfl⟩⟩; (try first | exact ⟨rfl, _, World.drewN_drewN _ _ _⟩ | exact ⟨rfl, _, Eq.trans (World.drewN_drewN _ _ _) (congrArg (World.drewN _) (Nat.add_assoc _ _ _))⟩)) | (go_at_call 40; (with_reducible refine (lamplighterref01_Signed.calls a0_1 t417 _ A9.out).mono ?_); rintro e w' ⟨rfl, ⟨nd, rfl⟩⟩; (try first | exact ⟨rfl, _, World.drewN_drewN _ _ _⟩ | exact ⟨rfl, _, Eq.trans (World.drewN_drewN _ _ _) (congrArg (World.drewN _) (Nat.add_assoc _ _ _))⟩)))
        repeat (go_quiet (first | (go_at_call 40; (with_reducible refine (lamplighterref01_Signed.calls a0_0 t416 _ A8.out).mono ?_); rintro e w' ⟨rfl, ⟨nd, rfl⟩⟩; (try first | exact ⟨rfl, _, World.drewN_drewN _ _ _⟩ | exact ⟨rfl, _, Eq.trans (World.drewN_drewN _ _ _) (congrArg (World.drewN _) (Nat.add_assoc _ _ _))⟩)) | (go_at_call 40; (with_reducible refine (lamplighterref01_Signed.calls a0_1 t417 _ A9.out).mono ?_); rintro e w' ⟨rfl, ⟨nd, rfl⟩⟩; (try first | exact ⟨rfl, _, World.drewN_drewN _ _ _⟩ | exact ⟨rfl, _, Eq.trans (World.drewN_drewN _ _ _) (congrArg (World.drewN _) (Nat.add_assoc _ _ _))⟩))); try go_wp2_with (first | (go_at_call 40; (with_reducible refine (lamplighterref01_Signed.calls a0_0 t416 _ A8.out).mono ?_); rintro e w' ⟨rfl, ⟨nd, rfl⟩⟩; (try first | exact ⟨rfl, _, World.drewN_drewN _ _ _⟩ | exact ⟨rfl, _, Eq.trans (World.drewN_drewN _ _ _) (congrArg (World.drewN _) (Nat.add_assoc _ _ _))⟩)) | (go_at_call 40; (with_reducible refine (lamplighterref01_Signed.calls a0_1 t417 _ A9.out).mono ?_); rintro e w' ⟨rfl, ⟨nd, rfl⟩⟩; (try first | exact ⟨rfl, _, World.drewN_drewN _ _ _⟩ | exact ⟨rfl, _, Eq.trans (World.drewN_drewN _ _ _) (congrArg (World.drewN _) (Nat.add_assoc _ _ _))⟩))))
        go_ret2
        exact ⟨by first | rfl | (simp [errW_none, errW_some] <;> rfl) | (simp [*, errW_none, errW_some] <;> rfl), hbA HB⟩
      replace c7 := Bool.eq_false_iff.mpr c7; subst c7; have H1 : (some ((-2147483648), 2147483647)) = some (r1, r2) := by rw [if_neg (show ¬ (false = true) by decide)] at H; exact H
      clear H; have H := H1; clear H1; simp only [Option.some.injEq, Prod.mk.injEq] at H; obtain ⟨rfl, rfl⟩ := H
      go_wp2
      repeat (go_quiet (fail); try go_wp2)
      go_ret2
      exact ⟨by first | rfl | (simp [errW_none, errW_some] <;> rfl) | (simp [*, errW_none, errW_some] <;> rfl), hbA HB⟩

/-! ### lamplighterref19_compares: function 48 -/
mutual
def lamplighterref19_compares.j0 : Nat → Int → Bool → Int → Int → Int → Int → Option (Int × Int)
  | 0, _, _, _, _, _, _ => none
  | k + 1, x0, x7, x419000, x419001, x420000, x420001 => if x419001 < x420000 then (lamplighterref19_compares.j1 k x0 x7 true x419000 x419001 x420000 x420001) else (lamplighterref19_compares.j1 k x0 x7 (decide (x420001 < x419000)) x419000 x419001 x420000 x420001)
def lamplighterref19_compares.j1 : Nat → Int → Bool → Bool → Int → Int → Int → Int → Option (Int × Int)
  | 0, _, _, _, _, _, _, _ => none
  | k + 1, x0, x7, x8, x419000, x419001, x420000, x420001 => (lamplighterref19_signed.f k x419000 x419001).bind fun bt421 => ((lamplighterref19_signed.f k x420000 x420001).bind fun bt423 => (if x0 = 14 then ((lamplighterref19_truth.f x7 x8).bind fun bt425 => (some (bt425.1, bt425.2))) else (if x0 = 15 then ((lamplighterref19_truth.f x8 x7).bind fun bt427 => (some (bt427.1, bt427.2))) else (if x0 = 16 then ((lamplighterref19_truth.f (decide (x419001 < x420000)) (decide (x419000 ≥ x420001))).bind fun bt429 => (some (bt429.1, bt429.2))) else (if x0 = 17 then ((lamplighterref19_truth.f (decide (x419001 ≤ x420000)) (decide (x419000 > x420001))).bind fun bt431 => (some (bt431.1, bt431.2))) else (if x0 = 18 then ((lamplighterref19_truth.f (decide (bt421.2 < bt423.1)) (decide (bt421.1 ≥ bt423.2))).bind fun bt433 => (some (bt433.1, bt433.2))) else ((lamplighterref19_truth.f (decide (bt421.2 ≤ bt423.1)) (decide (bt421.1 > bt423.2))).bind fun bt435 => (some (bt435.1, bt435.2)))))))))
end
def lamplighterref19_compares.f (k : Nat) (a0 : Int) (a1_0 : Int) (a1_1 : Int) (a2_0 : Int) (a2_1 : Int) : Option (Int × Int) := if a1_0 = a1_1 then (lamplighterref19_compares.j0 k a0 (a1_0 == a2_0 && (a1_1 == a2_1)) a1_0 a1_1 a2_0 a2_1) else (lamplighterref19_compares.j0 k a0 false a1_0 a1_1 a2_0 a2_1)
theorem lamplighterref19_compares.mono_l : ∀ k, (∀ y0 y1 y2 y3 y4 y5, LeO (lamplighterref19_compares.j0 k y0 y1 y2 y3 y4 y5) (lamplighterref19_compares.j0 (k + 1) y0 y1 y2 y3 y4 y5)) ∧ (∀ y0 y1 y2 y3 y4 y5 y6, LeO (lamplighterref19_compares.j1 k y0 y1 y2 y3 y4 y5 y6) (lamplighterref19_compares.j1 (k + 1) y0 y1 y2 y3 y4 y5 y6))
  | 0 => ⟨fun _ _ _ _ _ _ r h => by simp [lamplighterref19_compares.j0] at h, fun _ _ _ _ _ _ _ r h => by simp [lamplighterref19_compares.j1] at h⟩
  | k + 1 => by
    obtain ⟨ih0, ih1⟩ := lamplighterref19_compares.mono_l k; refine ⟨?_, ?_⟩
    · intro y0 y1 y2 y3 y4 y5
      unfold lamplighterref19_compares.j0
      repeat' first
      | (with_reducible exact ih0 _ _ _ _ _ _)
      | (with_reducible exact ih1 _ _ _ _ _ _ _)
      | (with_reducible exact lamplighterref19_signed.mono _ _ _)
      | (with_reducible exact LeO.refl _)
      | (with_reducible exact LeO.none _)
      | (with_reducible refine LeO.ite ?_ ?_)
      | (with_reducible refine LeO.bind ?_ (fun _ => ?_))
      | exact ih0 _ _ _ _ _ _
      | exact ih1 _ _ _ _ _ _ _
      | exact lamplighterref19_signed.mono _ _ _
      | exact LeO.none _
      | refine LeO.ite ?_ ?_
      | refine LeO.bind ?_ (fun _ => ?_)
    intro y0 y1 y2 y3 y4 y5 y6
    unfold lamplighterref19_compares.j1
    repeat' first
    | (with_reducible exact ih0 _ _ _ _ _ _)
    | (with_reducible exact ih1 _ _ _ _ _ _ _)
    | (with_reducible exact lamplighterref19_signed.mono _ _ _)
    | (with_reducible exact LeO.refl _)
    | (with_reducible exact LeO.none _)
    | (with_reducible refine LeO.ite ?_ ?_)
    | (with_reducible refine LeO.bind ?_ (fun _ => ?_))
    | exact ih0 _ _ _ _ _ _
    | exact ih1 _ _ _ _ _ _ _
    | exact lamplighterref19_signed.mono _ _ _
    | exact LeO.none _
    | refine LeO.ite ?_ ?_
    | refine LeO.bind ?_ (fun _ => ?_)
theorem lamplighterref19_compares.mono : ∀ a0 a1 a2 a3 a4 k, LeO (lamplighterref19_compares.f k a0 a1 a2 a3 a4) (lamplighterref19_compares.f (k + 1) a0 a1 a2 a3 a4) := by
  intro a0 a1 a2 a3 a4 k
  obtain ⟨ih0, ih1⟩ := lamplighterref19_compares.mono_l k; unfold lamplighterref19_compares.f
  repeat' first
      | (with_reducible exact ih0 _ _ _ _ _ _)
      | (with_reducible exact ih1 _ _ _ _ _ _ _)
      | (with_reducible exact lamplighterref19_signed.mono _ _ _)
      | (with_reducible exact LeO.refl _)
      | (with_reducible exact LeO.none _)
      | (with_reducible refine LeO.ite ?_ ?_)
      | (with_reducible refine LeO.bind ?_ (fun _ => ?_))
      | exact ih0 _ _ _ _ _ _
      | exact ih1 _ _ _ _ _ _ _
      | exact lamplighterref19_signed.mono _ _ _
      | exact LeO.none _
      | refine LeO.ite ?_ ?_
      | refine LeO.bind ?_ (fun _ => ?_)
set_option maxHeartbeats 8000000 in
set_option maxRecDepth 100000 in
theorem lamplighterref19_compares.calls (k : Nat) (a0 : Int) (a1_0 : Int) (a1_1 : Int) (a2_0 : Int) (a2_1 : Int) (r1 : Int) (r2 : Int) (w : World) (h : lamplighterref19_compares.f k a0 a1_0 a1_1 a2_0 a2_1 = some (r1, r2)) :
    Calls Try.prog 48 #[.int .i64 a0, .agg #[.int .u32 a1_0, .int .u32 a1_1], .agg #[.int .u32 a2_0, .int .u32 a2_1]] w fun e w' => e = .returned (.agg #[.int .u32 r1, .int .u32 r2]) ∧ Below w.heap.size w w' := by
  have hu24 := Try.underlying24
  have HB := am (Below.refl w.heap.size w)
  have H : (if a1_0 = a1_1 then (lamplighterref19_compares.j0 k a0 (a1_0 == a2_0 && (a1_1 == a2_1)) a1_0 a1_1 a2_0 a2_1) else (lamplighterref19_compares.j0 k a0 false a1_0 a1_1 a2_0 a2_1)) = some (r1, r2) := h
  clear h; have HC4 := am H; clear H
  go_enter Try.func48, Try.ntmps48
  go_upto_region 1 with (first | ((with_reducible refine gate_dst (N := 4) rfl ?_); refine bxE 4 #[.int .u32 a1_0, .int .u32 a1_1] 24 ?_; intro gb418 hg w5 hbox hb; have BK418 := am (hbox); have GW418 := gwA hg HB; have GE418 := gwA hg HB; replace HB := bsA HB hb; clear hb hbox hg) | ((with_reducible refine gate_dst (N := 5) rfl ?_); refine bxE 5 #[.int .u32 a2_0, .int .u32 a2_1] 24 ?_; intro gb419 hg w6 hbox hb; have BK419 := am (hbox); have GW419 := gwA hg HB; have GE419 := gwA hg HB; have NB418_419 := ltA hg BK418; have NB419_418 := gtA hg BK418; replace BK418 := bbA BK418 hb; replace HB := bsA HB hb; clear hb hbox hg) | ((with_reducible refine gate_dst (N := 6) rfl ?_); refine bxE 6 #[.int .u32 0, .int .u32 0] 24 ?_; intro gb420 hg w7 hbox hb; have BK420 := am (hbox); have GW420 := gwA hg HB; have GE420 := gwA hg HB; have NB418_420 := ltA hg BK418; have NB420_418 := gtA hg BK418; have NB419_420 := ltA hg BK419; have NB420_419 := gtA hg BK419; replace BK418 := bbA BK418 hb; replace BK419 := bbA BK419 hb; replace HB := bsA HB hb; clear hb hbox hg))
  (try simp only [Act.put, s1, s2, s3])
  go_cut [7] (fun v7 wc => ∃ (kq : Nat) (x7_3 : Bool), v7 = .bool x7_3 ∧ Aside0 (lamplighterref19_compares.j0 kq a0 x7_3 a1_0 a1_1 a2_0 a2_1 = some (r1, r2)) ∧ Aside0 (kq ≤ k) ∧ Aside0 (wc.heap[gb418]? = some (.cells #[.int .u32 a1_0, .int .u32 a1_1] 24 (0, 0))) ∧ Aside0 (wc.heap[gb419]? = some (.cells #[.int .u32 a2_0, .int .u32 a2_1] 24 (0, 0))) ∧ Aside0 (wc.heap[gb420]? = some (.cells #[.int .u32 0, .int .u32 0] 24 (0, 0))) ∧ Aside0 (Below w.heap.size w wc))
  case first => as_aux_lemma =>
    have H := HC4.out
    clear HC4; by_cases c8 : a1_0 = a1_1
    · rw [if_pos c8] at H; have c8b0 : (a1_0 == a1_1) = true := beq_iff_eq.mpr c8; have c8b1 : (a1_0 != a1_1) = false := bne_eq_false_iff_eq.mpr c8; clear c8; (first | rw [c8b0] | (simp only [i64_w, i32_w]; rw [c8b0]) | skip)
      have H' := am H; clear H; have hnb9 := NB418_419.out
      have hnc9 := NB419_418.out
      have hnb10 := NB418_420.out
      have hnc10 := NB420_418.out
      have hcz11_0 : w7.cell? ⟨gb418, 0, none⟩ = some (.int .u32 a1_0) := cz BK418
      have hcz11_1 : w7.cell? ⟨gb418, 1, none⟩ = some (.int .u32 a1_1) := cz BK418
      have hfz11_0 := blk_frozen BK418.out 0
      have hfz11_1 := blk_frozen BK418.out 1
      have hnb12 := NB419_420.out
      have hnc12 := NB420_419.out
      have hcz13_0 : w7.cell? ⟨gb419, 0, none⟩ = some (.int .u32 a2_0) := cz BK419
      have hcz13_1 : w7.cell? ⟨gb419, 1, none⟩ = some (.int .u32 a2_1) := cz BK419
      have hfz13_0 := blk_frozen BK419.out 0
      have hfz13_1 := blk_frozen BK419.out 1
      go_wp2
      go_meet
      case rel => exact ⟨_, ((a1_0 == a2_0 && (a1_1 == a2_1))), (by first | rfl | (simp; done) | (simp [*]; done) | (congr 1; omega) | (congr 2; omega) | (rw [Int.tdiv_eq_ediv_of_nonneg (by decide)]; done)), H', ⟨by first | omega | exact Nat.le_refl _⟩, ⟨by refine bkT ?_; exact BK418.out⟩, ⟨by refine bkT ?_; exact BK419.out⟩, ⟨by refine bkT ?_; exact BK420.out⟩, ⟨by repeat (first | (with_reducible first | exact HB.out | apply below_alloc | apply pw_below_drewN | apply below_drew1 | refine below_set ?_ GE418.out | refine below_set ?_ GE419.out | refine below_set ?_ GE420.out) | exact HB.out)⟩⟩
    rw [if_neg c8] at H; have c8b0 : (a1_0 == a1_1) = false := beq_eq_false_iff_ne.mpr c8; have c8b1 : (a1_0 != a1_1) = true := bne_iff_ne.mpr c8; (first | rw [c8b0] | (simp only [i64_w, i32_w]; rw [c8b0]) | skip)
    have H' := am H; clear H; have hnb14 := NB418_419.out
    have hnc14 := NB419_418.out
    have hnb15 := NB418_420.out
    have hnc15 := NB420_418.out
    have hcz16_0 : w7.cell? ⟨gb418, 0, none⟩ = some (.int .u32 a1_0) := cz BK418
    have hcz16_1 : w7.cell? ⟨gb418, 1, none⟩ = some (.int .u32 a1_1) := cz BK418
    have hfz16_0 := blk_frozen BK418.out 0
    have hfz16_1 := blk_frozen BK418.out 1
    go_wp2
    go_meet
    case rel => exact ⟨_, (false), (by first | rfl | (simp; done) | (simp [*]; done) | (congr 1; omega) | (congr 2; omega) | (rw [Int.tdiv_eq_ediv_of_nonneg (by decide)]; done)), H', ⟨by first | omega | exact Nat.le_refl _⟩, ⟨by refine bkT ?_; exact BK418.out⟩, ⟨by refine bkT ?_; exact BK419.out⟩, ⟨by refine bkT ?_; exact BK420.out⟩, ⟨by repeat (first | (with_reducible first | exact HB.out | apply below_alloc | apply pw_below_drewN | apply below_drew1 | refine below_set ?_ GE418.out | refine below_set ?_ GE419.out | refine below_set ?_ GE420.out) | exact HB.out)⟩⟩
  case rest => as_aux_lemma =>
    clear HC4
    try clear c1
    try clear p2
    try clear c4
    try clear c8
    try clear c8b0
    try clear c8b1
    try clear c9
    try clear c10
    try clear c12
    try clear c14
    try clear c15
    try clear hcz11_0
    try clear hcz11_1
    try clear hcz13_0
    try clear hcz13_1
    try clear hcz16_0
    try clear hcz16_1
    try clear hfz11_0
    try clear hfz11_1
    try clear hfz13_0
    try clear hfz13_1
    try clear hfz16_0
    try clear hfz16_1
    obtain ⟨kq, x7_3, rfl, HA, HJ3, BK418, BK419, BK420, HB⟩ := hcut
    cases kq with
    | zero => exact absurd HA.out (by simp [lamplighterref19_compares.j0])
    | succ kj3 =>
      have H := HA.out
      clear HA; simp only [lamplighterref19_compares.j0] at H
      have HC17 := am H; clear H
      go_upto_region 2 with (fail)
      go_cut [8] (fun v8 wc => ∃ (kq : Nat) (x8_16 : Bool), v8 = .bool x8_16 ∧ Aside0 (lamplighterref19_compares.j1 kq a0 x7_3 x8_16 a1_0 a1_1 a2_0 a2_1 = some (r1, r2)) ∧ Aside0 (kq ≤ kj3) ∧ Aside0 (wc.heap[gb418]? = some (.cells #[.int .u32 a1_0, .int .u32 a1_1] 24 (0, 0))) ∧ Aside0 (wc.heap[gb419]? = some (.cells #[.int .u32 a2_0, .int .u32 a2_1] 24 (0, 0))) ∧ Aside0 (wc.heap[gb420]? = some (.cells #[.int .u32 0, .int .u32 0] 24 (0, 0))) ∧ Aside0 (Below w.heap.size w wc))
      case first => as_aux_lemma =>
        have H := HC17.out
        clear HC17; by_cases c18 : a1_1 < a2_0
        · rw [if_pos c18] at H; have c18b0 : decide (a1_1 < a2_0) = true := decide_eq_true c18; clear c18; (first | rw [c18b0] | (simp only [i64_w, i32_w]; rw [c18b0]) | skip)
          have H' := am H; clear H; have hnb19 := NB418_419.out
          have hnc19 := NB419_418.out
          have hnb20 := NB418_420.out
          have hnc20 := NB420_418.out
          have hcz21_0 : wc.cell? ⟨gb418, 0, none⟩ = some (.int .u32 a1_0) := cz BK418
          have hcz21_1 : wc.cell? ⟨gb418, 1, none⟩ = some (.int .u32 a1_1) := cz BK418
          have hfz21_0 := blk_frozen BK418.out 0
          have hfz21_1 := blk_frozen BK418.out 1
          have hnb22 := NB419_420.out
          have hnc22 := NB420_419.out
          have hcz23_0 : wc.cell? ⟨gb419, 0, none⟩ = some (.int .u32 a2_0) := cz BK419
          have hcz23_1 : wc.cell? ⟨gb419, 1, none⟩ = some (.int .u32 a2_1) := cz BK419
          have hfz23_0 := blk_frozen BK419.out 0
          have hfz23_1 := blk_frozen BK419.out 1
          go_wp2
          go_meet
          case rel => exact ⟨_, (true), (by first | rfl | (simp; done) | (simp [*]; done) | (congr 1; omega) | (congr 2; omega) | (rw [Int.tdiv_eq_ediv_of_nonneg (by decide)]; done)), H', ⟨by have := HJ3.out; first | omega | exact Nat.le_refl _⟩, ⟨by refine bkT ?_; exact BK418.out⟩, ⟨by refine bkT ?_; exact BK419.out⟩, ⟨by refine bkT ?_; exact BK420.out⟩, ⟨by repeat (first | (with_reducible first | exact HB.out | apply below_alloc | apply pw_below_drewN | apply below_drew1 | refine below_set ?_ GE418.out | refine below_set ?_ GE419.out | refine below_set ?_ GE420.out) | exact HB.out)⟩⟩
        rw [if_neg c18] at H; have c18b0 : decide (a1_1 < a2_0) = false := decide_eq_false c18; clear c18; (first | rw [c18b0] | (simp only [i64_w, i32_w]; rw [c18b0]) | skip)
        have H' := am H; clear H; have hnb24 := NB418_419.out
        have hnc24 := NB419_418.out
        have hnb25 := NB418_420.out
        have hnc25 := NB420_418.out
        have hcz26_0 : wc.cell? ⟨gb418, 0, none⟩ = some (.int .u32 a1_0) := cz BK418
        have hcz26_1 : wc.cell? ⟨gb418, 1, none⟩ = some (.int .u32 a1_1) := cz BK418
        have hfz26_0 := blk_frozen BK418.out 0
        have hfz26_1 := blk_frozen BK418.out 1
        have hnb27 := NB419_420.out
        have hnc27 := NB420_419.out
        have hcz28_0 : wc.cell? ⟨gb419, 0, none⟩ = some (.int .u32 a2_0) := cz BK419
        have hcz28_1 : wc.cell? ⟨gb419, 1, none⟩ = some (.int .u32 a2_1) := cz BK419
        have hfz28_0 := blk_frozen BK419.out 0
        have hfz28_1 := blk_frozen BK419.out 1
        go_wp2
        go_meet
        case rel => exact ⟨_, (decide (a2_1 < a1_0)), (by first | rfl | (simp; done) | (simp [*]; done) | (congr 1; omega) | (congr 2; omega) | (rw [Int.tdiv_eq_ediv_of_nonneg (by decide)]; done)), H', ⟨by have := HJ3.out; first | omega | exact Nat.le_refl _⟩, ⟨by refine bkT ?_; exact BK418.out⟩, ⟨by refine bkT ?_; exact BK419.out⟩, ⟨by refine bkT ?_; exact BK420.out⟩, ⟨by repeat (first | (with_reducible first | exact HB.out | apply below_alloc | apply pw_below_drewN | apply below_drew1 | refine below_set ?_ GE418.out | refine below_set ?_ GE419.out | refine below_set ?_ GE420.out) | exact HB.out)⟩⟩
      case rest => as_aux_lemma =>
        clear HC17
        try clear c1
        try clear c2
        try clear p2
        try clear c4
        try clear c8
        try clear c8b0
        try clear c8b1
        try clear c9
        try clear c10
        try clear c12
        try clear c14
        try clear c15
        try clear c18
        try clear c18b0
        try clear c19
        try clear c20
        try clear c22
        try clear c24
        try clear c25
        try clear c27
        try clear hcz11_0
        try clear hcz11_1
        try clear hcz13_0
        try clear hcz13_1
        try clear hcz16_0
        try clear hcz16_1
        try clear hcz21_0
        try clear hcz21_1
        try clear hcz23_0
        try clear hcz23_1
        try clear hcz26_0
        try clear hcz26_1
        try clear hcz28_0
        try clear hcz28_1
        try clear hfz11_0
        try clear hfz11_1
        try clear hfz13_0
        try clear hfz13_1
        try clear hfz16_0
        try clear hfz16_1
        try clear hfz21_0
        try clear hfz21_1
        try clear hfz23_0
        try clear hfz23_1
        try clear hfz26_0
        try clear hfz26_1
        try clear hfz28_0
        try clear hfz28_1
        try clear p2
        obtain ⟨kq, x8_16, rfl, HA, HJ16, BK418, BK419, BK420, HB⟩ := hcut
        cases kq with
        | zero => exact absurd HA.out (by simp [lamplighterref19_compares.j1])
        | succ kj16 =>
          have H := HA.out
          clear HA; simp only [lamplighterref19_compares.j1] at H
          replace H := Option.bind_eq_some_iff.mp H; obtain ⟨⟨t421, t422⟩, A290, H⟩ := H; replace H : ((lamplighterref19_signed.f kj16 a2_0 a2_1).bind fun bt423 => (if a0 = 14 then ((lamplighterref19_truth.f x7_3 x8_16).bind fun bt425 => (some (bt425.1, bt425.2))) else (if a0 = 15 then ((lamplighterref19_truth.f x8_16 x7_3).bind fun bt427 => (some (bt427.1, bt427.2))) else (if a0 = 16 then ((lamplighterref19_truth.f (decide (a1_1 < a2_0)) (decide (a1_0 ≥ a2_1))).bind fun bt429 => (some (bt429.1, bt429.2))) else (if a0 = 17 then ((lamplighterref19_truth.f (decide (a1_1 ≤ a2_0)) (decide (a1_0 > a2_1))).bind fun bt431 => (some (bt431.1, bt431.2))) else (if a0 = 18 then ((lamplighterref19_truth.f (decide (t422 < bt423.1)) (decide (t421 ≥ bt423.2))).bind fun bt433 => (some (bt433.1, bt433.2))) else ((lamplighterref19_truth.f (decide (t422 ≤ bt423.1)) (decide (t421 > bt423.2))).bind fun bt435 => (some (bt435.1, bt435.2))))))))) = some (r1, r2) := H; have A29 := am A290; clear A290; replace H := Option.bind_eq_some_iff.mp H; obtain ⟨⟨t423, t424⟩, A300, H⟩ := H; replace H : (if a0 = 14 then ((lamplighterref19_truth.f x7_3 x8_16).bind fun bt425 => (some (bt425.1, bt425.2))) else (if a0 = 15 then ((lamplighterref19_truth.f x8_16 x7_3).bind fun bt427 => (some (bt427.1, bt427.2))) else (if a0 = 16 then ((lamplighterref19_truth.f (decide (a1_1 < a2_0)) (decide (a1_0 ≥ a2_1))).bind fun bt429 => (some (bt429.1, bt429.2))) else (if a0 = 17 then ((lamplighterref19_truth.f (decide (a1_1 ≤ a2_0)) (decide (a1_0 > a2_1))).bind fun bt431 => (some (bt431.1, bt431.2))) else (if a0 = 18 then ((lamplighterref19_truth.f (decide (t422 < t423)) (decide (t421 ≥ t424))).bind fun bt433 => (some (bt433.1, bt433.2))) else ((lamplighterref19_truth.f (decide (t422 ≤ t423)) (decide (t421 > t424))).bind fun bt435 => (some (bt435.1, bt435.2)))))))) = some (r1, r2) := H; have A30 := am A300; clear A300; by_cases c31 : a0 = 14
          · rw [if_pos c31] at H; have c31b0 : (a0 == 14) = true := beq_iff_eq.mpr c31; have c31b1 : (a0 != 14) = false := bne_eq_false_iff_eq.mpr c31; clear c31; replace H := Option.bind_eq_some_iff.mp H; obtain ⟨⟨t425, t426⟩, A320, H⟩ := H; replace H : (some (t425, t426)) = some (r1, r2) := H; have A32 := am A320; clear A320; simp only [Option.some.injEq, Prod.mk.injEq] at H; obtain ⟨rfl, rfl⟩ := H; have hnb33 := NB418_419.out
            have hnc33 := NB419_418.out
            have hnb34 := NB418_420.out
            have hnc34 := NB420_418.out
            have hcz35_0 : wc.cell? ⟨gb418, 0, none⟩ = some (.int .u32 a1_0) := cz BK418
            have hcz35_1 : wc.cell? ⟨gb418, 1, none⟩ = some (.int .u32 a1_1) := cz BK418
            have hfz35_0 := blk_frozen BK418.out 0
            have hfz35_1 := blk_frozen BK418.out 1
            go_wp2_with (first | ((with_reducible refine gate_callee (f := 71) rfl ?_); refine goesL_ (some 37) rfl rfl Try.func71 (by kernel_rfl) rfl #[.agg #[.int .u32 a1_0, .int .u32 a1_1]] rfl (by (try simp only [List.map_toArray, List.map_cons, List.map_nil]); first | done | rfl | (simp only [List.length_drop, List.length_take]; rfl)) ?_; (with_reducible refine (lamplighterref19_signed.calls kj16 a1_0 a1_1 t421 t422 _ A29.out).mono ?_); rintro e w36 ⟨rfl, hb⟩; refine ⟨_, rfl, ?_⟩; replace BK418 := bbA BK418 hb; replace BK419 := bbA BK419 hb; replace BK420 := bbA BK420 hb; replace HB := bsA HB hb; (try clear hb); (try clear hb2); (try clear hk); (try clear hi); have hnb37 := NB419_420.out; have hnc37 := NB420_419.out; have hcz38_0 : w36.cell? ⟨gb419, 0, none⟩ = some (.int .u32 a2_0) := cz BK419; have hcz38_1 : w36.cell? ⟨gb419, 1, none⟩ = some (.int .u32 a2_1) := cz BK419; have hfz38_0 := blk_frozen BK419.out 0; have hfz38_1 := blk_frozen BK419.out 1) | ((with_reducible refine gate_callee (f := 71) rfl ?_); refine goesL_ (some 42) rfl rfl Try.func71 (by kernel_rfl) rfl #[.agg #[.int .u32 a2_0, .int .u32 a2_1]] rfl (by (try simp only [List.map_toArray, List.map_cons, List.map_nil]); first | done | rfl | (simp only [List.length_drop, List.length_take]; rfl)) ?_; (with_reducible refine (lamplighterref19_signed.calls kj16 a2_0 a2_1 t423 t424 _ A30.out).mono ?_); rintro e w39 ⟨rfl, hb⟩; refine ⟨_, rfl, ?_⟩; replace BK418 := bbA BK418 hb; replace BK419 := bbA BK419 hb; replace BK420 := bbA BK420 hb; replace HB := bsA HB hb; (try clear hb); (try clear hb2); (try clear hk); (try clear hi)) | ((with_reducible refine gate_callee (f := 49) rfl ?_); refine goesL_ (some 50) rfl rfl Try.func49 (by kernel_rfl) rfl #[.bool x7_3, .bool x8_16] rfl (by (try simp only [List.map_toArray, List.map_cons, List.map_nil]); first | done | rfl | (simp only [List.length_drop, List.length_take]; rfl)) ?_; (with_reducible refine (lamplighterref19_truth.calls x7_3 x8_16 t425 t426 _ A32.out).mono ?_); rintro e w40 ⟨rfl, hb⟩; refine ⟨_, rfl, ?_⟩; replace BK418 := bbA BK418 hb; replace BK419 := bbA BK419 hb; replace BK420 := bbA BK420 hb; replace HB := bsA HB hb; (try clear hb); (try clear hb2); (try clear hk); (try clear hi); have hcz41_0 : w40.cell? ⟨gb420, 0, none⟩ = some (.int .u32 0) := cz BK420; have hcz41_1 : w40.cell? ⟨gb420, 1, none⟩ = some (.int .u32 0) := cz BK420; have hfz41_0 := blk_frozen BK420.out 0; have hfz41_1 := blk_frozen BK420.out 1))
            refine bodyPost_ret (results_cell_row rfl _ _ gb420 24 #[.int .u32 t425, .int .u32 t426] (0, 0) _ rfl (by refine bkT ?_; refine blk_put (cs := #[.int .u32 t425, .int .u32 0]) ?_ 1 _ rfl; refine bkT ?_; refine blk_put (cs := #[.int .u32 0, .int .u32 0]) ?_ 0 _ rfl; refine bkT ?_; exact BK420.out) Try.underlying24 rfl (by kernel_rfl)) rfl ?_
            exact ⟨by first | rfl | (simp [errW_none, errW_some] <;> rfl) | (simp [*, errW_none, errW_some] <;> rfl), hbA HB⟩
          rw [if_neg c31] at H; have c31b0 : (a0 == 14) = false := beq_eq_false_iff_ne.mpr c31; have c31b1 : (a0 != 14) = true := bne_iff_ne.mpr c31; by_cases c42 : a0 = 15
          · rw [if_pos c42] at H; have c42b0 : (a0 == 15) = true := beq_iff_eq.mpr c42; have c42b1 : (a0 != 15) = false := bne_eq_false_iff_eq.mpr c42; clear c42; replace H := Option.bind_eq_some_iff.mp H; obtain ⟨⟨t427, t428⟩, A430, H⟩ := H; replace H : (some (t427, t428)) = some (r1, r2) := H; have A43 := am A430; clear A430; simp only [Option.some.injEq, Prod.mk.injEq] at H; obtain ⟨rfl, rfl⟩ := H; have hnb44 := NB418_419.out
            have hnc44 := NB419_418.out
            have hnb45 := NB418_420.out
            have hnc45 := NB420_418.out
            have hcz46_0 : wc.cell? ⟨gb418, 0, none⟩ = some (.int .u32 a1_0) := cz BK418
            have hcz46_1 : wc.cell? ⟨gb418, 1, none⟩ = some (.int .u32 a1_1) := cz BK418
            have hfz46_0 := blk_frozen BK418.out 0
            have hfz46_1 := blk_frozen BK418.out 1
            go_wp2_with (first | ((with_reducible refine gate_callee (f := 71) rfl ?_); refine goesL_ (some 37) rfl rfl Try.func71 (by kernel_rfl) rfl #[.agg #[.int .u32 a1_0, .int .u32 a1_1]] rfl (by (try simp only [List.map_toArray, List.map_cons, List.map_nil]); first | done | rfl | (simp only [List.length_drop, List.length_take]; rfl)) ?_; (with_reducible refine (lamplighterref19_signed.calls kj16 a1_0 a1_1 t421 t422 _ A29.out).mono ?_); rintro e w47 ⟨rfl, hb⟩; refine ⟨_, rfl, ?_⟩; replace BK418 := bbA BK418 hb; replace BK419 := bbA BK419 hb; replace BK420 := bbA BK420 hb; replace HB := bsA HB hb; (try clear hb); (try clear hb2); (try clear hk); (try clear hi); have hnb48 := NB419_420.out; have hnc48 := NB420_419.out; have hcz49_0 : w47.cell? ⟨gb419, 0, none⟩ = some (.int .u32 a2_0) := cz BK419; have hcz49_1 : w47.cell? ⟨gb419, 1, none⟩ = some (.int .u32 a2_1) := cz BK419; have hfz49_0 := blk_frozen BK419.out 0; have hfz49_1 := blk_frozen BK419.out 1) | ((with_reducible refine gate_callee (f := 71) rfl ?_); refine goesL_ (some 42) rfl rfl Try.func71 (by kernel_rfl) rfl #[.agg #[.int .u32 a2_0, .int .u32 a2_1]] rfl (by (try simp only [List.map_toArray, List.map_cons, List.map_nil]); first | done | rfl | (simp only [List.length_drop, List.length_take]; rfl)) ?_; (with_reducible refine (lamplighterref19_signed.calls kj16 a2_0 a2_1 t423 t424 _ A30.out).mono ?_); rintro e w50 ⟨rfl, hb⟩; refine ⟨_, rfl, ?_⟩; replace BK418 := bbA BK418 hb; replace BK419 := bbA BK419 hb; replace BK420 := bbA BK420 hb; replace HB := bsA HB hb; (try clear hb); (try clear hb2); (try clear hk); (try clear hi)) | ((with_reducible refine gate_callee (f := 49) rfl ?_); refine goesL_ (some 55) rfl rfl Try.func49 (by kernel_rfl) rfl #[.bool x8_16, .bool x7_3] rfl (by (try simp only [List.map_toArray, List.map_cons, List.map_nil]); first | done | rfl | (simp only [List.length_drop, List.length_take]; rfl)) ?_; (with_reducible refine (lamplighterref19_truth.calls x8_16 x7_3 t427 t428 _ A43.out).mono ?_); rintro e w51 ⟨rfl, hb⟩; refine ⟨_, rfl, ?_⟩; replace BK418 := bbA BK418 hb; replace BK419 := bbA BK419 hb; replace BK420 := bbA BK420 hb; replace HB := bsA HB hb; (try clear hb); (try clear hb2); (try clear hk); (try clear hi); have hcz52_0 : w51.cell? ⟨gb420, 0, none⟩ = some (.int .u32 0) := cz BK420; have hcz52_1 : w51.cell? ⟨gb420, 1, none⟩ = some (.int .u32 0) := cz BK420; have hfz52_0 := blk_frozen BK420.out 0; have hfz52_1 := blk_frozen BK420.out 1))
            refine bodyPost_ret (results_cell_row rfl _ _ gb420 24 #[.int .u32 t427, .int .u32 t428] (0, 0) _ rfl (by refine bkT ?_; refine blk_put (cs := #[.int .u32 t427, .int .u32 0]) ?_ 1 _ rfl; refine bkT ?_; refine blk_put (cs := #[.int .u32 0, .int .u32 0]) ?_ 0 _ rfl; refine bkT ?_; exact BK420.out) Try.underlying24 rfl (by kernel_rfl)) rfl ?_
            exact ⟨by first | rfl | (simp [errW_none, errW_some] <;> rfl) | (simp [*, errW_none, errW_some] <;> rfl), hbA HB⟩
          rw [if_neg c42] at H; have c42b0 : (a0 == 15) = false := beq_eq_false_iff_ne.mpr c42; have c42b1 : (a0 != 15) = true := bne_iff_ne.mpr c42; by_cases c53 : a0 = 16
          · rw [if_pos c53] at H; have c53b0 : (a0 == 16) = true := beq_iff_eq.mpr c53; have c53b1 : (a0 != 16) = false := bne_eq_false_iff_eq.mpr c53; clear c53; replace H := Option.bind_eq_some_iff.mp H; obtain ⟨⟨t429, t430⟩, A540, H⟩ := H; replace H : (some (t429, t430)) = some (r1, r2) := H; have A54 := am A540; clear A540; simp only [Option.some.injEq, Prod.mk.injEq] at H; obtain ⟨rfl, rfl⟩ := H; have hnb55 := NB418_419.out
            have hnc55 := NB419_418.out
            have hnb56 := NB418_420.out
            have hnc56 := NB420_418.out
            have hcz57_0 : wc.cell? ⟨gb418, 0, none⟩ = some (.int .u32 a1_0) := cz BK418
            have hcz57_1 : wc.cell? ⟨gb418, 1, none⟩ = some (.int .u32 a1_1) := cz BK418
            have hfz57_0 := blk_frozen BK418.out 0
            have hfz57_1 := blk_frozen BK418.out 1
            go_wp2_with (first | ((with_reducible refine gate_callee (f := 71) rfl ?_); refine goesL_ (some 37) rfl rfl Try.func71 (by kernel_rfl) rfl #[.agg #[.int .u32 a1_0, .int .u32 a1_1]] rfl (by (try simp only [List.map_toArray, List.map_cons, List.map_nil]); first | done | rfl | (simp only [List.length_drop, List.length_take]; rfl)) ?_; (with_reducible refine (lamplighterref19_signed.calls kj16 a1_0 a1_1 t421 t422 _ A29.out).mono ?_); rintro e w58 ⟨rfl, hb⟩; refine ⟨_, rfl, ?_⟩; replace BK418 := bbA BK418 hb; replace BK419 := bbA BK419 hb; replace BK420 := bbA BK420 hb; replace HB := bsA HB hb; (try clear hb); (try clear hb2); (try clear hk); (try clear hi); have hnb59 := NB419_420.out; have hnc59 := NB420_419.out; have hcz60_0 : w58.cell? ⟨gb419, 0, none⟩ = some (.int .u32 a2_0) := cz BK419; have hcz60_1 : w58.cell? ⟨gb419, 1, none⟩ = some (.int .u32 a2_1) := cz BK419; have hfz60_0 := blk_frozen BK419.out 0; have hfz60_1 := blk_frozen BK419.out 1) | ((with_reducible refine gate_callee (f := 71) rfl ?_); refine goesL_ (some 42) rfl rfl Try.func71 (by kernel_rfl) rfl #[.agg #[.int .u32 a2_0, .int .u32 a2_1]] rfl (by (try simp only [List.map_toArray, List.map_cons, List.map_nil]); first | done | rfl | (simp only [List.length_drop, List.length_take]; rfl)) ?_; (with_reducible refine (lamplighterref19_signed.calls kj16 a2_0 a2_1 t423 t424 _ A30.out).mono ?_); rintro e w61 ⟨rfl, hb⟩; refine ⟨_, rfl, ?_⟩; replace BK418 := bbA BK418 hb; replace BK419 := bbA BK419 hb; replace BK420 := bbA BK420 hb; replace HB := bsA HB hb; (try clear hb); (try clear hb2); (try clear hk); (try clear hi); have hcz62_0 : w61.cell? ⟨gb418, 0, none⟩ = some (.int .u32 a1_0) := cz BK418; have hcz62_1 : w61.cell? ⟨gb418, 1, none⟩ = some (.int .u32 a1_1) := cz BK418; have hfz62_0 := blk_frozen BK418.out 0; have hfz62_1 := blk_frozen BK418.out 1; have hcz63_0 : w61.cell? ⟨gb419, 0, none⟩ = some (.int .u32 a2_0) := cz BK419; have hcz63_1 : w61.cell? ⟨gb419, 1, none⟩ = some (.int .u32 a2_1) := cz BK419; have hfz63_0 := blk_frozen BK419.out 0; have hfz63_1 := blk_frozen BK419.out 1) | ((with_reducible refine gate_callee (f := 49) rfl ?_); refine goesL_ (some 68) rfl rfl Try.func49 (by kernel_rfl) rfl #[.bool (decide (a1_1 < a2_0)), .bool (decide (a1_0 ≥ a2_1))] rfl (by (try simp only [List.map_toArray, List.map_cons, List.map_nil]); first | done | rfl | (simp only [List.length_drop, List.length_take]; rfl)) ?_; (with_reducible refine (lamplighterref19_truth.calls (decide (a1_1 < a2_0)) (decide (a1_0 ≥ a2_1)) t429 t430 _ A54.out).mono ?_); rintro e w64 ⟨rfl, hb⟩; refine ⟨_, rfl, ?_⟩; replace BK418 := bbA BK418 hb; replace BK419 := bbA BK419 hb; replace BK420 := bbA BK420 hb; replace HB := bsA HB hb; (try clear hb); (try clear hb2); (try clear hk); (try clear hi); have hcz65_0 : w64.cell? ⟨gb420, 0, none⟩ = some (.int .u32 0) := cz BK420; have hcz65_1 : w64.cell? ⟨gb420, 1, none⟩ = some (.int .u32 0) := cz BK420; have hfz65_0 := blk_frozen BK420.out 0; have hfz65_1 := blk_frozen BK420.out 1))
            refine bodyPost_ret (results_cell_row rfl _ _ gb420 24 #[.int .u32 t429, .int .u32 t430] (0, 0) _ rfl (by refine bkT ?_; refine blk_put (cs := #[.int .u32 t429, .int .u32 0]) ?_ 1 _ rfl; refine bkT ?_; refine blk_put (cs := #[.int .u32 0, .int .u32 0]) ?_ 0 _ rfl; refine bkT ?_; exact BK420.out) Try.underlying24 rfl (by kernel_rfl)) rfl ?_
            exact ⟨by first | rfl | (simp [errW_none, errW_some] <;> rfl) | (simp [*, errW_none, errW_some] <;> rfl), hbA HB⟩
          rw [if_neg c53] at H; have c53b0 : (a0 == 16) = false := beq_eq_false_iff_ne.mpr c53; have c53b1 : (a0 != 16) = true := bne_iff_ne.mpr c53; by_cases c66 : a0 = 17
          · rw [if_pos c66] at H; have c66b0 : (a0 == 17) = true := beq_iff_eq.mpr c66; have c66b1 : (a0 != 17) = false := bne_eq_false_iff_eq.mpr c66; clear c66; replace H := Option.bind_eq_some_iff.mp H; obtain ⟨⟨t431, t432⟩, A670, H⟩ := H; replace H : (some (t431, t432)) = some (r1, r2) := H; have A67 := am A670; clear A670; simp only [Option.some.injEq, Prod.mk.injEq] at H; obtain ⟨rfl, rfl⟩ := H; have hnb68 := NB418_419.out
            have hnc68 := NB419_418.out
            have hnb69 := NB418_420.out
            have hnc69 := NB420_418.out
            have hcz70_0 : wc.cell? ⟨gb418, 0, none⟩ = some (.int .u32 a1_0) := cz BK418
            have hcz70_1 : wc.cell? ⟨gb418, 1, none⟩ = some (.int .u32 a1_1) := cz BK418
            have hfz70_0 := blk_frozen BK418.out 0
            have hfz70_1 := blk_frozen BK418.out 1
            go_wp2_with (first | ((with_reducible refine gate_callee (f := 71) rfl ?_); refine goesL_ (some 37) rfl rfl Try.func71 (by kernel_rfl) rfl #[.agg #[.int .u32 a1_0, .int .u32 a1_1]] rfl (by (try simp only [List.map_toArray, List.map_cons, List.map_nil]); first | done | rfl | (simp only [List.length_drop, List.length_take]; rfl)) ?_; (with_reducible refine (lamplighterref19_signed.calls kj16 a1_0 a1_1 t421 t422 _ A29.out).mono ?_); rintro e w71 ⟨rfl, hb⟩; refine ⟨_, rfl, ?_⟩; replace BK418 := bbA BK418 hb; replace BK419 := bbA BK419 hb; replace BK420 := bbA BK420 hb; replace HB := bsA HB hb; (try clear hb); (try clear hb2); (try clear hk); (try clear hi); have hnb72 := NB419_420.out; have hnc72 := NB420_419.out; have hcz73_0 : w71.cell? ⟨gb419, 0, none⟩ = some (.int .u32 a2_0) := cz BK419; have hcz73_1 : w71.cell? ⟨gb419, 1, none⟩ = some (.int .u32 a2_1) := cz BK419; have hfz73_0 := blk_frozen BK419.out 0; have hfz73_1 := blk_frozen BK419.out 1) | ((with_reducible refine gate_callee (f := 71) rfl ?_); refine goesL_ (some 42) rfl rfl Try.func71 (by kernel_rfl) rfl #[.agg #[.int .u32 a2_0, .int .u32 a2_1]] rfl (by (try simp only [List.map_toArray, List.map_cons, List.map_nil]); first | done | rfl | (simp only [List.length_drop, List.length_take]; rfl)) ?_; (with_reducible refine (lamplighterref19_signed.calls kj16 a2_0 a2_1 t423 t424 _ A30.out).mono ?_); rintro e w74 ⟨rfl, hb⟩; refine ⟨_, rfl, ?_⟩; replace BK418 := bbA BK418 hb; replace BK419 := bbA BK419 hb; replace BK420 := bbA BK420 hb; replace HB := bsA HB hb; (try clear hb); (try clear hb2); (try clear hk); (try clear hi); have hcz75_0 : w74.cell? ⟨gb418, 0, none⟩ = some (.int .u32 a1_0) := cz BK418; have hcz75_1 : w74.cell? ⟨gb418, 1, none⟩ = some (.int .u32 a1_1) := cz BK418; have hfz75_0 := blk_frozen BK418.out 0; have hfz75_1 := blk_frozen BK418.out 1; have hcz76_0 : w74.cell? ⟨gb419, 0, none⟩ = some (.int .u32 a2_0) := cz BK419; have hcz76_1 : w74.cell? ⟨gb419, 1, none⟩ = some (.int .u32 a2_1) := cz BK419; have hfz76_0 := blk_frozen BK419.out 0; have hfz76_1 := blk_frozen BK419.out 1) | ((with_reducible refine gate_callee (f := 49) rfl ?_); refine goesL_ (some 81) rfl rfl Try.func49 (by kernel_rfl) rfl #[.bool (decide (a1_1 ≤ a2_0)), .bool (decide (a1_0 > a2_1))] rfl (by (try simp only [List.map_toArray, List.map_cons, List.map_nil]); first | done | rfl | (simp only [List.length_drop, List.length_take]; rfl)) ?_; (with_reducible refine (lamplighterref19_truth.calls (decide (a1_1 ≤ a2_0)) (decide (a1_0 > a2_1)) t431 t432 _ A67.out).mono ?_); rintro e w77 ⟨rfl, hb⟩; refine ⟨_, rfl, ?_⟩; replace BK418 := bbA BK418 hb; replace BK419 := bbA BK419 hb; replace BK420 := bbA BK420 hb; replace HB := bsA HB hb; (try clear hb); (try clear hb2); (try clear hk); (try clear hi); have hcz78_0 : w77.cell? ⟨gb420, 0, none⟩ = some (.int .u32 0) := cz BK420; have hcz78_1 : w77.cell? ⟨gb420, 1, none⟩ = some (.int .u32 0) := cz BK420; have hfz78_0 := blk_frozen BK420.out 0; have hfz78_1 := blk_frozen BK420.out 1))
            refine bodyPost_ret (results_cell_row rfl _ _ gb420 24 #[.int .u32 t431, .int .u32 t432] (0, 0) _ rfl (by refine bkT ?_; refine blk_put (cs := #[.int .u32 t431, .int .u32 0]) ?_ 1 _ rfl; refine bkT ?_; refine blk_put (cs := #[.int .u32 0, .int .u32 0]) ?_ 0 _ rfl; refine bkT ?_; exact BK420.out) Try.underlying24 rfl (by kernel_rfl)) rfl ?_
            exact ⟨by first | rfl | (simp [errW_none, errW_some] <;> rfl) | (simp [*, errW_none, errW_some] <;> rfl), hbA HB⟩
          rw [if_neg c66] at H; have c66b0 : (a0 == 17) = false := beq_eq_false_iff_ne.mpr c66; have c66b1 : (a0 != 17) = true := bne_iff_ne.mpr c66; by_cases c79 : a0 = 18
          · rw [if_pos c79] at H; have c79b0 : (a0 == 18) = true := beq_iff_eq.mpr c79; have c79b1 : (a0 != 18) = false := bne_eq_false_iff_eq.mpr c79; clear c79; replace H := Option.bind_eq_some_iff.mp H; obtain ⟨⟨t433, t434⟩, A800, H⟩ := H; replace H : (some (t433, t434)) = some (r1, r2) := H; have A80 := am A800; clear A800; simp only [Option.some.injEq, Prod.mk.injEq] at H; obtain ⟨rfl, rfl⟩ := H; have hnb81 := NB418_419.out
            have hnc81 := NB419_418.out
            have hnb82 := NB418_420.out
            have hnc82 := NB420_418.out
            have hcz83_0 : wc.cell? ⟨gb418, 0, none⟩ = some (.int .u32 a1_0) := cz BK418
            have hcz83_1 : wc.cell? ⟨gb418, 1, none⟩ = some (.int .u32 a1_1) := cz BK418
            have hfz83_0 := blk_frozen BK418.out 0
            have hfz83_1 := blk_frozen BK418.out 1
            go_wp2_with (first | ((with_reducible refine gate_callee (f := 71) rfl ?_); refine goesL_ (some 37) rfl rfl Try.func71 (by kernel_rfl) rfl #[.agg #[.int .u32 a1_0, .int .u32 a1_1]] rfl (by (try simp only [List.map_toArray, List.map_cons, List.map_nil]); first | done | rfl | (simp only [List.length_drop, List.length_take]; rfl)) ?_; (with_reducible refine (lamplighterref19_signed.calls kj16 a1_0 a1_1 t421 t422 _ A29.out).mono ?_); rintro e w84 ⟨rfl, hb⟩; refine ⟨_, rfl, ?_⟩; replace BK418 := bbA BK418 hb; replace BK419 := bbA BK419 hb; replace BK420 := bbA BK420 hb; replace HB := bsA HB hb; (try clear hb); (try clear hb2); (try clear hk); (try clear hi); have hnb85 := NB419_420.out; have hnc85 := NB420_419.out; have hcz86_0 : w84.cell? ⟨gb419, 0, none⟩ = some (.int .u32 a2_0) := cz BK419; have hcz86_1 : w84.cell? ⟨gb419, 1, none⟩ = some (.int .u32 a2_1) := cz BK419; have hfz86_0 := blk_frozen BK419.out 0; have hfz86_1 := blk_frozen BK419.out 1) | ((with_reducible refine gate_callee (f := 71) rfl ?_); refine goesL_ (some 42) rfl rfl Try.func71 (by kernel_rfl) rfl #[.agg #[.int .u32 a2_0, .int .u32 a2_1]] rfl (by (try simp only [List.map_toArray, List.map_cons, List.map_nil]); first | done | rfl | (simp only [List.length_drop, List.length_take]; rfl)) ?_; (with_reducible refine (lamplighterref19_signed.calls kj16 a2_0 a2_1 t423 t424 _ A30.out).mono ?_); rintro e w87 ⟨rfl, hb⟩; refine ⟨_, rfl, ?_⟩; replace BK418 := bbA BK418 hb; replace BK419 := bbA BK419 hb; replace BK420 := bbA BK420 hb; replace HB := bsA HB hb; (try clear hb); (try clear hb2); (try clear hk); (try clear hi)) | ((with_reducible refine gate_callee (f := 49) rfl ?_); refine goesL_ (some 90) rfl rfl Try.func49 (by kernel_rfl) rfl #[.bool (decide (t422 < t423)), .bool (decide (t421 ≥ t424))] rfl (by (try simp only [List.map_toArray, List.map_cons, List.map_nil]); first | done | rfl | (simp only [List.length_drop, List.length_take]; rfl)) ?_; (with_reducible refine (lamplighterref19_truth.calls (decide (t422 < t423)) (decide (t421 ≥ t424)) t433 t434 _ A80.out).mono ?_); rintro e w88 ⟨rfl, hb⟩; refine ⟨_, rfl, ?_⟩; replace BK418 := bbA BK418 hb; replace BK419 := bbA BK419 hb; replace BK420 := bbA BK420 hb; replace HB := bsA HB hb; (try clear hb); (try clear hb2); (try clear hk); (try clear hi); have hcz89_0 : w88.cell? ⟨gb420, 0, none⟩ = some (.int .u32 0) := cz BK420; have hcz89_1 : w88.cell? ⟨gb420, 1, none⟩ = some (.int .u32 0) := cz BK420; have hfz89_0 := blk_frozen BK420.out 0; have hfz89_1 := blk_frozen BK420.out 1))
            refine bodyPost_ret (results_cell_row rfl _ _ gb420 24 #[.int .u32 t433, .int .u32 t434] (0, 0) _ rfl (by refine bkT ?_; refine blk_put (cs := #[.int .u32 t433, .int .u32 0]) ?_ 1 _ rfl; refine bkT ?_; refine blk_put (cs := #[.int .u32 0, .int .u32 0]) ?_ 0 _ rfl; refine bkT ?_; exact BK420.out) Try.underlying24 rfl (by kernel_rfl)) rfl ?_
            exact ⟨by first | rfl | (simp [errW_none, errW_some] <;> rfl) | (simp [*, errW_none, errW_some] <;> rfl), hbA HB⟩
          rw [if_neg c79] at H; have c79b0 : (a0 == 18) = false := beq_eq_false_iff_ne.mpr c79; have c79b1 : (a0 != 18) = true := bne_iff_ne.mpr c79; replace H := Option.bind_eq_some_iff.mp H; obtain ⟨⟨t435, t436⟩, A900, H⟩ := H; replace H : (some (t435, t436)) = some (r1, r2) := H; have A90 := am A900; clear A900; simp only [Option.some.injEq, Prod.mk.injEq] at H; obtain ⟨rfl, rfl⟩ := H; have hnb91 := NB418_419.out
          have hnc91 := NB419_418.out
          have hnb92 := NB418_420.out
          have hnc92 := NB420_418.out
          have hcz93_0 : wc.cell? ⟨gb418, 0, none⟩ = some (.int .u32 a1_0) := cz BK418
          have hcz93_1 : wc.cell? ⟨gb418, 1, none⟩ = some (.int .u32 a1_1) := cz BK418
          have hfz93_0 := blk_frozen BK418.out 0
          have hfz93_1 := blk_frozen BK418.out 1
          go_wp2_with (first | ((with_reducible refine gate_callee (f := 71) rfl ?_); refine goesL_ (some 37) rfl rfl Try.func71 (by kernel_rfl) rfl #[.agg #[.int .u32 a1_0, .int .u32 a1_1]] rfl (by (try simp only [List.map_toArray, List.map_cons, List.map_nil]); first | done | rfl | (simp only [List.length_drop, List.length_take]; rfl)) ?_; (with_reducible refine (lamplighterref19_signed.calls kj16 a1_0 a1_1 t421 t422 _ A29.out).mono ?_); rintro e w94 ⟨rfl, hb⟩; refine ⟨_, rfl, ?_⟩; replace BK418 := bbA BK418 hb; replace BK419 := bbA BK419 hb; replace BK420 := bbA BK420 hb; replace HB := bsA HB hb; (try clear hb); (try clear hb2); (try clear hk); (try clear hi); have hnb95 := NB419_420.out; have hnc95 := NB420_419.out; have hcz96_0 : w94.cell? ⟨gb419, 0, none⟩ = some (.int .u32 a2_0) := cz BK419; have hcz96_1 : w94.cell? ⟨gb419, 1, none⟩ = some (.int .u32 a2_1) := cz BK419; have hfz96_0 := blk_frozen BK419.out 0; have hfz96_1 := blk_frozen BK419.out 1) | ((with_reducible refine gate_callee (f := 71) rfl ?_); refine goesL_ (some 42) rfl rfl Try.func71 (by kernel_rfl) rfl #[.agg #[.int .u32 a2_0, .int .u32 a2_1]] rfl (by (try simp only [List.map_toArray, List.map_cons, List.map_nil]); first | done | rfl | (simp only [List.length_drop, List.length_take]; rfl)) ?_; (with_reducible refine (lamplighterref19_signed.calls kj16 a2_0 a2_1 t423 t424 _ A30.out).mono ?_); rintro e w97 ⟨rfl, hb⟩; refine ⟨_, rfl, ?_⟩; replace BK418 := bbA BK418 hb; replace BK419 := bbA BK419 hb; replace BK420 := bbA BK420 hb; replace HB := bsA HB hb; (try clear hb); (try clear hb2); (try clear hk); (try clear hi)) | ((with_reducible refine gate_callee (f := 49) rfl ?_); refine goesL_ (some 97) rfl rfl Try.func49 (by kernel_rfl) rfl #[.bool (decide (t422 ≤ t423)), .bool (decide (t421 > t424))] rfl (by (try simp only [List.map_toArray, List.map_cons, List.map_nil]); first | done | rfl | (simp only [List.length_drop, List.length_take]; rfl)) ?_; (with_reducible refine (lamplighterref19_truth.calls (decide (t422 ≤ t423)) (decide (t421 > t424)) t435 t436 _ A90.out).mono ?_); rintro e w98 ⟨rfl, hb⟩; refine ⟨_, rfl, ?_⟩; replace BK418 := bbA BK418 hb; replace BK419 := bbA BK419 hb; replace BK420 := bbA BK420 hb; replace HB := bsA HB hb; (try clear hb); (try clear hb2); (try clear hk); (try clear hi); have hcz99_0 : w98.cell? ⟨gb420, 0, none⟩ = some (.int .u32 0) := cz BK420; have hcz99_1 : w98.cell? ⟨gb420, 1, none⟩ = some (.int .u32 0) := cz BK420; have hfz99_0 := blk_frozen BK420.out 0; have hfz99_1 := blk_frozen BK420.out 1))
          refine bodyPost_ret (results_cell_row rfl _ _ gb420 24 #[.int .u32 t435, .int .u32 t436] (0, 0) _ rfl (by refine bkT ?_; refine blk_put (cs := #[.int .u32 t435, .int .u32 0]) ?_ 1 _ rfl; refine bkT ?_; refine blk_put (cs := #[.int .u32 0, .int .u32 0]) ?_ 0 _ rfl; refine bkT ?_; exact BK420.out) Try.underlying24 rfl (by kernel_rfl)) rfl ?_
          exact ⟨by first | rfl | (simp [errW_none, errW_some] <;> rfl) | (simp [*, errW_none, errW_some] <;> rfl), hbA HB⟩

end Go.Proofs.Ytmhmfnjbioplhaa.PIntervalCalls
