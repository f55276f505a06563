/- Contracts of Go functions of the given program: where NAME.f answers, the call returns that. Conditions: those each theorem names. -/
import Derived.Test.YtmhmfnjbioplhaaPIntervalCallsx0
import Derived.Test.YtmhmfnjbioplhaaPIntervalCallsx7
import Derived.Test.YtmhmfnjbioplhaaPIntervalCallsx10
namespace Go.Proofs.Ytmhmfnjbioplhaa.PIntervalCalls
open Go.RowKit Go.Proofs.YtmhmfnjbioplhaaW.PrintWords Go.Proofs.YtmhmfnjbioplhaaW.PrintLast Go.Proofs.YtmhmfnjbioplhaaW.PrintMore Go.Proofs.Ytmhmfnjbioplhaa.Help
attribute [local go_sem] max2_int min2_int max_two min_two max_three min_three max_four min_four   -- for this text's walks alone
set_option linter.unusedVariables false
set_option linter.unusedSimpArgs false

/-! ### lamplighterref19_Un: function 33 -/
def lamplighterref19_Un.j0 : Nat → Int → Bool → Int → Int → Option (Int × Int × Int)
  | 0, _, _, _, _ => none
  | k + 1, x0, x16, x465000, x465001 => if x16 = true then (some (0, 0, 2)) else (if x0 = 1 then (if x465001 = 0 then (some (x465000, x465001, 0)) else (if x465000 = 0 then ((lamplighterref19_All.f).bind fun bt467 => (some (bt467.1, bt467.2, 0))) else (some ((-x465001) % 4294967296, (-x465000) % 4294967296, 0)))) else (if x0 = 2 then (some (Go.bits .xor .u32 IntKind.u32.max x465001, Go.bits .xor .u32 IntKind.u32.max x465000, 0)) else ((lamplighterref19_truth.f (x465001 == 0) (decide (x465000 > 0))).bind fun bt469 => (some (bt469.1, bt469.2, 0)))))
def lamplighterref19_Un.f (k : Nat) (a0 : Int) (a1_0 : Int) (a1_1 : Int) : Option (Int × Int × Int) := if a0 < 1 then (lamplighterref19_Un.j0 k a0 true a1_0 a1_1) else (if a0 > 3 then (lamplighterref19_Un.j0 k a0 true a1_0 a1_1) else ((lamplighterref19_Check.f a1_0 a1_1).bind fun t466 => (lamplighterref19_Un.j0 k a0 (t466 != 0) a1_0 a1_1)))
theorem lamplighterref19_Un.mono_l : ∀ k, (∀ y0 y1 y2 y3, LeO (lamplighterref19_Un.j0 k y0 y1 y2 y3) (lamplighterref19_Un.j0 (k + 1) y0 y1 y2 y3))
  | 0 => fun _ _ _ _ r h => by simp [lamplighterref19_Un.j0] at h
  | k + 1 => by
    have ih0 := lamplighterref19_Un.mono_l k
    · intro y0 y1 y2 y3
      unfold lamplighterref19_Un.j0
      repeat' first
      | (with_reducible exact ih0 _ _ _ _)
      | (with_reducible exact LeO.refl _)
      | (with_reducible exact LeO.none _)
      | (with_reducible refine LeO.ite ?_ ?_)
      | (with_reducible refine LeO.bind ?_ (fun _ => ?_))
      | exact ih0 _ _ _ _
      | exact LeO.none _
      | refine LeO.ite ?_ ?_
      | refine LeO.bind ?_ (fun _ => ?_)
theorem lamplighterref19_Un.mono : ∀ a0 a1 a2 k, LeO (lamplighterref19_Un.f k a0 a1 a2) (lamplighterref19_Un.f (k + 1) a0 a1 a2) := by
  intro a0 a1 a2 k
  have ih0 := lamplighterref19_Un.mono_l k
  unfold lamplighterref19_Un.f
  repeat' first
      | (with_reducible exact ih0 _ _ _ _)
      | (with_reducible exact LeO.refl _)
      | (with_reducible exact LeO.none _)
      | (with_reducible refine LeO.ite ?_ ?_)
      | (with_reducible refine LeO.bind ?_ (fun _ => ?_))
      | exact ih0 _ _ _ _
      | exact LeO.none _
      | refine LeO.ite ?_ ?_
      | refine LeO.bind ?_ (fun _ => ?_)
set_option maxHeartbeats 8000000 in
set_option maxRecDepth 100000 in
theorem lamplighterref19_Un.calls (k : Nat) (a0 : Int) (a1_0 : Int) (a1_1 : Int) (r1 : Int) (r2 : Int) (r3 : Int) (w : World) (h : lamplighterref19_Un.f k a0 a1_0 a1_1 = some (r1, r2, r3)) :
    Calls Try.prog 33 #[.int .i64 a0, .agg #[.int .u32 a1_0, .int .u32 a1_1]] w fun e w' => e = .returned (.tuple #[.agg #[.int .u32 r1, .int .u32 r2], .int .i64 r3]) ∧ Below w.heap.size w w' := by
  have hu24 := Try.underlying24
  have hsg_u32 : IntKind.u32.signed = false := rfl
  have HB := am (Below.refl w.heap.size w)
  have H : (if a0 < 1 then (lamplighterref19_Un.j0 k a0 true a1_0 a1_1) else (if a0 > 3 then (lamplighterref19_Un.j0 k a0 true a1_0 a1_1) else ((lamplighterref19_Check.f a1_0 a1_1).bind fun t466 => (lamplighterref19_Un.j0 k a0 (t466 != 0) a1_0 a1_1)))) = some (r1, r2, r3) := h
  clear h; have HC3 := am H; clear H
  go_enter Try.func33, Try.ntmps33
  go_upto_region 1 with (first | ((with_reducible refine gate_dst (N := 3) rfl ?_); refine bxE 3 #[.int .u32 a1_0, .int .u32 a1_1] 24 ?_; intro gb464 hg w4 hbox hb; have BK464 := am (hbox); have GW464 := gwA hg HB; have GE464 := gwA hg HB; replace HB := bsA HB hb; clear hb hbox hg) | ((with_reducible refine gate_dst (N := 4) rfl ?_); refine bxE 4 #[.int .u32 0, .int .u32 0] 24 ?_; intro gb465 hg w5 hbox hb; have BK465 := am (hbox); have GW465 := gwA hg HB; have GE465 := gwA hg HB; have NB464_465 := ltA hg BK464; have NB465_464 := gtA hg BK464; replace BK464 := bbA BK464 hb; replace HB := bsA HB hb; clear hb hbox hg))
  (try simp only [Act.put, s1, s2, s3])
  go_cut [16] (fun v16 wc => ∃ (kq : Nat) (x16_2 : Bool), v16 = .bool x16_2 ∧ Aside0 (lamplighterref19_Un.j0 kq a0 x16_2 a1_0 a1_1 = some (r1, r2, r3)) ∧ Aside0 (kq ≤ k) ∧ Aside0 (wc.heap[gb464]? = some (.cells #[.int .u32 a1_0, .int .u32 a1_1] 24 (0, 0))) ∧ Aside0 (wc.heap[gb465]? = some (.cells #[.int .u32 0, .int .u32 0] 24 (0, 0))) ∧ Aside0 (Below w.heap.size w wc))
  case first => as_aux_lemma =>
    have H := HC3.out
    clear HC3; by_cases c6 : a0 < 1
    · rw [if_pos c6] at H; have c6b0 : decide (a0 < 1) = true := decide_eq_true c6; clear c6; (first | rw [c6b0] | (simp only [i64_w, i32_w]; rw [c6b0]) | skip)
      have H' := am H; clear H
      go_wp2
      go_meet
      case rel => exact ⟨_, (true), (by first | rfl | (simp; done) | (simp [*]; done) | (congr 1; omega) | (congr 2; omega) | (rw [Int.tdiv_eq_ediv_of_nonneg (by decide)]; done)), H', ⟨by first | omega | exact Nat.le_refl _⟩, ⟨by refine bkT ?_; exact BK464.out⟩, ⟨by refine bkT ?_; exact BK465.out⟩, ⟨by repeat (first | (with_reducible first | exact HB.out | apply below_alloc | apply pw_below_drewN | apply below_drew1 | refine below_set ?_ GE464.out | refine below_set ?_ GE465.out) | exact HB.out)⟩⟩
    rw [if_neg c6] at H; have c6b0 : decide (a0 < 1) = false := decide_eq_false c6; clear c6; (first | rw [c6b0] | (simp only [i64_w, i32_w]; rw [c6b0]) | skip)
    by_cases c7 : a0 > 3
    · rw [if_pos c7] at H; have c7b0 : decide (3 < a0) = true := decide_eq_true c7; clear c7; have H' := am H; clear H
      go_wp2
      go_meet
      case rel => exact ⟨_, (true), (by first | rfl | (simp; done) | (simp [*]; done) | (congr 1; omega) | (congr 2; omega) | (rw [Int.tdiv_eq_ediv_of_nonneg (by decide)]; done)), H', ⟨by first | omega | exact Nat.le_refl _⟩, ⟨by refine bkT ?_; exact BK464.out⟩, ⟨by refine bkT ?_; exact BK465.out⟩, ⟨by repeat (first | (with_reducible first | exact HB.out | apply below_alloc | apply pw_below_drewN | apply below_drew1 | refine below_set ?_ GE464.out | refine below_set ?_ GE465.out) | exact HB.out)⟩⟩
    rw [if_neg c7] at H; have c7b0 : decide (3 < a0) = false := decide_eq_false c7; clear c7; replace H := Option.bind_eq_some_iff.mp H; obtain ⟨t466, A80, H⟩ := H; replace H : (lamplighterref19_Un.j0 k a0 (t466 != 0) a1_0 a1_1) = some (r1, r2, r3) := H; have A8 := am A80; clear A80; have H' := am H; clear H; have hnb9 := NB464_465.out
    have hnc9 := NB465_464.out
    have hcz10_0 : w5.cell? ⟨gb464, 0, none⟩ = some (.int .u32 a1_0) := cz BK464
    have hcz10_1 : w5.cell? ⟨gb464, 1, none⟩ = some (.int .u32 a1_1) := cz BK464
    have hfz10_0 := blk_frozen BK464.out 0
    have hfz10_1 := blk_frozen BK464.out 1
    go_wp2_with (first | (go_at_call 27; (with_reducible refine (lamplighterref19_Check.calls a1_0 a1_1 t466 _ A8.out).mono ?_); rintro e w11 ⟨rfl, hb⟩; replace BK464 := bbA BK464 hb; replace BK465 := bbA BK465 hb; replace HB := bsA HB hb; (try clear hb); (try clear hb2); (try clear hk); (try clear hi)))
    go_meet
    case rel => exact ⟨_, ((t466 != 0)), (by first | rfl | (simp; done) | (simp [*]; done) | (congr 1; omega) | (congr 2; omega) | (rw [Int.tdiv_eq_ediv_of_nonneg (by decide)]; done)), H', ⟨by first | omega | exact Nat.le_refl _⟩, ⟨by refine bkT ?_; exact BK464.out⟩, ⟨by refine bkT ?_; exact BK465.out⟩, ⟨by repeat (first | (with_reducible first | exact HB.out | apply below_alloc | apply pw_below_drewN | apply below_drew1 | refine below_set ?_ GE464.out | refine below_set ?_ GE465.out) | exact HB.out)⟩⟩
  case rest => as_aux_lemma =>
    clear HC3
    try clear p2
    try clear c3
    try clear c6
    try clear c6b0
    try clear c7
    try clear c7b0
    try clear c9
    try clear hcz10_0
    try clear hcz10_1
    try clear hfz10_0
    try clear hfz10_1
    obtain ⟨kq, x16_2, rfl, HA, HJ2, BK464, BK465, HB⟩ := hcut
    cases kq with
    | zero => exact absurd HA.out (by simp [lamplighterref19_Un.j0])
    | succ kj2 =>
      have H := HA.out
      clear HA; simp only [lamplighterref19_Un.j0] at H
      by_cases c12 : x16_2 = true
      · subst c12; have H1 : (some (0, 0, 2)) = some (r1, r2, r3) := by rw [if_pos rfl] at H; exact H
        clear H; have H := H1; clear H1; simp only [Option.some.injEq, Prod.mk.injEq] at H; obtain ⟨rfl, rfl, rfl⟩ := H; have hnb13 := NB465_464.out
        have hnc13 := NB464_465.out
        have hcz14_0 : wc.cell? ⟨gb465, 0, none⟩ = some (.int .u32 0) := cz BK465
        have hcz14_1 : wc.cell? ⟨gb465, 1, none⟩ = some (.int .u32 0) := cz BK465
        have hfz14_0 := blk_frozen BK465.out 0
        have hfz14_1 := blk_frozen BK465.out 1
        go_wp2
        refine bodyPost_ret (results_ct rfl _ _ gb465 24 #[.int .u32 0, .int .u32 0] (0, 0) _ rfl (by refine bkT ?_; refine blk_put (cs := #[.int .u32 0, .int .u32 0]) ?_ 1 _ rfl; refine bkT ?_; refine blk_put (cs := #[.int .u32 0, .int .u32 0]) ?_ 0 _ rfl; refine bkT ?_; exact BK465.out) Try.underlying24 rfl (by kernel_rfl)) rfl ?_
        exact ⟨by first | rfl | (simp [errW_none, errW_some] <;> rfl) | (simp [*, errW_none, errW_some] <;> rfl), hbA HB⟩
      replace c12 := Bool.eq_false_iff.mpr c12; subst c12; have H1 : (if a0 = 1 then (if a1_1 = 0 then (some (a1_0, a1_1, 0)) else (if a1_0 = 0 then ((lamplighterref19_All.f).bind fun bt467 => (some (bt467.1, bt467.2, 0))) else (some ((-a1_1) % 4294967296, (-a1_0) % 4294967296, 0)))) else (if a0 = 2 then (some (Go.bits .xor .u32 IntKind.u32.max a1_1, Go.bits .xor .u32 IntKind.u32.max a1_0, 0)) else ((lamplighterref19_truth.f (a1_1 == 0) (decide (a1_0 > 0))).bind fun bt469 => (some (bt469.1, bt469.2, 0))))) = some (r1, r2, r3) := by rw [if_neg (show ¬ (false = true) by decide)] at H; exact H
      clear H; have H := H1; clear H1; by_cases c15 : a0 = 1
      · rw [if_pos c15] at H; have c15b0 : (a0 == 1) = true := beq_iff_eq.mpr c15; have c15b1 : (a0 != 1) = false := bne_eq_false_iff_eq.mpr c15; clear c15; by_cases c16 : a1_1 = 0
        · rw [if_pos c16] at H; have c16b0 : (a1_1 == 0) = true := beq_iff_eq.mpr c16; have c16b1 : (a1_1 != 0) = false := bne_eq_false_iff_eq.mpr c16; clear c16; simp only [Option.some.injEq, Prod.mk.injEq] at H; obtain ⟨rfl, rfl, rfl⟩ := H; have hnb17 := NB464_465.out
          have hnc17 := NB465_464.out
          have hcz18_0 : wc.cell? ⟨gb464, 0, none⟩ = some (.int .u32 a1_0) := cz BK464
          have hcz18_1 : wc.cell? ⟨gb464, 1, none⟩ = some (.int .u32 a1_1) := cz BK464
          have hfz18_0 := blk_frozen BK464.out 0
          have hfz18_1 := blk_frozen BK464.out 1
          have hcz19_0 : wc.cell? ⟨gb465, 0, none⟩ = some (.int .u32 0) := cz BK465
          have hcz19_1 : wc.cell? ⟨gb465, 1, none⟩ = some (.int .u32 0) := cz BK465
          have hfz19_0 := blk_frozen BK465.out 0
          have hfz19_1 := blk_frozen BK465.out 1
          go_wp2
          refine bodyPost_ret (results_ct rfl _ _ gb465 24 #[.int .u32 a1_0, .int .u32 a1_1] (0, 0) _ rfl (by refine bkT ?_; refine blk_put (cs := #[.int .u32 a1_0, .int .u32 0]) ?_ 1 _ rfl; refine bkT ?_; refine blk_put (cs := #[.int .u32 0, .int .u32 0]) ?_ 0 _ rfl; refine bkT ?_; exact BK465.out) Try.underlying24 rfl (by kernel_rfl)) rfl ?_
          exact ⟨by first | rfl | (simp [errW_none, errW_some] <;> rfl) | (simp [*, errW_none, errW_some] <;> rfl), hbA HB⟩
        rw [if_neg c16] at H; have c16b0 : (a1_1 == 0) = false := beq_eq_false_iff_ne.mpr c16; have c16b1 : (a1_1 != 0) = true := bne_iff_ne.mpr c16; by_cases c20 : a1_0 = 0
        · rw [if_pos c20] at H; have c20b0 : (a1_0 == 0) = true := beq_iff_eq.mpr c20; have c20b1 : (a1_0 != 0) = false := bne_eq_false_iff_eq.mpr c20; clear c20; replace H := Option.bind_eq_some_iff.mp H; obtain ⟨⟨t467, t468⟩, A210, H⟩ := H; replace H : (some (t467, t468, 0)) = some (r1, r2, r3) := H; have A21 := am A210; clear A210; simp only [Option.some.injEq, Prod.mk.injEq] at H; obtain ⟨rfl, rfl, rfl⟩ := H; have hnb22 := NB464_465.out
          have hnc22 := NB465_464.out
          have hcz23_0 : wc.cell? ⟨gb464, 0, none⟩ = some (.int .u32 a1_0) := cz BK464
          have hcz23_1 : wc.cell? ⟨gb464, 1, none⟩ = some (.int .u32 a1_1) := cz BK464
          have hfz23_0 := blk_frozen BK464.out 0
          have hfz23_1 := blk_frozen BK464.out 1
          go_wp2_with (first | ((with_reducible refine gate_callee (f := 42) rfl ?_); refine goesL_ (some 28) rfl rfl Try.func42 (by kernel_rfl) rfl #[] rfl (by (try simp only [List.map_toArray, List.map_cons, List.map_nil]); first | done | rfl | (simp only [List.length_drop, List.length_take]; rfl)) ?_; (with_reducible refine (lamplighterref19_All.calls  t467 t468 _ A21.out).mono ?_); rintro e w24 ⟨rfl, hb⟩; refine ⟨_, rfl, ?_⟩; replace BK464 := bbA BK464 hb; replace BK465 := bbA BK465 hb; replace HB := bsA HB hb; (try clear hb); (try clear hb2); (try clear hk); (try clear hi); have hcz25_0 : w24.cell? ⟨gb465, 0, none⟩ = some (.int .u32 0) := cz BK465; have hcz25_1 : w24.cell? ⟨gb465, 1, none⟩ = some (.int .u32 0) := cz BK465; have hfz25_0 := blk_frozen BK465.out 0; have hfz25_1 := blk_frozen BK465.out 1))
          refine bodyPost_ret (results_ct rfl _ _ gb465 24 #[.int .u32 t467, .int .u32 t468] (0, 0) _ rfl (by refine bkT ?_; refine blk_put (cs := #[.int .u32 t467, .int .u32 0]) ?_ 1 _ rfl; refine bkT ?_; refine blk_put (cs := #[.int .u32 0, .int .u32 0]) ?_ 0 _ rfl; refine bkT ?_; exact BK465.out) Try.underlying24 rfl (by kernel_rfl)) rfl ?_
          exact ⟨by first | rfl | (simp [errW_none, errW_some] <;> rfl) | (simp [*, errW_none, errW_some] <;> rfl), hbA HB⟩
        rw [if_neg c20] at H; have c20b0 : (a1_0 == 0) = false := beq_eq_false_iff_ne.mpr c20; have c20b1 : (a1_0 != 0) = true := bne_iff_ne.mpr c20; simp only [Option.some.injEq, Prod.mk.injEq] at H; obtain ⟨rfl, rfl, rfl⟩ := H; have hnb26 := NB464_465.out
        have hnc26 := NB465_464.out
        have hcz27_0 : wc.cell? ⟨gb464, 0, none⟩ = some (.int .u32 a1_0) := cz BK464
        have hcz27_1 : wc.cell? ⟨gb464, 1, none⟩ = some (.int .u32 a1_1) := cz BK464
        have hfz27_0 := blk_frozen BK464.out 0
        have hfz27_1 := blk_frozen BK464.out 1
        have hcz28_0 : wc.cell? ⟨gb465, 0, none⟩ = some (.int .u32 0) := cz BK465
        have hcz28_1 : wc.cell? ⟨gb465, 1, none⟩ = some (.int .u32 0) := cz BK465
        have hfz28_0 := blk_frozen BK465.out 0
        have hfz28_1 := blk_frozen BK465.out 1
        go_wp2
        refine bodyPost_ret (results_ct rfl _ _ gb465 24 #[.int .u32 ((-a1_1) % 4294967296), .int .u32 ((-a1_0) % 4294967296)] (0, 0) _ rfl (by refine bkT ?_; refine blk_put (cs := #[.int .u32 ((-a1_1) % 4294967296), .int .u32 0]) ?_ 1 _ rfl; refine bkT ?_; refine blk_put (cs := #[.int .u32 0, .int .u32 0]) ?_ 0 _ rfl; refine bkT ?_; exact BK465.out) Try.underlying24 rfl (by kernel_rfl)) rfl ?_
        exact ⟨by first | rfl | (simp [errW_none, errW_some] <;> rfl) | (simp [*, errW_none, errW_some] <;> rfl), hbA HB⟩
      rw [if_neg c15] at H; have c15b0 : (a0 == 1) = false := beq_eq_false_iff_ne.mpr c15; have c15b1 : (a0 != 1) = true := bne_iff_ne.mpr c15; by_cases c29 : a0 = 2
      · rw [if_pos c29] at H; have c29b0 : (a0 == 2) = true := beq_iff_eq.mpr c29; have c29b1 : (a0 != 2) = false := bne_eq_false_iff_eq.mpr c29; clear c29; simp only [Option.some.injEq, Prod.mk.injEq] at H; obtain ⟨rfl, rfl, rfl⟩ := H; have hnb30 := NB464_465.out
        have hnc30 := NB465_464.out
        have hcz31_0 : wc.cell? ⟨gb464, 0, none⟩ = some (.int .u32 a1_0) := cz BK464
        have hcz31_1 : wc.cell? ⟨gb464, 1, none⟩ = some (.int .u32 a1_1) := cz BK464
        have hfz31_0 := blk_frozen BK464.out 0
        have hfz31_1 := blk_frozen BK464.out 1
        have hcz32_0 : wc.cell? ⟨gb465, 0, none⟩ = some (.int .u32 0) := cz BK465
        have hcz32_1 : wc.cell? ⟨gb465, 1, none⟩ = some (.int .u32 0) := cz BK465
        have hfz32_0 := blk_frozen BK465.out 0
        have hfz32_1 := blk_frozen BK465.out 1
        go_wp2
        refine bodyPost_ret (results_ct rfl _ _ gb465 24 #[.int .u32 (Go.bits .xor .u32 IntKind.u32.max a1_1), .int .u32 (Go.bits .xor .u32 IntKind.u32.max a1_0)] (0, 0) _ rfl (by refine bkT ?_; refine blk_put (cs := #[.int .u32 (Go.bits .xor .u32 IntKind.u32.max a1_1), .int .u32 0]) ?_ 1 _ rfl; refine bkT ?_; refine blk_put (cs := #[.int .u32 0, .int .u32 0]) ?_ 0 _ rfl; refine bkT ?_; exact BK465.out) Try.underlying24 rfl (by kernel_rfl)) rfl ?_
        exact ⟨by first | rfl | (simp [errW_none, errW_some] <;> rfl) | (simp [*, errW_none, errW_some] <;> rfl), hbA HB⟩
      rw [if_neg c29] at H; have c29b0 : (a0 == 2) = false := beq_eq_false_iff_ne.mpr c29; have c29b1 : (a0 != 2) = true := bne_iff_ne.mpr c29; replace H := Option.bind_eq_some_iff.mp H; obtain ⟨⟨t469, t470⟩, A330, H⟩ := H; replace H : (some (t469, t470, 0)) = some (r1, r2, r3) := H; have A33 := am A330; clear A330; simp only [Option.some.injEq, Prod.mk.injEq] at H; obtain ⟨rfl, rfl, rfl⟩ := H; have hnb34 := NB464_465.out
      have hnc34 := NB465_464.out
      have hcz35_0 : wc.cell? ⟨gb464, 0, none⟩ = some (.int .u32 a1_0) := cz BK464
      have hcz35_1 : wc.cell? ⟨gb464, 1, none⟩ = some (.int .u32 a1_1) := cz BK464
      have hfz35_0 := blk_frozen BK464.out 0
      have hfz35_1 := blk_frozen BK464.out 1
      go_wp2_with (first | ((with_reducible refine gate_callee (f := 49) rfl ?_); refine goesL_ (some 51) rfl rfl Try.func49 (by kernel_rfl) rfl #[.bool (a1_1 == 0), .bool (decide (a1_0 > 0))] rfl (by (try simp only [List.map_toArray, List.map_cons, List.map_nil]); first | done | rfl | (simp only [List.length_drop, List.length_take]; rfl)) ?_; (with_reducible refine (lamplighterref19_truth.calls (a1_1 == 0) (decide (a1_0 > 0)) t469 t470 _ A33.out).mono ?_); rintro e w36 ⟨rfl, hb⟩; refine ⟨_, rfl, ?_⟩; replace BK464 := bbA BK464 hb; replace BK465 := bbA BK465 hb; replace HB := bsA HB hb; (try clear hb); (try clear hb2); (try clear hk); (try clear hi); have hcz37_0 : w36.cell? ⟨gb465, 0, none⟩ = some (.int .u32 0) := cz BK465; have hcz37_1 : w36.cell? ⟨gb465, 1, none⟩ = some (.int .u32 0) := cz BK465; have hfz37_0 := blk_frozen BK465.out 0; have hfz37_1 := blk_frozen BK465.out 1))
      refine bodyPost_ret (results_ct rfl _ _ gb465 24 #[.int .u32 t469, .int .u32 t470] (0, 0) _ rfl (by refine bkT ?_; refine blk_put (cs := #[.int .u32 t469, .int .u32 0]) ?_ 1 _ rfl; refine bkT ?_; refine blk_put (cs := #[.int .u32 0, .int .u32 0]) ?_ 0 _ rfl; refine bkT ?_; exact BK465.out) Try.underlying24 rfl (by kernel_rfl)) rfl ?_
      exact ⟨by first | rfl | (simp [errW_none, errW_some] <;> rfl) | (simp [*, errW_none, errW_some] <;> rfl), hbA HB⟩

/-! ### lamplighterref19_Cut: function 34 -/
def lamplighterref19_Cut.j0 : Nat → Int → Bool → Int → Int → Option (Int × Int × Int)
  | 0, _, _, _, _ => none
  | k + 1, x1, x21, x472000, x472001 => if x21 = true then (some (0, 0, 2)) else (if x1 = 32 then (some (x472000, x472001, 0)) else (if 0 ≤ (IntKind.u64.wrap (x1)) then (if (Go.bits .andNot .u32 x472000 (((shl .u32 1 (IntKind.u64.wrap (x1))) - 1) % 4294967296)) = (Go.bits .andNot .u32 x472001 (((shl .u32 1 (IntKind.u64.wrap (x1))) - 1) % 4294967296)) then (some (Go.bits .and .u32 x472000 (((shl .u32 1 (IntKind.u64.wrap (x1))) - 1) % 4294967296), Go.bits .and .u32 x472001 (((shl .u32 1 (IntKind.u64.wrap (x1))) - 1) % 4294967296), 0)) else (some (0, ((shl .u32 1 (IntKind.u64.wrap (x1))) - 1) % 4294967296, 0))) else (none)))
def lamplighterref19_Cut.f (k : Nat) (a0_0 : Int) (a0_1 : Int) (a1 : Int) : Option (Int × Int × Int) := if a1 = 8 then ((lamplighterref19_Check.f a0_0 a0_1).bind fun t473 => (lamplighterref19_Cut.j0 k a1 (t473 != 0) a0_0 a0_1)) else (if a1 = 16 then ((lamplighterref19_Check.f a0_0 a0_1).bind fun t474 => (lamplighterref19_Cut.j0 k a1 (t474 != 0) a0_0 a0_1)) else (if a1 = 32 then ((lamplighterref19_Check.f a0_0 a0_1).bind fun t475 => (lamplighterref19_Cut.j0 k a1 (t475 != 0) a0_0 a0_1)) else (lamplighterref19_Cut.j0 k a1 true a0_0 a0_1)))
theorem lamplighterref19_Cut.mono_l : ∀ k, (∀ y0 y1 y2 y3, LeO (lamplighterref19_Cut.j0 k y0 y1 y2 y3) (lamplighterref19_Cut.j0 (k + 1) y0 y1 y2 y3))
  | 0 => fun _ _ _ _ r h => by simp [lamplighterref19_Cut.j0] at h
  | k + 1 => by
    have ih0 := lamplighterref19_Cut.mono_l k
    · intro y0 y1 y2 y3
      unfold lamplighterref19_Cut.j0
      repeat' first
      | (with_reducible exact ih0 _ _ _ _)
      | (with_reducible exact LeO.refl _)
      | (with_reducible exact LeO.none _)
      | (with_reducible refine LeO.ite ?_ ?_)
      | (with_reducible refine LeO.bind ?_ (fun _ => ?_))
      | exact ih0 _ _ _ _
      | exact LeO.none _
      | refine LeO.ite ?_ ?_
      | refine LeO.bind ?_ (fun _ => ?_)
theorem lamplighterref19_Cut.mono : ∀ a0 a1 a2 k, LeO (lamplighterref19_Cut.f k a0 a1 a2) (lamplighterref19_Cut.f (k + 1) a0 a1 a2) := by
  intro a0 a1 a2 k
  have ih0 := lamplighterref19_Cut.mono_l k
  unfold lamplighterref19_Cut.f
  repeat' first
      | (with_reducible exact ih0 _ _ _ _)
      | (with_reducible exact LeO.refl _)
      | (with_reducible exact LeO.none _)
      | (with_reducible refine LeO.ite ?_ ?_)
      | (with_reducible refine LeO.bind ?_ (fun _ => ?_))
      | exact ih0 _ _ _ _
      | exact LeO.none _
      | refine LeO.ite ?_ ?_
      | refine LeO.bind ?_ (fun _ => ?_)
set_option maxHeartbeats 8000000 in
set_option maxRecDepth 100000 in
theorem lamplighterref19_Cut.calls (k : Nat) (a0_0 : Int) (a0_1 : Int) (a1 : Int) (r1 : Int) (r2 : Int) (r3 : Int) (w : World) (h : lamplighterref19_Cut.f k a0_0 a0_1 a1 = some (r1, r2, r3)) :
    Calls Try.prog 34 #[.agg #[.int .u32 a0_0, .int .u32 a0_1], .int .i64 a1] w fun e w' => e = .returned (.tuple #[.agg #[.int .u32 r1, .int .u32 r2], .int .i64 r3]) ∧ Below w.heap.size w w' := by
  have hu24 := Try.underlying24
  have HB := am (Below.refl w.heap.size w)
  have H : (if a1 = 8 then ((lamplighterref19_Check.f a0_0 a0_1).bind fun t473 => (lamplighterref19_Cut.j0 k a1 (t473 != 0) a0_0 a0_1)) else (if a1 = 16 then ((lamplighterref19_Check.f a0_0 a0_1).bind fun t474 => (lamplighterref19_Cut.j0 k a1 (t474 != 0) a0_0 a0_1)) else (if a1 = 32 then ((lamplighterref19_Check.f a0_0 a0_1).bind fun t475 => (lamplighterref19_Cut.j0 k a1 (t475 != 0) a0_0 a0_1)) else (lamplighterref19_Cut.j0 k a1 true a0_0 a0_1)))) = some (r1, r2, r3) := h
  clear h; have HC3 := am H; clear H
  go_enter Try.func34, Try.ntmps34
  go_upto_region 1 with (first | ((with_reducible refine gate_dst (N := 2) rfl ?_); refine bxE 2 #[.int .u32 a0_0, .int .u32 a0_1] 24 ?_; intro gb471 hg w4 hbox hb; have BK471 := am (hbox); have GW471 := gwA hg HB; have GE471 := gwA hg HB; replace HB := bsA HB hb; clear hb hbox hg) | ((with_reducible refine gate_dst (N := 4) rfl ?_); refine bxE 4 #[.int .u32 0, .int .u32 0] 24 ?_; intro gb472 hg w5 hbox hb; have BK472 := am (hbox); have GW472 := gwA hg HB; have GE472 := gwA hg HB; have NB471_472 := ltA hg BK471; have NB472_471 := gtA hg BK471; replace BK471 := bbA BK471 hb; replace HB := bsA HB hb; clear hb hbox hg))
  (try simp only [Act.put, s1, s2, s3])
  go_cut [21] (fun v21 wc => ∃ (kq : Nat) (x21_2 : Bool), v21 = .bool x21_2 ∧ Aside0 (lamplighterref19_Cut.j0 kq a1 x21_2 a0_0 a0_1 = some (r1, r2, r3)) ∧ Aside0 (kq ≤ k) ∧ Aside0 (wc.heap[gb471]? = some (.cells #[.int .u32 a0_0, .int .u32 a0_1] 24 (0, 0))) ∧ Aside0 (wc.heap[gb472]? = some (.cells #[.int .u32 0, .int .u32 0] 24 (0, 0))) ∧ Aside0 (Below w.heap.size w wc))
  case first => as_aux_lemma =>
    have H := HC3.out
    clear HC3; by_cases c6 : a1 = 8
    · rw [if_pos c6] at H; have c6b0 : (a1 == 8) = true := beq_iff_eq.mpr c6; have c6b1 : (a1 != 8) = false := bne_eq_false_iff_eq.mpr c6; clear c6; (first | rw [c6b0] | (simp only [i64_w, i32_w]; rw [c6b0]) | skip)
      replace H := Option.bind_eq_some_iff.mp H; obtain ⟨t473, A70, H⟩ := H; replace H : (lamplighterref19_Cut.j0 k a1 (t473 != 0) a0_0 a0_1) = some (r1, r2, r3) := H; have A7 := am A70; clear A70; have H' := am H; clear H; have hnb8 := NB471_472.out
      have hnc8 := NB472_471.out
      have hcz9_0 : w5.cell? ⟨gb471, 0, none⟩ = some (.int .u32 a0_0) := cz BK471
      have hcz9_1 : w5.cell? ⟨gb471, 1, none⟩ = some (.int .u32 a0_1) := cz BK471
      have hfz9_0 := blk_frozen BK471.out 0
      have hfz9_1 := blk_frozen BK471.out 1
      go_wp2_with (first | (go_at_call 27; (with_reducible refine (lamplighterref19_Check.calls a0_0 a0_1 t473 _ A7.out).mono ?_); rintro e w10 ⟨rfl, hb⟩; replace BK471 := bbA BK471 hb; replace BK472 := bbA BK472 hb; replace HB := bsA HB hb; (try clear hb); (try clear hb2); (try clear hk); (try clear hi)))
      go_meet
      case rel => exact ⟨_, ((t473 != 0)), (by first | rfl | (simp; done) | (simp [*]; done) | (congr 1; omega) | (congr 2; omega) | (rw [Int.tdiv_eq_ediv_of_nonneg (by decide)]; done)), H', ⟨by first | omega | exact Nat.le_refl _⟩, ⟨by refine bkT ?_; exact BK471.out⟩, ⟨by refine bkT ?_; exact BK472.out⟩, ⟨by repeat (first | (with_reducible first | exact HB.out | apply below_alloc | apply pw_below_drewN | apply below_drew1 | refine below_set ?_ GE471.out | refine below_set ?_ GE472.out) | exact HB.out)⟩⟩
    rw [if_neg c6] at H; have c6b0 : (a1 == 8) = false := beq_eq_false_iff_ne.mpr c6; have c6b1 : (a1 != 8) = true := bne_iff_ne.mpr c6; (first | rw [c6b0] | (simp only [i64_w, i32_w]; rw [c6b0]) | skip)
    by_cases c11 : a1 = 16
    · rw [if_pos c11] at H; have c11b0 : (a1 == 16) = true := beq_iff_eq.mpr c11; have c11b1 : (a1 != 16) = false := bne_eq_false_iff_eq.mpr c11; clear c11; replace H := Option.bind_eq_some_iff.mp H; obtain ⟨t474, A120, H⟩ := H; replace H : (lamplighterref19_Cut.j0 k a1 (t474 != 0) a0_0 a0_1) = some (r1, r2, r3) := H; have A12 := am A120; clear A120; have H' := am H; clear H; have hnb13 := NB471_472.out
      have hnc13 := NB472_471.out
      have hcz14_0 : w5.cell? ⟨gb471, 0, none⟩ = some (.int .u32 a0_0) := cz BK471
      have hcz14_1 : w5.cell? ⟨gb471, 1, none⟩ = some (.int .u32 a0_1) := cz BK471
      have hfz14_0 := blk_frozen BK471.out 0
      have hfz14_1 := blk_frozen BK471.out 1
      go_wp2_with (first | (go_at_call 27; (with_reducible refine (lamplighterref19_Check.calls a0_0 a0_1 t474 _ A12.out).mono ?_); rintro e w15 ⟨rfl, hb⟩; replace BK471 := bbA BK471 hb; replace BK472 := bbA BK472 hb; replace HB := bsA HB hb; (try clear hb); (try clear hb2); (try clear hk); (try clear hi)))
      go_meet
      case rel => exact ⟨_, ((t474 != 0)), (by first | rfl | (simp; done) | (simp [*]; done) | (congr 1; omega) | (congr 2; omega) | (rw [Int.tdiv_eq_ediv_of_nonneg (by decide)]; done)), H', ⟨by first | omega | exact Nat.le_refl _⟩, ⟨by refine bkT ?_; exact BK471.out⟩, ⟨by refine bkT ?_; exact BK472.out⟩, ⟨by repeat (first | (with_reducible first | exact HB.out | apply below_alloc | apply pw_below_drewN | apply below_drew1 | refine below_set ?_ GE471.out | refine below_set ?_ GE472.out) | exact HB.out)⟩⟩
    rw [if_neg c11] at H; have c11b0 : (a1 == 16) = false := beq_eq_false_iff_ne.mpr c11; have c11b1 : (a1 != 16) = true := bne_iff_ne.mpr c11; by_cases c16 : a1 = 32
    · rw [if_pos c16] at H; have c16b0 : (a1 == 32) = true := beq_iff_eq.mpr c16; have c16b1 : (a1 != 32) = false := bne_eq_false_iff_eq.mpr c16; clear c16; replace H := Option.bind_eq_some_iff.mp H; obtain ⟨t475, A170, H⟩ := H; replace H : (lamplighterref19_Cut.j0 k a1 (t475 != 0) a0_0 a0_1) = some (r1, r2, r3) := H; have A17 := am A170; clear A170; have H' := am H; clear H; have hnb18 := NB471_472.out
      have hnc18 := NB472_471.out
      have hcz19_0 : w5.cell? ⟨gb471, 0, none⟩ = some (.int .u32 a0_0) := cz BK471
      have hcz19_1 : w5.cell? ⟨gb471, 1, none⟩ = some (.int .u32 a0_1) := cz BK471
      have hfz19_0 := blk_frozen BK471.out 0
      have hfz19_1 := blk_frozen BK471.out 1
      go_wp2_with (first | (go_at_call 27; (with_reducible refine (lamplighterref19_Check.calls a0_0 a0_1 t475 _ A17.out).mono ?_); rintro e w20 ⟨rfl, hb⟩; replace BK471 := bbA BK471 hb; replace BK472 := bbA BK472 hb; replace HB := bsA HB hb; (try clear hb); (try clear hb2); (try clear hk); (try clear hi)))
      go_meet
      case rel => exact ⟨_, ((t475 != 0)), (by first | rfl | (simp; done) | (simp [*]; done) | (congr 1; omega) | (congr 2; omega) | (rw [Int.tdiv_eq_ediv_of_nonneg (by decide)]; done)), H', ⟨by first | omega | exact Nat.le_refl _⟩, ⟨by refine bkT ?_; exact BK471.out⟩, ⟨by refine bkT ?_; exact BK472.out⟩, ⟨by repeat (first | (with_reducible first | exact HB.out | apply below_alloc | apply pw_below_drewN | apply below_drew1 | refine below_set ?_ GE471.out | refine below_set ?_ GE472.out) | exact HB.out)⟩⟩
    rw [if_neg c16] at H; have c16b0 : (a1 == 32) = false := beq_eq_false_iff_ne.mpr c16; have c16b1 : (a1 != 32) = true := bne_iff_ne.mpr c16; have H' := am H; clear H
    go_wp2
    go_meet
    case rel => exact ⟨_, (true), (by first | rfl | (simp; done) | (simp [*]; done) | (congr 1; omega) | (congr 2; omega) | (rw [Int.tdiv_eq_ediv_of_nonneg (by decide)]; done)), H', ⟨by first | omega | exact Nat.le_refl _⟩, ⟨by refine bkT ?_; exact BK471.out⟩, ⟨by refine bkT ?_; exact BK472.out⟩, ⟨by repeat (first | (with_reducible first | exact HB.out | apply below_alloc | apply pw_below_drewN | apply below_drew1 | refine below_set ?_ GE471.out | refine below_set ?_ GE472.out) | exact HB.out)⟩⟩
  case rest => as_aux_lemma =>
    clear HC3
    try clear c1
    try clear p2
    try clear c3
    try clear c6
    try clear c6b0
    try clear c6b1
    try clear c8
    try clear c11
    try clear c11b0
    try clear c11b1
    try clear c13
    try clear c16
    try clear c16b0
    try clear c16b1
    try clear c18
    try clear hcz14_0
    try clear hcz14_1
    try clear hcz19_0
    try clear hcz19_1
    try clear hcz9_0
    try clear hcz9_1
    try clear hfz14_0
    try clear hfz14_1
    try clear hfz19_0
    try clear hfz19_1
    try clear hfz9_0
    try clear hfz9_1
    obtain ⟨kq, x21_2, rfl, HA, HJ2, BK471, BK472, HB⟩ := hcut
    cases kq with
    | zero => exact absurd HA.out (by simp [lamplighterref19_Cut.j0])
    | succ kj2 =>
      have H := HA.out
      clear HA; simp only [lamplighterref19_Cut.j0] at H
      by_cases c21 : x21_2 = true
      · subst c21; have H1 : (some (0, 0, 2)) = some (r1, r2, r3) := by rw [if_pos rfl] at H; exact H
        clear H; have H := H1; clear H1; simp only [Option.some.injEq, Prod.mk.injEq] at H; obtain ⟨rfl, rfl, rfl⟩ := H; have hnb22 := NB472_471.out
        have hnc22 := NB471_472.out
        have hcz23_0 : wc.cell? ⟨gb472, 0, none⟩ = some (.int .u32 0) := cz BK472
        have hcz23_1 : wc.cell? ⟨gb472, 1, none⟩ = some (.int .u32 0) := cz BK472
        have hfz23_0 := blk_frozen BK472.out 0
        have hfz23_1 := blk_frozen BK472.out 1
        go_wp2
        refine bodyPost_ret (results_ct rfl _ _ gb472 24 #[.int .u32 0, .int .u32 0] (0, 0) _ rfl (by refine bkT ?_; refine blk_put (cs := #[.int .u32 0, .int .u32 0]) ?_ 1 _ rfl; refine bkT ?_; refine blk_put (cs := #[.int .u32 0, .int .u32 0]) ?_ 0 _ rfl; refine bkT ?_; exact BK472.out) Try.underlying24 rfl (by kernel_rfl)) rfl ?_
        exact ⟨by first | rfl | (simp [errW_none, errW_some] <;> rfl) | (simp [*, errW_none, errW_some] <;> rfl), hbA HB⟩
      replace c21 := Bool.eq_false_iff.mpr c21; subst c21; have H1 : (if a1 = 32 then (some (a0_0, a0_1, 0)) else (if 0 ≤ (IntKind.u64.wrap (a1)) then (if (Go.bits .andNot .u32 a0_0 (((shl .u32 1 (IntKind.u64.wrap (a1))) - 1) % 4294967296)) = (Go.bits .andNot .u32 a0_1 (((shl .u32 1 (IntKind.u64.wrap (a1))) - 1) % 4294967296)) then (some (Go.bits .and .u32 a0_0 (((shl .u32 1 (IntKind.u64.wrap (a1))) - 1) % 4294967296), Go.bits .and .u32 a0_1 (((shl .u32 1 (IntKind.u64.wrap (a1))) - 1) % 4294967296), 0)) else (some (0, ((shl .u32 1 (IntKind.u64.wrap (a1))) - 1) % 4294967296, 0))) else (none))) = some (r1, r2, r3) := by rw [if_neg (show ¬ (false = true) by decide)] at H; exact H
      clear H; have H := H1; clear H1; by_cases c24 : a1 = 32
      · rw [if_pos c24] at H; have c24b0 : (a1 == 32) = true := beq_iff_eq.mpr c24; have c24b1 : (a1 != 32) = false := bne_eq_false_iff_eq.mpr c24; clear c24; simp only [Option.some.injEq, Prod.mk.injEq] at H; obtain ⟨rfl, rfl, rfl⟩ := H; have hnb25 := NB471_472.out
        have hnc25 := NB472_471.out
        have hcz26_0 : wc.cell? ⟨gb471, 0, none⟩ = some (.int .u32 a0_0) := cz BK471
        have hcz26_1 : wc.cell? ⟨gb471, 1, none⟩ = some (.int .u32 a0_1) := cz BK471
        have hfz26_0 := blk_frozen BK471.out 0
        have hfz26_1 := blk_frozen BK471.out 1
        have hcz27_0 : wc.cell? ⟨gb472, 0, none⟩ = some (.int .u32 0) := cz BK472
        have hcz27_1 : wc.cell? ⟨gb472, 1, none⟩ = some (.int .u32 0) := cz BK472
        have hfz27_0 := blk_frozen BK472.out 0
        have hfz27_1 := blk_frozen BK472.out 1
        go_wp2
        refine bodyPost_ret (results_ct rfl _ _ gb472 24 #[.int .u32 a0_0, .int .u32 a0_1] (0, 0) _ rfl (by refine bkT ?_; refine blk_put (cs := #[.int .u32 a0_0, .int .u32 0]) ?_ 1 _ rfl; refine bkT ?_; refine blk_put (cs := #[.int .u32 0, .int .u32 0]) ?_ 0 _ rfl; refine bkT ?_; exact BK472.out) Try.underlying24 rfl (by kernel_rfl)) rfl ?_
        exact ⟨by first | rfl | (simp [errW_none, errW_some] <;> rfl) | (simp [*, errW_none, errW_some] <;> rfl), hbA HB⟩
      rw [if_neg c24] at H; have c24b0 : (a1 == 32) = false := beq_eq_false_iff_ne.mpr c24; have c24b1 : (a1 != 32) = true := bne_iff_ne.mpr c24; obtain ⟨ji28, hji28⟩ : ∃ j_ : Int, (IntKind.u64.wrap (a1)) = j_ := ⟨_, rfl⟩
      replace H : (if 0 ≤ (ji28) then (if (Go.bits .andNot .u32 a0_0 (((shl .u32 1 (ji28)) - 1) % 4294967296)) = (Go.bits .andNot .u32 a0_1 (((shl .u32 1 (ji28)) - 1) % 4294967296)) then (some (Go.bits .and .u32 a0_0 (((shl .u32 1 (ji28)) - 1) % 4294967296), Go.bits .and .u32 a0_1 (((shl .u32 1 (ji28)) - 1) % 4294967296), 0)) else (some (0, ((shl .u32 1 (ji28)) - 1) % 4294967296, 0))) else (none)) = some (r1, r2, r3) := by first | (rw [hji28] at H; exact H) | (simp only [hji28] at H ⊢; exact H)
      by_cases c29 : 0 ≤ (ji28)
      · rw [if_pos c29] at H; have c29b0 := eq_true c29; have c29b1 : decide (0 ≤ (ji28)) = true := decide_eq_true c29; clear c29; obtain ⟨ji30, hji30⟩ : ∃ j_ : Int, (shl .u32 1 (ji28)) = j_ := ⟨_, rfl⟩
        replace H : (if (Go.bits .andNot .u32 a0_0 (((ji30) - 1) % 4294967296)) = (Go.bits .andNot .u32 a0_1 (((ji30) - 1) % 4294967296)) then (some (Go.bits .and .u32 a0_0 (((ji30) - 1) % 4294967296), Go.bits .and .u32 a0_1 (((ji30) - 1) % 4294967296), 0)) else (some (0, ((ji30) - 1) % 4294967296, 0))) = some (r1, r2, r3) := by first | (rw [hji30] at H; exact H) | (simp only [hji30] at H ⊢; exact H)
        have hji30_ : (IntKind.u32.wrap (1 * 2 ^ min (ji28).toNat 32)) = ji30 := hji30
        have hji30z : (ji28) ≤ 32 → (IntKind.u32.wrap (1 * 2 ^ (ji28).toNat)) = ji30 := shl_small hji30
        have hji30u : (IntKind.u32.wrap (2 ^ min (ji28).toNat 32)) = ji30 := by have h_ := hji30_; rw [Int.one_mul] at h_; exact h_
        have hji30v : (ji28) ≤ 32 → (IntKind.u32.wrap (2 ^ (ji28).toNat)) = ji30 := fun hle_ => by have h_ := hji30z hle_; rw [Int.one_mul] at h_; exact h_
        by_cases c31 : (Go.bits .andNot .u32 a0_0 (((ji30) - 1) % 4294967296)) = (Go.bits .andNot .u32 a0_1 (((ji30) - 1) % 4294967296))
        · rw [if_pos c31] at H; have c31b0 : ((Go.bits .andNot .u32 a0_0 (((ji30) - 1) % 4294967296)) == (Go.bits .andNot .u32 a0_1 (((ji30) - 1) % 4294967296))) = true := beq_iff_eq.mpr c31; have c31b1 : ((Go.bits .andNot .u32 a0_0 (((ji30) - 1) % 4294967296)) != (Go.bits .andNot .u32 a0_1 (((ji30) - 1) % 4294967296))) = false := bne_eq_false_iff_eq.mpr c31; clear c31; simp only [Option.some.injEq, Prod.mk.injEq] at H; obtain ⟨rfl, rfl, rfl⟩ := H; have hnb32 := NB471_472.out
          have hnc32 := NB472_471.out
          have hcz33_0 : wc.cell? ⟨gb471, 0, none⟩ = some (.int .u32 a0_0) := cz BK471
          have hcz33_1 : wc.cell? ⟨gb471, 1, none⟩ = some (.int .u32 a0_1) := cz BK471
          have hfz33_0 := blk_frozen BK471.out 0
          have hfz33_1 := blk_frozen BK471.out 1
          have hcz34_0 : wc.cell? ⟨gb472, 0, none⟩ = some (.int .u32 0) := cz BK472
          have hcz34_1 : wc.cell? ⟨gb472, 1, none⟩ = some (.int .u32 0) := cz BK472
          have hfz34_0 := blk_frozen BK472.out 0
          have hfz34_1 := blk_frozen BK472.out 1
          go_wp2
          refine bodyPost_ret (results_ct rfl _ _ gb472 24 #[.int .u32 (Go.bits .and .u32 a0_0 (((ji30) - 1) % 4294967296)), .int .u32 (Go.bits .and .u32 a0_1 (((ji30) - 1) % 4294967296))] (0, 0) _ rfl (by refine bkT ?_; refine blk_put (cs := #[.int .u32 (Go.bits .and .u32 a0_0 (((ji30) - 1) % 4294967296)), .int .u32 0]) ?_ 1 _ rfl; refine bkT ?_; refine blk_put (cs := #[.int .u32 0, .int .u32 0]) ?_ 0 _ rfl; refine bkT ?_; exact BK472.out) Try.underlying24 rfl (by kernel_rfl)) rfl ?_
          exact ⟨by first | rfl | (simp [errW_none, errW_some] <;> rfl) | (simp only [← hji28, ← hji30]; first | rfl | (simp [errW_none, errW_some] <;> rfl)) | (simp [*, errW_none, errW_some] <;> rfl), hbA HB⟩
        rw [if_neg c31] at H; have c31b0 : ((Go.bits .andNot .u32 a0_0 (((ji30) - 1) % 4294967296)) == (Go.bits .andNot .u32 a0_1 (((ji30) - 1) % 4294967296))) = false := beq_eq_false_iff_ne.mpr c31; have c31b1 : ((Go.bits .andNot .u32 a0_0 (((ji30) - 1) % 4294967296)) != (Go.bits .andNot .u32 a0_1 (((ji30) - 1) % 4294967296))) = true := bne_iff_ne.mpr c31; simp only [Option.some.injEq, Prod.mk.injEq] at H; obtain ⟨rfl, rfl, rfl⟩ := H; have hnb35 := NB471_472.out
        have hnc35 := NB472_471.out
        have hcz36_0 : wc.cell? ⟨gb471, 0, none⟩ = some (.int .u32 a0_0) := cz BK471
        have hcz36_1 : wc.cell? ⟨gb471, 1, none⟩ = some (.int .u32 a0_1) := cz BK471
        have hfz36_0 := blk_frozen BK471.out 0
        have hfz36_1 := blk_frozen BK471.out 1
        have hcz37_0 : wc.cell? ⟨gb472, 0, none⟩ = some (.int .u32 0) := cz BK472
        have hcz37_1 : wc.cell? ⟨gb472, 1, none⟩ = some (.int .u32 0) := cz BK472
        have hfz37_0 := blk_frozen BK472.out 0
        have hfz37_1 := blk_frozen BK472.out 1
        go_wp2
        refine bodyPost_ret (results_ct rfl _ _ gb472 24 #[.int .u32 0, .int .u32 (((ji30) - 1) % 4294967296)] (0, 0) _ rfl (by refine bkT ?_; refine blk_put (cs := #[.int .u32 0, .int .u32 0]) ?_ 1 _ rfl; refine bkT ?_; refine blk_put (cs := #[.int .u32 0, .int .u32 0]) ?_ 0 _ rfl; refine bkT ?_; exact BK472.out) Try.underlying24 rfl (by kernel_rfl)) rfl ?_
        exact ⟨by first | rfl | (simp [errW_none, errW_some] <;> rfl) | (simp only [← hji28, ← hji30]; first | rfl | (simp [errW_none, errW_some] <;> rfl)) | (simp [*, errW_none, errW_some] <;> rfl), hbA HB⟩
      rw [if_neg c29] at H; exact absurd H (by simp)

end Go.Proofs.Ytmhmfnjbioplhaa.PIntervalCalls
