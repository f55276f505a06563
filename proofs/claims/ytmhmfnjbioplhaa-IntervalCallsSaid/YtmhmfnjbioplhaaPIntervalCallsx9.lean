/- Contracts of Go functions of the given program: where NAME.f answers, the call returns that. Conditions: those each theorem names. -/
import Derived.Test.YtmhmfnjbioplhaaPIntervalCallsx0
import Derived.Test.YtmhmfnjbioplhaaPIntervalCallsx7
import Derived.Test.YtmhmfnjbioplhaaPIntervalCallsx8
namespace Go.Proofs.Ytmhmfnjbioplhaa.PIntervalCalls
open Go.RowKit Go.Proofs.YtmhmfnjbioplhaaW.PrintWords Go.Proofs.YtmhmfnjbioplhaaW.PrintLast Go.Proofs.YtmhmfnjbioplhaaW.PrintMore Go.Proofs.Ytmhmfnjbioplhaa.Help
attribute [local go_sem] max2_int min2_int max_two min_two max_three min_three max_four min_four   -- for this text's walks alone
set_option linter.unusedVariables false
set_option linter.unusedSimpArgs false

/-! ### lamplighterref19_Widen: function 31 -/
mutual
def lamplighterref19_Widen.j0 : Nat → Bool → Int → Int → Int → Int → Option (Int × Int)
  | 0, _, _, _, _, _ => none
  | k + 1, x17, x387000, x387001, x388000, x388001 => if x17 = true then ((lamplighterref19_All.f).bind fun bt391 => (some (bt391.1, bt391.2))) else ((lamplighterref19_Join.f x387000 x387001 x388000 x388001).bind fun bt393 => ((lamplighterref19_steps.f).bind fun t396 => (if bt393.1 < x387000 then (lamplighterref19_Widen.l0 k t396 0 x387000 x387001 bt393.1 bt393.2 x387000 x387001) else (lamplighterref19_Widen.j2 k t396 x387000 x387001 bt393.1 bt393.2 x387000 x387001))))
def lamplighterref19_Widen.j2 : Nat → List Int → Int → Int → Int → Int → Int → Int → Option (Int × Int)
  | 0, _, _, _, _, _, _, _ => none
  | k + 1, x6, x387000, x387001, x396000, x396001, x400000, x400001 => if x396001 > x387001 then (lamplighterref19_Widen.l1 k x6 (wrap64 ((x6.length : Int) - 1)) x396000 x396001 x400000 x400001) else (some (x400000, x400001))
def lamplighterref19_Widen.l1 : Nat → List Int → Int → Int → Int → Int → Int → Option (Int × Int)
  | 0, _, _, _, _, _, _ => none
  | k + 1, x6, x9, x396000, x396001, x400000, x400001 => if x9 ≥ 0 then (if 0 ≤ x9 then (if x9 < (x6.length : Int) then (if (rd x6 x9) ≥ x396001 then (lamplighterref19_Widen.l1 k x6 (wrap64 (x9 - 1)) x396000 x396001 x400000 (rd x6 x9)) else (lamplighterref19_Widen.l1 k x6 (wrap64 (x9 - 1)) x396000 x396001 x400000 x400001)) else (none)) else (none)) else (some (x400000, x400001))
def lamplighterref19_Widen.l0 : Nat → List Int → Int → Int → Int → Int → Int → Int → Int → Option (Int × Int)
  | 0, _, _, _, _, _, _, _, _ => none
  | k + 1, x6, x8, x387000, x387001, x396000, x396001, x400000, x400001 => if x8 < (x6.length : Int) then (if 0 ≤ x8 then (if (rd x6 x8) ≤ x396000 then (lamplighterref19_Widen.l0 k x6 (wrap64 (x8 + 1)) x387000 x387001 x396000 x396001 (rd x6 x8) x400001) else (lamplighterref19_Widen.l0 k x6 (wrap64 (x8 + 1)) x387000 x387001 x396000 x396001 x400000 x400001)) else (none)) else (lamplighterref19_Widen.j2 k x6 x387000 x387001 x396000 x396001 x400000 x400001)
end
def lamplighterref19_Widen.f (k : Nat) (a0_0 : Int) (a0_1 : Int) (a1_0 : Int) (a1_1 : Int) : Option (Int × Int) := (lamplighterref19_Check.f a0_0 a0_1).bind fun t389 => (if t389 = 0 then ((lamplighterref19_Check.f a1_0 a1_1).bind fun t390 => (lamplighterref19_Widen.j0 k (t390 != 0) a0_0 a0_1 a1_0 a1_1)) else (lamplighterref19_Widen.j0 k true a0_0 a0_1 a1_0 a1_1))
theorem lamplighterref19_Widen.mono_l : ∀ k, (∀ y0 y1 y2 y3 y4, LeO (lamplighterref19_Widen.j0 k y0 y1 y2 y3 y4) (lamplighterref19_Widen.j0 (k + 1) y0 y1 y2 y3 y4)) ∧ (∀ y0 y1 y2 y3 y4 y5 y6, LeO (lamplighterref19_Widen.j2 k y0 y1 y2 y3 y4 y5 y6) (lamplighterref19_Widen.j2 (k + 1) y0 y1 y2 y3 y4 y5 y6)) ∧ (∀ y0 y1 y2 y3 y4 y5, LeO (lamplighterref19_Widen.l1 k y0 y1 y2 y3 y4 y5) (lamplighterref19_Widen.l1 (k + 1) y0 y1 y2 y3 y4 y5)) ∧ (∀ y0 y1 y2 y3 y4 y5 y6 y7, LeO (lamplighterref19_Widen.l0 k y0 y1 y2 y3 y4 y5 y6 y7) (lamplighterref19_Widen.l0 (k + 1) y0 y1 y2 y3 y4 y5 y6 y7))
  | 0 => ⟨fun _ _ _ _ _ r h => by simp [lamplighterref19_Widen.j0] at h, fun _ _ _ _ _ _ _ r h => by simp [lamplighterref19_Widen.j2] at h, fun _ _ _ _ _ _ r h => by simp [lamplighterref19_Widen.l1] at h, fun _ _ _ _ _ _ _ _ r h => by simp [lamplighterref19_Widen.l0] at h⟩
  | k + 1 => by
    obtain ⟨ih0, ih1, ih2, ih3⟩ := lamplighterref19_Widen.mono_l k; refine ⟨?_, ?_, ?_, ?_⟩
    · intro y0 y1 y2 y3 y4
      unfold lamplighterref19_Widen.j0
      repeat' first
      | (with_reducible exact ih0 _ _ _ _ _)
      | (with_reducible exact ih1 _ _ _ _ _ _ _)
      | (with_reducible exact ih2 _ _ _ _ _ _)
      | (with_reducible exact ih3 _ _ _ _ _ _ _ _)
      | (with_reducible exact LeO.refl _)
      | (with_reducible exact LeO.none _)
      | (with_reducible refine LeO.ite ?_ ?_)
      | (with_reducible refine LeO.bind ?_ (fun _ => ?_))
      | exact ih0 _ _ _ _ _
      | exact ih1 _ _ _ _ _ _ _
      | exact ih2 _ _ _ _ _ _
      | exact ih3 _ _ _ _ _ _ _ _
      | exact LeO.none _
      | refine LeO.ite ?_ ?_
      | refine LeO.bind ?_ (fun _ => ?_)
    · intro y0 y1 y2 y3 y4 y5 y6
      unfold lamplighterref19_Widen.j2
      repeat' first
      | (with_reducible exact ih0 _ _ _ _ _)
      | (with_reducible exact ih1 _ _ _ _ _ _ _)
      | (with_reducible exact ih2 _ _ _ _ _ _)
      | (with_reducible exact ih3 _ _ _ _ _ _ _ _)
      | (with_reducible exact LeO.refl _)
      | (with_reducible exact LeO.none _)
      | (with_reducible refine LeO.ite ?_ ?_)
      | (with_reducible refine LeO.bind ?_ (fun _ => ?_))
      | exact ih0 _ _ _ _ _
      | exact ih1 _ _ _ _ _ _ _
      | exact ih2 _ _ _ _ _ _
      | exact ih3 _ _ _ _ _ _ _ _
      | exact LeO.none _
      | refine LeO.ite ?_ ?_
      | refine LeO.bind ?_ (fun _ => ?_)
    · intro y0 y1 y2 y3 y4 y5
      unfold lamplighterref19_Widen.l1
      repeat' first
      | (with_reducible exact ih0 _ _ _ _ _)
      | (with_reducible exact ih1 _ _ _ _ _ _ _)
      | (with_reducible exact ih2 _ _ _ _ _ _)
      | (with_reducible exact ih3 _ _ _ _ _ _ _ _)
      | (with_reducible exact LeO.refl _)
      | (with_reducible exact LeO.none _)
      | (with_reducible refine LeO.ite ?_ ?_)
      | (with_reducible refine LeO.bind ?_ (fun _ => ?_))
      | exact ih0 _ _ _ _ _
      | exact ih1 _ _ _ _ _ _ _
      | exact ih2 _ _ _ _ _ _
      | exact ih3 _ _ _ _ _ _ _ _
      | exact LeO.none _
      | refine LeO.ite ?_ ?_
      | refine LeO.bind ?_ (fun _ => ?_)
    intro y0 y1 y2 y3 y4 y5 y6 y7
    unfold lamplighterref19_Widen.l0
    repeat' first
    | (with_reducible exact ih0 _ _ _ _ _)
    | (with_reducible exact ih1 _ _ _ _ _ _ _)
    | (with_reducible exact ih2 _ _ _ _ _ _)
    | (with_reducible exact ih3 _ _ _ _ _ _ _ _)
    | (with_reducible exact LeO.refl _)
    | (with_reducible exact LeO.none _)
    | (with_reducible refine LeO.ite ?_ ?_)
    | (with_reducible refine LeO.bind ?_ (fun _ => ?_))
    | exact ih0 _ _ _ _ _
    | exact ih1 _ _ _ _ _ _ _
    | exact ih2 _ _ _ _ _ _
    | exact ih3 _ _ _ _ _ _ _ _
    | exact LeO.none _
    | refine LeO.ite ?_ ?_
    | refine LeO.bind ?_ (fun _ => ?_)
theorem lamplighterref19_Widen.mono : ∀ a0 a1 a2 a3 k, LeO (lamplighterref19_Widen.f k a0 a1 a2 a3) (lamplighterref19_Widen.f (k + 1) a0 a1 a2 a3) := by
  intro a0 a1 a2 a3 k
  obtain ⟨ih0, ih1, ih2, ih3⟩ := lamplighterref19_Widen.mono_l k; unfold lamplighterref19_Widen.f
  repeat' first
      | (with_reducible exact ih0 _ _ _ _ _)
      | (with_reducible exact ih1 _ _ _ _ _ _ _)
      | (with_reducible exact ih2 _ _ _ _ _ _)
      | (with_reducible exact ih3 _ _ _ _ _ _ _ _)
      | (with_reducible exact LeO.refl _)
      | (with_reducible exact LeO.none _)
      | (with_reducible refine LeO.ite ?_ ?_)
      | (with_reducible refine LeO.bind ?_ (fun _ => ?_))
      | exact ih0 _ _ _ _ _
      | exact ih1 _ _ _ _ _ _ _
      | exact ih2 _ _ _ _ _ _
      | exact ih3 _ _ _ _ _ _ _ _
      | exact LeO.none _
      | refine LeO.ite ?_ ?_
      | refine LeO.bind ?_ (fun _ => ?_)
set_option maxHeartbeats 8000000 in
set_option maxRecDepth 100000 in
theorem lamplighterref19_Widen.calls (k : Nat) (a0_0 : Int) (a0_1 : Int) (a1_0 : Int) (a1_1 : Int) (r1 : Int) (r2 : Int) (w : World) (h : lamplighterref19_Widen.f k a0_0 a0_1 a1_0 a1_1 = some (r1, r2)) :
    Calls Try.prog 31 #[.agg #[.int .u32 a0_0, .int .u32 a0_1], .agg #[.int .u32 a1_0, .int .u32 a1_1]] w fun e w' => e = .returned (.agg #[.int .u32 r1, .int .u32 r2]) ∧ Below w.heap.size w w' := by
  have hu24 := Try.underlying24
  have HB := am (Below.refl w.heap.size w)
  have H : ((lamplighterref19_Check.f a0_0 a0_1).bind fun t389 => (if t389 = 0 then ((lamplighterref19_Check.f a1_0 a1_1).bind fun t390 => (lamplighterref19_Widen.j0 k (t390 != 0) a0_0 a0_1 a1_0 a1_1)) else (lamplighterref19_Widen.j0 k true a0_0 a0_1 a1_0 a1_1))) = some (r1, r2) := h
  clear h; have HC3 := am H; clear H
  go_enter Try.func31, Try.ntmps31
  go_upto_region 1 with (first | ((with_reducible refine gate_dst (N := 2) rfl ?_); refine bxE 2 #[.int .u32 a0_0, .int .u32 a0_1] 24 ?_; intro gb386 hg w4 hbox hb; have BK386 := am (hbox); have GW386 := gwA hg HB; have GE386 := gwA hg HB; replace HB := bsA HB hb; clear hb hbox hg) | ((with_reducible refine gate_dst (N := 3) rfl ?_); refine bxE 3 #[.int .u32 a1_0, .int .u32 a1_1] 24 ?_; intro gb387 hg w5 hbox hb; have BK387 := am (hbox); have GW387 := gwA hg HB; have GE387 := gwA hg HB; have NB386_387 := ltA hg BK386; have NB387_386 := gtA hg BK386; replace BK386 := bbA BK386 hb; replace HB := bsA HB hb; clear hb hbox hg) | ((with_reducible refine gate_dst (N := 4) rfl ?_); refine bxE 4 #[.int .u32 0, .int .u32 0] 24 ?_; intro gb388 hg w6 hbox hb; have BK388 := am (hbox); have GW388 := gwA hg HB; have GE388 := gwA hg HB; have NB386_388 := ltA hg BK386; have NB388_386 := gtA hg BK386; have NB387_388 := ltA hg BK387; have NB388_387 := gtA hg BK387; replace BK386 := bbA BK386 hb; replace BK387 := bbA BK387 hb; replace HB := bsA HB hb; clear hb hbox hg))
  repeat (go_quiet (first | ((with_reducible refine gate_dst (N := 2) rfl ?_); refine bxE 2 #[.int .u32 a0_0, .int .u32 a0_1] 24 ?_; intro gb386 hg w4 hbox hb; have BK386 := am (hbox); have GW386 := gwA hg HB; have GE386 := gwA hg HB; replace HB := bsA HB hb; clear hb hbox hg) | ((with_reducible refine gate_dst (N := 3) rfl ?_); refine bxE 3 #[.int .u32 a1_0, .int .u32 a1_1] 24 ?_; intro gb387 hg w5 hbox hb; have BK387 := am (hbox); have GW387 := gwA hg HB; have GE387 := gwA hg HB; have NB386_387 := ltA hg BK386; have NB387_386 := gtA hg BK386; replace BK386 := bbA BK386 hb; replace HB := bsA HB hb; clear hb hbox hg) | ((with_reducible refine gate_dst (N := 4) rfl ?_); refine bxE 4 #[.int .u32 0, .int .u32 0] 24 ?_; intro gb388 hg w6 hbox hb; have BK388 := am (hbox); have GW388 := gwA hg HB; have GE388 := gwA hg HB; have NB386_388 := ltA hg BK386; have NB388_386 := gtA hg BK386; have NB387_388 := ltA hg BK387; have NB388_387 := gtA hg BK387; replace BK386 := bbA BK386 hb; replace BK387 := bbA BK387 hb; replace HB := bsA HB hb; clear hb hbox hg)); go_upto_region 1 with (first | ((with_reducible refine gate_dst (N := 2) rfl ?_); refine bxE 2 #[.int .u32 a0_0, .int .u32 a0_1] 24 ?_; intro gb386 hg w4 hbox hb; have BK386 := am (hbox); have GW386 := gwA hg HB; have GE386 := gwA hg HB; replace HB := bsA HB hb; clear hb hbox hg) | ((with_reducible refine gate_dst (N := 3) rfl ?_); refine bxE 3 #[.int .u32 a1_0, .int .u32 a1_1] 24 ?_; intro gb387 hg w5 hbox hb; have BK387 := am (hbox); have GW387 := gwA hg HB; have GE387 := gwA hg HB; have NB386_387 := ltA hg BK386; have NB387_386 := gtA hg BK386; replace BK386 := bbA BK386 hb; replace HB := bsA HB hb; clear hb hbox hg) | ((with_reducible refine gate_dst (N := 4) rfl ?_); refine bxE 4 #[.int .u32 0, .int .u32 0] 24 ?_; intro gb388 hg w6 hbox hb; have BK388 := am (hbox); have GW388 := gwA hg HB; have GE388 := gwA hg HB; have NB386_388 := ltA hg BK386; have NB388_386 := gtA hg BK386; have NB387_388 := ltA hg BK387; have NB388_387 := gtA hg BK387; replace BK386 := bbA BK386 hb; replace BK387 := bbA BK387 hb; replace HB := bsA HB hb; clear hb hbox hg)))
  (try simp only [Act.put, s1, s2, s3])
  go_cut [17] (fun v17 wc => ∃ (kq : Nat) (x17_2 : Bool), v17 = .bool x17_2 ∧ Aside0 (lamplighterref19_Widen.j0 kq x17_2 a0_0 a0_1 a1_0 a1_1 = some (r1, r2)) ∧ Aside0 (kq ≤ k) ∧ Aside0 (wc.heap[gb386]? = some (.cells #[.int .u32 a0_0, .int .u32 a0_1] 24 (0, 0))) ∧ Aside0 (wc.heap[gb387]? = some (.cells #[.int .u32 a1_0, .int .u32 a1_1] 24 (0, 0))) ∧ Aside0 (wc.heap[gb388]? = some (.cells #[.int .u32 0, .int .u32 0] 24 (0, 0))) ∧ Aside0 (Below w.heap.size w wc))
  case first => as_aux_lemma =>
    have H := HC3.out
    clear HC3; replace H := Option.bind_eq_some_iff.mp H; obtain ⟨t389, A70, H⟩ := H; replace H : (if t389 = 0 then ((lamplighterref19_Check.f a1_0 a1_1).bind fun t390 => (lamplighterref19_Widen.j0 k (t390 != 0) a0_0 a0_1 a1_0 a1_1)) else (lamplighterref19_Widen.j0 k true a0_0 a0_1 a1_0 a1_1)) = some (r1, r2) := H; have A7 := am A70; clear A70; by_cases c8 : t389 = 0
    · rw [if_pos c8] at H; have c8b0 : (t389 == 0) = true := beq_iff_eq.mpr c8; have c8b1 : (t389 != 0) = false := bne_eq_false_iff_eq.mpr c8; clear c8; (first | rw [c8b0] | (simp only [i64_w, i32_w]; rw [c8b0]) | skip)
      replace H := Option.bind_eq_some_iff.mp H; obtain ⟨t390, A90, H⟩ := H; replace H : (lamplighterref19_Widen.j0 k (t390 != 0) a0_0 a0_1 a1_0 a1_1) = some (r1, r2) := H; have A9 := am A90; clear A90; have H' := am H; clear H; have hnb10 := NB386_387.out
      have hnc10 := NB387_386.out
      have hnb11 := NB386_388.out
      have hnc11 := NB388_386.out
      have hcz12_0 : w6.cell? ⟨gb386, 0, none⟩ = some (.int .u32 a0_0) := cz BK386
      have hcz12_1 : w6.cell? ⟨gb386, 1, none⟩ = some (.int .u32 a0_1) := cz BK386
      have hfz12_0 := blk_frozen BK386.out 0
      have hfz12_1 := blk_frozen BK386.out 1
      go_wp2_with (first | (go_at_call 27; (with_reducible refine (lamplighterref19_Check.calls a0_0 a0_1 t389 _ A7.out).mono ?_); rintro e w13 ⟨rfl, hb⟩; replace BK386 := bbA BK386 hb; replace BK387 := bbA BK387 hb; replace BK388 := bbA BK388 hb; replace HB := bsA HB hb; (try clear hb); (try clear hb2); (try clear hk); (try clear hi); have hnb14 := NB387_388.out; have hnc14 := NB388_387.out; have hcz15_0 : w13.cell? ⟨gb387, 0, none⟩ = some (.int .u32 a1_0) := cz BK387; have hcz15_1 : w13.cell? ⟨gb387, 1, none⟩ = some (.int .u32 a1_1) := cz BK387; have hfz15_0 := blk_frozen BK387.out 0; have hfz15_1 := blk_frozen BK387.out 1) | (go_at_call 27; (with_reducible refine (lamplighterref19_Check.calls a1_0 a1_1 t390 _ A9.out).mono ?_); rintro e w16 ⟨rfl, hb⟩; replace BK386 := bbA BK386 hb; replace BK387 := bbA BK387 hb; replace BK388 := bbA BK388 hb; replace HB := bsA HB hb; (try clear hb); (try clear hb2); (try clear hk); (try clear hi)))
      repeat (go_quiet (first | (go_at_call 27; (with_reducible refine (lamplighterref19_Check.calls a0_0 a0_1 t389 _ A7.out).mono ?_); rintro e w13 ⟨rfl, hb⟩; replace BK386 := bbA BK386 hb; replace BK387 := bbA BK387 hb; replace BK388 := bbA BK388 hb; replace HB := bsA HB hb; (try clear hb); (try clear hb2); (try clear hk); (try clear hi); have hnb14 := NB387_388.out; have hnc14 := NB388_387.out; have hcz15_0 : w13.cell? ⟨gb387, 0, none⟩ = some (.int .u32 a1_0) := cz BK387; have hcz15_1 : w13.cell? ⟨gb387, 1, none⟩ = some (.int .u32 a1_1) := cz BK387; have hfz15_0 := blk_frozen BK387.out 0; have hfz15_1 := blk_frozen BK387.out 1) | (go_at_call 27; (with_reducible refine (lamplighterref19_Check.calls a1_0 a1_1 t390 _ A9.out).mono ?_); rintro e w16 ⟨rfl, hb⟩; replace BK386 := bbA BK386 hb; replace BK387 := bbA BK387 hb; replace BK388 := bbA BK388 hb; replace HB := bsA HB hb; (try clear hb); (try clear hb2); (try clear hk); (try clear hi))); try go_wp2_with (first | (go_at_call 27; (with_reducible refine (lamplighterref19_Check.calls a0_0 a0_1 t389 _ A7.out).mono ?_); rintro e w13 ⟨rfl, hb⟩; replace BK386 := bbA BK386 hb; replace BK387 := bbA BK387 hb; replace BK388 := bbA BK388 hb; replace HB := bsA HB hb; (try clear hb); (try clear hb2); (try clear hk); (try clear hi); have hnb14 := NB387_388.out; have hnc14 := NB388_387.out; have hcz15_0 : w13.cell? ⟨gb387, 0, none⟩ = some (.int .u32 a1_0) := cz BK387; have hcz15_1 : w13.cell? ⟨gb387, 1, none⟩ = some (.int .u32 a1_1) := cz BK387; have hfz15_0 := blk_frozen BK387.out 0; have hfz15_1 := blk_frozen BK387.out 1) | (go_at_call 27; (with_reducible refine (lamplighterref19_Check.calls a1_0 a1_1 t390 _ A9.out).mono ?_); rintro e w16 ⟨rfl, hb⟩; replace BK386 := bbA BK386 hb; replace BK387 := bbA BK387 hb; replace BK388 := bbA BK388 hb; replace HB := bsA HB hb; (try clear hb); (try clear hb2); (try clear hk); (try clear hi))))
      go_meet
      case rel => exact ⟨_, ((t390 != 0)), (by first | rfl | (simp; done) | (simp [*]; done) | (congr 1; omega) | (congr 2; omega) | (rw [Int.tdiv_eq_ediv_of_nonneg (by decide)]; done)), H', ⟨by first | omega | exact Nat.le_refl _⟩, ⟨by refine bkT ?_; exact BK386.out⟩, ⟨by refine bkT ?_; exact BK387.out⟩, ⟨by refine bkT ?_; exact BK388.out⟩, ⟨by repeat (first | (with_reducible first | exact HB.out | apply below_alloc | apply pw_below_drewN | apply below_drew1 | refine below_set ?_ GE386.out | refine below_set ?_ GE387.out | refine below_set ?_ GE388.out) | exact HB.out)⟩⟩
    rw [if_neg c8] at H; have c8b0 : (t389 == 0) = false := beq_eq_false_iff_ne.mpr c8; have c8b1 : (t389 != 0) = true := bne_iff_ne.mpr c8; (first | rw [c8b0] | (simp only [i64_w, i32_w]; rw [c8b0]) | skip)
    have H' := am H; clear H; have hnb17 := NB386_387.out
    have hnc17 := NB387_386.out
    have hnb18 := NB386_388.out
    have hnc18 := NB388_386.out
    have hcz19_0 : w6.cell? ⟨gb386, 0, none⟩ = some (.int .u32 a0_0) := cz BK386
    have hcz19_1 : w6.cell? ⟨gb386, 1, none⟩ = some (.int .u32 a0_1) := cz BK386
    have hfz19_0 := blk_frozen BK386.out 0
    have hfz19_1 := blk_frozen BK386.out 1
    go_wp2_with (first | (go_at_call 27; (with_reducible refine (lamplighterref19_Check.calls a0_0 a0_1 t389 _ A7.out).mono ?_); rintro e w20 ⟨rfl, hb⟩; replace BK386 := bbA BK386 hb; replace BK387 := bbA BK387 hb; replace BK388 := bbA BK388 hb; replace HB := bsA HB hb; (try clear hb); (try clear hb2); (try clear hk); (try clear hi)))
    repeat (go_quiet (first | (go_at_call 27; (with_reducible refine (lamplighterref19_Check.calls a0_0 a0_1 t389 _ A7.out).mono ?_); rintro e w20 ⟨rfl, hb⟩; replace BK386 := bbA BK386 hb; replace BK387 := bbA BK387 hb; replace BK388 := bbA BK388 hb; replace HB := bsA HB hb; (try clear hb); (try clear hb2); (try clear hk); (try clear hi))); try go_wp2_with (first | (go_at_call 27; (with_reducible refine (lamplighterref19_Check.calls a0_0 a0_1 t389 _ A7.out).mono ?_); rintro e w20 ⟨rfl, hb⟩; replace BK386 := bbA BK386 hb; replace BK387 := bbA BK387 hb; replace BK388 := bbA BK388 hb; replace HB := bsA HB hb; (try clear hb); (try clear hb2); (try clear hk); (try clear hi))))
    go_meet
    case rel => exact ⟨_, (true), (by first | rfl | (simp; done) | (simp [*]; done) | (congr 1; omega) | (congr 2; omega) | (rw [Int.tdiv_eq_ediv_of_nonneg (by decide)]; done)), H', ⟨by first | omega | exact Nat.le_refl _⟩, ⟨by refine bkT ?_; exact BK386.out⟩, ⟨by refine bkT ?_; exact BK387.out⟩, ⟨by refine bkT ?_; exact BK388.out⟩, ⟨by repeat (first | (with_reducible first | exact HB.out | apply below_alloc | apply pw_below_drewN | apply below_drew1 | refine below_set ?_ GE386.out | refine below_set ?_ GE387.out | refine below_set ?_ GE388.out) | exact HB.out)⟩⟩
  case rest => as_aux_lemma =>
    clear HC3
    try clear c1
    try clear p2
    try clear c3
    try clear c8
    try clear c8b0
    try clear c8b1
    try clear c10
    try clear c11
    try clear c14
    try clear c17
    try clear c18
    try clear hcz12_0
    try clear hcz12_1
    try clear hcz15_0
    try clear hcz15_1
    try clear hcz19_0
    try clear hcz19_1
    try clear hfz12_0
    try clear hfz12_1
    try clear hfz15_0
    try clear hfz15_1
    try clear hfz19_0
    try clear hfz19_1
    obtain ⟨kq, x17_2, rfl, HA, HJ2, BK386, BK387, BK388, HB⟩ := hcut
    cases kq with
    | zero => exact absurd HA.out (by simp [lamplighterref19_Widen.j0])
    | succ kj2 =>
      have H := HA.out
      clear HA; simp only [lamplighterref19_Widen.j0] at H
      by_cases c21 : x17_2 = true
      · subst c21; have H1 : ((lamplighterref19_All.f).bind fun bt391 => (some (bt391.1, bt391.2))) = some (r1, r2) := by rw [if_pos rfl] at H; exact H
        clear H; have H := H1; clear H1; replace H := Option.bind_eq_some_iff.mp H; obtain ⟨⟨t391, t392⟩, A220, H⟩ := H; replace H : (some (t391, t392)) = some (r1, r2) := H; have A22 := am A220; clear A220; simp only [Option.some.injEq, Prod.mk.injEq] at H; obtain ⟨rfl, rfl⟩ := H
        go_wp2_with (first | (go_at_call 42; (with_reducible refine (lamplighterref19_All.calls  t391 t392 _ A22.out).mono ?_); rintro e w23 ⟨rfl, hb⟩; replace BK386 := bbA BK386 hb; replace BK387 := bbA BK387 hb; replace BK388 := bbA BK388 hb; replace HB := bsA HB hb; (try clear hb); (try clear hb2); (try clear hk); (try clear hi); have hnb24 := NB388_386.out; have hnc24 := NB386_388.out; have hnb25 := NB388_387.out; have hnc25 := NB387_388.out; have hcz26_0 : w23.cell? ⟨gb388, 0, none⟩ = some (.int .u32 0) := cz BK388; have hcz26_1 : w23.cell? ⟨gb388, 1, none⟩ = some (.int .u32 0) := cz BK388; have hfz26_0 := blk_frozen BK388.out 0; have hfz26_1 := blk_frozen BK388.out 1))
        repeat (go_quiet (first | (go_at_call 42; (with_reducible refine (lamplighterref19_All.calls  t391 t392 _ A22.out).mono ?_); rintro e w23 ⟨rfl, hb⟩; replace BK386 := bbA BK386 hb; replace BK387 := bbA BK387 hb; replace BK388 := bbA BK388 hb; replace HB := bsA HB hb; (try clear hb); (try clear hb2); (try clear hk); (try clear hi); have hnb24 := NB388_386.out; have hnc24 := NB386_388.out; have hnb25 := NB388_387.out; have hnc25 := NB387_388.out; have hcz26_0 : w23.cell? ⟨gb388, 0, none⟩ = some (.int .u32 0) := cz BK388; have hcz26_1 : w23.cell? ⟨gb388, 1, none⟩ = some (.int .u32 0) := cz BK388; have hfz26_0 := blk_frozen BK388.out 0; have hfz26_1 := blk_frozen BK388.out 1)); try go_wp2_with (first | (go_at_call 42; (with_reducible refine (lamplighterref19_All.calls  t391 t392 _ A22.out).mono ?_); rintro e w23 ⟨rfl, hb⟩; replace BK386 := bbA BK386 hb; replace BK387 := bbA BK387 hb; replace BK388 := bbA BK388 hb; replace HB := bsA HB hb; (try clear hb); (try clear hb2); (try clear hk); (try clear hi); have hnb24 := NB388_386.out; have hnc24 := NB386_388.out; have hnb25 := NB388_387.out; have hnc25 := NB387_388.out; have hcz26_0 : w23.cell? ⟨gb388, 0, none⟩ = some (.int .u32 0) := cz BK388; have hcz26_1 : w23.cell? ⟨gb388, 1, none⟩ = some (.int .u32 0) := cz BK388; have hfz26_0 := blk_frozen BK388.out 0; have hfz26_1 := blk_frozen BK388.out 1)))
        refine bodyPost_ret (results_cell_row rfl _ _ gb388 24 #[.int .u32 t391, .int .u32 t392] (0, 0) _ rfl (by refine bkT ?_; refine blk_put (cs := #[.int .u32 t391, .int .u32 0]) ?_ 1 _ rfl; refine bkT ?_; refine blk_put (cs := #[.int .u32 0, .int .u32 0]) ?_ 0 _ rfl; refine bkT ?_; exact BK388.out) Try.underlying24 rfl (by kernel_rfl)) rfl ?_
        exact ⟨by first | rfl | (simp [errW_none, errW_some] <;> rfl) | (simp [*, errW_none, errW_some] <;> rfl), hbA HB⟩
      replace c21 := Bool.eq_false_iff.mpr c21; subst c21; have H1 : ((lamplighterref19_Join.f a0_0 a0_1 a1_0 a1_1).bind fun bt393 => ((lamplighterref19_steps.f).bind fun t396 => (if bt393.1 < a0_0 then (lamplighterref19_Widen.l0 kj2 t396 0 a0_0 a0_1 bt393.1 bt393.2 a0_0 a0_1) else (lamplighterref19_Widen.j2 kj2 t396 a0_0 a0_1 bt393.1 bt393.2 a0_0 a0_1)))) = some (r1, r2) := by rw [if_neg (show ¬ (false = true) by decide)] at H; exact H
      clear H; have H := H1; clear H1; replace H := Option.bind_eq_some_iff.mp H; obtain ⟨⟨t393, t394⟩, A270, H⟩ := H; replace H : ((lamplighterref19_steps.f).bind fun t396 => (if t393 < a0_0 then (lamplighterref19_Widen.l0 kj2 t396 0 a0_0 a0_1 t393 t394 a0_0 a0_1) else (lamplighterref19_Widen.j2 kj2 t396 a0_0 a0_1 t393 t394 a0_0 a0_1))) = some (r1, r2) := H; have A27 := am A270; clear A270; replace H := Option.bind_eq_some_iff.mp H; obtain ⟨t396, A280, H⟩ := H; replace H : (if t393 < a0_0 then (lamplighterref19_Widen.l0 kj2 t396 0 a0_0 a0_1 t393 t394 a0_0 a0_1) else (lamplighterref19_Widen.j2 kj2 t396 a0_0 a0_1 t393 t394 a0_0 a0_1)) = some (r1, r2) := H; have A28 := am A280; clear A280; have HC29 := am H; clear H; have hnb30 := NB386_387.out
      have hnc30 := NB387_386.out
      have hnb31 := NB386_388.out
      have hnc31 := NB388_386.out
      have hcz32_0 : wc.cell? ⟨gb386, 0, none⟩ = some (.int .u32 a0_0) := cz BK386
      have hcz32_1 : wc.cell? ⟨gb386, 1, none⟩ = some (.int .u32 a0_1) := cz BK386
      have hfz32_0 := blk_frozen BK386.out 0
      have hfz32_1 := blk_frozen BK386.out 1
      have hnb33 := NB387_388.out
      have hnc33 := NB388_387.out
      have hcz34_0 : wc.cell? ⟨gb387, 0, none⟩ = some (.int .u32 a1_0) := cz BK387
      have hcz34_1 : wc.cell? ⟨gb387, 1, none⟩ = some (.int .u32 a1_1) := cz BK387
      have hfz34_0 := blk_frozen BK387.out 0
      have hfz34_1 := blk_frozen BK387.out 1
      go_upto_if 28 with (first | (go_at_call 30; (with_reducible refine (lamplighterref19_Join.calls a0_0 a0_1 a1_0 a1_1 t393 t394 _ A27.out).mono ?_); rintro e w35 ⟨rfl, hb⟩; replace BK386 := bbA BK386 hb; replace BK387 := bbA BK387 hb; replace BK388 := bbA BK388 hb; replace HB := bsA HB hb; (try clear hb); (try clear hb2); (try clear hk); (try clear hi)) | ((with_reducible refine gate_dst (N := 5) rfl ?_); refine bxE 5 #[.int .u32 0, .int .u32 0] 24 ?_; intro gb395 hg w36 hbox hb; have BK395 := am (hbox); have GW395 := gwA hg HB; have GE395 := gwA hg HB; have NB386_395 := ltA hg BK386; have NB395_386 := gtA hg BK386; have NB387_395 := ltA hg BK387; have NB395_387 := gtA hg BK387; have NB388_395 := ltA hg BK388; have NB395_388 := gtA hg BK388; replace BK386 := bbA BK386 hb; replace BK387 := bbA BK387 hb; replace BK388 := bbA BK388 hb; replace HB := bsA HB hb; clear hb hbox hg; have hnb37 := NB395_386.out; have hnc37 := NB386_395.out; have hnb38 := NB395_387.out; have hnc38 := NB387_395.out; have hnb39 := NB395_388.out; have hnc39 := NB388_395.out; have hcz40_0 : w36.cell? ⟨gb395, 0, none⟩ = some (.int .u32 0) := cz BK395; have hcz40_1 : w36.cell? ⟨gb395, 1, none⟩ = some (.int .u32 0) := cz BK395; have hfz40_0 := blk_frozen BK395.out 0; have hfz40_1 := blk_frozen BK395.out 1) | (go_at_call 43; (with_reducible refine (lamplighterref19_steps.calls  t396 _ A28.out).mono ?_); rintro e w41 ⟨v397, rfl, ho0, hb⟩; have HO398 := am (Kd.R_lower ho0 (below_size (hbA HB))); replace BK386 := am (blk_below (g := gb386) (o := .cells #[.int .u32 a0_0, .int .u32 a0_1] 24 (0, 0)) (by refine bkT ?_; refine blk_far ?_ NB386_395.out _; refine bkT ?_; refine blk_far ?_ NB386_395.out _; refine bkT ?_; exact BK386.out) hb); replace BK387 := am (blk_below (g := gb387) (o := .cells #[.int .u32 a1_0, .int .u32 a1_1] 24 (0, 0)) (by refine bkT ?_; refine blk_far ?_ NB387_395.out _; refine bkT ?_; refine blk_far ?_ NB387_395.out _; refine bkT ?_; exact BK387.out) hb); replace BK388 := am (blk_below (g := gb388) (o := .cells #[.int .u32 0, .int .u32 0] 24 (0, 0)) (by refine bkT ?_; refine blk_far ?_ NB388_395.out _; refine bkT ?_; refine blk_far ?_ NB388_395.out _; refine bkT ?_; exact BK388.out) hb); replace BK395 := am (blk_below (g := gb395) (o := .cells #[.int .u32 t393, .int .u32 t394] 24 (0, 0)) (by refine bkT ?_; refine blk_put (cs := #[.int .u32 t393, .int .u32 0]) ?_ 1 _ rfl; refine bkT ?_; refine blk_put (cs := #[.int .u32 0, .int .u32 0]) ?_ 0 _ rfl; refine bkT ?_; exact BK395.out) hb); replace HB := bsA HB hb; (try clear hb); (try clear hb2); (try clear hk); (try clear hi); (try clear ho0); have hcz42_0 : w41.cell? ⟨gb386, 0, none⟩ = some (.int .u32 a0_0) := cz BK386; have hcz42_1 : w41.cell? ⟨gb386, 1, none⟩ = some (.int .u32 a0_1) := cz BK386; have hfz42_0 := blk_frozen BK386.out 0; have hfz42_1 := blk_frozen BK386.out 1) | ((with_reducible refine gate_dst (N := 7) rfl ?_); refine bxE 7 #[.int .u32 0, .int .u32 0] 24 ?_; intro gb399 hg w43 hbox hb; have BK399 := am (hbox); have GW399 := gwA hg HB; have GE399 := gwA hg HB; have NB386_399 := ltA hg BK386; have NB399_386 := gtA hg BK386; have NB387_399 := ltA hg BK387; have NB399_387 := gtA hg BK387; have NB388_399 := ltA hg BK388; have NB399_388 := gtA hg BK388; have NB395_399 := ltA hg BK395; have NB399_395 := gtA hg BK395; replace HO398 := am (Kd.R_below (by (with_reducible repeat (first | apply Kd.R_alloc | apply Kd.R_drewN | apply Kd.R_drew)); exact HO398.out) hb); replace BK386 := bbA BK386 hb; replace BK387 := bbA BK387 hb; replace BK388 := bbA BK388 hb; replace BK395 := bbA BK395 hb; replace HB := bsA HB hb; clear hb hbox hg; have hnb44 := NB399_386.out; have hnc44 := NB386_399.out; have hnb45 := NB399_387.out; have hnc45 := NB387_399.out; have hnb46 := NB399_388.out; have hnc46 := NB388_399.out; have hnb47 := NB399_395.out; have hnc47 := NB395_399.out; have hcz48_0 : w43.cell? ⟨gb399, 0, none⟩ = some (.int .u32 0) := cz BK399; have hcz48_1 : w43.cell? ⟨gb399, 1, none⟩ = some (.int .u32 0) := cz BK399; have hfz48_0 := blk_frozen BK399.out 0; have hfz48_1 := blk_frozen BK399.out 1; have hcz49_0 : w43.cell? ⟨gb395, 0, none⟩ = some (.int .u32 t393) := cz BK395; have hcz49_1 : w43.cell? ⟨gb395, 1, none⟩ = some (.int .u32 t394) := cz BK395; have hfz49_0 := blk_frozen BK395.out 0; have hfz49_1 := blk_frozen BK395.out 1; have hcz50_0 : w43.cell? ⟨gb386, 0, none⟩ = some (.int .u32 a0_0) := cz BK386; have hcz50_1 : w43.cell? ⟨gb386, 1, none⟩ = some (.int .u32 a0_1) := cz BK386; have hfz50_0 := blk_frozen BK386.out 0; have hfz50_1 := blk_frozen BK386.out 1))
      repeat (go_quiet (first | (go_at_call 30; (with_reducible refine (lamplighterref19_Join.calls a0_0 a0_1 a1_0 a1_1 t393 t394 _ A27.out).mono ?_); rintro e w35 ⟨rfl, hb⟩; replace BK386 := bbA BK386 hb; replace BK387 := bbA BK387 hb; replace BK388 := bbA BK388 hb; replace HB := bsA HB hb; (try clear hb); (try clear hb2); (try clear hk); (try clear hi)) | ((with_reducible refine gate_dst (N := 5) rfl ?_); refine bxE 5 #[.int .u32 0, .int .u32 0] 24 ?_; intro gb395 hg w36 hbox hb; have BK395 := am (hbox); have GW395 := gwA hg HB; have GE395 := gwA hg HB; have NB386_395 := ltA hg BK386; have NB395_386 := gtA hg BK386; have NB387_395 := ltA hg BK387; have NB395_387 := gtA hg BK387; have NB388_395 := ltA hg BK388; have NB395_388 := gtA hg BK388; replace BK386 := bbA BK386 hb; replace BK387 := bbA BK387 hb; replace BK388 := bbA BK388 hb; replace HB := bsA HB hb; clear hb hbox hg; have hnb37 := NB395_386.out; have hnc37 := NB386_395.out; have hnb38 := NB395_387.out; have hnc38 := NB387_395.out; have hnb39 := NB395_388.out; have hnc39 := NB388_395.out; have hcz40_0 : w36.cell? ⟨gb395, 0, none⟩ = some (.int .u32 0) := cz BK395; have hcz40_1 : w36.cell? ⟨gb395, 1, none⟩ = some (.int .u32 0) := cz BK395; have hfz40_0 := blk_frozen BK395.out 0; have hfz40_1 := blk_frozen BK395.out 1) | (go_at_call 43; (with_reducible refine (lamplighterref19_steps.calls  t396 _ A28.out).mono ?_); rintro e w41 ⟨v397, rfl, ho0, hb⟩; have HO398 := am (Kd.R_lower ho0 (below_size (hbA HB))); replace BK386 := am (blk_below (g := gb386) (o := .cells #[.int .u32 a0_0, .int .u32 a0_1] 24 (0, 0)) (by refine bkT ?_; refine blk_far ?_ NB386_395.out _; refine bkT ?_; refine blk_far ?_ NB386_395.out _; refine bkT ?_; exact BK386.out) hb); replace BK387 := am (blk_below (g := gb387) (o := .cells #[.int .u32 a1_0, .int .u32 a1_1] 24 (0, 0)) (by refine bkT ?_; refine blk_far ?_ NB387_395.out _; refine bkT ?_; refine blk_far ?_ NB387_395.out _; refine bkT ?_; exact BK387.out) hb); replace BK388 := am (blk_below (g := gb388) (o := .cells #[.int .u32 0, .int .u32 0] 24 (0, 0)) (by refine bkT ?_; refine blk_far ?_ NB388_395.out _; refine bkT ?_; refine blk_far ?_ NB388_395.out _; refine bkT ?_; exact BK388.out) hb); replace BK395 := am (blk_below (g := gb395) (o := .cells #[.int .u32 t393, .int .u32 t394] 24 (0, 0)) (by refine bkT ?_; refine blk_put (cs := #[.int .u32 t393, .int .u32 0]) ?_ 1 _ rfl; refine bkT ?_; refine blk_put (cs := #[.int .u32 0, .int .u32 0]) ?_ 0 _ rfl; refine bkT ?_; exact BK395.out) hb); replace HB := bsA HB hb; (try clear hb); (try clear hb2); (try clear hk); (try clear hi); (try clear ho0); have hcz42_0 : w41.cell? ⟨gb386, 0, none⟩ = some (.int .u32 a0_0) := cz BK386; have hcz42_1 : w41.cell? ⟨gb386, 1, none⟩ = some (.int .u32 a0_1) := cz BK386; have hfz42_0 := blk_frozen BK386.out 0; have hfz42_1 := blk_frozen BK386.out 1) | ((with_reducible refine gate_dst (N := 7) rfl ?_); refine bxE 7 #[.int .u32 0, .int .u32 0] 24 ?_; intro gb399 hg w43 hbox hb; have BK399 := am (hbox); have GW399 := gwA hg HB; have GE399 := gwA hg HB; have NB386_399 := ltA hg BK386; have NB399_386 := gtA hg BK386; have NB387_399 := ltA hg BK387; have NB399_387 := gtA hg BK387; have NB388_399 := ltA hg BK388; have NB399_388 := gtA hg BK388; have NB395_399 := ltA hg BK395; have NB399_395 := gtA hg BK395; replace HO398 := am (Kd.R_below (by (with_reducible repeat (first | apply Kd.R_alloc | apply Kd.R_drewN | apply Kd.R_drew)); exact HO398.out) hb); replace BK386 := bbA BK386 hb; replace BK387 := bbA BK387 hb; replace BK388 := bbA BK388 hb; replace BK395 := bbA BK395 hb; replace HB := bsA HB hb; clear hb hbox hg; have hnb44 := NB399_386.out; have hnc44 := NB386_399.out; have hnb45 := NB399_387.out; have hnc45 := NB387_399.out; have hnb46 := NB399_388.out; have hnc46 := NB388_399.out; have hnb47 := NB399_395.out; have hnc47 := NB395_399.out; have hcz48_0 : w43.cell? ⟨gb399, 0, none⟩ = some (.int .u32 0) := cz BK399; have hcz48_1 : w43.cell? ⟨gb399, 1, none⟩ = some (.int .u32 0) := cz BK399; have hfz48_0 := blk_frozen BK399.out 0; have hfz48_1 := blk_frozen BK399.out 1; have hcz49_0 : w43.cell? ⟨gb395, 0, none⟩ = some (.int .u32 t393) := cz BK395; have hcz49_1 : w43.cell? ⟨gb395, 1, none⟩ = some (.int .u32 t394) := cz BK395; have hfz49_0 := blk_frozen BK395.out 0; have hfz49_1 := blk_frozen BK395.out 1; have hcz50_0 : w43.cell? ⟨gb386, 0, none⟩ = some (.int .u32 a0_0) := cz BK386; have hcz50_1 : w43.cell? ⟨gb386, 1, none⟩ = some (.int .u32 a0_1) := cz BK386; have hfz50_0 := blk_frozen BK386.out 0; have hfz50_1 := blk_frozen BK386.out 1)); go_upto_if 28 with (first | (go_at_call 30; (with_reducible refine (lamplighterref19_Join.calls a0_0 a0_1 a1_0 a1_1 t393 t394 _ A27.out).mono ?_); rintro e w35 ⟨rfl, hb⟩; replace BK386 := bbA BK386 hb; replace BK387 := bbA BK387 hb; replace BK388 := bbA BK388 hb; replace HB := bsA HB hb; (try clear hb); (try clear hb2); (try clear hk); (try clear hi)) | ((with_reducible refine gate_dst (N := 5) rfl ?_); refine bxE 5 #[.int .u32 0, .int .u32 0] 24 ?_; intro gb395 hg w36 hbox hb; have BK395 := am (hbox); have GW395 := gwA hg HB; have GE395 := gwA hg HB; have NB386_395 := ltA hg BK386; have NB395_386 := gtA hg BK386; have NB387_395 := ltA hg BK387; have NB395_387 := gtA hg BK387; have NB388_395 := ltA hg BK388; have NB395_388 := gtA hg BK388; replace BK386 := bbA BK386 hb; replace BK387 := bbA BK387 hb; replace BK388 := bbA BK388 hb; replace HB := bsA HB hb; clear hb hbox hg; have hnb37 := NB395_386.out; have hnc37 := NB386_395.out; have hnb38 := NB395_387.out; have hnc38 := NB387_395.out; have hnb39 := NB395_388.out; have hnc39 := NB388_395.out; have hcz40_0 : w36.cell? ⟨gb395, 0, none⟩ = some (.int .u32 0) := cz BK395; have hcz40_1 : w36.cell? ⟨gb395, 1, none⟩ = some (.int .u32 0) := cz BK395; have hfz40_0 := blk_frozen BK395.out 0; have hfz40_1 := blk_frozen BK395.out 1) | (go_at_call 43; (with_reducible refine (lamplighterref19_steps.calls  t396 _ A28.out).mono ?_); rintro e w41 ⟨v397, rfl, ho0, hb⟩; have HO398 := am (Kd.R_lower ho0 (below_size (hbA HB))); replace BK386 := am (blk_below (g := gb386) (o := .cells #[.int .u32 a0_0, .int .u32 a0_1] 24 (0, 0)) (by refine bkT ?_; refine blk_far ?_ NB386_395.out _; refine bkT ?_; refine blk_far ?_ NB386_395.out _; refine bkT ?_; exact BK386.out) hb); replace BK387 := am (blk_below (g := gb387) (o := .cells #[.int .u32 a1_0, .int .u32 a1_1] 24 (0, 0)) (by refine bkT ?_; refine blk_far ?_ NB387_395.out _; refine bkT ?_; refine blk_far ?_ NB387_395.out _; refine bkT ?_; exact BK387.out) hb); replace BK388 := am (blk_below (g := gb388) (o := .cells #[.int .u32 0, .int .u32 0] 24 (0, 0)) (by refine bkT ?_; refine blk_far ?_ NB388_395.out _; refine bkT ?_; refine blk_far ?_ NB388_395.out _; refine bkT ?_; exact BK388.out) hb); replace BK395 := am (blk_below (g := gb395) (o := .cells #[.int .u32 t393, .int .u32 t394] 24 (0, 0)) (by refine bkT ?_; refine blk_put (cs := #[.int .u32 t393, .int .u32 0]) ?_ 1 _ rfl; refine bkT ?_; refine blk_put (cs := #[.int .u32 0, .int .u32 0]) ?_ 0 _ rfl; refine bkT ?_; exact BK395.out) hb); replace HB := bsA HB hb; (try clear hb); (try clear hb2); (try clear hk); (try clear hi); (try clear ho0); have hcz42_0 : w41.cell? ⟨gb386, 0, none⟩ = some (.int .u32 a0_0) := cz BK386; have hcz42_1 : w41.cell? ⟨gb386, 1, none⟩ = some (.int .u32 a0_1) := cz BK386; have hfz42_0 := blk_frozen BK386.out 0; have hfz42_1 := blk_frozen BK386.out 1) | ((with_reducible refine gate_dst (N := 7) rfl ?_); refine bxE 7 #[.int .u32 0, .int .u32 0] 24 ?_; intro gb399 hg w43 hbox hb; have BK399 := am (hbox); have GW399 := gwA hg HB; have GE399 := gwA hg HB; have NB386_399 := ltA hg BK386; have NB399_386 := gtA hg BK386; have NB387_399 := ltA hg BK387; have NB399_387 := gtA hg BK387; have NB388_399 := ltA hg BK388; have NB399_388 := gtA hg BK388; have NB395_399 := ltA hg BK395; have NB399_395 := gtA hg BK395; replace HO398 := am (Kd.R_below (by (with_reducible repeat (first | apply Kd.R_alloc | apply Kd.R_drewN | apply Kd.R_drew)); exact HO398.out) hb); replace BK386 := bbA BK386 hb; replace BK387 := bbA BK387 hb; replace BK388 := bbA BK388 hb; replace BK395 := bbA BK395 hb; replace HB := bsA HB hb; clear hb hbox hg; have hnb44 := NB399_386.out; have hnc44 := NB386_399.out; have hnb45 := NB399_387.out; have hnc45 := NB387_399.out; have hnb46 := NB399_388.out; have hnc46 := NB388_399.out; have hnb47 := NB399_395.out; have hnc47 := NB395_399.out; have hcz48_0 : w43.cell? ⟨gb399, 0, none⟩ = some (.int .u32 0) := cz BK399; have hcz48_1 : w43.cell? ⟨gb399, 1, none⟩ = some (.int .u32 0) := cz BK399; have hfz48_0 := blk_frozen BK399.out 0; have hfz48_1 := blk_frozen BK399.out 1; have hcz49_0 : w43.cell? ⟨gb395, 0, none⟩ = some (.int .u32 t393) := cz BK395; have hcz49_1 : w43.cell? ⟨gb395, 1, none⟩ = some (.int .u32 t394) := cz BK395; have hfz49_0 := blk_frozen BK395.out 0; have hfz49_1 := blk_frozen BK395.out 1; have hcz50_0 : w43.cell? ⟨gb386, 0, none⟩ = some (.int .u32 a0_0) := cz BK386; have hcz50_1 : w43.cell? ⟨gb386, 1, none⟩ = some (.int .u32 a0_1) := cz BK386; have hfz50_0 := blk_frozen BK386.out 0; have hfz50_1 := blk_frozen BK386.out 1)))
      (try simp only [Act.put, s1, s2, s3])
      go_cut [] (fun wc => ∃ (kq : Nat) (x400000_28 : Int), Aside0 (lamplighterref19_Widen.j2 kq t396 a0_0 a0_1 t393 t394 x400000_28 a0_1 = some (r1, r2)) ∧ Aside0 (kq ≤ kj2) ∧ Aside0 (Kd.R (Kd.int .u32) 22 wc w.heap.size (fun _ => True) v397 t396) ∧ Aside0 (wc.heap[gb386]? = some (.cells #[.int .u32 a0_0, .int .u32 a0_1] 24 (0, 0))) ∧ Aside0 (wc.heap[gb387]? = some (.cells #[.int .u32 a1_0, .int .u32 a1_1] 24 (0, 0))) ∧ Aside0 (wc.heap[gb388]? = some (.cells #[.int .u32 0, .int .u32 0] 24 (0, 0))) ∧ Aside0 (wc.heap[gb395]? = some (.cells #[.int .u32 t393, .int .u32 t394] 24 (0, 0))) ∧ Aside0 (wc.heap[gb399]? = some (.cells #[.int .u32 x400000_28, .int .u32 a0_1] 24 (0, 0))) ∧ Aside0 (Below w.heap.size w wc))
      case first => as_aux_lemma =>
        have H := HC29.out
        clear HC29; by_cases c51 : t393 < a0_0
        · rw [if_pos c51] at H; have c51b0 : decide (t393 < a0_0) = true := decide_eq_true c51; clear c51; (first | rw [c51b0] | (simp only [i64_w, i32_w]; rw [c51b0]) | skip)
          have H' := am H; clear H
          go_wp2
          repeat (go_quiet (fail); try go_wp2)
          go_loopg [8] kj2 (fun kq v8 w' => ∃ (x8_2 : Int) (x400000_2 : Int), v8 = .int .i64 x8_2 ∧ Aside0 (lamplighterref19_Widen.l0 kq t396 x8_2 a0_0 a0_1 t393 t394 x400000_2 a0_1 = some (r1, r2)) ∧ Aside0 (kq ≤ kj2) ∧ Aside0 (Kd.R (Kd.int .u32) 22 w' w.heap.size (fun _ => True) v397 t396) ∧ Aside0 (w'.heap[gb386]? = some (.cells #[.int .u32 a0_0, .int .u32 a0_1] 24 (0, 0))) ∧ Aside0 (w'.heap[gb387]? = some (.cells #[.int .u32 a1_0, .int .u32 a1_1] 24 (0, 0))) ∧ Aside0 (w'.heap[gb388]? = some (.cells #[.int .u32 0, .int .u32 0] 24 (0, 0))) ∧ Aside0 (w'.heap[gb395]? = some (.cells #[.int .u32 t393, .int .u32 t394] 24 (0, 0))) ∧ Aside0 (w'.heap[gb399]? = some (.cells #[.int .u32 x400000_2, .int .u32 a0_1] 24 (0, 0))) ∧ Aside0 (Below w.heap.size w w'))
          case atStart => exact ⟨(0), (a0_0), (by first | rfl | (simp; done) | (simp [*]; done) | (congr 1; omega) | (congr 2; omega) | (rw [Int.tdiv_eq_ediv_of_nonneg (by decide)]; done)), H', ⟨Nat.le_refl _⟩, ⟨by (with_reducible repeat (first | apply Kd.R_alloc | apply Kd.R_drewN | apply Kd.R_drew)); exact Kd.R_mono (Kd.R_far (p := ⟨gb399, 1, none⟩) (Kd.R_far (p := ⟨gb399, 0, none⟩) (Kd.R_types HO398.out BK399.out (by decide)) (fun _ hk => hk.2) (.int .u32 a0_0)) (fun _ hk => hk.2) (.int .u32 a0_1)) (fun _ hk => trivial)⟩, ⟨by refine bkT ?_; refine blk_far ?_ NB386_399.out _; refine bkT ?_; refine blk_far ?_ NB386_399.out _; refine bkT ?_; exact BK386.out⟩, ⟨by refine bkT ?_; refine blk_far ?_ NB387_399.out _; refine bkT ?_; refine blk_far ?_ NB387_399.out _; refine bkT ?_; exact BK387.out⟩, ⟨by refine bkT ?_; refine blk_far ?_ NB388_399.out _; refine bkT ?_; refine blk_far ?_ NB388_399.out _; refine bkT ?_; exact BK388.out⟩, ⟨by refine bkT ?_; refine blk_far ?_ NB395_399.out _; refine bkT ?_; refine blk_far ?_ NB395_399.out _; refine bkT ?_; exact BK395.out⟩, ⟨by refine bkT ?_; refine blk_put (cs := #[.int .u32 a0_0, .int .u32 0]) ?_ 1 _ rfl; refine bkT ?_; refine blk_put (cs := #[.int .u32 0, .int .u32 0]) ?_ 0 _ rfl; refine bkT ?_; exact BK399.out⟩, ⟨by repeat (first | (with_reducible first | exact HB.out | apply below_alloc | apply pw_below_drewN | apply below_drew1 | refine below_set ?_ GE386.out | refine below_set ?_ GE387.out | refine below_set ?_ GE388.out | refine below_set ?_ GE395.out | refine below_set ?_ GE399.out) | exact HB.out)⟩⟩
          case round =>
            clear H'
            try clear c1
            try clear c2
            try clear p2
            try clear c3
            try clear c4
            try clear c5
            try clear c8
            try clear c8b0
            try clear c8b1
            try clear c10
            try clear c11
            try clear c14
            try clear c17
            try clear c18
            try clear c21
            try clear c24
            try clear c25
            try clear c30
            try clear c31
            try clear c33
            try clear c37
            try clear c38
            try clear c39
            try clear c44
            try clear c45
            try clear c46
            try clear c47
            try clear c51
            try clear c51b0
            try clear hcz12_0
            try clear hcz12_1
            try clear hcz15_0
            try clear hcz15_1
            try clear hcz19_0
            try clear hcz19_1
            try clear hcz26_0
            try clear hcz26_1
            try clear hcz32_0
            try clear hcz32_1
            try clear hcz34_0
            try clear hcz34_1
            try clear hcz40_0
            try clear hcz40_1
            try clear hcz42_0
            try clear hcz42_1
            try clear hcz48_0
            try clear hcz48_1
            try clear hcz49_0
            try clear hcz49_1
            try clear hcz50_0
            try clear hcz50_1
            try clear hfz12_0
            try clear hfz12_1
            try clear hfz15_0
            try clear hfz15_1
            try clear hfz19_0
            try clear hfz19_1
            try clear hfz26_0
            try clear hfz26_1
            try clear hfz32_0
            try clear hfz32_1
            try clear hfz34_0
            try clear hfz34_1
            try clear hfz40_0
            try clear hfz40_1
            try clear hfz42_0
            try clear hfz42_1
            try clear hfz48_0
            try clear hfz48_1
            try clear hfz49_0
            try clear hfz49_1
            try clear hfz50_0
            try clear hfz50_1
            try clear p2
            obtain ⟨x8_2, x400000_2, rfl, HA, HK2, HO_6, BK386, BK387, BK388, BK395, BK399, HB⟩ := hrel
            cases gk with
            | zero => exact absurd HA.out (by simp [lamplighterref19_Widen.l0])
            | succ k2 =>
              have H := HA.out
              clear HA; simp only [lamplighterref19_Widen.l0] at H
              by_cases c52 : x8_2 < (t396.length : Int)
              · rw [if_pos c52] at H; have c52b0 : decide (x8_2 < (t396.length : Int)) = true := decide_eq_true c52; clear c52; by_cases c53 : 0 ≤ x8_2
                · rw [if_pos c53] at H; have c53b0 : decide (0 ≤ x8_2) = true := decide_eq_true c53; clear c53; by_cases c54 : (rd t396 x8_2) ≤ t393
                  · rw [if_pos c54] at H; have c54b0 : decide ((rd t396 x8_2) ≤ t393) = true := decide_eq_true c54; clear c54; have H' := am H; clear H; obtain ⟨Ao55, co55, eo55⟩ := Kd.R_slice HO_6.out; subst eo55; have p400 : 0 ≤ (x8_2 : Int) := of_decide_eq_true (by first | (with_reducible assumption) | assumption)
                    have q400 : x8_2 < (t396.length : Int) := of_decide_eq_true (by first | (with_reducible assumption) | assumption)
                    obtain ⟨ad400, e400, hx400_0⟩ := Kd.at_int (Kd.R_reads' HO_6.out).2.2 x8_2 p400 q400
                    cases e400
                    replace p400 := eq_true p400
                    replace q400 := eq_true q400
                    have hnb56 := NB395_386.out
                    have hnc56 := NB386_395.out
                    have hnb57 := NB395_387.out
                    have hnc57 := NB387_395.out
                    have hnb58 := NB395_388.out
                    have hnc58 := NB388_395.out
                    have hnb59 := NB395_399.out
                    have hnc59 := NB399_395.out
                    have hcz60_0 : wr.cell? ⟨gb395, 0, none⟩ = some (.int .u32 t393) := cz BK395
                    have hcz60_1 : wr.cell? ⟨gb395, 1, none⟩ = some (.int .u32 t394) := cz BK395
                    have hfz60_0 := blk_frozen BK395.out 0
                    have hfz60_1 := blk_frozen BK395.out 1
                    have p401 : 0 ≤ (x8_2 : Int) := of_decide_eq_true (by first | (with_reducible assumption) | assumption)
                    have q401 : x8_2 < (t396.length : Int) := of_decide_eq_true (by first | (with_reducible assumption) | assumption)
                    obtain ⟨ad401, e401, hx401_0⟩ := Kd.at_int (Kd.R_reads' HO_6.out).2.2 x8_2 p401 q401
                    obtain rfl : ad400 = ad401 := (by injection e401)
                    replace p401 := eq_true p401
                    replace q401 := eq_true q401
                    have hnb61 := NB399_386.out
                    have hnc61 := NB386_399.out
                    have hnb62 := NB399_387.out
                    have hnc62 := NB387_399.out
                    have hnb63 := NB399_388.out
                    have hnc63 := NB388_399.out
                    have hcz64_0 : wr.cell? ⟨gb399, 0, none⟩ = some (.int .u32 x400000_2) := cz BK399
                    have hcz64_1 : wr.cell? ⟨gb399, 1, none⟩ = some (.int .u32 a0_1) := cz BK399
                    have hfz64_0 := blk_frozen BK399.out 0
                    have hfz64_1 := blk_frozen BK399.out 1
                    go_wp2
                    repeat (go_quiet (fail); try go_wp2)
                    go_roundg k2
                    case measure => have := HJ2.out; have := HK2.out; omega
                    case rel => exact ⟨(wrap64 (x8_2 + 1)), (rd t396 x8_2), (by first | rfl | (simp; done) | (simp [*]; done) | (congr 1; omega) | (congr 2; omega) | (rw [Int.tdiv_eq_ediv_of_nonneg (by decide)]; done)), H', ⟨by have := HJ2.out; have := HK2.out; omega⟩, ⟨by (with_reducible repeat (first | apply Kd.R_alloc | apply Kd.R_drewN | apply Kd.R_drew)); exact Kd.R_mono (Kd.R_far (p := ⟨gb399, 0, none⟩) (Kd.R_types HO_6.out BK399.out (by decide)) (fun _ hk => hk.2) (.int .u32 (rd t396 x8_2))) (fun _ hk => trivial)⟩, ⟨by refine bkT ?_; refine blk_far ?_ NB386_399.out _; refine bkT ?_; exact BK386.out⟩, ⟨by refine bkT ?_; refine blk_far ?_ NB387_399.out _; refine bkT ?_; exact BK387.out⟩, ⟨by refine bkT ?_; refine blk_far ?_ NB388_399.out _; refine bkT ?_; exact BK388.out⟩, ⟨by refine bkT ?_; refine blk_far ?_ NB395_399.out _; refine bkT ?_; exact BK395.out⟩, ⟨by refine bkT ?_; refine blk_put (cs := #[.int .u32 x400000_2, .int .u32 a0_1]) ?_ 0 _ rfl; refine bkT ?_; exact BK399.out⟩, ⟨by repeat (first | (with_reducible first | exact HB.out | apply below_alloc | apply pw_below_drewN | apply below_drew1 | refine below_set ?_ GE386.out | refine below_set ?_ GE387.out | refine below_set ?_ GE388.out | refine below_set ?_ GE395.out | refine below_set ?_ GE399.out) | exact HB.out)⟩⟩
                  rw [if_neg c54] at H; have c54b0 : decide ((rd t396 x8_2) ≤ t393) = false := decide_eq_false c54; clear c54; have H' := am H; clear H; obtain ⟨Ao65, co65, eo65⟩ := Kd.R_slice HO_6.out; subst eo65; have p400 : 0 ≤ (x8_2 : Int) := of_decide_eq_true (by first | (with_reducible assumption) | assumption)
                  have q400 : x8_2 < (t396.length : Int) := of_decide_eq_true (by first | (with_reducible assumption) | assumption)
                  obtain ⟨ad400, e400, hx400_0⟩ := Kd.at_int (Kd.R_reads' HO_6.out).2.2 x8_2 p400 q400
                  cases e400
                  replace p400 := eq_true p400
                  replace q400 := eq_true q400
                  have hnb66 := NB395_386.out
                  have hnc66 := NB386_395.out
                  have hnb67 := NB395_387.out
                  have hnc67 := NB387_395.out
                  have hnb68 := NB395_388.out
                  have hnc68 := NB388_395.out
                  have hnb69 := NB395_399.out
                  have hnc69 := NB399_395.out
                  have hcz70_0 : wr.cell? ⟨gb395, 0, none⟩ = some (.int .u32 t393) := cz BK395
                  have hcz70_1 : wr.cell? ⟨gb395, 1, none⟩ = some (.int .u32 t394) := cz BK395
                  have hfz70_0 := blk_frozen BK395.out 0
                  have hfz70_1 := blk_frozen BK395.out 1
                  go_wp2
                  repeat (go_quiet (fail); try go_wp2)
                  go_roundg k2
                  case measure => have := HJ2.out; have := HK2.out; omega
                  case rel => exact ⟨(wrap64 (x8_2 + 1)), (x400000_2), (by first | rfl | (simp; done) | (simp [*]; done) | (congr 1; omega) | (congr 2; omega) | (rw [Int.tdiv_eq_ediv_of_nonneg (by decide)]; done)), H', ⟨by have := HJ2.out; have := HK2.out; omega⟩, ⟨by (with_reducible repeat (first | apply Kd.R_alloc | apply Kd.R_drewN | apply Kd.R_drew)); exact HO_6.out⟩, ⟨by refine bkT ?_; exact BK386.out⟩, ⟨by refine bkT ?_; exact BK387.out⟩, ⟨by refine bkT ?_; exact BK388.out⟩, ⟨by refine bkT ?_; exact BK395.out⟩, ⟨by refine bkT ?_; exact BK399.out⟩, ⟨by repeat (first | (with_reducible first | exact HB.out | apply below_alloc | apply pw_below_drewN | apply below_drew1 | refine below_set ?_ GE386.out | refine below_set ?_ GE387.out | refine below_set ?_ GE388.out | refine below_set ?_ GE395.out | refine below_set ?_ GE399.out) | exact HB.out)⟩⟩
                rw [if_neg c53] at H; exact absurd H (by simp)
              rw [if_neg c52] at H; have c52b0 : decide (x8_2 < (t396.length : Int)) = false := decide_eq_false c52; clear c52; have H' := am H; clear H; obtain ⟨Ao71, co71, eo71⟩ := Kd.R_slice HO_6.out; subst eo71
              go_wp2
              repeat (go_quiet (fail); try go_wp2)
              go_meet
              case rel => exact ⟨_, (x400000_2), H', ⟨by have := HJ2.out; have := HK2.out; first | omega | exact Nat.le_refl _⟩, ⟨by (with_reducible repeat (first | apply Kd.R_alloc | apply Kd.R_drewN | apply Kd.R_drew)); exact HO_6.out⟩, ⟨by refine bkT ?_; exact BK386.out⟩, ⟨by refine bkT ?_; exact BK387.out⟩, ⟨by refine bkT ?_; exact BK388.out⟩, ⟨by refine bkT ?_; exact BK395.out⟩, ⟨by refine bkT ?_; exact BK399.out⟩, ⟨by repeat (first | (with_reducible first | exact HB.out | apply below_alloc | apply pw_below_drewN | apply below_drew1 | refine below_set ?_ GE386.out | refine below_set ?_ GE387.out | refine below_set ?_ GE388.out | refine below_set ?_ GE395.out | refine below_set ?_ GE399.out) | exact HB.out)⟩⟩
        rw [if_neg c51] at H; have c51b0 : decide (t393 < a0_0) = false := decide_eq_false c51; clear c51; (first | rw [c51b0] | (simp only [i64_w, i32_w]; rw [c51b0]) | skip)
        have H' := am H; clear H
        go_wp2
        repeat (go_quiet (fail); try go_wp2)
        go_meet
        case rel => exact ⟨_, (a0_0), H', ⟨by have := HJ2.out; first | omega | exact Nat.le_refl _⟩, ⟨by (with_reducible repeat (first | apply Kd.R_alloc | apply Kd.R_drewN | apply Kd.R_drew)); exact Kd.R_mono (Kd.R_far (p := ⟨gb399, 1, none⟩) (Kd.R_far (p := ⟨gb399, 0, none⟩) (Kd.R_types HO398.out BK399.out (by decide)) (fun _ hk => hk.2) (.int .u32 a0_0)) (fun _ hk => hk.2) (.int .u32 a0_1)) (fun _ hk => trivial)⟩, ⟨by refine bkT ?_; refine blk_far ?_ NB386_399.out _; refine bkT ?_; refine blk_far ?_ NB386_399.out _; refine bkT ?_; exact BK386.out⟩, ⟨by refine bkT ?_; refine blk_far ?_ NB387_399.out _; refine bkT ?_; refine blk_far ?_ NB387_399.out _; refine bkT ?_; exact BK387.out⟩, ⟨by refine bkT ?_; refine blk_far ?_ NB388_399.out _; refine bkT ?_; refine blk_far ?_ NB388_399.out _; refine bkT ?_; exact BK388.out⟩, ⟨by refine bkT ?_; refine blk_far ?_ NB395_399.out _; refine bkT ?_; refine blk_far ?_ NB395_399.out _; refine bkT ?_; exact BK395.out⟩, ⟨by refine bkT ?_; refine blk_put (cs := #[.int .u32 a0_0, .int .u32 0]) ?_ 1 _ rfl; refine bkT ?_; refine blk_put (cs := #[.int .u32 0, .int .u32 0]) ?_ 0 _ rfl; refine bkT ?_; exact BK399.out⟩, ⟨by repeat (first | (with_reducible first | exact HB.out | apply below_alloc | apply pw_below_drewN | apply below_drew1 | refine below_set ?_ GE386.out | refine below_set ?_ GE387.out | refine below_set ?_ GE388.out | refine below_set ?_ GE395.out | refine below_set ?_ GE399.out) | exact HB.out)⟩⟩
      case rest => as_aux_lemma =>
        clear HC29
        try clear c1
        try clear c2
        try clear p2
        try clear c3
        try clear c4
        try clear p4
        try clear q4
        try clear hx4
        try clear c5
        try clear c6
        try clear p6
        try clear c8
        try clear c8b0
        try clear c8b1
        try clear c10
        try clear c11
        try clear c14
        try clear c17
        try clear c18
        try clear c21
        try clear c24
        try clear c25
        try clear c30
        try clear c31
        try clear c33
        try clear c37
        try clear c38
        try clear c39
        try clear p40
        try clear q40
        try clear hx40
        try clear c44
        try clear c45
        try clear c46
        try clear c47
        try clear c51
        try clear c51b0
        try clear c52
        try clear c52b0
        try clear c53
        try clear c53b0
        try clear c54
        try clear c54b0
        try clear c56
        try clear c57
        try clear c58
        try clear c59
        try clear c61
        try clear c62
        try clear c63
        try clear p64
        try clear c66
        try clear c67
        try clear c68
        try clear c69
        try clear hcz12_0
        try clear hcz12_1
        try clear hcz15_0
        try clear hcz15_1
        try clear hcz19_0
        try clear hcz19_1
        try clear hcz26_0
        try clear hcz26_1
        try clear hcz32_0
        try clear hcz32_1
        try clear hcz34_0
        try clear hcz34_1
        try clear hcz40_0
        try clear hcz40_1
        try clear hcz42_0
        try clear hcz42_1
        try clear hcz48_0
        try clear hcz48_1
        try clear hcz49_0
        try clear hcz49_1
        try clear hcz50_0
        try clear hcz50_1
        try clear hcz60_0
        try clear hcz60_1
        try clear hcz64_0
        try clear hcz64_1
        try clear hcz70_0
        try clear hcz70_1
        try clear hfz12_0
        try clear hfz12_1
        try clear hfz15_0
        try clear hfz15_1
        try clear hfz19_0
        try clear hfz19_1
        try clear hfz26_0
        try clear hfz26_1
        try clear hfz32_0
        try clear hfz32_1
        try clear hfz34_0
        try clear hfz34_1
        try clear hfz40_0
        try clear hfz40_1
        try clear hfz42_0
        try clear hfz42_1
        try clear hfz48_0
        try clear hfz48_1
        try clear hfz49_0
        try clear hfz49_1
        try clear hfz50_0
        try clear hfz50_1
        try clear hfz60_0
        try clear hfz60_1
        try clear hfz64_0
        try clear hfz64_1
        try clear hfz70_0
        try clear hfz70_1
        try clear hx400_0
        try clear hx401_0
        try clear p2
        try clear p400
        try clear p401
        try clear q400
        try clear q401
        obtain ⟨kq, x400000_28, HA, HJ28, HO_6, BK386, BK387, BK388, BK395, BK399, HB⟩ := hcut
        cases kq with
        | zero => exact absurd HA.out (by simp [lamplighterref19_Widen.j2])
        | succ kj28 =>
          have H := HA.out
          clear HA; simp only [lamplighterref19_Widen.j2] at H
          by_cases c72 : t394 > a0_1
          · rw [if_pos c72] at H; have c72b0 : decide (a0_1 < t394) = true := decide_eq_true c72; clear c72; have H' := am H; clear H; have hnb73 := NB395_386.out
            have hnc73 := NB386_395.out
            have hnb74 := NB395_387.out
            have hnc74 := NB387_395.out
            have hnb75 := NB395_388.out
            have hnc75 := NB388_395.out
            have hnb76 := NB395_399.out
            have hnc76 := NB399_395.out
            have hcz77_0 : wc.cell? ⟨gb395, 0, none⟩ = some (.int .u32 t393) := cz BK395
            have hcz77_1 : wc.cell? ⟨gb395, 1, none⟩ = some (.int .u32 t394) := cz BK395
            have hfz77_0 := blk_frozen BK395.out 0
            have hfz77_1 := blk_frozen BK395.out 1
            have hnb78 := NB386_387.out
            have hnc78 := NB387_386.out
            have hnb79 := NB386_388.out
            have hnc79 := NB388_386.out
            have hnb80 := NB386_399.out
            have hnc80 := NB399_386.out
            have hcz81_0 : wc.cell? ⟨gb386, 0, none⟩ = some (.int .u32 a0_0) := cz BK386
            have hcz81_1 : wc.cell? ⟨gb386, 1, none⟩ = some (.int .u32 a0_1) := cz BK386
            have hfz81_0 := blk_frozen BK386.out 0
            have hfz81_1 := blk_frozen BK386.out 1
            obtain ⟨Ao82, co82, eo82⟩ := Kd.R_slice HO_6.out; subst eo82
            go_wp2
            repeat (go_quiet (fail); try go_wp2)
            go_loopg [9] kj28 (fun kq v9 w' => ∃ (x9_3 : Int) (x400001_3 : Int), v9 = .int .i64 x9_3 ∧ Aside0 (lamplighterref19_Widen.l1 kq t396 x9_3 t393 t394 x400000_28 x400001_3 = some (r1, r2)) ∧ Aside0 (kq ≤ kj28) ∧ Aside0 (Kd.R (Kd.int .u32) 22 w' w.heap.size (fun _ => True) (.slice Ao82 t396.length co82) t396) ∧ Aside0 (w'.heap[gb386]? = some (.cells #[.int .u32 a0_0, .int .u32 a0_1] 24 (0, 0))) ∧ Aside0 (w'.heap[gb387]? = some (.cells #[.int .u32 a1_0, .int .u32 a1_1] 24 (0, 0))) ∧ Aside0 (w'.heap[gb388]? = some (.cells #[.int .u32 0, .int .u32 0] 24 (0, 0))) ∧ Aside0 (w'.heap[gb395]? = some (.cells #[.int .u32 t393, .int .u32 t394] 24 (0, 0))) ∧ Aside0 (w'.heap[gb399]? = some (.cells #[.int .u32 x400000_28, .int .u32 x400001_3] 24 (0, 0))) ∧ Aside0 (Below w.heap.size w w'))
            case atStart => exact ⟨(wrap64 ((t396.length : Int) - 1)), (a0_1), (by first | rfl | (simp; done) | (simp [*]; done) | (congr 1; omega) | (congr 2; omega) | (rw [Int.tdiv_eq_ediv_of_nonneg (by decide)]; done)), H', ⟨Nat.le_refl _⟩, ⟨by (with_reducible repeat (first | apply Kd.R_alloc | apply Kd.R_drewN | apply Kd.R_drew)); exact HO_6.out⟩, ⟨by refine bkT ?_; exact BK386.out⟩, ⟨by refine bkT ?_; exact BK387.out⟩, ⟨by refine bkT ?_; exact BK388.out⟩, ⟨by refine bkT ?_; exact BK395.out⟩, ⟨by refine bkT ?_; exact BK399.out⟩, ⟨by repeat (first | (with_reducible first | exact HB.out | apply below_alloc | apply pw_below_drewN | apply below_drew1 | refine below_set ?_ GE386.out | refine below_set ?_ GE387.out | refine below_set ?_ GE388.out | refine below_set ?_ GE395.out | refine below_set ?_ GE399.out) | exact HB.out)⟩⟩
            case round =>
              clear H'
              try clear c1
              try clear c2
              try clear p2
              try clear c3
              try clear c4
              try clear p4
              try clear q4
              try clear hx4
              try clear c5
              try clear c6
              try clear p6
              try clear c7
              try clear c8
              try clear c8b0
              try clear c8b1
              try clear c10
              try clear c11
              try clear c14
              try clear c17
              try clear c18
              try clear c21
              try clear c24
              try clear c25
              try clear c30
              try clear c31
              try clear c33
              try clear c37
              try clear c38
              try clear c39
              try clear p40
              try clear q40
              try clear hx40
              try clear c44
              try clear c45
              try clear c46
              try clear c47
              try clear c51
              try clear c51b0
              try clear c52
              try clear c52b0
              try clear c53
              try clear c53b0
              try clear c54
              try clear c54b0
              try clear c56
              try clear c57
              try clear c58
              try clear c59
              try clear c61
              try clear c62
              try clear c63
              try clear p64
              try clear c66
              try clear c67
              try clear c68
              try clear c69
              try clear c72
              try clear c72b0
              try clear c73
              try clear c74
              try clear c75
              try clear c76
              try clear c78
              try clear c79
              try clear c80
              try clear hcz12_0
              try clear hcz12_1
              try clear hcz15_0
              try clear hcz15_1
              try clear hcz19_0
              try clear hcz19_1
              try clear hcz26_0
              try clear hcz26_1
              try clear hcz32_0
              try clear hcz32_1
              try clear hcz34_0
              try clear hcz34_1
              try clear hcz40_0
              try clear hcz40_1
              try clear hcz42_0
              try clear hcz42_1
              try clear hcz48_0
              try clear hcz48_1
              try clear hcz49_0
              try clear hcz49_1
              try clear hcz50_0
              try clear hcz50_1
              try clear hcz60_0
              try clear hcz60_1
              try clear hcz64_0
              try clear hcz64_1
              try clear hcz70_0
              try clear hcz70_1
              try clear hcz77_0
              try clear hcz77_1
              try clear hcz81_0
              try clear hcz81_1
              try clear hfz12_0
              try clear hfz12_1
              try clear hfz15_0
              try clear hfz15_1
              try clear hfz19_0
              try clear hfz19_1
              try clear hfz26_0
              try clear hfz26_1
              try clear hfz32_0
              try clear hfz32_1
              try clear hfz34_0
              try clear hfz34_1
              try clear hfz40_0
              try clear hfz40_1
              try clear hfz42_0
              try clear hfz42_1
              try clear hfz48_0
              try clear hfz48_1
              try clear hfz49_0
              try clear hfz49_1
              try clear hfz50_0
              try clear hfz50_1
              try clear hfz60_0
              try clear hfz60_1
              try clear hfz64_0
              try clear hfz64_1
              try clear hfz70_0
              try clear hfz70_1
              try clear hfz77_0
              try clear hfz77_1
              try clear hfz81_0
              try clear hfz81_1
              try clear hx400_0
              try clear hx401_0
              try clear p2
              try clear p4
              try clear p40
              try clear p400
              try clear p401
              try clear p6
              try clear p64
              try clear q4
              try clear q40
              try clear q400
              try clear q401
              obtain ⟨x9_3, x400001_3, rfl, HA, HK3, HO_6, BK386, BK387, BK388, BK395, BK399, HB⟩ := hrel
              cases gk with
              | zero => exact absurd HA.out (by simp [lamplighterref19_Widen.l1])
              | succ k3 =>
                have H := HA.out
                clear HA; simp only [lamplighterref19_Widen.l1] at H
                by_cases c83 : x9_3 ≥ 0
                · rw [if_pos c83] at H; have c83b0 : decide (0 ≤ x9_3) = true := decide_eq_true c83; clear c83; by_cases c84 : 0 ≤ x9_3
                  · rw [if_pos c84] at H; have c84b0 : decide (0 ≤ x9_3) = true := decide_eq_true c84; clear c84; by_cases c85 : x9_3 < (t396.length : Int)
                    · rw [if_pos c85] at H; have c85b0 : decide (x9_3 < (t396.length : Int)) = true := decide_eq_true c85; clear c85; by_cases c86 : (rd t396 x9_3) ≥ t394
                      · rw [if_pos c86] at H; have c86b0 : decide (t394 ≤ (rd t396 x9_3)) = true := decide_eq_true c86; clear c86; have H' := am H; clear H; have p402 : 0 ≤ (x9_3 : Int) := of_decide_eq_true (by first | (with_reducible assumption) | assumption)
                        have q402 : x9_3 < (t396.length : Int) := of_decide_eq_true (by first | (with_reducible assumption) | assumption)
                        obtain ⟨ad402, e402, hx402_0⟩ := Kd.at_int (Kd.R_reads' HO_6.out).2.2 x9_3 p402 q402
                        cases e402
                        replace p402 := eq_true p402
                        replace q402 := eq_true q402
                        have hnb87 := NB395_386.out
                        have hnc87 := NB386_395.out
                        have hnb88 := NB395_387.out
                        have hnc88 := NB387_395.out
                        have hnb89 := NB395_388.out
                        have hnc89 := NB388_395.out
                        have hnb90 := NB395_399.out
                        have hnc90 := NB399_395.out
                        have hcz91_0 : wr.cell? ⟨gb395, 0, none⟩ = some (.int .u32 t393) := cz BK395
                        have hcz91_1 : wr.cell? ⟨gb395, 1, none⟩ = some (.int .u32 t394) := cz BK395
                        have hfz91_0 := blk_frozen BK395.out 0
                        have hfz91_1 := blk_frozen BK395.out 1
                        have p403 : 0 ≤ (x9_3 : Int) := of_decide_eq_true (by first | (with_reducible assumption) | assumption)
                        have q403 : x9_3 < (t396.length : Int) := of_decide_eq_true (by first | (with_reducible assumption) | assumption)
                        obtain ⟨ad403, e403, hx403_0⟩ := Kd.at_int (Kd.R_reads' HO_6.out).2.2 x9_3 p403 q403
                        obtain rfl : ad402 = ad403 := (by injection e403)
                        replace p403 := eq_true p403
                        replace q403 := eq_true q403
                        have hnb92 := NB399_386.out
                        have hnc92 := NB386_399.out
                        have hnb93 := NB399_387.out
                        have hnc93 := NB387_399.out
                        have hnb94 := NB399_388.out
                        have hnc94 := NB388_399.out
                        have hcz95_0 : wr.cell? ⟨gb399, 0, none⟩ = some (.int .u32 x400000_28) := cz BK399
                        have hcz95_1 : wr.cell? ⟨gb399, 1, none⟩ = some (.int .u32 x400001_3) := cz BK399
                        have hfz95_0 := blk_frozen BK399.out 0
                        have hfz95_1 := blk_frozen BK399.out 1
                        go_wp2
                        repeat (go_quiet (fail); try go_wp2)
                        go_roundg k3
                        case measure => have := HJ2.out; have := HJ28.out; have := HK3.out; omega
                        case rel => exact ⟨(wrap64 (x9_3 - 1)), (rd t396 x9_3), (by first | rfl | (simp; done) | (simp [*]; done) | (congr 1; omega) | (congr 2; omega) | (rw [Int.tdiv_eq_ediv_of_nonneg (by decide)]; done)), H', ⟨by have := HJ2.out; have := HJ28.out; have := HK3.out; omega⟩, ⟨by (with_reducible repeat (first | apply Kd.R_alloc | apply Kd.R_drewN | apply Kd.R_drew)); exact Kd.R_mono (Kd.R_far (p := ⟨gb399, 1, none⟩) (Kd.R_types HO_6.out BK399.out (by decide)) (fun _ hk => hk.2) (.int .u32 (rd t396 x9_3))) (fun _ hk => trivial)⟩, ⟨by refine bkT ?_; refine blk_far ?_ NB386_399.out _; refine bkT ?_; exact BK386.out⟩, ⟨by refine bkT ?_; refine blk_far ?_ NB387_399.out _; refine bkT ?_; exact BK387.out⟩, ⟨by refine bkT ?_; refine blk_far ?_ NB388_399.out _; refine bkT ?_; exact BK388.out⟩, ⟨by refine bkT ?_; refine blk_far ?_ NB395_399.out _; refine bkT ?_; exact BK395.out⟩, ⟨by refine bkT ?_; refine blk_put (cs := #[.int .u32 x400000_28, .int .u32 x400001_3]) ?_ 1 _ rfl; refine bkT ?_; exact BK399.out⟩, ⟨by repeat (first | (with_reducible first | exact HB.out | apply below_alloc | apply pw_below_drewN | apply below_drew1 | refine below_set ?_ GE386.out | refine below_set ?_ GE387.out | refine below_set ?_ GE388.out | refine below_set ?_ GE395.out | refine below_set ?_ GE399.out) | exact HB.out)⟩⟩
                      rw [if_neg c86] at H; have c86b0 : decide (t394 ≤ (rd t396 x9_3)) = false := decide_eq_false c86; clear c86; have H' := am H; clear H; have p402 : 0 ≤ (x9_3 : Int) := of_decide_eq_true (by first | (with_reducible assumption) | assumption)
                      have q402 : x9_3 < (t396.length : Int) := of_decide_eq_true (by first | (with_reducible assumption) | assumption)
                      obtain ⟨ad402, e402, hx402_0⟩ := Kd.at_int (Kd.R_reads' HO_6.out).2.2 x9_3 p402 q402
                      cases e402
                      replace p402 := eq_true p402
                      replace q402 := eq_true q402
                      have hnb96 := NB395_386.out
                      have hnc96 := NB386_395.out
                      have hnb97 := NB395_387.out
                      have hnc97 := NB387_395.out
                      have hnb98 := NB395_388.out
                      have hnc98 := NB388_395.out
                      have hnb99 := NB395_399.out
                      have hnc99 := NB399_395.out
                      have hcz100_0 : wr.cell? ⟨gb395, 0, none⟩ = some (.int .u32 t393) := cz BK395
                      have hcz100_1 : wr.cell? ⟨gb395, 1, none⟩ = some (.int .u32 t394) := cz BK395
                      have hfz100_0 := blk_frozen BK395.out 0
                      have hfz100_1 := blk_frozen BK395.out 1
                      go_wp2
                      repeat (go_quiet (fail); try go_wp2)
                      go_roundg k3
                      case measure => have := HJ2.out; have := HJ28.out; have := HK3.out; omega
                      case rel => exact ⟨(wrap64 (x9_3 - 1)), (x400001_3), (by first | rfl | (simp; done) | (simp [*]; done) | (congr 1; omega) | (congr 2; omega) | (rw [Int.tdiv_eq_ediv_of_nonneg (by decide)]; done)), H', ⟨by have := HJ2.out; have := HJ28.out; have := HK3.out; omega⟩, ⟨by (with_reducible repeat (first | apply Kd.R_alloc | apply Kd.R_drewN | apply Kd.R_drew)); exact HO_6.out⟩, ⟨by refine bkT ?_; exact BK386.out⟩, ⟨by refine bkT ?_; exact BK387.out⟩, ⟨by refine bkT ?_; exact BK388.out⟩, ⟨by refine bkT ?_; exact BK395.out⟩, ⟨by refine bkT ?_; exact BK399.out⟩, ⟨by repeat (first | (with_reducible first | exact HB.out | apply below_alloc | apply pw_below_drewN | apply below_drew1 | refine below_set ?_ GE386.out | refine below_set ?_ GE387.out | refine below_set ?_ GE388.out | refine below_set ?_ GE395.out | refine below_set ?_ GE399.out) | exact HB.out)⟩⟩
                    rw [if_neg c85] at H; exact absurd H (by simp)
                  rw [if_neg c84] at H; exact absurd H (by simp)
                rw [if_neg c83] at H; have c83b0 : decide (0 ≤ x9_3) = false := decide_eq_false c83; clear c83; simp only [Option.some.injEq, Prod.mk.injEq] at H; obtain ⟨rfl, rfl⟩ := H; have hnb101 := NB399_386.out
                have hnc101 := NB386_399.out
                have hnb102 := NB399_387.out
                have hnc102 := NB387_399.out
                have hnb103 := NB399_388.out
                have hnc103 := NB388_399.out
                have hnb104 := NB399_395.out
                have hnc104 := NB395_399.out
                have hcz105_0 : wr.cell? ⟨gb399, 0, none⟩ = some (.int .u32 x400000_28) := cz BK399
                have hcz105_1 : wr.cell? ⟨gb399, 1, none⟩ = some (.int .u32 x400001_3) := cz BK399
                have hfz105_0 := blk_frozen BK399.out 0
                have hfz105_1 := blk_frozen BK399.out 1
                have hnb106 := NB388_386.out
                have hnc106 := NB386_388.out
                have hnb107 := NB388_387.out
                have hnc107 := NB387_388.out
                have hnb108 := NB388_395.out
                have hnc108 := NB395_388.out
                have hcz109_0 : wr.cell? ⟨gb388, 0, none⟩ = some (.int .u32 0) := cz BK388
                have hcz109_1 : wr.cell? ⟨gb388, 1, none⟩ = some (.int .u32 0) := cz BK388
                have hfz109_0 := blk_frozen BK388.out 0
                have hfz109_1 := blk_frozen BK388.out 1
                go_wp2
                repeat (go_quiet (fail); try go_wp2)
                refine bodyPost_ret (results_cell_row rfl _ _ gb388 24 #[.int .u32 x400000_28, .int .u32 x400001_3] (0, 0) _ rfl (by refine bkT ?_; refine blk_put (cs := #[.int .u32 x400000_28, .int .u32 0]) ?_ 1 _ rfl; refine bkT ?_; refine blk_put (cs := #[.int .u32 0, .int .u32 0]) ?_ 0 _ rfl; refine bkT ?_; exact BK388.out) Try.underlying24 rfl (by kernel_rfl)) rfl ?_
                exact ⟨by first | rfl | (simp [errW_none, errW_some] <;> rfl) | (simp [*, errW_none, errW_some] <;> rfl), hbA HB⟩
          rw [if_neg c72] at H; have c72b0 : decide (a0_1 < t394) = false := decide_eq_false c72; clear c72; simp only [Option.some.injEq, Prod.mk.injEq] at H; obtain ⟨rfl, rfl⟩ := H; have hnb110 := NB395_386.out
          have hnc110 := NB386_395.out
          have hnb111 := NB395_387.out
          have hnc111 := NB387_395.out
          have hnb112 := NB395_388.out
          have hnc112 := NB388_395.out
          have hnb113 := NB395_399.out
          have hnc113 := NB399_395.out
          have hcz114_0 : wc.cell? ⟨gb395, 0, none⟩ = some (.int .u32 t393) := cz BK395
          have hcz114_1 : wc.cell? ⟨gb395, 1, none⟩ = some (.int .u32 t394) := cz BK395
          have hfz114_0 := blk_frozen BK395.out 0
          have hfz114_1 := blk_frozen BK395.out 1
          have hnb115 := NB386_387.out
          have hnc115 := NB387_386.out
          have hnb116 := NB386_388.out
          have hnc116 := NB388_386.out
          have hnb117 := NB386_399.out
          have hnc117 := NB399_386.out
          have hcz118_0 : wc.cell? ⟨gb386, 0, none⟩ = some (.int .u32 a0_0) := cz BK386
          have hcz118_1 : wc.cell? ⟨gb386, 1, none⟩ = some (.int .u32 a0_1) := cz BK386
          have hfz118_0 := blk_frozen BK386.out 0
          have hfz118_1 := blk_frozen BK386.out 1
          have hnb119 := NB399_387.out
          have hnc119 := NB387_399.out
          have hnb120 := NB399_388.out
          have hnc120 := NB388_399.out
          have hcz121_0 : wc.cell? ⟨gb399, 0, none⟩ = some (.int .u32 x400000_28) := cz BK399
          have hcz121_1 : wc.cell? ⟨gb399, 1, none⟩ = some (.int .u32 a0_1) := cz BK399
          have hfz121_0 := blk_frozen BK399.out 0
          have hfz121_1 := blk_frozen BK399.out 1
          have hnb122 := NB388_387.out
          have hnc122 := NB387_388.out
          have hcz123_0 : wc.cell? ⟨gb388, 0, none⟩ = some (.int .u32 0) := cz BK388
          have hcz123_1 : wc.cell? ⟨gb388, 1, none⟩ = some (.int .u32 0) := cz BK388
          have hfz123_0 := blk_frozen BK388.out 0
          have hfz123_1 := blk_frozen BK388.out 1
          go_wp2
          repeat (go_quiet (fail); try go_wp2)
          refine bodyPost_ret (results_cell_row rfl _ _ gb388 24 #[.int .u32 x400000_28, .int .u32 a0_1] (0, 0) _ rfl (by refine bkT ?_; refine blk_put (cs := #[.int .u32 x400000_28, .int .u32 0]) ?_ 1 _ rfl; refine bkT ?_; refine blk_put (cs := #[.int .u32 0, .int .u32 0]) ?_ 0 _ rfl; refine bkT ?_; exact BK388.out) Try.underlying24 rfl (by kernel_rfl)) rfl ?_
          exact ⟨by first | rfl | (simp [errW_none, errW_some] <;> rfl) | (simp [*, errW_none, errW_some] <;> rfl), hbA HB⟩

end Go.Proofs.Ytmhmfnjbioplhaa.PIntervalCalls
