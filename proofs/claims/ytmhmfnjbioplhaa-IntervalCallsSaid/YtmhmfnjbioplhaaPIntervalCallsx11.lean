/- Contracts of Go functions of the given program: where NAME.f answers, the call returns that. Conditions: those each theorem names. -/
import Derived.Test.YtmhmfnjbioplhaaPIntervalCallsx0
import Derived.Test.YtmhmfnjbioplhaaPIntervalCallsx7
import Derived.Test.YtmhmfnjbioplhaaPIntervalCallsx10
namespace Go.Proofs.Ytmhmfnjbioplhaa.PIntervalCalls
open Go.RowKit Go.Proofs.YtmhmfnjbioplhaaW.PrintWords Go.Proofs.YtmhmfnjbioplhaaW.PrintLast Go.Proofs.YtmhmfnjbioplhaaW.PrintMore Go.Proofs.Ytmhmfnjbioplhaa.Help
attribute [local go_sem] max2_int min2_int max_two min_two max_three min_three max_four min_four   -- for this text's walks alone
set_option linter.unusedVariables false
set_option linter.unusedSimpArgs false

/-! ### lamplighterref19_Do: function 32 -/
mutual
def lamplighterref19_Do.j0 : Nat → Int → Bool → Int → Int → Int → Int → Option (Int × Int × Bool × Int)
  | 0, _, _, _, _, _, _ => none
  | k + 1, x0, x28, x438000, x438001, x439000, x439001 => if x28 = true then (some (0, 0, false, 2)) else (if x0 ≥ 4 then (lamplighterref19_Do.j1 k x0 (decide (x0 ≤ 7)) x438000 x438001 x439000 x439001) else (lamplighterref19_Do.j1 k x0 false x438000 x438001 x439000 x439001))
def lamplighterref19_Do.j1 : Nat → Int → Bool → Int → Int → Int → Int → Option (Int × Int × Bool × Int)
  | 0, _, _, _, _, _, _ => none
  | k + 1, x0, x35, x438000, x438001, x439000, x439001 => if x35 = true then (if x439001 = 0 then (some (0, 0, false, 0)) else (if x0 ≥ 6 then (if x438001 ≥ 2147483648 then ((lamplighterref19_All.f).bind fun bt442 => (some (bt442.1, bt442.2, true, 0))) else (if x439001 ≥ 2147483648 then ((lamplighterref19_All.f).bind fun bt444 => (some (bt444.1, bt444.2, true, 0))) else (lamplighterref19_Do.j2 k (wrap64 (x0 - 2)) x438000 x438001 (mx 1 x439000) x439001))) else (lamplighterref19_Do.j2 k x0 x438000 x438001 (mx 1 x439000) x439001))) else (lamplighterref19_Do.j2 k x0 x438000 x438001 x439000 x439001)
def lamplighterref19_Do.j2 : Nat → Int → Int → Int → Int → Int → Option (Int × Int × Bool × Int)
  | 0, _, _, _, _, _ => none
  | k + 1, x0, x438000, x438001, x439000, x439001 => if x0 = 1 then ((lamplighterref19_fits.f (wrap64 ((wrap64 (x438000)) + (wrap64 (x439000)))) (wrap64 ((wrap64 (x438001)) + (wrap64 (x439001))))).bind fun bt446 => (some (bt446.1, bt446.2, true, 0))) else (if x0 = 2 then ((lamplighterref19_fits.f (wrap64 ((wrap64 (x438000)) - (wrap64 (x439001)))) (wrap64 ((wrap64 (x438001)) - (wrap64 (x439000))))).bind fun bt448 => (some (bt448.1, bt448.2, true, 0))) else (if x0 = 3 then (if (wrap64 (x439001)) > 0 then (if (wrap64 (x439001)) = 0 then (none) else (lamplighterref19_Do.j3 k (decide ((wrap64 (x438001)) > (wrap64 ((4294967295 : Int) / (wrap64 (x439001)))))) x438000 x438001 x439000 x439001)) else (lamplighterref19_Do.j3 k false x438000 x438001 x439000 x439001)) else (if x0 = 4 then (if x439001 = 0 then (none) else (if x439000 = 0 then (none) else (some ((Int.tdiv x438000 x439001) % 4294967296, (Int.tdiv x438001 x439000) % 4294967296, true, 0)))) else (if x0 = 5 then (if x438001 < x439000 then (some (x438000, x438001, true, 0)) else (some (0, mn x438001 ((x439001 - 1) % 4294967296), true, 0))) else (if x0 = 8 then (some (0, mn x438001 x439001, true, 0)) else (if x0 = 9 then ((lamplighterref19_cap1.f k (mx x438001 x439001)).bind fun t452 => (some (mx x438000 x439000, t452, true, 0))) else (if x0 = 10 then ((lamplighterref19_cap1.f k (mx x438001 x439001)).bind fun t453 => (some (0, t453, true, 0))) else (if x0 = 11 then (if x439000 ≥ 32 then ((lamplighterref19_One.f 0).bind fun bt454 => (some (bt454.1, bt454.2, true, 0))) else (if x439000 = x439001 then (if 0 ≤ x439000 then (lamplighterref19_Do.j4 k (decide ((shl .i64 (wrap64 (x438001)) x439000) > 4294967295)) x438000 x438001 x439000 x439001) else (none)) else (lamplighterref19_Do.j4 k true x438000 x438001 x439000 x439001))) else (if x0 = 13 then (lamplighterref19_Do.j5 k x0 (x0 == 13) x438000 x438001 x439000 x439001) else (lamplighterref19_Do.j5 k x0 (x0 == 12) x438000 x438001 x439000 x439001))))))))))
def lamplighterref19_Do.j3 : Nat → Bool → Int → Int → Int → Int → Option (Int × Int × Bool × Int)
  | 0, _, _, _, _, _ => none
  | k + 1, x97, x438000, x438001, x439000, x439001 => if x97 = true then ((lamplighterref19_All.f).bind fun bt450 => (some (bt450.1, bt450.2, true, 0))) else (some ((x438000 * x439000) % 4294967296, (x438001 * x439001) % 4294967296, true, 0))
def lamplighterref19_Do.j4 : Nat → Bool → Int → Int → Int → Int → Option (Int × Int × Bool × Int)
  | 0, _, _, _, _, _ => none
  | k + 1, x186, x438000, x438001, x439000, x439001 => if x186 = true then ((lamplighterref19_All.f).bind fun bt456 => (some (bt456.1, bt456.2, true, 0))) else (if 0 ≤ x439000 then (some (shl .u32 x438000 x439000, shl .u32 x438001 x439000, true, 0)) else (none))
def lamplighterref19_Do.j5 : Nat → Int → Bool → Int → Int → Int → Int → Option (Int × Int × Bool × Int)
  | 0, _, _, _, _, _, _ => none
  | k + 1, x0, x199, x438000, x438001, x439000, x439001 => if x199 = true then (if x0 = 13 then (lamplighterref19_Do.j6 k (decide (x438001 ≥ 2147483648)) x438000 x438001 x439000 x439001) else (lamplighterref19_Do.j6 k false x438000 x438001 x439000 x439001)) else ((lamplighterref19_compares.f k x0 x438000 x438001 x439000 x439001).bind fun bt462 => (some (bt462.1, bt462.2, true, 0)))
def lamplighterref19_Do.j6 : Nat → Bool → Int → Int → Int → Int → Option (Int × Int × Bool × Int)
  | 0, _, _, _, _, _ => none
  | k + 1, x208, x438000, x438001, x439000, x439001 => if x208 = true then ((lamplighterref19_All.f).bind fun bt458 => (some (bt458.1, bt458.2, true, 0))) else ((lamplighterref19_moved.f x438000 x439001).bind fun t460 => ((lamplighterref19_moved.f x438001 x439000).bind fun t461 => (some (t460, t461, true, 0))))
end
def lamplighterref19_Do.f (k : Nat) (a0 : Int) (a1_0 : Int) (a1_1 : Int) (a2_0 : Int) (a2_1 : Int) : Option (Int × Int × Bool × Int) := if a0 < 1 then (lamplighterref19_Do.j0 k a0 true a1_0 a1_1 a2_0 a2_1) else (if a0 > 19 then (lamplighterref19_Do.j0 k a0 true a1_0 a1_1 a2_0 a2_1) else ((lamplighterref19_Check.f a1_0 a1_1).bind fun t440 => (if t440 = 0 then ((lamplighterref19_Check.f a2_0 a2_1).bind fun t441 => (lamplighterref19_Do.j0 k a0 (t441 != 0) a1_0 a1_1 a2_0 a2_1)) else (lamplighterref19_Do.j0 k a0 true a1_0 a1_1 a2_0 a2_1))))
theorem lamplighterref19_Do.mono_l : ∀ k, (∀ y0 y1 y2 y3 y4 y5, LeO (lamplighterref19_Do.j0 k y0 y1 y2 y3 y4 y5) (lamplighterref19_Do.j0 (k + 1) y0 y1 y2 y3 y4 y5)) ∧ (∀ y0 y1 y2 y3 y4 y5, LeO (lamplighterref19_Do.j1 k y0 y1 y2 y3 y4 y5) (lamplighterref19_Do.j1 (k + 1) y0 y1 y2 y3 y4 y5)) ∧ (∀ y0 y1 y2 y3 y4, LeO (lamplighterref19_Do.j2 k y0 y1 y2 y3 y4) (lamplighterref19_Do.j2 (k + 1) y0 y1 y2 y3 y4)) ∧ (∀ y0 y1 y2 y3 y4, LeO (lamplighterref19_Do.j3 k y0 y1 y2 y3 y4) (lamplighterref19_Do.j3 (k + 1) y0 y1 y2 y3 y4)) ∧ (∀ y0 y1 y2 y3 y4, LeO (lamplighterref19_Do.j4 k y0 y1 y2 y3 y4) (lamplighterref19_Do.j4 (k + 1) y0 y1 y2 y3 y4)) ∧ (∀ y0 y1 y2 y3 y4 y5, LeO (lamplighterref19_Do.j5 k y0 y1 y2 y3 y4 y5) (lamplighterref19_Do.j5 (k + 1) y0 y1 y2 y3 y4 y5)) ∧ (∀ y0 y1 y2 y3 y4, LeO (lamplighterref19_Do.j6 k y0 y1 y2 y3 y4) (lamplighterref19_Do.j6 (k + 1) y0 y1 y2 y3 y4))
  | 0 => ⟨fun _ _ _ _ _ _ r h => by simp [lamplighterref19_Do.j0] at h, fun _ _ _ _ _ _ r h => by simp [lamplighterref19_Do.j1] at h, fun _ _ _ _ _ r h => by simp [lamplighterref19_Do.j2] at h, fun _ _ _ _ _ r h => by simp [lamplighterref19_Do.j3] at h, fun _ _ _ _ _ r h => by simp [lamplighterref19_Do.j4] at h, fun _ _ _ _ _ _ r h => by simp [lamplighterref19_Do.j5] at h, fun _ _ _ _ _ r h => by simp [lamplighterref19_Do.j6] at h⟩
  | k + 1 => by
    obtain ⟨ih0, ih1, ih2, ih3, ih4, ih5, ih6⟩ := lamplighterref19_Do.mono_l k; refine ⟨?_, ?_, ?_, ?_, ?_, ?_, ?_⟩
    · intro y0 y1 y2 y3 y4 y5
      unfold lamplighterref19_Do.j0
      repeat' first
      | (with_reducible exact ih0 _ _ _ _ _ _)
      | (with_reducible exact ih1 _ _ _ _ _ _)
      | (with_reducible exact ih2 _ _ _ _ _)
      | (with_reducible exact ih3 _ _ _ _ _)
      | (with_reducible exact ih4 _ _ _ _ _)
      | (with_reducible exact ih5 _ _ _ _ _ _)
      | (with_reducible exact ih6 _ _ _ _ _)
      | (with_reducible exact lamplighterref19_cap1.mono _ _)
      | (with_reducible exact lamplighterref19_compares.mono _ _ _ _ _ _)
      | (with_reducible exact LeO.refl _)
      | (with_reducible exact LeO.none _)
      | (with_reducible refine LeO.ite ?_ ?_)
      | (with_reducible refine LeO.bind ?_ (fun _ => ?_))
      | exact ih0 _ _ _ _ _ _
      | exact ih1 _ _ _ _ _ _
      | exact ih2 _ _ _ _ _
      | exact ih3 _ _ _ _ _
      | exact ih4 _ _ _ _ _
      | exact ih5 _ _ _ _ _ _
      | exact ih6 _ _ _ _ _
      | exact lamplighterref19_cap1.mono _ _
      | exact lamplighterref19_compares.mono _ _ _ _ _ _
      | exact LeO.none _
      | refine LeO.ite ?_ ?_
      | refine LeO.bind ?_ (fun _ => ?_)
    · intro y0 y1 y2 y3 y4 y5
      unfold lamplighterref19_Do.j1
      repeat' first
      | (with_reducible exact ih0 _ _ _ _ _ _)
      | (with_reducible exact ih1 _ _ _ _ _ _)
      | (with_reducible exact ih2 _ _ _ _ _)
      | (with_reducible exact ih3 _ _ _ _ _)
      | (with_reducible exact ih4 _ _ _ _ _)
      | (with_reducible exact ih5 _ _ _ _ _ _)
      | (with_reducible exact ih6 _ _ _ _ _)
      | (with_reducible exact lamplighterref19_cap1.mono _ _)
      | (with_reducible exact lamplighterref19_compares.mono _ _ _ _ _ _)
      | (with_reducible exact LeO.refl _)
      | (with_reducible exact LeO.none _)
      | (with_reducible refine LeO.ite ?_ ?_)
      | (with_reducible refine LeO.bind ?_ (fun _ => ?_))
      | exact ih0 _ _ _ _ _ _
      | exact ih1 _ _ _ _ _ _
      | exact ih2 _ _ _ _ _
      | exact ih3 _ _ _ _ _
      | exact ih4 _ _ _ _ _
      | exact ih5 _ _ _ _ _ _
      | exact ih6 _ _ _ _ _
      | exact lamplighterref19_cap1.mono _ _
      | exact lamplighterref19_compares.mono _ _ _ _ _ _
      | exact LeO.none _
      | refine LeO.ite ?_ ?_
      | refine LeO.bind ?_ (fun _ => ?_)
    · intro y0 y1 y2 y3 y4
      unfold lamplighterref19_Do.j2
      repeat' first
      | (with_reducible exact ih0 _ _ _ _ _ _)
      | (with_reducible exact ih1 _ _ _ _ _ _)
      | (with_reducible exact ih2 _ _ _ _ _)
      | (with_reducible exact ih3 _ _ _ _ _)
      | (with_reducible exact ih4 _ _ _ _ _)
      | (with_reducible exact ih5 _ _ _ _ _ _)
      | (with_reducible exact ih6 _ _ _ _ _)
      | (with_reducible exact lamplighterref19_cap1.mono _ _)
      | (with_reducible exact lamplighterref19_compares.mono _ _ _ _ _ _)
      | (with_reducible exact LeO.refl _)
      | (with_reducible exact LeO.none _)
      | (with_reducible refine LeO.ite ?_ ?_)
      | (with_reducible refine LeO.bind ?_ (fun _ => ?_))
      | exact ih0 _ _ _ _ _ _
      | exact ih1 _ _ _ _ _ _
      | exact ih2 _ _ _ _ _
      | exact ih3 _ _ _ _ _
      | exact ih4 _ _ _ _ _
      | exact ih5 _ _ _ _ _ _
      | exact ih6 _ _ _ _ _
      | exact lamplighterref19_cap1.mono _ _
      | exact lamplighterref19_compares.mono _ _ _ _ _ _
      | exact LeO.none _
      | refine LeO.ite ?_ ?_
      | refine LeO.bind ?_ (fun _ => ?_)
    · intro y0 y1 y2 y3 y4
      unfold lamplighterref19_Do.j3
      repeat' first
      | (with_reducible exact ih0 _ _ _ _ _ _)
      | (with_reducible exact ih1 _ _ _ _ _ _)
      | (with_reducible exact ih2 _ _ _ _ _)
      | (with_reducible exact ih3 _ _ _ _ _)
      | (with_reducible exact ih4 _ _ _ _ _)
      | (with_reducible exact ih5 _ _ _ _ _ _)
      | (with_reducible exact ih6 _ _ _ _ _)
      | (with_reducible exact lamplighterref19_cap1.mono _ _)
      | (with_reducible exact lamplighterref19_compares.mono _ _ _ _ _ _)
      | (with_reducible exact LeO.refl _)
      | (with_reducible exact LeO.none _)
      | (with_reducible refine LeO.ite ?_ ?_)
      | (with_reducible refine LeO.bind ?_ (fun _ => ?_))
      | exact ih0 _ _ _ _ _ _
      | exact ih1 _ _ _ _ _ _
      | exact ih2 _ _ _ _ _
      | exact ih3 _ _ _ _ _
      | exact ih4 _ _ _ _ _
      | exact ih5 _ _ _ _ _ _
      | exact ih6 _ _ _ _ _
      | exact lamplighterref19_cap1.mono _ _
      | exact lamplighterref19_compares.mono _ _ _ _ _ _
      | exact LeO.none _
      | refine LeO.ite ?_ ?_
      | refine LeO.bind ?_ (fun _ => ?_)
    · intro y0 y1 y2 y3 y4
      unfold lamplighterref19_Do.j4
      repeat' first
      | (with_reducible exact ih0 _ _ _ _ _ _)
      | (with_reducible exact ih1 _ _ _ _ _ _)
      | (with_reducible exact ih2 _ _ _ _ _)
      | (with_reducible exact ih3 _ _ _ _ _)
      | (with_reducible exact ih4 _ _ _ _ _)
      | (with_reducible exact ih5 _ _ _ _ _ _)
      | (with_reducible exact ih6 _ _ _ _ _)
      | (with_reducible exact lamplighterref19_cap1.mono _ _)
      | (with_reducible exact lamplighterref19_compares.mono _ _ _ _ _ _)
      | (with_reducible exact LeO.refl _)
      | (with_reducible exact LeO.none _)
      | (with_reducible refine LeO.ite ?_ ?_)
      | (with_reducible refine LeO.bind ?_ (fun _ => ?_))
      | exact ih0 _ _ _ _ _ _
      | exact ih1 _ _ _ _ _ _
      | exact ih2 _ _ _ _ _
      | exact ih3 _ _ _ _ _
      | exact ih4 _ _ _ _ _
      | exact ih5 _ _ _ _ _ _
      | exact ih6 _ _ _ _ _
      | exact lamplighterref19_cap1.mono _ _
      | exact lamplighterref19_compares.mono _ _ _ _ _ _
      | exact LeO.none _
      | refine LeO.ite ?_ ?_
      | refine LeO.bind ?_ (fun _ => ?_)
    · intro y0 y1 y2 y3 y4 y5
      unfold lamplighterref19_Do.j5
      repeat' first
      | (with_reducible exact ih0 _ _ _ _ _ _)
      | (with_reducible exact ih1 _ _ _ _ _ _)
      | (with_reducible exact ih2 _ _ _ _ _)
      | (with_reducible exact ih3 _ _ _ _ _)
      | (with_reducible exact ih4 _ _ _ _ _)
      | (with_reducible exact ih5 _ _ _ _ _ _)
      | (with_reducible exact ih6 _ _ _ _ _)
      | (with_reducible exact lamplighterref19_cap1.mono _ _)
      | (with_reducible exact lamplighterref19_compares.mono _ _ _ _ _ _)
      | (with_reducible exact LeO.refl _)
      | (with_reducible exact LeO.none _)
      | (with_reducible refine LeO.ite ?_ ?_)
      | (with_reducible refine LeO.bind ?_ (fun _ => ?_))
      | exact ih0 _ _ _ _ _ _
      | exact ih1 _ _ _ _ _ _
      | exact ih2 _ _ _ _ _
      | exact ih3 _ _ _ _ _
      | exact ih4 _ _ _ _ _
      | exact ih5 _ _ _ _ _ _
      | exact ih6 _ _ _ _ _
      | exact lamplighterref19_cap1.mono _ _
      | exact lamplighterref19_compares.mono _ _ _ _ _ _
      | exact LeO.none _
      | refine LeO.ite ?_ ?_
      | refine LeO.bind ?_ (fun _ => ?_)
    intro y0 y1 y2 y3 y4
    unfold lamplighterref19_Do.j6
    repeat' first
    | (with_reducible exact ih0 _ _ _ _ _ _)
    | (with_reducible exact ih1 _ _ _ _ _ _)
    | (with_reducible exact ih2 _ _ _ _ _)
    | (with_reducible exact ih3 _ _ _ _ _)
    | (with_reducible exact ih4 _ _ _ _ _)
    | (with_reducible exact ih5 _ _ _ _ _ _)
    | (with_reducible exact ih6 _ _ _ _ _)
    | (with_reducible exact lamplighterref19_cap1.mono _ _)
    | (with_reducible exact lamplighterref19_compares.mono _ _ _ _ _ _)
    | (with_reducible exact LeO.refl _)
    | (with_reducible exact LeO.none _)
    | (with_reducible refine LeO.ite ?_ ?_)
    | (with_reducible refine LeO.bind ?_ (fun _ => ?_))
    | exact ih0 _ _ _ _ _ _
    | exact ih1 _ _ _ _ _ _
    | exact ih2 _ _ _ _ _
    | exact ih3 _ _ _ _ _
    | exact ih4 _ _ _ _ _
    | exact ih5 _ _ _ _ _ _
    | exact ih6 _ _ _ _ _
    | exact lamplighterref19_cap1.mono _ _
    | exact lamplighterref19_compares.mono _ _ _ _ _ _
    | exact LeO.none _
    | refine LeO.ite ?_ ?_
    | refine LeO.bind ?_ (fun _ => ?_)
theorem lamplighterref19_Do.mono : ∀ a0 a1 a2 a3 a4 k, LeO (lamplighterref19_Do.f k a0 a1 a2 a3 a4) (lamplighterref19_Do.f (k + 1) a0 a1 a2 a3 a4) := by
  intro a0 a1 a2 a3 a4 k
  obtain ⟨ih0, ih1, ih2, ih3, ih4, ih5, ih6⟩ := lamplighterref19_Do.mono_l k; unfold lamplighterref19_Do.f
  repeat' first
      | (with_reducible exact ih0 _ _ _ _ _ _)
      | (with_reducible exact ih1 _ _ _ _ _ _)
      | (with_reducible exact ih2 _ _ _ _ _)
      | (with_reducible exact ih3 _ _ _ _ _)
      | (with_reducible exact ih4 _ _ _ _ _)
      | (with_reducible exact ih5 _ _ _ _ _ _)
      | (with_reducible exact ih6 _ _ _ _ _)
      | (with_reducible exact lamplighterref19_cap1.mono _ _)
      | (with_reducible exact lamplighterref19_compares.mono _ _ _ _ _ _)
      | (with_reducible exact LeO.refl _)
      | (with_reducible exact LeO.none _)
      | (with_reducible refine LeO.ite ?_ ?_)
      | (with_reducible refine LeO.bind ?_ (fun _ => ?_))
      | exact ih0 _ _ _ _ _ _
      | exact ih1 _ _ _ _ _ _
      | exact ih2 _ _ _ _ _
      | exact ih3 _ _ _ _ _
      | exact ih4 _ _ _ _ _
      | exact ih5 _ _ _ _ _ _
      | exact ih6 _ _ _ _ _
      | exact lamplighterref19_cap1.mono _ _
      | exact lamplighterref19_compares.mono _ _ _ _ _ _
      | exact LeO.none _
      | refine LeO.ite ?_ ?_
      | refine LeO.bind ?_ (fun _ => ?_)
def lamplighterref19_Do.T11 : Bool × List (List Nat × List Nat) := (true, [([], []), ([0], [0]), ([1], [1]), ([], []), ([3], [3]), ([4], [4]), ([], []), ([6], [6]), ([7], [7]), ([], []), ([9], [9]), ([10], [10]), ([2, 0, 1, 2], [2]), ([5, 12, 0, 1, 2, 3, 4, 5, 12], [5]), ([8, 13, 0, 1, 2, 3, 4, 5, 6, 7, 8, 12, 13], [8]), ([11, 14, 0, 1, 2, 3, 4, 5, 6, 7, 8, 9, 10, 11, 12, 13, 14], [11])])
def lamplighterref19_Do.B11 : List Nat := [0, 1, 3, 0, 8, 24, 0, 64, 192, 0, 512, 1536, 7, 4159, 12799, 32767]
theorem lamplighterref19_Do.tab11 : rtab .any (opsOf Try.f32 11) = lamplighterref19_Do.T11 := by kernel_rfl
theorem lamplighterref19_Do.bits11 : waitsOk lamplighterref19_Do.T11.2 lamplighterref19_Do.B11 = true := by kernel_rfl
def lamplighterref19_Do.T22 : Bool × List (List Nat × List Nat) := (true, [([], []), ([0], [0]), ([], []), ([2], [2]), ([1, 3], [1, 3]), ([], []), ([5], [5]), ([], []), ([7], [7]), ([6, 8], [6, 8]), ([4, 9], [4, 9]), ([10, 0, 1, 2, 3, 4, 5, 6, 7, 8, 9, 10], [10]), ([11, 0, 1, 2, 3, 4, 5, 6, 7, 8, 9, 10, 11], []), ([12, 0, 1, 2, 3, 4, 5, 6, 7, 8, 9, 10, 11, 12], [])])
def lamplighterref19_Do.B22 : List Nat := [0, 1, 0, 4, 15, 0, 32, 0, 128, 480, 1023, 2047, 4095, 8191]
theorem lamplighterref19_Do.tab22 : rtab .any (opsOf Try.f32 22) = lamplighterref19_Do.T22 := by kernel_rfl
theorem lamplighterref19_Do.bits22 : waitsOk lamplighterref19_Do.T22.2 lamplighterref19_Do.B22 = true := by kernel_rfl
def lamplighterref19_Do.T30 : Bool × List (List Nat × List Nat) := (true, [([], []), ([0], [0]), ([], []), ([2], [2]), ([1, 3], [1, 3]), ([], []), ([5], [5]), ([], []), ([7], [7]), ([6, 8], [6, 8]), ([9], [9]), ([4, 10], [4, 10]), ([11, 10, 0, 1, 2, 3, 4, 5, 6, 7, 8, 9, 10, 11], [11]), ([12, 0, 1, 2, 3, 4, 5, 6, 7, 8, 9, 10, 11, 12], []), ([13, 0, 1, 2, 3, 4, 5, 6, 7, 8, 9, 10, 11, 12, 13], [])])
def lamplighterref19_Do.B30 : List Nat := [0, 1, 0, 4, 15, 0, 32, 0, 128, 480, 992, 2047, 4095, 8191, 16383]
theorem lamplighterref19_Do.tab30 : rtab .any (opsOf Try.f32 30) = lamplighterref19_Do.T30 := by kernel_rfl
theorem lamplighterref19_Do.bits30 : waitsOk lamplighterref19_Do.T30.2 lamplighterref19_Do.B30 = true := by kernel_rfl
def lamplighterref19_Do.T43 : Bool × List (List Nat × List Nat) := (true, [([], []), ([0], [0]), ([], []), ([2], [2]), ([1, 3], [1, 3]), ([], []), ([5], [5]), ([], []), ([7], [7]), ([6, 8, 4], [6, 8]), ([4, 9], [4, 9]), ([10, 9, 0, 1, 2, 3, 4, 5, 6, 7, 8, 9, 10], [10]), ([11, 0, 1, 2, 3, 4, 5, 6, 7, 8, 9, 10, 11], []), ([12, 0, 1, 2, 3, 4, 5, 6, 7, 8, 9, 10, 11, 12], [])])
def lamplighterref19_Do.B43 : List Nat := [0, 1, 0, 4, 15, 0, 32, 0, 128, 511, 1023, 2047, 4095, 8191]
theorem lamplighterref19_Do.tab43 : rtab .any (opsOf Try.f32 43) = lamplighterref19_Do.T43 := by kernel_rfl
theorem lamplighterref19_Do.bits43 : waitsOk lamplighterref19_Do.T43.2 lamplighterref19_Do.B43 = true := by kernel_rfl
set_option maxHeartbeats 8000000 in
set_option maxRecDepth 100000 in
theorem lamplighterref19_Do.calls (k : Nat) (a0 : Int) (a1_0 : Int) (a1_1 : Int) (a2_0 : Int) (a2_1 : Int) (r1 : Int) (r2 : Int) (r3 : Bool) (r4 : Int) (w : World) (h : lamplighterref19_Do.f k a0 a1_0 a1_1 a2_0 a2_1 = some (r1, r2, r3, r4)) :
    Calls Try.prog 32 #[.int .i64 a0, .agg #[.int .u32 a1_0, .int .u32 a1_1], .agg #[.int .u32 a2_0, .int .u32 a2_1]] w fun e w' => e = .returned (.tuple #[.agg #[.int .u32 r1, .int .u32 r2], .bool r3, .int .i64 r4]) ∧ Below w.heap.size w w' := by
  have hu24 := Try.underlying24
  have HB := am (Below.refl w.heap.size w)
  have H : (if a0 < 1 then (lamplighterref19_Do.j0 k a0 true a1_0 a1_1 a2_0 a2_1) else (if a0 > 19 then (lamplighterref19_Do.j0 k a0 true a1_0 a1_1 a2_0 a2_1) else ((lamplighterref19_Check.f a1_0 a1_1).bind fun t440 => (if t440 = 0 then ((lamplighterref19_Check.f a2_0 a2_1).bind fun t441 => (lamplighterref19_Do.j0 k a0 (t441 != 0) a1_0 a1_1 a2_0 a2_1)) else (lamplighterref19_Do.j0 k a0 true a1_0 a1_1 a2_0 a2_1))))) = some (r1, r2, r3, r4) := h
  clear h; have HC4 := am H; clear H
  go_enter Try.func32, Try.ntmps32
  go_upto_region 1 with (first | ((with_reducible refine gate_dst (N := 4) rfl ?_); refine bxE 4 #[.int .u32 a1_0, .int .u32 a1_1] 24 ?_; intro gb437 hg w5 hbox hb; have BK437 := am (hbox); have GW437 := gwA hg HB; have GE437 := gwA hg HB; replace HB := bsA HB hb; clear hb hbox hg) | ((with_reducible refine gate_dst (N := 5) rfl ?_); refine bxE 5 #[.int .u32 a2_0, .int .u32 a2_1] 24 ?_; intro gb438 hg w6 hbox hb; have BK438 := am (hbox); have GW438 := gwA hg HB; have GE438 := gwA hg HB; have NB437_438 := ltA hg BK437; have NB438_437 := gtA hg BK437; replace BK437 := bbA BK437 hb; replace HB := bsA HB hb; clear hb hbox hg) | ((with_reducible refine gate_dst (N := 6) rfl ?_); refine bxE 6 #[.int .u32 0, .int .u32 0] 24 ?_; intro gb439 hg w7 hbox hb; have BK439 := am (hbox); have GW439 := gwA hg HB; have GE439 := gwA hg HB; have NB437_439 := ltA hg BK437; have NB439_437 := gtA hg BK437; have NB438_439 := ltA hg BK438; have NB439_438 := gtA hg BK438; replace BK437 := bbA BK437 hb; replace BK438 := bbA BK438 hb; replace HB := bsA HB hb; clear hb hbox hg))
  (try simp only [Act.put, s1, s2, s3])
  go_cut [28] (fun v28 wc => ∃ (kq : Nat) (x28_3 : Bool), v28 = .bool x28_3 ∧ Aside0 (lamplighterref19_Do.j0 kq a0 x28_3 a1_0 a1_1 a2_0 a2_1 = some (r1, r2, r3, r4)) ∧ Aside0 (kq ≤ k) ∧ Aside0 (wc.heap[gb437]? = some (.cells #[.int .u32 a1_0, .int .u32 a1_1] 24 (0, 0))) ∧ Aside0 (wc.heap[gb438]? = some (.cells #[.int .u32 a2_0, .int .u32 a2_1] 24 (0, 0))) ∧ Aside0 (wc.heap[gb439]? = some (.cells #[.int .u32 0, .int .u32 0] 24 (0, 0))) ∧ Aside0 (Below w.heap.size w wc))
  case first => as_aux_lemma =>
    have H := HC4.out
    clear HC4; by_cases c8 : a0 < 1
    · rw [if_pos c8] at H; have c8b0 : decide (a0 < 1) = true := decide_eq_true c8; clear c8; (first | rw [c8b0] | (simp only [i64_w, i32_w]; rw [c8b0]) | skip)
      have H' := am H; clear H
      go_wp2
      go_meet
      case rel => exact ⟨_, (true), (by first | rfl | (simp; done) | (simp [*]; done) | (congr 1; omega) | (congr 2; omega) | (rw [Int.tdiv_eq_ediv_of_nonneg (by decide)]; done)), H', ⟨by first | omega | exact Nat.le_refl _⟩, ⟨by refine bkT ?_; exact BK437.out⟩, ⟨by refine bkT ?_; exact BK438.out⟩, ⟨by refine bkT ?_; exact BK439.out⟩, ⟨by repeat (first | (with_reducible first | exact HB.out | apply below_alloc | apply pw_below_drewN | apply below_drew1 | refine below_set ?_ GE437.out | refine below_set ?_ GE438.out | refine below_set ?_ GE439.out) | exact HB.out)⟩⟩
    rw [if_neg c8] at H; have c8b0 : decide (a0 < 1) = false := decide_eq_false c8; clear c8; (first | rw [c8b0] | (simp only [i64_w, i32_w]; rw [c8b0]) | skip)
    by_cases c9 : a0 > 19
    · rw [if_pos c9] at H; have c9b0 : decide (19 < a0) = true := decide_eq_true c9; clear c9; have H' := am H; clear H
      go_wp2
      go_meet
      case rel => exact ⟨_, (true), (by first | rfl | (simp; done) | (simp [*]; done) | (congr 1; omega) | (congr 2; omega) | (rw [Int.tdiv_eq_ediv_of_nonneg (by decide)]; done)), H', ⟨by first | omega | exact Nat.le_refl _⟩, ⟨by refine bkT ?_; exact BK437.out⟩, ⟨by refine bkT ?_; exact BK438.out⟩, ⟨by refine bkT ?_; exact BK439.out⟩, ⟨by repeat (first | (with_reducible first | exact HB.out | apply below_alloc | apply pw_below_drewN | apply below_drew1 | refine below_set ?_ GE437.out | refine below_set ?_ GE438.out | refine below_set ?_ GE439.out) | exact HB.out)⟩⟩
    rw [if_neg c9] at H; have c9b0 : decide (19 < a0) = false := decide_eq_false c9; clear c9; replace H := Option.bind_eq_some_iff.mp H; obtain ⟨t440, A100, H⟩ := H; replace H : (if t440 = 0 then ((lamplighterref19_Check.f a2_0 a2_1).bind fun t441 => (lamplighterref19_Do.j0 k a0 (t441 != 0) a1_0 a1_1 a2_0 a2_1)) else (lamplighterref19_Do.j0 k a0 true a1_0 a1_1 a2_0 a2_1)) = some (r1, r2, r3, r4) := H; have A10 := am A100; clear A100; by_cases c11 : t440 = 0
    · rw [if_pos c11] at H; have c11b0 : (t440 == 0) = true := beq_iff_eq.mpr c11; have c11b1 : (t440 != 0) = false := bne_eq_false_iff_eq.mpr c11; clear c11; replace H := Option.bind_eq_some_iff.mp H; obtain ⟨t441, A120, H⟩ := H; replace H : (lamplighterref19_Do.j0 k a0 (t441 != 0) a1_0 a1_1 a2_0 a2_1) = some (r1, r2, r3, r4) := H; have A12 := am A120; clear A120; have H' := am H; clear H; have hnb13 := NB437_438.out
      have hnc13 := NB438_437.out
      have hnb14 := NB437_439.out
      have hnc14 := NB439_437.out
      have hcz15_0 : w7.cell? ⟨gb437, 0, none⟩ = some (.int .u32 a1_0) := cz BK437
      have hcz15_1 : w7.cell? ⟨gb437, 1, none⟩ = some (.int .u32 a1_1) := cz BK437
      have hfz15_0 := blk_frozen BK437.out 0
      have hfz15_1 := blk_frozen BK437.out 1
      go_wp2_with (first | (go_at_call 27; (with_reducible refine (lamplighterref19_Check.calls a1_0 a1_1 t440 _ A10.out).mono ?_); rintro e w16 ⟨rfl, hb⟩; replace BK437 := bbA BK437 hb; replace BK438 := bbA BK438 hb; replace BK439 := bbA BK439 hb; replace HB := bsA HB hb; (try clear hb); (try clear hb2); (try clear hk); (try clear hi); have hnb17 := NB438_439.out; have hnc17 := NB439_438.out; have hcz18_0 : w16.cell? ⟨gb438, 0, none⟩ = some (.int .u32 a2_0) := cz BK438; have hcz18_1 : w16.cell? ⟨gb438, 1, none⟩ = some (.int .u32 a2_1) := cz BK438; have hfz18_0 := blk_frozen BK438.out 0; have hfz18_1 := blk_frozen BK438.out 1) | (go_at_call 27; (with_reducible refine (lamplighterref19_Check.calls a2_0 a2_1 t441 _ A12.out).mono ?_); rintro e w19 ⟨rfl, hb⟩; replace BK437 := bbA BK437 hb; replace BK438 := bbA BK438 hb; replace BK439 := bbA BK439 hb; replace HB := bsA HB hb; (try clear hb); (try clear hb2); (try clear hk); (try clear hi)))
      go_meet
      case rel => exact ⟨_, ((t441 != 0)), (by first | rfl | (simp; done) | (simp [*]; done) | (congr 1; omega) | (congr 2; omega) | (rw [Int.tdiv_eq_ediv_of_nonneg (by decide)]; done)), H', ⟨by first | omega | exact Nat.le_refl _⟩, ⟨by refine bkT ?_; exact BK437.out⟩, ⟨by refine bkT ?_; exact BK438.out⟩, ⟨by refine bkT ?_; exact BK439.out⟩, ⟨by repeat (first | (with_reducible first | exact HB.out | apply below_alloc | apply pw_below_drewN | apply below_drew1 | refine below_set ?_ GE437.out | refine below_set ?_ GE438.out | refine below_set ?_ GE439.out) | exact HB.out)⟩⟩
    rw [if_neg c11] at H; have c11b0 : (t440 == 0) = false := beq_eq_false_iff_ne.mpr c11; have c11b1 : (t440 != 0) = true := bne_iff_ne.mpr c11; have H' := am H; clear H; have hnb20 := NB437_438.out
    have hnc20 := NB438_437.out
    have hnb21 := NB437_439.out
    have hnc21 := NB439_437.out
    have hcz22_0 : w7.cell? ⟨gb437, 0, none⟩ = some (.int .u32 a1_0) := cz BK437
    have hcz22_1 : w7.cell? ⟨gb437, 1, none⟩ = some (.int .u32 a1_1) := cz BK437
    have hfz22_0 := blk_frozen BK437.out 0
    have hfz22_1 := blk_frozen BK437.out 1
    go_wp2_with (first | (go_at_call 27; (with_reducible refine (lamplighterref19_Check.calls a1_0 a1_1 t440 _ A10.out).mono ?_); rintro e w23 ⟨rfl, hb⟩; replace BK437 := bbA BK437 hb; replace BK438 := bbA BK438 hb; replace BK439 := bbA BK439 hb; replace HB := bsA HB hb; (try clear hb); (try clear hb2); (try clear hk); (try clear hi)))
    go_meet
    case rel => exact ⟨_, (true), (by first | rfl | (simp; done) | (simp [*]; done) | (congr 1; omega) | (congr 2; omega) | (rw [Int.tdiv_eq_ediv_of_nonneg (by decide)]; done)), H', ⟨by first | omega | exact Nat.le_refl _⟩, ⟨by refine bkT ?_; exact BK437.out⟩, ⟨by refine bkT ?_; exact BK438.out⟩, ⟨by refine bkT ?_; exact BK439.out⟩, ⟨by repeat (first | (with_reducible first | exact HB.out | apply below_alloc | apply pw_below_drewN | apply below_drew1 | refine below_set ?_ GE437.out | refine below_set ?_ GE438.out | refine below_set ?_ GE439.out) | exact HB.out)⟩⟩
  case rest => as_aux_lemma =>
    clear HC4
    try clear c1
    try clear c2
    try clear p2
    try clear c3
    try clear c8
    try clear c8b0
    try clear c9
    try clear c9b0
    try clear c11
    try clear c11b0
    try clear c11b1
    try clear c13
    try clear c14
    try clear c17
    try clear c20
    try clear c21
    try clear hcz15_0
    try clear hcz15_1
    try clear hcz18_0
    try clear hcz18_1
    try clear hcz22_0
    try clear hcz22_1
    try clear hfz15_0
    try clear hfz15_1
    try clear hfz18_0
    try clear hfz18_1
    try clear hfz22_0
    try clear hfz22_1
    obtain ⟨kq, x28_3, rfl, HA, HJ3, BK437, BK438, BK439, HB⟩ := hcut
    cases kq with
    | zero => exact absurd HA.out (by simp [lamplighterref19_Do.j0])
    | succ kj3 =>
      have H := HA.out
      clear HA; simp only [lamplighterref19_Do.j0] at H
      by_cases c24 : x28_3 = true
      · subst c24; have H1 : (some (0, 0, false, 2)) = some (r1, r2, r3, r4) := by rw [if_pos rfl] at H; exact H
        clear H; have H := H1; clear H1; simp only [Option.some.injEq, Prod.mk.injEq] at H; obtain ⟨rfl, rfl, rfl, rfl⟩ := H; have hnb25 := NB439_437.out
        have hnc25 := NB437_439.out
        have hnb26 := NB439_438.out
        have hnc26 := NB438_439.out
        have hcz27_0 : wc.cell? ⟨gb439, 0, none⟩ = some (.int .u32 0) := cz BK439
        have hcz27_1 : wc.cell? ⟨gb439, 1, none⟩ = some (.int .u32 0) := cz BK439
        have hfz27_0 := blk_frozen BK439.out 0
        have hfz27_1 := blk_frozen BK439.out 1
        go_wp2
        refine bodyPost_ret (results_ctt rfl _ _ gb439 24 #[.int .u32 0, .int .u32 0] (0, 0) _ rfl (by refine bkT ?_; refine blk_put (cs := #[.int .u32 0, .int .u32 0]) ?_ 1 _ rfl; refine bkT ?_; refine blk_put (cs := #[.int .u32 0, .int .u32 0]) ?_ 0 _ rfl; refine bkT ?_; exact BK439.out) Try.underlying24 rfl (by kernel_rfl)) rfl ?_
        exact ⟨by first | rfl | (simp [errW_none, errW_some] <;> rfl) | (simp [*, errW_none, errW_some] <;> rfl), hbA HB⟩
      replace c24 := Bool.eq_false_iff.mpr c24; subst c24; have H1 : (if a0 ≥ 4 then (lamplighterref19_Do.j1 kj3 a0 (decide (a0 ≤ 7)) a1_0 a1_1 a2_0 a2_1) else (lamplighterref19_Do.j1 kj3 a0 false a1_0 a1_1 a2_0 a2_1)) = some (r1, r2, r3, r4) := by rw [if_neg (show ¬ (false = true) by decide)] at H; exact H
      clear H; have H := H1; clear H1; have HC28 := am H; clear H
      go_upto_region 3 with (fail)
      go_cut [35] (fun v35 wc => ∃ (kq : Nat) (x35_27 : Bool), v35 = .bool x35_27 ∧ Aside0 (lamplighterref19_Do.j1 kq a0 x35_27 a1_0 a1_1 a2_0 a2_1 = some (r1, r2, r3, r4)) ∧ Aside0 (kq ≤ kj3) ∧ Aside0 (wc.heap[gb437]? = some (.cells #[.int .u32 a1_0, .int .u32 a1_1] 24 (0, 0))) ∧ Aside0 (wc.heap[gb438]? = some (.cells #[.int .u32 a2_0, .int .u32 a2_1] 24 (0, 0))) ∧ Aside0 (wc.heap[gb439]? = some (.cells #[.int .u32 0, .int .u32 0] 24 (0, 0))) ∧ Aside0 (Below w.heap.size w wc))
      case first => as_aux_lemma =>
        have H := HC28.out
        clear HC28; by_cases c29 : a0 ≥ 4
        · rw [if_pos c29] at H; have c29b0 : decide (4 ≤ a0) = true := decide_eq_true c29; clear c29; (first | rw [c29b0] | (simp only [i64_w, i32_w]; rw [c29b0]) | skip)
          have H' := am H; clear H
          go_wp2
          go_meet
          case rel => exact ⟨_, (decide (a0 ≤ 7)), (by first | rfl | (simp; done) | (simp [*]; done) | (congr 1; omega) | (congr 2; omega) | (rw [Int.tdiv_eq_ediv_of_nonneg (by decide)]; done)), H', ⟨by have := HJ3.out; first | omega | exact Nat.le_refl _⟩, ⟨by refine bkT ?_; exact BK437.out⟩, ⟨by refine bkT ?_; exact BK438.out⟩, ⟨by refine bkT ?_; exact BK439.out⟩, ⟨by repeat (first | (with_reducible first | exact HB.out | apply below_alloc | apply pw_below_drewN | apply below_drew1 | refine below_set ?_ GE437.out | refine below_set ?_ GE438.out | refine below_set ?_ GE439.out) | exact HB.out)⟩⟩
        rw [if_neg c29] at H; have c29b0 : decide (4 ≤ a0) = false := decide_eq_false c29; clear c29; (first | rw [c29b0] | (simp only [i64_w, i32_w]; rw [c29b0]) | skip)
        have H' := am H; clear H
        go_wp2
        go_meet
        case rel => exact ⟨_, (false), (by first | rfl | (simp; done) | (simp [*]; done) | (congr 1; omega) | (congr 2; omega) | (rw [Int.tdiv_eq_ediv_of_nonneg (by decide)]; done)), H', ⟨by have := HJ3.out; first | omega | exact Nat.le_refl _⟩, ⟨by refine bkT ?_; exact BK437.out⟩, ⟨by refine bkT ?_; exact BK438.out⟩, ⟨by refine bkT ?_; exact BK439.out⟩, ⟨by repeat (first | (with_reducible first | exact HB.out | apply below_alloc | apply pw_below_drewN | apply below_drew1 | refine below_set ?_ GE437.out | refine below_set ?_ GE438.out | refine below_set ?_ GE439.out) | exact HB.out)⟩⟩
      case rest => as_aux_lemma =>
        clear HC28
        try clear c1
        try clear c2
        try clear p2
        try clear c3
        try clear c8
        try clear c8b0
        try clear c9
        try clear c9b0
        try clear c11
        try clear c11b0
        try clear c11b1
        try clear c13
        try clear c14
        try clear c17
        try clear c20
        try clear c21
        try clear c24
        try clear c25
        try clear c26
        try clear c29
        try clear c29b0
        try clear hcz15_0
        try clear hcz15_1
        try clear hcz18_0
        try clear hcz18_1
        try clear hcz22_0
        try clear hcz22_1
        try clear hcz27_0
        try clear hcz27_1
        try clear hfz15_0
        try clear hfz15_1
        try clear hfz18_0
        try clear hfz18_1
        try clear hfz22_0
        try clear hfz22_1
        try clear hfz27_0
        try clear hfz27_1
        try clear p2
        obtain ⟨kq, x35_27, rfl, HA, HJ27, BK437, BK438, BK439, HB⟩ := hcut
        cases kq with
        | zero => exact absurd HA.out (by simp [lamplighterref19_Do.j1])
        | succ kj27 =>
          have H := HA.out
          clear HA; simp only [lamplighterref19_Do.j1] at H
          have HC30 := am H; clear H
          go_upto_if 35 with (fail)
          go_cut [0] (fun v0 wc => ∃ (kq : Nat) (x0_29 : Int) (x439000_29 : Int) (x440000_29 : Int) (x440001_29 : Int), v0 = .int .i64 x0_29 ∧ Aside0 (lamplighterref19_Do.j2 kq x0_29 a1_0 a1_1 x439000_29 a2_1 = some (r1, r2, r3, r4)) ∧ Aside0 (kq ≤ kj27) ∧ Aside0 (wc.heap[gb437]? = some (.cells #[.int .u32 a1_0, .int .u32 a1_1] 24 (0, 0))) ∧ Aside0 (wc.heap[gb438]? = some (.cells #[.int .u32 x439000_29, .int .u32 a2_1] 24 (0, 0))) ∧ Aside0 (wc.heap[gb439]? = some (.cells #[.int .u32 x440000_29, .int .u32 x440001_29] 24 (0, 0))) ∧ Aside0 (Below w.heap.size w wc))
          case first => as_aux_lemma =>
            have H := HC30.out
            clear HC30; by_cases c31 : x35_27 = true
            · subst c31; have H1 : (if a2_1 = 0 then (some (0, 0, false, 0)) else (if a0 ≥ 6 then (if a1_1 ≥ 2147483648 then ((lamplighterref19_All.f).bind fun bt442 => (some (bt442.1, bt442.2, true, 0))) else (if a2_1 ≥ 2147483648 then ((lamplighterref19_All.f).bind fun bt444 => (some (bt444.1, bt444.2, true, 0))) else (lamplighterref19_Do.j2 kj27 (wrap64 (a0 - 2)) a1_0 a1_1 (mx 1 a2_0) a2_1))) else (lamplighterref19_Do.j2 kj27 a0 a1_0 a1_1 (mx 1 a2_0) a2_1))) = some (r1, r2, r3, r4) := by rw [if_pos rfl] at H; exact H
              clear H; have H := H1; clear H1; by_cases c32 : a2_1 = 0
              · rw [if_pos c32] at H; have c32b0 : (a2_1 == 0) = true := beq_iff_eq.mpr c32; have c32b1 : (a2_1 != 0) = false := bne_eq_false_iff_eq.mpr c32; clear c32; (first | rw [c32b0] | (simp only [i64_w, i32_w]; rw [c32b0]) | skip)
                simp only [Option.some.injEq, Prod.mk.injEq] at H; obtain ⟨rfl, rfl, rfl, rfl⟩ := H; have hnb33 := NB438_437.out
                have hnc33 := NB437_438.out
                have hnb34 := NB438_439.out
                have hnc34 := NB439_438.out
                have hcz35_0 : wc.cell? ⟨gb438, 0, none⟩ = some (.int .u32 a2_0) := cz BK438
                have hcz35_1 : wc.cell? ⟨gb438, 1, none⟩ = some (.int .u32 a2_1) := cz BK438
                have hfz35_0 := blk_frozen BK438.out 0
                have hfz35_1 := blk_frozen BK438.out 1
                have hnb36 := NB439_437.out
                have hnc36 := NB437_439.out
                have hcz37_0 : wc.cell? ⟨gb439, 0, none⟩ = some (.int .u32 0) := cz BK439
                have hcz37_1 : wc.cell? ⟨gb439, 1, none⟩ = some (.int .u32 0) := cz BK439
                have hfz37_0 := blk_frozen BK439.out 0
                have hfz37_1 := blk_frozen BK439.out 1
                go_wp2
                refine bodyPost_ret (results_ctt rfl _ _ gb439 24 #[.int .u32 0, .int .u32 0] (0, 0) _ rfl (by refine bkT ?_; refine blk_put (cs := #[.int .u32 0, .int .u32 0]) ?_ 1 _ rfl; refine bkT ?_; refine blk_put (cs := #[.int .u32 0, .int .u32 0]) ?_ 0 _ rfl; refine bkT ?_; exact BK439.out) Try.underlying24 rfl (by kernel_rfl)) rfl ?_
                exact ⟨by first | rfl | (simp [errW_none, errW_some] <;> rfl) | (simp [*, errW_none, errW_some] <;> rfl), hbA HB⟩
              rw [if_neg c32] at H; have c32b0 : (a2_1 == 0) = false := beq_eq_false_iff_ne.mpr c32; have c32b1 : (a2_1 != 0) = true := bne_iff_ne.mpr c32; (first | rw [c32b0] | (simp only [i64_w, i32_w]; rw [c32b0]) | skip)
              obtain ⟨ji38, hji38⟩ : ∃ j_ : Int, (mx 1 a2_0) = j_ := ⟨_, rfl⟩
              replace H : (if a0 ≥ 6 then (if a1_1 ≥ 2147483648 then ((lamplighterref19_All.f).bind fun bt442 => (some (bt442.1, bt442.2, true, 0))) else (if a2_1 ≥ 2147483648 then ((lamplighterref19_All.f).bind fun bt444 => (some (bt444.1, bt444.2, true, 0))) else (lamplighterref19_Do.j2 kj27 (wrap64 (a0 - 2)) a1_0 a1_1 ji38 a2_1))) else (lamplighterref19_Do.j2 kj27 a0 a1_0 a1_1 ji38 a2_1)) = some (r1, r2, r3, r4) := by first | (rw [hji38] at H; exact H) | (simp only [hji38] at H ⊢; exact H)
              (try (have hji38l : 1 ≤ ji38 := by (rw [← hji38]; unfold mx; (repeat' split) <;> omega)))
              (try (have hji38m : 0 ≤ ji38 := by omega))
              have hji38_ : (if 1 < a2_0 then a2_0 else 1) = ji38 := hji38
              by_cases c39 : a0 ≥ 6
              · rw [if_pos c39] at H; have c39b0 : decide (6 ≤ a0) = true := decide_eq_true c39; clear c39; by_cases c40 : a1_1 ≥ 2147483648
                · rw [if_pos c40] at H; have c40b0 : decide (2147483648 ≤ a1_1) = true := decide_eq_true c40; clear c40; replace H := Option.bind_eq_some_iff.mp H; obtain ⟨⟨t442, t443⟩, A410, H⟩ := H; replace H : (some (t442, t443, true, 0)) = some (r1, r2, r3, r4) := H; have A41 := am A410; clear A410; simp only [Option.some.injEq, Prod.mk.injEq] at H; obtain ⟨rfl, rfl, rfl, rfl⟩ := H; have hnb42 := NB438_437.out
                  have hnc42 := NB437_438.out
                  have hnb43 := NB438_439.out
                  have hnc43 := NB439_438.out
                  have hcz44_0 : wc.cell? ⟨gb438, 0, none⟩ = some (.int .u32 a2_0) := cz BK438
                  have hcz44_1 : wc.cell? ⟨gb438, 1, none⟩ = some (.int .u32 a2_1) := cz BK438
                  have hfz44_0 := blk_frozen BK438.out 0
                  have hfz44_1 := blk_frozen BK438.out 1
                  have hnb45 := NB437_439.out
                  have hnc45 := NB439_437.out
                  have hcz46_0 : wc.cell? ⟨gb437, 0, none⟩ = some (.int .u32 a1_0) := cz BK437
                  have hcz46_1 : wc.cell? ⟨gb437, 1, none⟩ = some (.int .u32 a1_1) := cz BK437
                  have hfz46_0 := blk_frozen BK437.out 0
                  have hfz46_1 := blk_frozen BK437.out 1
                  go_wp2_with (first | ((with_reducible refine gate_callee (f := 42) rfl ?_); refine goesL_ (some 54) rfl rfl Try.func42 (by kernel_rfl) rfl #[] rfl (by (try simp only [List.map_toArray, List.map_cons, List.map_nil]); first | done | rfl | (simp only [List.length_drop, List.length_take]; rfl)) ?_; (with_reducible refine (lamplighterref19_All.calls  t442 t443 _ A41.out).mono ?_); rintro e w47 ⟨rfl, hb⟩; refine ⟨_, rfl, ?_⟩; replace BK437 := am (blk_below (g := gb437) (o := .cells #[.int .u32 a1_0, .int .u32 a1_1] 24 (0, 0)) (by refine bkT ?_; refine blk_far ?_ NB437_438.out _; refine bkT ?_; exact BK437.out) hb); replace BK438 := am (blk_below (g := gb438) (o := .cells #[.int .u32 ji38, .int .u32 a2_1] 24 (0, 0)) (by refine bkT ?_; refine blk_put (cs := #[.int .u32 a2_0, .int .u32 a2_1]) ?_ 0 _ rfl; refine bkT ?_; exact BK438.out) hb); replace BK439 := am (blk_below (g := gb439) (o := .cells #[.int .u32 0, .int .u32 0] 24 (0, 0)) (by refine bkT ?_; refine blk_far ?_ NB439_438.out _; refine bkT ?_; exact BK439.out) hb); replace HB := bsA HB hb; (try clear hb); (try clear hb2); (try clear hk); (try clear hi); have hcz48_0 : w47.cell? ⟨gb439, 0, none⟩ = some (.int .u32 0) := cz BK439; have hcz48_1 : w47.cell? ⟨gb439, 1, none⟩ = some (.int .u32 0) := cz BK439; have hfz48_0 := blk_frozen BK439.out 0; have hfz48_1 := blk_frozen BK439.out 1))
                  refine bodyPost_ret (results_ctt rfl _ _ gb439 24 #[.int .u32 t442, .int .u32 t443] (0, 0) _ rfl (by refine bkT ?_; refine blk_put (cs := #[.int .u32 t442, .int .u32 0]) ?_ 1 _ rfl; refine bkT ?_; refine blk_put (cs := #[.int .u32 0, .int .u32 0]) ?_ 0 _ rfl; refine bkT ?_; exact BK439.out) Try.underlying24 rfl (by kernel_rfl)) rfl ?_
                  exact ⟨by first | rfl | (simp [errW_none, errW_some] <;> rfl) | (simp only [← hji38]; first | rfl | (simp [errW_none, errW_some] <;> rfl)) | (simp [*, errW_none, errW_some] <;> rfl), hbA HB⟩
                rw [if_neg c40] at H; have c40b0 : decide (2147483648 ≤ a1_1) = false := decide_eq_false c40; clear c40; by_cases c49 : a2_1 ≥ 2147483648
                · rw [if_pos c49] at H; have c49b0 : decide (2147483648 ≤ a2_1) = true := decide_eq_true c49; clear c49; replace H := Option.bind_eq_some_iff.mp H; obtain ⟨⟨t444, t445⟩, A500, H⟩ := H; replace H : (some (t444, t445, true, 0)) = some (r1, r2, r3, r4) := H; have A50 := am A500; clear A500; simp only [Option.some.injEq, Prod.mk.injEq] at H; obtain ⟨rfl, rfl, rfl, rfl⟩ := H; have hnb51 := NB438_437.out
                  have hnc51 := NB437_438.out
                  have hnb52 := NB438_439.out
                  have hnc52 := NB439_438.out
                  have hcz53_0 : wc.cell? ⟨gb438, 0, none⟩ = some (.int .u32 a2_0) := cz BK438
                  have hcz53_1 : wc.cell? ⟨gb438, 1, none⟩ = some (.int .u32 a2_1) := cz BK438
                  have hfz53_0 := blk_frozen BK438.out 0
                  have hfz53_1 := blk_frozen BK438.out 1
                  have hnb54 := NB437_439.out
                  have hnc54 := NB439_437.out
                  have hcz55_0 : wc.cell? ⟨gb437, 0, none⟩ = some (.int .u32 a1_0) := cz BK437
                  have hcz55_1 : wc.cell? ⟨gb437, 1, none⟩ = some (.int .u32 a1_1) := cz BK437
                  have hfz55_0 := blk_frozen BK437.out 0
                  have hfz55_1 := blk_frozen BK437.out 1
                  go_wp2_with (first | ((with_reducible refine gate_callee (f := 42) rfl ?_); refine goesL_ (some 54) rfl rfl Try.func42 (by kernel_rfl) rfl #[] rfl (by (try simp only [List.map_toArray, List.map_cons, List.map_nil]); first | done | rfl | (simp only [List.length_drop, List.length_take]; rfl)) ?_; (with_reducible refine (lamplighterref19_All.calls  t444 t445 _ A50.out).mono ?_); rintro e w56 ⟨rfl, hb⟩; refine ⟨_, rfl, ?_⟩; replace BK437 := am (blk_below (g := gb437) (o := .cells #[.int .u32 a1_0, .int .u32 a1_1] 24 (0, 0)) (by refine bkT ?_; refine blk_far ?_ NB437_438.out _; refine bkT ?_; exact BK437.out) hb); replace BK438 := am (blk_below (g := gb438) (o := .cells #[.int .u32 ji38, .int .u32 a2_1] 24 (0, 0)) (by refine bkT ?_; refine blk_put (cs := #[.int .u32 a2_0, .int .u32 a2_1]) ?_ 0 _ rfl; refine bkT ?_; exact BK438.out) hb); replace BK439 := am (blk_below (g := gb439) (o := .cells #[.int .u32 0, .int .u32 0] 24 (0, 0)) (by refine bkT ?_; refine blk_far ?_ NB439_438.out _; refine bkT ?_; exact BK439.out) hb); replace HB := bsA HB hb; (try clear hb); (try clear hb2); (try clear hk); (try clear hi); have hcz57_0 : w56.cell? ⟨gb439, 0, none⟩ = some (.int .u32 0) := cz BK439; have hcz57_1 : w56.cell? ⟨gb439, 1, none⟩ = some (.int .u32 0) := cz BK439; have hfz57_0 := blk_frozen BK439.out 0; have hfz57_1 := blk_frozen BK439.out 1))
                  refine bodyPost_ret (results_ctt rfl _ _ gb439 24 #[.int .u32 t444, .int .u32 t445] (0, 0) _ rfl (by refine bkT ?_; refine blk_put (cs := #[.int .u32 t444, .int .u32 0]) ?_ 1 _ rfl; refine bkT ?_; refine blk_put (cs := #[.int .u32 0, .int .u32 0]) ?_ 0 _ rfl; refine bkT ?_; exact BK439.out) Try.underlying24 rfl (by kernel_rfl)) rfl ?_
                  exact ⟨by first | rfl | (simp [errW_none, errW_some] <;> rfl) | (simp only [← hji38]; first | rfl | (simp [errW_none, errW_some] <;> rfl)) | (simp [*, errW_none, errW_some] <;> rfl), hbA HB⟩
                rw [if_neg c49] at H; have c49b0 : decide (2147483648 ≤ a2_1) = false := decide_eq_false c49; clear c49; have H' := am H; clear H; have hnb58 := NB438_437.out
                have hnc58 := NB437_438.out
                have hnb59 := NB438_439.out
                have hnc59 := NB439_438.out
                have hcz60_0 : wc.cell? ⟨gb438, 0, none⟩ = some (.int .u32 a2_0) := cz BK438
                have hcz60_1 : wc.cell? ⟨gb438, 1, none⟩ = some (.int .u32 a2_1) := cz BK438
                have hfz60_0 := blk_frozen BK438.out 0
                have hfz60_1 := blk_frozen BK438.out 1
                have hnb61 := NB437_439.out
                have hnc61 := NB439_437.out
                have hcz62_0 : wc.cell? ⟨gb437, 0, none⟩ = some (.int .u32 a1_0) := cz BK437
                have hcz62_1 : wc.cell? ⟨gb437, 1, none⟩ = some (.int .u32 a1_1) := cz BK437
                have hfz62_0 := blk_frozen BK437.out 0
                have hfz62_1 := blk_frozen BK437.out 1
                go_wp2
                go_meet
                case rel => exact ⟨_, (wrap64 (a0 - 2)), (ji38), (0), (0), (by first | rfl | (simp; done) | (simp [*]; done) | (congr 1; omega) | (congr 2; omega) | (rw [Int.tdiv_eq_ediv_of_nonneg (by decide)]; done)), H', ⟨by have := HJ3.out; have := HJ27.out; first | omega | exact Nat.le_refl _⟩, ⟨by refine bkT ?_; refine blk_far ?_ NB437_438.out _; refine bkT ?_; exact BK437.out⟩, ⟨by refine bkT ?_; refine blk_put (cs := #[.int .u32 a2_0, .int .u32 a2_1]) ?_ 0 _ rfl; refine bkT ?_; exact BK438.out⟩, ⟨by refine bkT ?_; refine blk_far ?_ NB439_438.out _; refine bkT ?_; exact BK439.out⟩, ⟨by repeat (first | (with_reducible first | exact HB.out | apply below_alloc | apply pw_below_drewN | apply below_drew1 | refine below_set ?_ GE437.out | refine below_set ?_ GE438.out | refine below_set ?_ GE439.out) | exact HB.out)⟩⟩
              rw [if_neg c39] at H; have c39b0 : decide (6 ≤ a0) = false := decide_eq_false c39; clear c39; have H' := am H; clear H; have hnb63 := NB438_437.out
              have hnc63 := NB437_438.out
              have hnb64 := NB438_439.out
              have hnc64 := NB439_438.out
              have hcz65_0 : wc.cell? ⟨gb438, 0, none⟩ = some (.int .u32 a2_0) := cz BK438
              have hcz65_1 : wc.cell? ⟨gb438, 1, none⟩ = some (.int .u32 a2_1) := cz BK438
              have hfz65_0 := blk_frozen BK438.out 0
              have hfz65_1 := blk_frozen BK438.out 1
              go_wp2
              go_meet
              case rel => exact ⟨_, (a0), (ji38), (0), (0), (by first | rfl | (simp; done) | (simp [*]; done) | (congr 1; omega) | (congr 2; omega) | (rw [Int.tdiv_eq_ediv_of_nonneg (by decide)]; done)), H', ⟨by have := HJ3.out; have := HJ27.out; first | omega | exact Nat.le_refl _⟩, ⟨by refine bkT ?_; refine blk_far ?_ NB437_438.out _; refine bkT ?_; exact BK437.out⟩, ⟨by refine bkT ?_; refine blk_put (cs := #[.int .u32 a2_0, .int .u32 a2_1]) ?_ 0 _ rfl; refine bkT ?_; exact BK438.out⟩, ⟨by refine bkT ?_; refine blk_far ?_ NB439_438.out _; refine bkT ?_; exact BK439.out⟩, ⟨by repeat (first | (with_reducible first | exact HB.out | apply below_alloc | apply pw_below_drewN | apply below_drew1 | refine below_set ?_ GE437.out | refine below_set ?_ GE438.out | refine below_set ?_ GE439.out) | exact HB.out)⟩⟩
            replace c31 := Bool.eq_false_iff.mpr c31; subst c31; have H1 : (lamplighterref19_Do.j2 kj27 a0 a1_0 a1_1 a2_0 a2_1) = some (r1, r2, r3, r4) := by rw [if_neg (show ¬ (false = true) by decide)] at H; exact H
            clear H; have H := H1; clear H1; have H' := am H; clear H
            go_wp2
            go_meet
            case rel => exact ⟨_, (a0), (a2_0), (0), (0), (by first | rfl | (simp; done) | (simp [*]; done) | (congr 1; omega) | (congr 2; omega) | (rw [Int.tdiv_eq_ediv_of_nonneg (by decide)]; done)), H', ⟨by have := HJ3.out; have := HJ27.out; first | omega | exact Nat.le_refl _⟩, ⟨by refine bkT ?_; exact BK437.out⟩, ⟨by refine bkT ?_; exact BK438.out⟩, ⟨by refine bkT ?_; exact BK439.out⟩, ⟨by repeat (first | (with_reducible first | exact HB.out | apply below_alloc | apply pw_below_drewN | apply below_drew1 | refine below_set ?_ GE437.out | refine below_set ?_ GE438.out | refine below_set ?_ GE439.out) | exact HB.out)⟩⟩
          case rest => as_aux_lemma =>
            clear HC30
            try clear c1
            try clear c2
            try clear p2
            try clear c3
            try clear c4
            try clear c5
            try clear c6
            try clear p6
            try clear c8
            try clear c8b0
            try clear c9
            try clear c9b0
            try clear c11
            try clear c11b0
            try clear c11b1
            try clear c13
            try clear c14
            try clear c17
            try clear c20
            try clear c21
            try clear c24
            try clear c25
            try clear c26
            try clear c29
            try clear c29b0
            try clear c31
            try clear c32
            try clear c32b0
            try clear c32b1
            try clear c33
            try clear c34
            try clear c36
            try clear c39
            try clear c39b0
            try clear c40
            try clear c40b0
            try clear c42
            try clear c43
            try clear c45
            try clear c49
            try clear c49b0
            try clear c51
            try clear c52
            try clear c54
            try clear c58
            try clear c59
            try clear c61
            try clear c63
            try clear c64
            try clear p64
            try clear hcz15_0
            try clear hcz15_1
            try clear hcz18_0
            try clear hcz18_1
            try clear hcz22_0
            try clear hcz22_1
            try clear hcz27_0
            try clear hcz27_1
            try clear hcz35_0
            try clear hcz35_1
            try clear hcz37_0
            try clear hcz37_1
            try clear hcz44_0
            try clear hcz44_1
            try clear hcz46_0
            try clear hcz46_1
            try clear hcz48_0
            try clear hcz48_1
            try clear hcz53_0
            try clear hcz53_1
            try clear hcz55_0
            try clear hcz55_1
            try clear hcz57_0
            try clear hcz57_1
            try clear hcz60_0
            try clear hcz60_1
            try clear hcz62_0
            try clear hcz62_1
            try clear hcz65_0
            try clear hcz65_1
            try clear hfz15_0
            try clear hfz15_1
            try clear hfz18_0
            try clear hfz18_1
            try clear hfz22_0
            try clear hfz22_1
            try clear hfz27_0
            try clear hfz27_1
            try clear hfz35_0
            try clear hfz35_1
            try clear hfz37_0
            try clear hfz37_1
            try clear hfz44_0
            try clear hfz44_1
            try clear hfz46_0
            try clear hfz46_1
            try clear hfz48_0
            try clear hfz48_1
            try clear hfz53_0
            try clear hfz53_1
            try clear hfz55_0
            try clear hfz55_1
            try clear hfz57_0
            try clear hfz57_1
            try clear hfz60_0
            try clear hfz60_1
            try clear hfz62_0
            try clear hfz62_1
            try clear hfz65_0
            try clear hfz65_1
            try clear p2
            obtain ⟨kq, x0_29, x439000_29, x440000_29, x440001_29, rfl, HA, HJ29, BK437, BK438, BK439, HB⟩ := hcut
            cases kq with
            | zero => exact absurd HA.out (by simp [lamplighterref19_Do.j2])
            | succ kj29 =>
              have H := HA.out
              clear HA; simp only [lamplighterref19_Do.j2] at H
              by_cases c66 : x0_29 = 1
              · rw [if_pos c66] at H; have c66b0 : (x0_29 == 1) = true := beq_iff_eq.mpr c66; have c66b1 : (x0_29 != 1) = false := bne_eq_false_iff_eq.mpr c66; clear c66; replace H := Option.bind_eq_some_iff.mp H; obtain ⟨⟨t446, t447⟩, A670, H⟩ := H; replace H : (some (t446, t447, true, 0)) = some (r1, r2, r3, r4) := H; have A67 := am A670; clear A670; simp only [Option.some.injEq, Prod.mk.injEq] at H; obtain ⟨rfl, rfl, rfl, rfl⟩ := H
                try go_wp2
                have n0_ := am (blk_drew BK437.out)
                have n1_ := am (blk_drew BK438.out)
                have n2_ := am (blk_drew BK439.out)
                have n3_ := am (below_drew1 HB.out)
                clear BK437; clear BK438; clear BK439; clear HB; have BK437 := n0_; have BK438 := n1_; have BK439 := n2_; have HB := n3_; clear n0_ n1_ n2_ n3_; refine start_ (n := 16) (S := fun w' => w'.cell? ⟨gb437, 0, none⟩ = some (.int .u32 a1_0) ∧ w'.cell? ⟨gb437, 1, none⟩ = some (.int .u32 a1_1) ∧ w'.cell? ⟨gb438, 0, none⟩ = some (.int .u32 x439000_29) ∧ w'.cell? ⟨gb438, 1, none⟩ = some (.int .u32 a2_1)) (ds := []) #[false, false, false, false, false, false, false, false, false, false, false, false, false, false, false, false] (by kernel_rfl) rfl rfl ⟨(blk_cell BK437.out 0).trans rfl, (blk_cell BK437.out 1).trans rfl, (blk_cell BK438.out 0).trans rfl, (blk_cell BK438.out 1).trans rfl⟩ (fun hHeld => ?_); refine with_tabW lamplighterref19_Do.tab11 lamplighterref19_Do.bits11 (fun HT_ HW_ => ?_)
                generalize wc.drew = w68 at BK437 BK438 BK439 HB hHeld ⊢
                refine pure_ (i := 0) (N := some 57) (v := ?_) (a' := ?_) #[true, false, false, false, false, false, false, false, false, false, false, false, false, false, false, false] rfl rfl (any_of HT_.out (by kernel_rfl)) (fun _ _ _ h => h) (Or.inl ⟨by rfl, ?_⟩) ?_ ?_
                rotate_left
                · intro w'
                  go_simp
                  with_reducible rfl
                rotate_left
                · simp only [Act.put, s1, s2, s3, i64_w, i32_w]
                  rfl
                refine pure_ (i := 3) (N := some 60) (v := ?_) (a' := ?_) #[true, false, false, true, false, false, false, false, false, false, false, false, false, false, false, false] rfl rfl (any_of HT_.out (by kernel_rfl)) (fun _ _ _ h => h) (Or.inl ⟨by rfl, ?_⟩) ?_ ?_
                rotate_left
                · intro w'
                  go_simp
                  with_reducible rfl
                rotate_left
                · simp only [Act.put, s1, s2, s3, i64_w, i32_w]
                  rfl
                refine pure_ (i := 6) (N := some 63) (v := ?_) (a' := ?_) #[true, false, false, true, false, false, true, false, false, false, false, false, false, false, false, false] rfl rfl (any_of HT_.out (by kernel_rfl)) (fun _ _ _ h => h) (Or.inl ⟨by rfl, ?_⟩) ?_ ?_
                rotate_left
                · intro w'
                  go_simp
                  with_reducible rfl
                rotate_left
                · simp only [Act.put, s1, s2, s3, i64_w, i32_w]
                  rfl
                refine pure_ (i := 9) (N := some 66) (v := ?_) (a' := ?_) #[true, false, false, true, false, false, true, false, false, true, false, false, false, false, false, false] rfl rfl (any_of HT_.out (by kernel_rfl)) (fun _ _ _ h => h) (Or.inl ⟨by rfl, ?_⟩) ?_ ?_
                rotate_left
                · intro w'
                  go_simp
                  with_reducible rfl
                rotate_left
                · simp only [Act.put, s1, s2, s3, i64_w, i32_w]
                  rfl
                refine take_ (i := 1) (N := some 58) (v := ?_) (a' := ?_) #[true, true, false, true, false, false, true, false, false, true, false, false, false, false, false, false] rfl rfl (take_ofW HT_.out HW_.out (by kernel_rfl)) (fun _ _ _ h => h) (Or.inl ⟨by rfl, ?_⟩) hHeld ?_ ?_
                rotate_left
                · rintro w' ⟨s0, s1, s2, s3⟩
                  go_simp
                  with_reducible rfl
                rotate_left
                · simp only [Act.put, s1, s2, s3, i64_w, i32_w]
                  rfl
                refine pure_ (i := 2) (N := some 59) (v := ?_) (a' := ?_) #[true, true, true, true, false, false, true, false, false, true, false, false, false, false, false, false] rfl rfl (any_of HT_.out (by kernel_rfl)) (fun _ _ _ h => h) (Or.inl ⟨by rfl, ?_⟩) ?_ ?_
                rotate_left
                · intro w'
                  go_simp
                  with_reducible rfl
                rotate_left
                · simp only [Act.put, s1, s2, s3, i64_w, i32_w]
                  rfl
                refine pure_ (i := 12) (N := some 9) (v := ?_) (a' := ?_) #[true, true, true, true, false, false, true, false, false, true, false, false, true, false, false, false] rfl rfl (any_of HT_.out (by kernel_rfl)) (fun _ _ _ h => h) (Or.inl ⟨by rfl, ?_⟩) ?_ ?_
                rotate_left
                · intro w'
                  go_simp
                  with_reducible rfl
                rotate_left
                · simp only [Act.put, s1, s2, s3, i64_w, i32_w]
                  rfl
                refine take_ (i := 4) (N := some 61) (v := ?_) (a' := ?_) #[true, true, true, true, true, false, true, false, false, true, false, false, true, false, false, false] rfl rfl (take_ofW HT_.out HW_.out (by kernel_rfl)) (fun _ _ _ h => h) (Or.inl ⟨by rfl, ?_⟩) hHeld ?_ ?_
                rotate_left
                · rintro w' ⟨s0, s1, s2, s3⟩
                  go_simp
                  with_reducible rfl
                rotate_left
                · simp only [Act.put, s1, s2, s3, i64_w, i32_w]
                  rfl
                refine pure_ (i := 5) (N := some 62) (v := ?_) (a' := ?_) #[true, true, true, true, true, true, true, false, false, true, false, false, true, false, false, false] rfl rfl (any_of HT_.out (by kernel_rfl)) (fun _ _ _ h => h) (Or.inl ⟨by rfl, ?_⟩) ?_ ?_
                rotate_left
                · intro w'
                  go_simp
                  with_reducible rfl
                rotate_left
                · simp only [Act.put, s1, s2, s3, i64_w, i32_w]
                  rfl
                refine pure_ (i := 13) (N := some 10) (v := ?_) (a' := ?_) #[true, true, true, true, true, true, true, false, false, true, false, false, true, true, false, false] rfl rfl (any_of HT_.out (by kernel_rfl)) (fun _ _ _ h => h) (Or.inl ⟨by rfl, ?_⟩) ?_ ?_
                rotate_left
                · intro w'
                  go_simp
                  with_reducible rfl
                rotate_left
                · simp only [Act.put, s1, s2, s3, i64_w, i32_w]
                  rfl
                refine take_ (i := 7) (N := some 64) (v := ?_) (a' := ?_) #[true, true, true, true, true, true, true, true, false, true, false, false, true, true, false, false] rfl rfl (take_ofW HT_.out HW_.out (by kernel_rfl)) (fun _ _ _ h => h) (Or.inl ⟨by rfl, ?_⟩) hHeld ?_ ?_
                rotate_left
                · rintro w' ⟨s0, s1, s2, s3⟩
                  go_simp
                  with_reducible rfl
                rotate_left
                · simp only [Act.put, s1, s2, s3, i64_w, i32_w]
                  rfl
                refine pure_ (i := 8) (N := some 65) (v := ?_) (a' := ?_) #[true, true, true, true, true, true, true, true, true, true, false, false, true, true, false, false] rfl rfl (any_of HT_.out (by kernel_rfl)) (fun _ _ _ h => h) (Or.inl ⟨by rfl, ?_⟩) ?_ ?_
                rotate_left
                · intro w'
                  go_simp
                  with_reducible rfl
                rotate_left
                · simp only [Act.put, s1, s2, s3, i64_w, i32_w]
                  rfl
                refine pure_ (i := 14) (N := some 11) (v := ?_) (a' := ?_) #[true, true, true, true, true, true, true, true, true, true, false, false, true, true, true, false] rfl rfl (any_of HT_.out (by kernel_rfl)) (fun _ _ _ h => h) (Or.inl ⟨by rfl, ?_⟩) ?_ ?_
                rotate_left
                · intro w'
                  go_simp
                  with_reducible rfl
                rotate_left
                · simp only [Act.put, s1, s2, s3, i64_w, i32_w]
                  rfl
                refine take_ (i := 10) (N := some 67) (v := ?_) (a' := ?_) #[true, true, true, true, true, true, true, true, true, true, true, false, true, true, true, false] rfl rfl (take_ofW HT_.out HW_.out (by kernel_rfl)) (fun _ _ _ h => h) (Or.inl ⟨by rfl, ?_⟩) hHeld ?_ ?_
                rotate_left
                · rintro w' ⟨s0, s1, s2, s3⟩
                  go_simp
                  with_reducible rfl
                rotate_left
                · simp only [Act.put, s1, s2, s3, i64_w, i32_w]
                  rfl
                refine pure_ (i := 11) (N := some 68) (v := ?_) (a' := ?_) #[true, true, true, true, true, true, true, true, true, true, true, true, true, true, true, false] rfl rfl (any_of HT_.out (by kernel_rfl)) (fun _ _ _ h => h) (Or.inl ⟨by rfl, ?_⟩) ?_ ?_
                rotate_left
                · intro w'
                  go_simp
                  with_reducible rfl
                rotate_left
                · simp only [Act.put, s1, s2, s3, i64_w, i32_w]
                  rfl
                refine pure_ (i := 15) (N := some 12) (v := ?_) (a' := ?_) #[true, true, true, true, true, true, true, true, true, true, true, true, true, true, true, true] rfl rfl (any_of HT_.out (by kernel_rfl)) (fun _ _ _ h => h) (Or.inl ⟨by rfl, ?_⟩) ?_ ?_
                rotate_left
                · intro w'
                  go_simp
                  with_reducible rfl
                rotate_left
                · simp only [Act.put, s1, s2, s3, i64_w, i32_w]
                  rfl
                refine done_ (done_of HT_.out (by kernel_rfl)) ?_
                try go_wp2_with (first | ((with_reducible refine gate_callee (f := 44) rfl ?_); refine goesL_ (some 78) rfl rfl Try.func44 (by kernel_rfl) rfl #[.int .i64 (wrap64 ((wrap64 (a1_0)) + (wrap64 (x439000_29)))), .int .i64 (wrap64 ((wrap64 (a1_1)) + (wrap64 (a2_1))))] rfl (by (try simp only [List.map_toArray, List.map_cons, List.map_nil]); first | done | rfl | (simp only [List.length_drop, List.length_take]; rfl)) ?_; (with_reducible refine (lamplighterref19_fits.calls (wrap64 ((wrap64 (a1_0)) + (wrap64 (x439000_29)))) (wrap64 ((wrap64 (a1_1)) + (wrap64 (a2_1)))) t446 t447 _ A67.out).mono ?_); rintro e w69 ⟨rfl, hb⟩; refine ⟨_, rfl, ?_⟩; replace BK437 := bbA BK437 hb; replace BK438 := bbA BK438 hb; replace BK439 := bbA BK439 hb; replace HB := bsA HB hb; (try clear hb); (try clear hb2); (try clear hk); (try clear hi); have hnb70 := NB439_437.out; have hnc70 := NB437_439.out; have hnb71 := NB439_438.out; have hnc71 := NB438_439.out; have hcz72_0 : w69.cell? ⟨gb439, 0, none⟩ = some (.int .u32 x440000_29) := cz BK439; have hcz72_1 : w69.cell? ⟨gb439, 1, none⟩ = some (.int .u32 x440001_29) := cz BK439; have hfz72_0 := blk_frozen BK439.out 0; have hfz72_1 := blk_frozen BK439.out 1))
                refine bodyPost_ret (results_ctt rfl _ _ gb439 24 #[.int .u32 t446, .int .u32 t447] (0, 0) _ rfl (by refine bkT ?_; refine blk_put (cs := #[.int .u32 t446, .int .u32 x440001_29]) ?_ 1 _ rfl; refine bkT ?_; refine blk_put (cs := #[.int .u32 x440000_29, .int .u32 x440001_29]) ?_ 0 _ rfl; refine bkT ?_; exact BK439.out) Try.underlying24 rfl (by kernel_rfl)) rfl ?_
                exact ⟨by first | rfl | (simp [errW_none, errW_some] <;> rfl) | (simp [*, errW_none, errW_some] <;> rfl), hbA HB⟩
              rw [if_neg c66] at H; have c66b0 : (x0_29 == 1) = false := beq_eq_false_iff_ne.mpr c66; have c66b1 : (x0_29 != 1) = true := bne_iff_ne.mpr c66; by_cases c73 : x0_29 = 2
              · rw [if_pos c73] at H; have c73b0 : (x0_29 == 2) = true := beq_iff_eq.mpr c73; have c73b1 : (x0_29 != 2) = false := bne_eq_false_iff_eq.mpr c73; clear c73; replace H := Option.bind_eq_some_iff.mp H; obtain ⟨⟨t448, t449⟩, A740, H⟩ := H; replace H : (some (t448, t449, true, 0)) = some (r1, r2, r3, r4) := H; have A74 := am A740; clear A740; simp only [Option.some.injEq, Prod.mk.injEq] at H; obtain ⟨rfl, rfl, rfl, rfl⟩ := H
                try go_wp2
                have n0_ := am (blk_drew BK437.out)
                have n1_ := am (blk_drew BK438.out)
                have n2_ := am (blk_drew BK439.out)
                have n3_ := am (below_drew1 HB.out)
                clear BK437; clear BK438; clear BK439; clear HB; have BK437 := n0_; have BK438 := n1_; have BK439 := n2_; have HB := n3_; clear n0_ n1_ n2_ n3_; refine start_ (n := 16) (S := fun w' => w'.cell? ⟨gb437, 0, none⟩ = some (.int .u32 a1_0) ∧ w'.cell? ⟨gb437, 1, none⟩ = some (.int .u32 a1_1) ∧ w'.cell? ⟨gb438, 0, none⟩ = some (.int .u32 x439000_29) ∧ w'.cell? ⟨gb438, 1, none⟩ = some (.int .u32 a2_1)) (ds := []) #[false, false, false, false, false, false, false, false, false, false, false, false, false, false, false, false] (by kernel_rfl) rfl rfl ⟨(blk_cell BK437.out 0).trans rfl, (blk_cell BK437.out 1).trans rfl, (blk_cell BK438.out 0).trans rfl, (blk_cell BK438.out 1).trans rfl⟩ (fun hHeld => ?_); refine with_tabW lamplighterref19_Do.tab11 lamplighterref19_Do.bits11 (fun HT_ HW_ => ?_)
                generalize wc.drew = w75 at BK437 BK438 BK439 HB hHeld ⊢
                refine pure_ (i := 0) (N := some 57) (v := ?_) (a' := ?_) #[true, false, false, false, false, false, false, false, false, false, false, false, false, false, false, false] rfl rfl (any_of HT_.out (by kernel_rfl)) (fun _ _ _ h => h) (Or.inl ⟨by rfl, ?_⟩) ?_ ?_
                rotate_left
                · intro w'
                  go_simp
                  with_reducible rfl
                rotate_left
                · simp only [Act.put, s1, s2, s3, i64_w, i32_w]
                  rfl
                refine pure_ (i := 3) (N := some 60) (v := ?_) (a' := ?_) #[true, false, false, true, false, false, false, false, false, false, false, false, false, false, false, false] rfl rfl (any_of HT_.out (by kernel_rfl)) (fun _ _ _ h => h) (Or.inl ⟨by rfl, ?_⟩) ?_ ?_
                rotate_left
                · intro w'
                  go_simp
                  with_reducible rfl
                rotate_left
                · simp only [Act.put, s1, s2, s3, i64_w, i32_w]
                  rfl
                refine pure_ (i := 6) (N := some 63) (v := ?_) (a' := ?_) #[true, false, false, true, false, false, true, false, false, false, false, false, false, false, false, false] rfl rfl (any_of HT_.out (by kernel_rfl)) (fun _ _ _ h => h) (Or.inl ⟨by rfl, ?_⟩) ?_ ?_
                rotate_left
                · intro w'
                  go_simp
                  with_reducible rfl
                rotate_left
                · simp only [Act.put, s1, s2, s3, i64_w, i32_w]
                  rfl
                refine pure_ (i := 9) (N := some 66) (v := ?_) (a' := ?_) #[true, false, false, true, false, false, true, false, false, true, false, false, false, false, false, false] rfl rfl (any_of HT_.out (by kernel_rfl)) (fun _ _ _ h => h) (Or.inl ⟨by rfl, ?_⟩) ?_ ?_
                rotate_left
                · intro w'
                  go_simp
                  with_reducible rfl
                rotate_left
                · simp only [Act.put, s1, s2, s3, i64_w, i32_w]
                  rfl
                refine take_ (i := 1) (N := some 58) (v := ?_) (a' := ?_) #[true, true, false, true, false, false, true, false, false, true, false, false, false, false, false, false] rfl rfl (take_ofW HT_.out HW_.out (by kernel_rfl)) (fun _ _ _ h => h) (Or.inl ⟨by rfl, ?_⟩) hHeld ?_ ?_
                rotate_left
                · rintro w' ⟨s0, s1, s2, s3⟩
                  go_simp
                  with_reducible rfl
                rotate_left
                · simp only [Act.put, s1, s2, s3, i64_w, i32_w]
                  rfl
                refine pure_ (i := 2) (N := some 59) (v := ?_) (a' := ?_) #[true, true, true, true, false, false, true, false, false, true, false, false, false, false, false, false] rfl rfl (any_of HT_.out (by kernel_rfl)) (fun _ _ _ h => h) (Or.inl ⟨by rfl, ?_⟩) ?_ ?_
                rotate_left
                · intro w'
                  go_simp
                  with_reducible rfl
                rotate_left
                · simp only [Act.put, s1, s2, s3, i64_w, i32_w]
                  rfl
                refine pure_ (i := 12) (N := some 9) (v := ?_) (a' := ?_) #[true, true, true, true, false, false, true, false, false, true, false, false, true, false, false, false] rfl rfl (any_of HT_.out (by kernel_rfl)) (fun _ _ _ h => h) (Or.inl ⟨by rfl, ?_⟩) ?_ ?_
                rotate_left
                · intro w'
                  go_simp
                  with_reducible rfl
                rotate_left
                · simp only [Act.put, s1, s2, s3, i64_w, i32_w]
                  rfl
                refine take_ (i := 4) (N := some 61) (v := ?_) (a' := ?_) #[true, true, true, true, true, false, true, false, false, true, false, false, true, false, false, false] rfl rfl (take_ofW HT_.out HW_.out (by kernel_rfl)) (fun _ _ _ h => h) (Or.inl ⟨by rfl, ?_⟩) hHeld ?_ ?_
                rotate_left
                · rintro w' ⟨s0, s1, s2, s3⟩
                  go_simp
                  with_reducible rfl
                rotate_left
                · simp only [Act.put, s1, s2, s3, i64_w, i32_w]
                  rfl
                refine pure_ (i := 5) (N := some 62) (v := ?_) (a' := ?_) #[true, true, true, true, true, true, true, false, false, true, false, false, true, false, false, false] rfl rfl (any_of HT_.out (by kernel_rfl)) (fun _ _ _ h => h) (Or.inl ⟨by rfl, ?_⟩) ?_ ?_
                rotate_left
                · intro w'
                  go_simp
                  with_reducible rfl
                rotate_left
                · simp only [Act.put, s1, s2, s3, i64_w, i32_w]
                  rfl
                refine pure_ (i := 13) (N := some 10) (v := ?_) (a' := ?_) #[true, true, true, true, true, true, true, false, false, true, false, false, true, true, false, false] rfl rfl (any_of HT_.out (by kernel_rfl)) (fun _ _ _ h => h) (Or.inl ⟨by rfl, ?_⟩) ?_ ?_
                rotate_left
                · intro w'
                  go_simp
                  with_reducible rfl
                rotate_left
                · simp only [Act.put, s1, s2, s3, i64_w, i32_w]
                  rfl
                refine take_ (i := 7) (N := some 64) (v := ?_) (a' := ?_) #[true, true, true, true, true, true, true, true, false, true, false, false, true, true, false, false] rfl rfl (take_ofW HT_.out HW_.out (by kernel_rfl)) (fun _ _ _ h => h) (Or.inl ⟨by rfl, ?_⟩) hHeld ?_ ?_
                rotate_left
                · rintro w' ⟨s0, s1, s2, s3⟩
                  go_simp
                  with_reducible rfl
                rotate_left
                · simp only [Act.put, s1, s2, s3, i64_w, i32_w]
                  rfl
                refine pure_ (i := 8) (N := some 65) (v := ?_) (a' := ?_) #[true, true, true, true, true, true, true, true, true, true, false, false, true, true, false, false] rfl rfl (any_of HT_.out (by kernel_rfl)) (fun _ _ _ h => h) (Or.inl ⟨by rfl, ?_⟩) ?_ ?_
                rotate_left
                · intro w'
                  go_simp
                  with_reducible rfl
                rotate_left
                · simp only [Act.put, s1, s2, s3, i64_w, i32_w]
                  rfl
                refine pure_ (i := 14) (N := some 11) (v := ?_) (a' := ?_) #[true, true, true, true, true, true, true, true, true, true, false, false, true, true, true, false] rfl rfl (any_of HT_.out (by kernel_rfl)) (fun _ _ _ h => h) (Or.inl ⟨by rfl, ?_⟩) ?_ ?_
                rotate_left
                · intro w'
                  go_simp
                  with_reducible rfl
                rotate_left
                · simp only [Act.put, s1, s2, s3, i64_w, i32_w]
                  rfl
                refine take_ (i := 10) (N := some 67) (v := ?_) (a' := ?_) #[true, true, true, true, true, true, true, true, true, true, true, false, true, true, true, false] rfl rfl (take_ofW HT_.out HW_.out (by kernel_rfl)) (fun _ _ _ h => h) (Or.inl ⟨by rfl, ?_⟩) hHeld ?_ ?_
                rotate_left
                · rintro w' ⟨s0, s1, s2, s3⟩
                  go_simp
                  with_reducible rfl
                rotate_left
                · simp only [Act.put, s1, s2, s3, i64_w, i32_w]
                  rfl
                refine pure_ (i := 11) (N := some 68) (v := ?_) (a' := ?_) #[true, true, true, true, true, true, true, true, true, true, true, true, true, true, true, false] rfl rfl (any_of HT_.out (by kernel_rfl)) (fun _ _ _ h => h) (Or.inl ⟨by rfl, ?_⟩) ?_ ?_
                rotate_left
                · intro w'
                  go_simp
                  with_reducible rfl
                rotate_left
                · simp only [Act.put, s1, s2, s3, i64_w, i32_w]
                  rfl
                refine pure_ (i := 15) (N := some 12) (v := ?_) (a' := ?_) #[true, true, true, true, true, true, true, true, true, true, true, true, true, true, true, true] rfl rfl (any_of HT_.out (by kernel_rfl)) (fun _ _ _ h => h) (Or.inl ⟨by rfl, ?_⟩) ?_ ?_
                rotate_left
                · intro w'
                  go_simp
                  with_reducible rfl
                rotate_left
                · simp only [Act.put, s1, s2, s3, i64_w, i32_w]
                  rfl
                refine done_ (done_of HT_.out (by kernel_rfl)) ?_
                try go_wp2_with (first | ((with_reducible refine gate_callee (f := 44) rfl ?_); refine goesL_ (some 87) rfl rfl Try.func44 (by kernel_rfl) rfl #[.int .i64 (wrap64 ((wrap64 (a1_0)) - (wrap64 (a2_1)))), .int .i64 (wrap64 ((wrap64 (a1_1)) - (wrap64 (x439000_29))))] rfl (by (try simp only [List.map_toArray, List.map_cons, List.map_nil]); first | done | rfl | (simp only [List.length_drop, List.length_take]; rfl)) ?_; (with_reducible refine (lamplighterref19_fits.calls (wrap64 ((wrap64 (a1_0)) - (wrap64 (a2_1)))) (wrap64 ((wrap64 (a1_1)) - (wrap64 (x439000_29)))) t448 t449 _ A74.out).mono ?_); rintro e w76 ⟨rfl, hb⟩; refine ⟨_, rfl, ?_⟩; replace BK437 := bbA BK437 hb; replace BK438 := bbA BK438 hb; replace BK439 := bbA BK439 hb; replace HB := bsA HB hb; (try clear hb); (try clear hb2); (try clear hk); (try clear hi); have hnb77 := NB439_437.out; have hnc77 := NB437_439.out; have hnb78 := NB439_438.out; have hnc78 := NB438_439.out; have hcz79_0 : w76.cell? ⟨gb439, 0, none⟩ = some (.int .u32 x440000_29) := cz BK439; have hcz79_1 : w76.cell? ⟨gb439, 1, none⟩ = some (.int .u32 x440001_29) := cz BK439; have hfz79_0 := blk_frozen BK439.out 0; have hfz79_1 := blk_frozen BK439.out 1))
                refine bodyPost_ret (results_ctt rfl _ _ gb439 24 #[.int .u32 t448, .int .u32 t449] (0, 0) _ rfl (by refine bkT ?_; refine blk_put (cs := #[.int .u32 t448, .int .u32 x440001_29]) ?_ 1 _ rfl; refine bkT ?_; refine blk_put (cs := #[.int .u32 x440000_29, .int .u32 x440001_29]) ?_ 0 _ rfl; refine bkT ?_; exact BK439.out) Try.underlying24 rfl (by kernel_rfl)) rfl ?_
                exact ⟨by first | rfl | (simp [errW_none, errW_some] <;> rfl) | (simp [*, errW_none, errW_some] <;> rfl), hbA HB⟩
              rw [if_neg c73] at H; have c73b0 : (x0_29 == 2) = false := beq_eq_false_iff_ne.mpr c73; have c73b1 : (x0_29 != 2) = true := bne_iff_ne.mpr c73; by_cases c80 : x0_29 = 3
              · rw [if_pos c80] at H; have c80b0 : (x0_29 == 3) = true := beq_iff_eq.mpr c80; have c80b1 : (x0_29 != 3) = false := bne_eq_false_iff_eq.mpr c80; clear c80; have HC81 := am H; clear H
                try go_wp2
                have n0_ := am (blk_drew BK437.out)
                have n1_ := am (blk_drew BK438.out)
                have n2_ := am (blk_drew BK439.out)
                have n3_ := am (below_drew1 HB.out)
                clear BK437; clear BK438; clear BK439; clear HB; have BK437 := n0_; have BK438 := n1_; have BK439 := n2_; have HB := n3_; clear n0_ n1_ n2_ n3_; refine start_ (n := 16) (S := fun w' => w'.cell? ⟨gb437, 0, none⟩ = some (.int .u32 a1_0) ∧ w'.cell? ⟨gb437, 1, none⟩ = some (.int .u32 a1_1) ∧ w'.cell? ⟨gb438, 0, none⟩ = some (.int .u32 x439000_29) ∧ w'.cell? ⟨gb438, 1, none⟩ = some (.int .u32 a2_1)) (ds := []) #[false, false, false, false, false, false, false, false, false, false, false, false, false, false, false, false] (by kernel_rfl) rfl rfl ⟨(blk_cell BK437.out 0).trans rfl, (blk_cell BK437.out 1).trans rfl, (blk_cell BK438.out 0).trans rfl, (blk_cell BK438.out 1).trans rfl⟩ (fun hHeld => ?_); refine with_tabW lamplighterref19_Do.tab11 lamplighterref19_Do.bits11 (fun HT_ HW_ => ?_)
                generalize wc.drew = w82 at BK437 BK438 BK439 HB hHeld ⊢
                refine pure_ (i := 0) (N := some 57) (v := ?_) (a' := ?_) #[true, false, false, false, false, false, false, false, false, false, false, false, false, false, false, false] rfl rfl (any_of HT_.out (by kernel_rfl)) (fun _ _ _ h => h) (Or.inl ⟨by rfl, ?_⟩) ?_ ?_
                rotate_left
                · intro w'
                  go_simp
                  with_reducible rfl
                rotate_left
                · simp only [Act.put, s1, s2, s3, i64_w, i32_w]
                  rfl
                refine pure_ (i := 3) (N := some 60) (v := ?_) (a' := ?_) #[true, false, false, true, false, false, false, false, false, false, false, false, false, false, false, false] rfl rfl (any_of HT_.out (by kernel_rfl)) (fun _ _ _ h => h) (Or.inl ⟨by rfl, ?_⟩) ?_ ?_
                rotate_left
                · intro w'
                  go_simp
                  with_reducible rfl
                rotate_left
                · simp only [Act.put, s1, s2, s3, i64_w, i32_w]
                  rfl
                refine pure_ (i := 6) (N := some 63) (v := ?_) (a' := ?_) #[true, false, false, true, false, false, true, false, false, false, false, false, false, false, false, false] rfl rfl (any_of HT_.out (by kernel_rfl)) (fun _ _ _ h => h) (Or.inl ⟨by rfl, ?_⟩) ?_ ?_
                rotate_left
                · intro w'
                  go_simp
                  with_reducible rfl
                rotate_left
                · simp only [Act.put, s1, s2, s3, i64_w, i32_w]
                  rfl
                refine pure_ (i := 9) (N := some 66) (v := ?_) (a' := ?_) #[true, false, false, true, false, false, true, false, false, true, false, false, false, false, false, false] rfl rfl (any_of HT_.out (by kernel_rfl)) (fun _ _ _ h => h) (Or.inl ⟨by rfl, ?_⟩) ?_ ?_
                rotate_left
                · intro w'
                  go_simp
                  with_reducible rfl
                rotate_left
                · simp only [Act.put, s1, s2, s3, i64_w, i32_w]
                  rfl
                refine take_ (i := 1) (N := some 58) (v := ?_) (a' := ?_) #[true, true, false, true, false, false, true, false, false, true, false, false, false, false, false, false] rfl rfl (take_ofW HT_.out HW_.out (by kernel_rfl)) (fun _ _ _ h => h) (Or.inl ⟨by rfl, ?_⟩) hHeld ?_ ?_
                rotate_left
                · rintro w' ⟨s0, s1, s2, s3⟩
                  go_simp
                  with_reducible rfl
                rotate_left
                · simp only [Act.put, s1, s2, s3, i64_w, i32_w]
                  rfl
                refine pure_ (i := 2) (N := some 59) (v := ?_) (a' := ?_) #[true, true, true, true, false, false, true, false, false, true, false, false, false, false, false, false] rfl rfl (any_of HT_.out (by kernel_rfl)) (fun _ _ _ h => h) (Or.inl ⟨by rfl, ?_⟩) ?_ ?_
                rotate_left
                · intro w'
                  go_simp
                  with_reducible rfl
                rotate_left
                · simp only [Act.put, s1, s2, s3, i64_w, i32_w]
                  rfl
                refine pure_ (i := 12) (N := some 9) (v := ?_) (a' := ?_) #[true, true, true, true, false, false, true, false, false, true, false, false, true, false, false, false] rfl rfl (any_of HT_.out (by kernel_rfl)) (fun _ _ _ h => h) (Or.inl ⟨by rfl, ?_⟩) ?_ ?_
                rotate_left
                · intro w'
                  go_simp
                  with_reducible rfl
                rotate_left
                · simp only [Act.put, s1, s2, s3, i64_w, i32_w]
                  rfl
                refine take_ (i := 4) (N := some 61) (v := ?_) (a' := ?_) #[true, true, true, true, true, false, true, false, false, true, false, false, true, false, false, false] rfl rfl (take_ofW HT_.out HW_.out (by kernel_rfl)) (fun _ _ _ h => h) (Or.inl ⟨by rfl, ?_⟩) hHeld ?_ ?_
                rotate_left
                · rintro w' ⟨s0, s1, s2, s3⟩
                  go_simp
                  with_reducible rfl
                rotate_left
                · simp only [Act.put, s1, s2, s3, i64_w, i32_w]
                  rfl
                refine pure_ (i := 5) (N := some 62) (v := ?_) (a' := ?_) #[true, true, true, true, true, true, true, false, false, true, false, false, true, false, false, false] rfl rfl (any_of HT_.out (by kernel_rfl)) (fun _ _ _ h => h) (Or.inl ⟨by rfl, ?_⟩) ?_ ?_
                rotate_left
                · intro w'
                  go_simp
                  with_reducible rfl
                rotate_left
                · simp only [Act.put, s1, s2, s3, i64_w, i32_w]
                  rfl
                refine pure_ (i := 13) (N := some 10) (v := ?_) (a' := ?_) #[true, true, true, true, true, true, true, false, false, true, false, false, true, true, false, false] rfl rfl (any_of HT_.out (by kernel_rfl)) (fun _ _ _ h => h) (Or.inl ⟨by rfl, ?_⟩) ?_ ?_
                rotate_left
                · intro w'
                  go_simp
                  with_reducible rfl
                rotate_left
                · simp only [Act.put, s1, s2, s3, i64_w, i32_w]
                  rfl
                refine take_ (i := 7) (N := some 64) (v := ?_) (a' := ?_) #[true, true, true, true, true, true, true, true, false, true, false, false, true, true, false, false] rfl rfl (take_ofW HT_.out HW_.out (by kernel_rfl)) (fun _ _ _ h => h) (Or.inl ⟨by rfl, ?_⟩) hHeld ?_ ?_
                rotate_left
                · rintro w' ⟨s0, s1, s2, s3⟩
                  go_simp
                  with_reducible rfl
                rotate_left
                · simp only [Act.put, s1, s2, s3, i64_w, i32_w]
                  rfl
                refine pure_ (i := 8) (N := some 65) (v := ?_) (a' := ?_) #[true, true, true, true, true, true, true, true, true, true, false, false, true, true, false, false] rfl rfl (any_of HT_.out (by kernel_rfl)) (fun _ _ _ h => h) (Or.inl ⟨by rfl, ?_⟩) ?_ ?_
                rotate_left
                · intro w'
                  go_simp
                  with_reducible rfl
                rotate_left
                · simp only [Act.put, s1, s2, s3, i64_w, i32_w]
                  rfl
                refine pure_ (i := 14) (N := some 11) (v := ?_) (a' := ?_) #[true, true, true, true, true, true, true, true, true, true, false, false, true, true, true, false] rfl rfl (any_of HT_.out (by kernel_rfl)) (fun _ _ _ h => h) (Or.inl ⟨by rfl, ?_⟩) ?_ ?_
                rotate_left
                · intro w'
                  go_simp
                  with_reducible rfl
                rotate_left
                · simp only [Act.put, s1, s2, s3, i64_w, i32_w]
                  rfl
                refine take_ (i := 10) (N := some 67) (v := ?_) (a' := ?_) #[true, true, true, true, true, true, true, true, true, true, true, false, true, true, true, false] rfl rfl (take_ofW HT_.out HW_.out (by kernel_rfl)) (fun _ _ _ h => h) (Or.inl ⟨by rfl, ?_⟩) hHeld ?_ ?_
                rotate_left
                · rintro w' ⟨s0, s1, s2, s3⟩
                  go_simp
                  with_reducible rfl
                rotate_left
                · simp only [Act.put, s1, s2, s3, i64_w, i32_w]
                  rfl
                refine pure_ (i := 11) (N := some 68) (v := ?_) (a' := ?_) #[true, true, true, true, true, true, true, true, true, true, true, true, true, true, true, false] rfl rfl (any_of HT_.out (by kernel_rfl)) (fun _ _ _ h => h) (Or.inl ⟨by rfl, ?_⟩) ?_ ?_
                rotate_left
                · intro w'
                  go_simp
                  with_reducible rfl
                rotate_left
                · simp only [Act.put, s1, s2, s3, i64_w, i32_w]
                  rfl
                refine pure_ (i := 15) (N := some 12) (v := ?_) (a' := ?_) #[true, true, true, true, true, true, true, true, true, true, true, true, true, true, true, true] rfl rfl (any_of HT_.out (by kernel_rfl)) (fun _ _ _ h => h) (Or.inl ⟨by rfl, ?_⟩) ?_ ?_
                rotate_left
                · intro w'
                  go_simp
                  with_reducible rfl
                rotate_left
                · simp only [Act.put, s1, s2, s3, i64_w, i32_w]
                  rfl
                refine done_ (done_of HT_.out (by kernel_rfl)) ?_
                go_upto_region 18 with (fail)
                go_cut [97] (fun v97 wc => ∃ (kq : Nat) (x97_80 : Bool), v97 = .bool x97_80 ∧ Aside0 (lamplighterref19_Do.j3 kq x97_80 a1_0 a1_1 x439000_29 a2_1 = some (r1, r2, r3, r4)) ∧ Aside0 (kq ≤ kj29) ∧ Aside0 (wc.heap[gb437]? = some (.cells #[.int .u32 a1_0, .int .u32 a1_1] 24 (0, 0))) ∧ Aside0 (wc.heap[gb438]? = some (.cells #[.int .u32 x439000_29, .int .u32 a2_1] 24 (0, 0))) ∧ Aside0 (wc.heap[gb439]? = some (.cells #[.int .u32 x440000_29, .int .u32 x440001_29] 24 (0, 0))) ∧ Aside0 (Below w.heap.size w wc))
                case first => as_aux_lemma =>
                  have H := HC81.out
                  clear HC81; by_cases c83 : (wrap64 (a2_1)) > 0
                  · rw [if_pos c83] at H; have c83b0 : decide (0 < (wrap64 (a2_1))) = true := decide_eq_true c83; clear c83; (first | rw [c83b0] | (simp only [i64_w, i32_w]; rw [c83b0]) | skip)
                    by_cases c84 : (wrap64 (a2_1)) = 0
                    · rw [if_pos c84] at H; exact absurd H (by simp)
                    rw [if_neg c84] at H; have c84b0 : ((wrap64 (a2_1)) == 0) = false := beq_eq_false_iff_ne.mpr c84; have c84b1 : ((wrap64 (a2_1)) != 0) = true := bne_iff_ne.mpr c84; have H' := am H; clear H
                    go_wp2
                    go_meet
                    case rel => exact ⟨_, (decide ((wrap64 (a1_1)) > (wrap64 ((4294967295 : Int) / (wrap64 (a2_1)))))), (by first | rfl | (simp; done) | (simp [*]; done) | (congr 1; omega) | (congr 2; omega) | (rw [Int.tdiv_eq_ediv_of_nonneg (by decide)]; done)), H', ⟨by have := HJ3.out; have := HJ27.out; have := HJ29.out; first | omega | exact Nat.le_refl _⟩, ⟨by refine bkT ?_; exact BK437.out⟩, ⟨by refine bkT ?_; exact BK438.out⟩, ⟨by refine bkT ?_; exact BK439.out⟩, ⟨by repeat (first | (with_reducible first | exact HB.out | apply below_alloc | apply pw_below_drewN | apply below_drew1 | refine below_set ?_ GE437.out | refine below_set ?_ GE438.out | refine below_set ?_ GE439.out) | exact HB.out)⟩⟩
                  rw [if_neg c83] at H; have c83b0 : decide (0 < (wrap64 (a2_1))) = false := decide_eq_false c83; clear c83; (first | rw [c83b0] | (simp only [i64_w, i32_w]; rw [c83b0]) | skip)
                  have H' := am H; clear H
                  go_wp2
                  go_meet
                  case rel => exact ⟨_, (false), (by first | rfl | (simp; done) | (simp [*]; done) | (congr 1; omega) | (congr 2; omega) | (rw [Int.tdiv_eq_ediv_of_nonneg (by decide)]; done)), H', ⟨by have := HJ3.out; have := HJ27.out; have := HJ29.out; first | omega | exact Nat.le_refl _⟩, ⟨by refine bkT ?_; exact BK437.out⟩, ⟨by refine bkT ?_; exact BK438.out⟩, ⟨by refine bkT ?_; exact BK439.out⟩, ⟨by repeat (first | (with_reducible first | exact HB.out | apply below_alloc | apply pw_below_drewN | apply below_drew1 | refine below_set ?_ GE437.out | refine below_set ?_ GE438.out | refine below_set ?_ GE439.out) | exact HB.out)⟩⟩
                case rest => as_aux_lemma =>
                  clear HC81
                  try clear p2
                  try clear c3
                  try clear c4
                  try clear c5
                  try clear c6
                  try clear p6
                  try clear c7
                  try clear c8
                  try clear c32
                  try clear c32b1
                  try clear c33
                  try clear c34
                  try clear c36
                  try clear c39
                  try clear c39b0
                  try clear c40
                  try clear c40b0
                  try clear c42
                  try clear c43
                  try clear c44
                  try clear c45
                  try clear c49
                  try clear c49b0
                  try clear c51
                  try clear c52
                  try clear c54
                  try clear c58
                  try clear c59
                  try clear c61
                  try clear c63
                  try clear c64
                  try clear p64
                  try clear c66
                  try clear c66b0
                  try clear c66b1
                  try clear c70
                  try clear c71
                  try clear c73
                  try clear c73b0
                  try clear c73b1
                  try clear c77
                  try clear c78
                  try clear c80
                  try clear c80b0
                  try clear c80b1
                  try clear c83
                  try clear c83b0
                  try clear c84
                  try clear c84b0
                  try clear c84b1
                  try clear hcz15_0
                  try clear hcz15_1
                  try clear hcz18_0
                  try clear hcz18_1
                  try clear hcz22_0
                  try clear hcz22_1
                  try clear hcz27_0
                  try clear hcz27_1
                  try clear hcz35_0
                  try clear hcz35_1
                  try clear hcz37_0
                  try clear hcz37_1
                  try clear hcz44_0
                  try clear hcz44_1
                  try clear hcz46_0
                  try clear hcz46_1
                  try clear hcz48_0
                  try clear hcz48_1
                  try clear hcz53_0
                  try clear hcz53_1
                  try clear hcz55_0
                  try clear hcz55_1
                  try clear hcz57_0
                  try clear hcz57_1
                  try clear hcz60_0
                  try clear hcz60_1
                  try clear hcz62_0
                  try clear hcz62_1
                  try clear hcz65_0
                  try clear hcz65_1
                  try clear hcz72_0
                  try clear hcz72_1
                  try clear hcz79_0
                  try clear hcz79_1
                  try clear hfz15_0
                  try clear hfz15_1
                  try clear hfz18_0
                  try clear hfz18_1
                  try clear hfz22_0
                  try clear hfz22_1
                  try clear hfz27_0
                  try clear hfz27_1
                  try clear hfz35_0
                  try clear hfz35_1
                  try clear hfz37_0
                  try clear hfz37_1
                  try clear hfz44_0
                  try clear hfz44_1
                  try clear hfz46_0
                  try clear hfz46_1
                  try clear hfz48_0
                  try clear hfz48_1
                  try clear hfz53_0
                  try clear hfz53_1
                  try clear hfz55_0
                  try clear hfz55_1
                  try clear hfz57_0
                  try clear hfz57_1
                  try clear hfz60_0
                  try clear hfz60_1
                  try clear hfz62_0
                  try clear hfz62_1
                  try clear hfz65_0
                  try clear hfz65_1
                  try clear hfz72_0
                  try clear hfz72_1
                  try clear hfz79_0
                  try clear hfz79_1
                  try clear p2
                  try clear p64
                  obtain ⟨kq, x97_80, rfl, HA, HJ80, BK437, BK438, BK439, HB⟩ := hcut
                  cases kq with
                  | zero => exact absurd HA.out (by simp [lamplighterref19_Do.j3])
                  | succ kj80 =>
                    have H := HA.out
                    clear HA; simp only [lamplighterref19_Do.j3] at H
                    by_cases c85 : x97_80 = true
                    · subst c85; have H1 : ((lamplighterref19_All.f).bind fun bt450 => (some (bt450.1, bt450.2, true, 0))) = some (r1, r2, r3, r4) := by rw [if_pos rfl] at H; exact H
                      clear H; have H := H1; clear H1; replace H := Option.bind_eq_some_iff.mp H; obtain ⟨⟨t450, t451⟩, A860, H⟩ := H; replace H : (some (t450, t451, true, 0)) = some (r1, r2, r3, r4) := H; have A86 := am A860; clear A860; simp only [Option.some.injEq, Prod.mk.injEq] at H; obtain ⟨rfl, rfl, rfl, rfl⟩ := H
                      go_wp2_with (first | ((with_reducible refine gate_callee (f := 42) rfl ?_); refine goesL_ (some 98) rfl rfl Try.func42 (by kernel_rfl) rfl #[] rfl (by (try simp only [List.map_toArray, List.map_cons, List.map_nil]); first | done | rfl | (simp only [List.length_drop, List.length_take]; rfl)) ?_; (with_reducible refine (lamplighterref19_All.calls  t450 t451 _ A86.out).mono ?_); rintro e w87 ⟨rfl, hb⟩; refine ⟨_, rfl, ?_⟩; replace BK437 := bbA BK437 hb; replace BK438 := bbA BK438 hb; replace BK439 := bbA BK439 hb; replace HB := bsA HB hb; (try clear hb); (try clear hb2); (try clear hk); (try clear hi); have hnb88 := NB439_437.out; have hnc88 := NB437_439.out; have hnb89 := NB439_438.out; have hnc89 := NB438_439.out; have hcz90_0 : w87.cell? ⟨gb439, 0, none⟩ = some (.int .u32 x440000_29) := cz BK439; have hcz90_1 : w87.cell? ⟨gb439, 1, none⟩ = some (.int .u32 x440001_29) := cz BK439; have hfz90_0 := blk_frozen BK439.out 0; have hfz90_1 := blk_frozen BK439.out 1))
                      refine bodyPost_ret (results_ctt rfl _ _ gb439 24 #[.int .u32 t450, .int .u32 t451] (0, 0) _ rfl (by refine bkT ?_; refine blk_put (cs := #[.int .u32 t450, .int .u32 x440001_29]) ?_ 1 _ rfl; refine bkT ?_; refine blk_put (cs := #[.int .u32 x440000_29, .int .u32 x440001_29]) ?_ 0 _ rfl; refine bkT ?_; exact BK439.out) Try.underlying24 rfl (by kernel_rfl)) rfl ?_
                      exact ⟨by first | rfl | (simp [errW_none, errW_some] <;> rfl) | (simp [*, errW_none, errW_some] <;> rfl), hbA HB⟩
                    replace c85 := Bool.eq_false_iff.mpr c85; subst c85; have H1 : (some ((a1_0 * x439000_29) % 4294967296, (a1_1 * a2_1) % 4294967296, true, 0)) = some (r1, r2, r3, r4) := by rw [if_neg (show ¬ (false = true) by decide)] at H; exact H
                    clear H; have H := H1; clear H1; simp only [Option.some.injEq, Prod.mk.injEq] at H; obtain ⟨rfl, rfl, rfl, rfl⟩ := H; have hnb91 := NB437_438.out
                    have hnc91 := NB438_437.out
                    have hnb92 := NB437_439.out
                    have hnc92 := NB439_437.out
                    have hcz93_0 : wc.cell? ⟨gb437, 0, none⟩ = some (.int .u32 a1_0) := cz BK437
                    have hcz93_1 : wc.cell? ⟨gb437, 1, none⟩ = some (.int .u32 a1_1) := cz BK437
                    have hfz93_0 := blk_frozen BK437.out 0
                    have hfz93_1 := blk_frozen BK437.out 1
                    have hnb94 := NB438_439.out
                    have hnc94 := NB439_438.out
                    have hcz95_0 : wc.cell? ⟨gb438, 0, none⟩ = some (.int .u32 x439000_29) := cz BK438
                    have hcz95_1 : wc.cell? ⟨gb438, 1, none⟩ = some (.int .u32 a2_1) := cz BK438
                    have hfz95_0 := blk_frozen BK438.out 0
                    have hfz95_1 := blk_frozen BK438.out 1
                    have hcz96_0 : wc.cell? ⟨gb439, 0, none⟩ = some (.int .u32 x440000_29) := cz BK439
                    have hcz96_1 : wc.cell? ⟨gb439, 1, none⟩ = some (.int .u32 x440001_29) := cz BK439
                    have hfz96_0 := blk_frozen BK439.out 0
                    have hfz96_1 := blk_frozen BK439.out 1
                    go_wp2
                    refine bodyPost_ret (results_ctt rfl _ _ gb439 24 #[.int .u32 ((a1_0 * x439000_29) % 4294967296), .int .u32 ((a1_1 * a2_1) % 4294967296)] (0, 0) _ rfl (by refine bkT ?_; refine blk_put (cs := #[.int .u32 ((a1_0 * x439000_29) % 4294967296), .int .u32 x440001_29]) ?_ 1 _ rfl; refine bkT ?_; refine blk_put (cs := #[.int .u32 x440000_29, .int .u32 x440001_29]) ?_ 0 _ rfl; refine bkT ?_; exact BK439.out) Try.underlying24 rfl (by kernel_rfl)) rfl ?_
                    exact ⟨by first | rfl | (simp [errW_none, errW_some] <;> rfl) | (simp [*, errW_none, errW_some] <;> rfl), hbA HB⟩
              rw [if_neg c80] at H; have c80b0 : (x0_29 == 3) = false := beq_eq_false_iff_ne.mpr c80; have c80b1 : (x0_29 != 3) = true := bne_iff_ne.mpr c80; by_cases c97 : x0_29 = 4
              · rw [if_pos c97] at H; have c97b0 : (x0_29 == 4) = true := beq_iff_eq.mpr c97; have c97b1 : (x0_29 != 4) = false := bne_eq_false_iff_eq.mpr c97; clear c97; by_cases c98 : a2_1 = 0
                · rw [if_pos c98] at H; exact absurd H (by simp)
                rw [if_neg c98] at H; have c98b0 : (a2_1 == 0) = false := beq_eq_false_iff_ne.mpr c98; have c98b1 : (a2_1 != 0) = true := bne_iff_ne.mpr c98; by_cases c99 : x439000_29 = 0
                · rw [if_pos c99] at H; exact absurd H (by simp)
                rw [if_neg c99] at H; have c99b0 : (x439000_29 == 0) = false := beq_eq_false_iff_ne.mpr c99; have c99b1 : (x439000_29 != 0) = true := bne_iff_ne.mpr c99; simp only [Option.some.injEq, Prod.mk.injEq] at H; obtain ⟨rfl, rfl, rfl, rfl⟩ := H
                try go_wp2
                have n0_ := am (blk_drew BK437.out)
                have n1_ := am (blk_drew BK438.out)
                have n2_ := am (blk_drew BK439.out)
                have n3_ := am (below_drew1 HB.out)
                clear BK437; clear BK438; clear BK439; clear HB; have BK437 := n0_; have BK438 := n1_; have BK439 := n2_; have HB := n3_; clear n0_ n1_ n2_ n3_; refine start_ (n := 16) (S := fun w' => w'.cell? ⟨gb437, 0, none⟩ = some (.int .u32 a1_0) ∧ w'.cell? ⟨gb437, 1, none⟩ = some (.int .u32 a1_1) ∧ w'.cell? ⟨gb438, 0, none⟩ = some (.int .u32 x439000_29) ∧ w'.cell? ⟨gb438, 1, none⟩ = some (.int .u32 a2_1)) (ds := []) #[false, false, false, false, false, false, false, false, false, false, false, false, false, false, false, false] (by kernel_rfl) rfl rfl ⟨(blk_cell BK437.out 0).trans rfl, (blk_cell BK437.out 1).trans rfl, (blk_cell BK438.out 0).trans rfl, (blk_cell BK438.out 1).trans rfl⟩ (fun hHeld => ?_); refine with_tabW lamplighterref19_Do.tab11 lamplighterref19_Do.bits11 (fun HT_ HW_ => ?_)
                generalize wc.drew = w100 at BK437 BK438 BK439 HB hHeld ⊢
                refine pure_ (i := 0) (N := some 57) (v := ?_) (a' := ?_) #[true, false, false, false, false, false, false, false, false, false, false, false, false, false, false, false] rfl rfl (any_of HT_.out (by kernel_rfl)) (fun _ _ _ h => h) (Or.inl ⟨by rfl, ?_⟩) ?_ ?_
                rotate_left
                · intro w'
                  go_simp
                  with_reducible rfl
                rotate_left
                · simp only [Act.put, s1, s2, s3, i64_w, i32_w]
                  rfl
                refine pure_ (i := 3) (N := some 60) (v := ?_) (a' := ?_) #[true, false, false, true, false, false, false, false, false, false, false, false, false, false, false, false] rfl rfl (any_of HT_.out (by kernel_rfl)) (fun _ _ _ h => h) (Or.inl ⟨by rfl, ?_⟩) ?_ ?_
                rotate_left
                · intro w'
                  go_simp
                  with_reducible rfl
                rotate_left
                · simp only [Act.put, s1, s2, s3, i64_w, i32_w]
                  rfl
                refine pure_ (i := 6) (N := some 63) (v := ?_) (a' := ?_) #[true, false, false, true, false, false, true, false, false, false, false, false, false, false, false, false] rfl rfl (any_of HT_.out (by kernel_rfl)) (fun _ _ _ h => h) (Or.inl ⟨by rfl, ?_⟩) ?_ ?_
                rotate_left
                · intro w'
                  go_simp
                  with_reducible rfl
                rotate_left
                · simp only [Act.put, s1, s2, s3, i64_w, i32_w]
                  rfl
                refine pure_ (i := 9) (N := some 66) (v := ?_) (a' := ?_) #[true, false, false, true, false, false, true, false, false, true, false, false, false, false, false, false] rfl rfl (any_of HT_.out (by kernel_rfl)) (fun _ _ _ h => h) (Or.inl ⟨by rfl, ?_⟩) ?_ ?_
                rotate_left
                · intro w'
                  go_simp
                  with_reducible rfl
                rotate_left
                · simp only [Act.put, s1, s2, s3, i64_w, i32_w]
                  rfl
                refine take_ (i := 1) (N := some 58) (v := ?_) (a' := ?_) #[true, true, false, true, false, false, true, false, false, true, false, false, false, false, false, false] rfl rfl (take_ofW HT_.out HW_.out (by kernel_rfl)) (fun _ _ _ h => h) (Or.inl ⟨by rfl, ?_⟩) hHeld ?_ ?_
                rotate_left
                · rintro w' ⟨s0, s1, s2, s3⟩
                  go_simp
                  with_reducible rfl
                rotate_left
                · simp only [Act.put, s1, s2, s3, i64_w, i32_w]
                  rfl
                refine pure_ (i := 2) (N := some 59) (v := ?_) (a' := ?_) #[true, true, true, true, false, false, true, false, false, true, false, false, false, false, false, false] rfl rfl (any_of HT_.out (by kernel_rfl)) (fun _ _ _ h => h) (Or.inl ⟨by rfl, ?_⟩) ?_ ?_
                rotate_left
                · intro w'
                  go_simp
                  with_reducible rfl
                rotate_left
                · simp only [Act.put, s1, s2, s3, i64_w, i32_w]
                  rfl
                refine pure_ (i := 12) (N := some 9) (v := ?_) (a' := ?_) #[true, true, true, true, false, false, true, false, false, true, false, false, true, false, false, false] rfl rfl (any_of HT_.out (by kernel_rfl)) (fun _ _ _ h => h) (Or.inl ⟨by rfl, ?_⟩) ?_ ?_
                rotate_left
                · intro w'
                  go_simp
                  with_reducible rfl
                rotate_left
                · simp only [Act.put, s1, s2, s3, i64_w, i32_w]
                  rfl
                refine take_ (i := 4) (N := some 61) (v := ?_) (a' := ?_) #[true, true, true, true, true, false, true, false, false, true, false, false, true, false, false, false] rfl rfl (take_ofW HT_.out HW_.out (by kernel_rfl)) (fun _ _ _ h => h) (Or.inl ⟨by rfl, ?_⟩) hHeld ?_ ?_
                rotate_left
                · rintro w' ⟨s0, s1, s2, s3⟩
                  go_simp
                  with_reducible rfl
                rotate_left
                · simp only [Act.put, s1, s2, s3, i64_w, i32_w]
                  rfl
                refine pure_ (i := 5) (N := some 62) (v := ?_) (a' := ?_) #[true, true, true, true, true, true, true, false, false, true, false, false, true, false, false, false] rfl rfl (any_of HT_.out (by kernel_rfl)) (fun _ _ _ h => h) (Or.inl ⟨by rfl, ?_⟩) ?_ ?_
                rotate_left
                · intro w'
                  go_simp
                  with_reducible rfl
                rotate_left
                · simp only [Act.put, s1, s2, s3, i64_w, i32_w]
                  rfl
                refine pure_ (i := 13) (N := some 10) (v := ?_) (a' := ?_) #[true, true, true, true, true, true, true, false, false, true, false, false, true, true, false, false] rfl rfl (any_of HT_.out (by kernel_rfl)) (fun _ _ _ h => h) (Or.inl ⟨by rfl, ?_⟩) ?_ ?_
                rotate_left
                · intro w'
                  go_simp
                  with_reducible rfl
                rotate_left
                · simp only [Act.put, s1, s2, s3, i64_w, i32_w]
                  rfl
                refine take_ (i := 7) (N := some 64) (v := ?_) (a' := ?_) #[true, true, true, true, true, true, true, true, false, true, false, false, true, true, false, false] rfl rfl (take_ofW HT_.out HW_.out (by kernel_rfl)) (fun _ _ _ h => h) (Or.inl ⟨by rfl, ?_⟩) hHeld ?_ ?_
                rotate_left
                · rintro w' ⟨s0, s1, s2, s3⟩
                  go_simp
                  with_reducible rfl
                rotate_left
                · simp only [Act.put, s1, s2, s3, i64_w, i32_w]
                  rfl
                refine pure_ (i := 8) (N := some 65) (v := ?_) (a' := ?_) #[true, true, true, true, true, true, true, true, true, true, false, false, true, true, false, false] rfl rfl (any_of HT_.out (by kernel_rfl)) (fun _ _ _ h => h) (Or.inl ⟨by rfl, ?_⟩) ?_ ?_
                rotate_left
                · intro w'
                  go_simp
                  with_reducible rfl
                rotate_left
                · simp only [Act.put, s1, s2, s3, i64_w, i32_w]
                  rfl
                refine pure_ (i := 14) (N := some 11) (v := ?_) (a' := ?_) #[true, true, true, true, true, true, true, true, true, true, false, false, true, true, true, false] rfl rfl (any_of HT_.out (by kernel_rfl)) (fun _ _ _ h => h) (Or.inl ⟨by rfl, ?_⟩) ?_ ?_
                rotate_left
                · intro w'
                  go_simp
                  with_reducible rfl
                rotate_left
                · simp only [Act.put, s1, s2, s3, i64_w, i32_w]
                  rfl
                refine take_ (i := 10) (N := some 67) (v := ?_) (a' := ?_) #[true, true, true, true, true, true, true, true, true, true, true, false, true, true, true, false] rfl rfl (take_ofW HT_.out HW_.out (by kernel_rfl)) (fun _ _ _ h => h) (Or.inl ⟨by rfl, ?_⟩) hHeld ?_ ?_
                rotate_left
                · rintro w' ⟨s0, s1, s2, s3⟩
                  go_simp
                  with_reducible rfl
                rotate_left
                · simp only [Act.put, s1, s2, s3, i64_w, i32_w]
                  rfl
                refine pure_ (i := 11) (N := some 68) (v := ?_) (a' := ?_) #[true, true, true, true, true, true, true, true, true, true, true, true, true, true, true, false] rfl rfl (any_of HT_.out (by kernel_rfl)) (fun _ _ _ h => h) (Or.inl ⟨by rfl, ?_⟩) ?_ ?_
                rotate_left
                · intro w'
                  go_simp
                  with_reducible rfl
                rotate_left
                · simp only [Act.put, s1, s2, s3, i64_w, i32_w]
                  rfl
                refine pure_ (i := 15) (N := some 12) (v := ?_) (a' := ?_) #[true, true, true, true, true, true, true, true, true, true, true, true, true, true, true, true] rfl rfl (any_of HT_.out (by kernel_rfl)) (fun _ _ _ h => h) (Or.inl ⟨by rfl, ?_⟩) ?_ ?_
                rotate_left
                · intro w'
                  go_simp
                  with_reducible rfl
                rotate_left
                · simp only [Act.put, s1, s2, s3, i64_w, i32_w]
                  rfl
                refine done_ (done_of HT_.out (by kernel_rfl)) ?_
                try go_wp2
                have n0_ := am (blk_drew BK437.out)
                have n1_ := am (blk_drew BK438.out)
                have n2_ := am (blk_drew BK439.out)
                have n3_ := am (below_drew1 HB.out)
                clear BK437; clear BK438; clear BK439; clear HB; have BK437 := n0_; have BK438 := n1_; have BK439 := n2_; have HB := n3_; clear n0_ n1_ n2_ n3_; refine start_ (n := 14) (S := fun w' => w'.cell? ⟨gb437, 0, none⟩ = some (.int .u32 a1_0) ∧ w'.cell? ⟨gb437, 1, none⟩ = some (.int .u32 a1_1) ∧ w'.cell? ⟨gb438, 0, none⟩ = some (.int .u32 x439000_29) ∧ w'.cell? ⟨gb438, 1, none⟩ = some (.int .u32 a2_1)) (ds := []) #[false, false, false, false, false, false, false, false, false, false, false, false, false, false] (by kernel_rfl) rfl rfl ⟨(blk_cell BK437.out 0).trans rfl, (blk_cell BK437.out 1).trans rfl, (blk_cell BK438.out 0).trans rfl, (blk_cell BK438.out 1).trans rfl⟩ (fun hHeld => ?_); refine with_tabW lamplighterref19_Do.tab22 lamplighterref19_Do.bits22 (fun HT_ HW_ => ?_)
                generalize w100.drew = w101 at BK437 BK438 BK439 HB hHeld ⊢
                refine pure_ (i := 0) (N := some 112) (v := ?_) (a' := ?_) #[true, false, false, false, false, false, false, false, false, false, false, false, false, false] rfl rfl (any_of HT_.out (by kernel_rfl)) (fun _ _ _ h => h) (Or.inl ⟨by rfl, ?_⟩) ?_ ?_
                rotate_left
                · intro w'
                  go_simp
                  with_reducible rfl
                rotate_left
                · simp only [Act.put, s1, s2, s3, i64_w, i32_w]
                  rfl
                refine pure_ (i := 2) (N := some 114) (v := ?_) (a' := ?_) #[true, false, true, false, false, false, false, false, false, false, false, false, false, false] rfl rfl (any_of HT_.out (by kernel_rfl)) (fun _ _ _ h => h) (Or.inl ⟨by rfl, ?_⟩) ?_ ?_
                rotate_left
                · intro w'
                  go_simp
                  with_reducible rfl
                rotate_left
                · simp only [Act.put, s1, s2, s3, i64_w, i32_w]
                  rfl
                refine pure_ (i := 5) (N := some 117) (v := ?_) (a' := ?_) #[true, false, true, false, false, true, false, false, false, false, false, false, false, false] rfl rfl (any_of HT_.out (by kernel_rfl)) (fun _ _ _ h => h) (Or.inl ⟨by rfl, ?_⟩) ?_ ?_
                rotate_left
                · intro w'
                  go_simp
                  with_reducible rfl
                rotate_left
                · simp only [Act.put, s1, s2, s3, i64_w, i32_w]
                  rfl
                refine pure_ (i := 7) (N := some 119) (v := ?_) (a' := ?_) #[true, false, true, false, false, true, false, true, false, false, false, false, false, false] rfl rfl (any_of HT_.out (by kernel_rfl)) (fun _ _ _ h => h) (Or.inl ⟨by rfl, ?_⟩) ?_ ?_
                rotate_left
                · intro w'
                  go_simp
                  with_reducible rfl
                rotate_left
                · simp only [Act.put, s1, s2, s3, i64_w, i32_w]
                  rfl
                refine take_ (i := 1) (N := some 113) (v := ?_) (a' := ?_) #[true, true, true, false, false, true, false, true, false, false, false, false, false, false] rfl rfl (take_ofW HT_.out HW_.out (by kernel_rfl)) (fun _ _ _ h => h) (Or.inl ⟨by rfl, ?_⟩) hHeld ?_ ?_
                rotate_left
                · rintro w' ⟨s0, s1, s2, s3⟩
                  go_simp
                  with_reducible rfl
                rotate_left
                · simp only [Act.put, s1, s2, s3, i64_w, i32_w]
                  rfl
                refine take_ (i := 3) (N := some 115) (v := ?_) (a' := ?_) #[true, true, true, true, false, true, false, true, false, false, false, false, false, false] rfl rfl (take_ofW HT_.out HW_.out (by kernel_rfl)) (fun _ _ _ h => h) (Or.inl ⟨by rfl, ?_⟩) hHeld ?_ ?_
                rotate_left
                · rintro w' ⟨s0, s1, s2, s3⟩
                  go_simp
                  with_reducible rfl
                rotate_left
                · simp only [Act.put, s1, s2, s3, i64_w, i32_w]
                  rfl
                refine pure_ (i := 4) (N := some 116) (v := ?_) (a' := ?_) #[true, true, true, true, true, true, false, true, false, false, false, false, false, false] rfl rfl (any_of HT_.out (by kernel_rfl)) (fun _ _ _ h => h) (Or.inl ⟨by rfl, ?_⟩) ?_ ?_
                rotate_left
                · intro w'
                  go_simp
                  with_reducible rfl
                rotate_left
                · simp only [Act.put, s1, s2, s3, i64_w, i32_w]
                  rfl
                refine take_ (i := 6) (N := some 118) (v := ?_) (a' := ?_) #[true, true, true, true, true, true, true, true, false, false, false, false, false, false] rfl rfl (take_ofW HT_.out HW_.out (by kernel_rfl)) (fun _ _ _ h => h) (Or.inl ⟨by rfl, ?_⟩) hHeld ?_ ?_
                rotate_left
                · rintro w' ⟨s0, s1, s2, s3⟩
                  go_simp
                  with_reducible rfl
                rotate_left
                · simp only [Act.put, s1, s2, s3, i64_w, i32_w]
                  rfl
                refine take_ (i := 8) (N := some 120) (v := ?_) (a' := ?_) #[true, true, true, true, true, true, true, true, true, false, false, false, false, false] rfl rfl (take_ofW HT_.out HW_.out (by kernel_rfl)) (fun _ _ _ h => h) (Or.inl ⟨by rfl, ?_⟩) hHeld ?_ ?_
                rotate_left
                · rintro w' ⟨s0, s1, s2, s3⟩
                  go_simp
                  with_reducible rfl
                rotate_left
                · simp only [Act.put, s1, s2, s3, i64_w, i32_w]
                  rfl
                refine pure_ (i := 9) (N := some 121) (v := ?_) (a' := ?_) #[true, true, true, true, true, true, true, true, true, true, false, false, false, false] rfl rfl (any_of HT_.out (by kernel_rfl)) (fun _ _ _ h => h) (Or.inl ⟨by rfl, ?_⟩) ?_ ?_
                rotate_left
                · intro w'
                  go_simp
                  with_reducible rfl
                rotate_left
                · simp only [Act.put, s1, s2, s3, i64_w, i32_w]
                  rfl
                refine pure_ (i := 10) (N := some 122) (v := ?_) (a' := ?_) #[true, true, true, true, true, true, true, true, true, true, true, false, false, false] rfl rfl (any_of HT_.out (by kernel_rfl)) (fun _ _ _ h => h) (Or.inl ⟨by rfl, ?_⟩) ?_ ?_
                rotate_left
                · intro w'
                  go_simp
                  with_reducible rfl
                rotate_left
                · simp only [Act.put, s1, s2, s3, i64_w, i32_w]
                  rfl
                refine one_ (i := 11) (N := none) #[true, true, true, true, true, true, true, true, true, true, true, true, false, false] rfl rfl (one_of HT_.out (by kernel_rfl)) (by decide) (fun K hK => ?_)
                have hs102 : w101.cell? ⟨gb439, 0, none⟩ = some (.int .u32 x440000_29) := cz BK439
                have hfs102 := blk_frozen BK439.out 0
                have hns102_0 := NB437_439.out
                have hns102_1 := NB438_439.out
                have hms102_0 := NB439_437.out
                have hms102_1 := NB439_438.out
                have hs103 : w101.cell? ⟨gb439, 1, none⟩ = some (.int .u32 x440001_29) := cz BK439
                have hfs103 := blk_frozen BK439.out 1
                have hns103_0 := NB437_439.out
                have hns103_1 := NB438_439.out
                have hms103_0 := NB439_437.out
                have hms103_1 := NB439_438.out
                refine skip_ (w1 := ?_) (by rfl) rfl ?_ ?_
                rotate_left
                · go_simp
                  rfl
                refine hK.out _ _ ⟨((cell_far (p := ⟨gb439, _, none⟩) NB437_439.out _).trans (((cell_far (p := ⟨gb439, _, none⟩) NB437_439.out _).trans (hHeld.1)))), ((cell_far (p := ⟨gb439, _, none⟩) NB437_439.out _).trans (((cell_far (p := ⟨gb439, _, none⟩) NB437_439.out _).trans (hHeld.2.1)))), ((cell_far (p := ⟨gb439, _, none⟩) NB438_439.out _).trans (((cell_far (p := ⟨gb439, _, none⟩) NB438_439.out _).trans (hHeld.2.2.1)))), ((cell_far (p := ⟨gb439, _, none⟩) NB438_439.out _).trans (((cell_far (p := ⟨gb439, _, none⟩) NB438_439.out _).trans (hHeld.2.2.2))))⟩ (fun hHeld => ?_)
                clear hK K; refine pure_ (i := 12) (N := some 7) (v := ?_) (a' := ?_) #[true, true, true, true, true, true, true, true, true, true, true, true, true, false] rfl rfl (any_of HT_.out (by kernel_rfl)) (fun _ _ _ h => h) (Or.inl ⟨by rfl, ?_⟩) ?_ ?_
                rotate_left
                · intro w'
                  go_simp
                  with_reducible rfl
                rotate_left
                · simp only [Act.put, s1, s2, s3, i64_w, i32_w]
                  rfl
                refine pure_ (i := 13) (N := some 8) (v := ?_) (a' := ?_) #[true, true, true, true, true, true, true, true, true, true, true, true, true, true] rfl rfl (any_of HT_.out (by kernel_rfl)) (fun _ _ _ h => h) (Or.inl ⟨by rfl, ?_⟩) ?_ ?_
                rotate_left
                · intro w'
                  go_simp
                  with_reducible rfl
                rotate_left
                · simp only [Act.put, s1, s2, s3, i64_w, i32_w]
                  rfl
                refine done_ (done_of HT_.out (by kernel_rfl)) ?_
                try go_wp2
                refine bodyPost_ret (results_ctt rfl _ _ gb439 24 #[.int .u32 ((Int.tdiv a1_0 a2_1) % 4294967296), .int .u32 ((Int.tdiv a1_1 x439000_29) % 4294967296)] (0, 0) _ rfl (by refine bkT ?_; refine blk_put (cs := #[.int .u32 ((Int.tdiv a1_0 a2_1) % 4294967296), .int .u32 x440001_29]) ?_ 1 _ rfl; refine bkT ?_; refine blk_put (cs := #[.int .u32 x440000_29, .int .u32 x440001_29]) ?_ 0 _ rfl; refine bkT ?_; exact BK439.out) Try.underlying24 rfl (by kernel_rfl)) rfl ?_
                exact ⟨by first | rfl | (simp [errW_none, errW_some] <;> rfl) | (simp [*, errW_none, errW_some] <;> rfl), hbA HB⟩
              rw [if_neg c97] at H; have c97b0 : (x0_29 == 4) = false := beq_eq_false_iff_ne.mpr c97; have c97b1 : (x0_29 != 4) = true := bne_iff_ne.mpr c97; by_cases c104 : x0_29 = 5
              · rw [if_pos c104] at H; have c104b0 : (x0_29 == 5) = true := beq_iff_eq.mpr c104; have c104b1 : (x0_29 != 5) = false := bne_eq_false_iff_eq.mpr c104; clear c104; by_cases c105 : a1_1 < x439000_29
                · rw [if_pos c105] at H; have c105b0 : decide (a1_1 < x439000_29) = true := decide_eq_true c105; clear c105; simp only [Option.some.injEq, Prod.mk.injEq] at H; obtain ⟨rfl, rfl, rfl, rfl⟩ := H
                  try go_wp2
                  have n0_ := am (blk_drew BK437.out)
                  have n1_ := am (blk_drew BK438.out)
                  have n2_ := am (blk_drew BK439.out)
                  have n3_ := am (below_drew1 HB.out)
                  clear BK437; clear BK438; clear BK439; clear HB; have BK437 := n0_; have BK438 := n1_; have BK439 := n2_; have HB := n3_; clear n0_ n1_ n2_ n3_; refine start_ (n := 16) (S := fun w' => w'.cell? ⟨gb437, 0, none⟩ = some (.int .u32 a1_0) ∧ w'.cell? ⟨gb437, 1, none⟩ = some (.int .u32 a1_1) ∧ w'.cell? ⟨gb438, 0, none⟩ = some (.int .u32 x439000_29) ∧ w'.cell? ⟨gb438, 1, none⟩ = some (.int .u32 a2_1)) (ds := []) #[false, false, false, false, false, false, false, false, false, false, false, false, false, false, false, false] (by kernel_rfl) rfl rfl ⟨(blk_cell BK437.out 0).trans rfl, (blk_cell BK437.out 1).trans rfl, (blk_cell BK438.out 0).trans rfl, (blk_cell BK438.out 1).trans rfl⟩ (fun hHeld => ?_); refine with_tabW lamplighterref19_Do.tab11 lamplighterref19_Do.bits11 (fun HT_ HW_ => ?_)
                  generalize wc.drew = w106 at BK437 BK438 BK439 HB hHeld ⊢
                  refine pure_ (i := 0) (N := some 57) (v := ?_) (a' := ?_) #[true, false, false, false, false, false, false, false, false, false, false, false, false, false, false, false] rfl rfl (any_of HT_.out (by kernel_rfl)) (fun _ _ _ h => h) (Or.inl ⟨by rfl, ?_⟩) ?_ ?_
                  rotate_left
                  · intro w'
                    go_simp
                    with_reducible rfl
                  rotate_left
                  · simp only [Act.put, s1, s2, s3, i64_w, i32_w]
                    rfl
                  refine pure_ (i := 3) (N := some 60) (v := ?_) (a' := ?_) #[true, false, false, true, false, false, false, false, false, false, false, false, false, false, false, false] rfl rfl (any_of HT_.out (by kernel_rfl)) (fun _ _ _ h => h) (Or.inl ⟨by rfl, ?_⟩) ?_ ?_
                  rotate_left
                  · intro w'
                    go_simp
                    with_reducible rfl
                  rotate_left
                  · simp only [Act.put, s1, s2, s3, i64_w, i32_w]
                    rfl
                  refine pure_ (i := 6) (N := some 63) (v := ?_) (a' := ?_) #[true, false, false, true, false, false, true, false, false, false, false, false, false, false, false, false] rfl rfl (any_of HT_.out (by kernel_rfl)) (fun _ _ _ h => h) (Or.inl ⟨by rfl, ?_⟩) ?_ ?_
                  rotate_left
                  · intro w'
                    go_simp
                    with_reducible rfl
                  rotate_left
                  · simp only [Act.put, s1, s2, s3, i64_w, i32_w]
                    rfl
                  refine pure_ (i := 9) (N := some 66) (v := ?_) (a' := ?_) #[true, false, false, true, false, false, true, false, false, true, false, false, false, false, false, false] rfl rfl (any_of HT_.out (by kernel_rfl)) (fun _ _ _ h => h) (Or.inl ⟨by rfl, ?_⟩) ?_ ?_
                  rotate_left
                  · intro w'
                    go_simp
                    with_reducible rfl
                  rotate_left
                  · simp only [Act.put, s1, s2, s3, i64_w, i32_w]
                    rfl
                  refine take_ (i := 1) (N := some 58) (v := ?_) (a' := ?_) #[true, true, false, true, false, false, true, false, false, true, false, false, false, false, false, false] rfl rfl (take_ofW HT_.out HW_.out (by kernel_rfl)) (fun _ _ _ h => h) (Or.inl ⟨by rfl, ?_⟩) hHeld ?_ ?_
                  rotate_left
                  · rintro w' ⟨s0, s1, s2, s3⟩
                    go_simp
                    with_reducible rfl
                  rotate_left
                  · simp only [Act.put, s1, s2, s3, i64_w, i32_w]
                    rfl
                  refine pure_ (i := 2) (N := some 59) (v := ?_) (a' := ?_) #[true, true, true, true, false, false, true, false, false, true, false, false, false, false, false, false] rfl rfl (any_of HT_.out (by kernel_rfl)) (fun _ _ _ h => h) (Or.inl ⟨by rfl, ?_⟩) ?_ ?_
                  rotate_left
                  · intro w'
                    go_simp
                    with_reducible rfl
                  rotate_left
                  · simp only [Act.put, s1, s2, s3, i64_w, i32_w]
                    rfl
                  refine pure_ (i := 12) (N := some 9) (v := ?_) (a' := ?_) #[true, true, true, true, false, false, true, false, false, true, false, false, true, false, false, false] rfl rfl (any_of HT_.out (by kernel_rfl)) (fun _ _ _ h => h) (Or.inl ⟨by rfl, ?_⟩) ?_ ?_
                  rotate_left
                  · intro w'
                    go_simp
                    with_reducible rfl
                  rotate_left
                  · simp only [Act.put, s1, s2, s3, i64_w, i32_w]
                    rfl
                  refine take_ (i := 4) (N := some 61) (v := ?_) (a' := ?_) #[true, true, true, true, true, false, true, false, false, true, false, false, true, false, false, false] rfl rfl (take_ofW HT_.out HW_.out (by kernel_rfl)) (fun _ _ _ h => h) (Or.inl ⟨by rfl, ?_⟩) hHeld ?_ ?_
                  rotate_left
                  · rintro w' ⟨s0, s1, s2, s3⟩
                    go_simp
                    with_reducible rfl
                  rotate_left
                  · simp only [Act.put, s1, s2, s3, i64_w, i32_w]
                    rfl
                  refine pure_ (i := 5) (N := some 62) (v := ?_) (a' := ?_) #[true, true, true, true, true, true, true, false, false, true, false, false, true, false, false, false] rfl rfl (any_of HT_.out (by kernel_rfl)) (fun _ _ _ h => h) (Or.inl ⟨by rfl, ?_⟩) ?_ ?_
                  rotate_left
                  · intro w'
                    go_simp
                    with_reducible rfl
                  rotate_left
                  · simp only [Act.put, s1, s2, s3, i64_w, i32_w]
                    rfl
                  refine pure_ (i := 13) (N := some 10) (v := ?_) (a' := ?_) #[true, true, true, true, true, true, true, false, false, true, false, false, true, true, false, false] rfl rfl (any_of HT_.out (by kernel_rfl)) (fun _ _ _ h => h) (Or.inl ⟨by rfl, ?_⟩) ?_ ?_
                  rotate_left
                  · intro w'
                    go_simp
                    with_reducible rfl
                  rotate_left
                  · simp only [Act.put, s1, s2, s3, i64_w, i32_w]
                    rfl
                  refine take_ (i := 7) (N := some 64) (v := ?_) (a' := ?_) #[true, true, true, true, true, true, true, true, false, true, false, false, true, true, false, false] rfl rfl (take_ofW HT_.out HW_.out (by kernel_rfl)) (fun _ _ _ h => h) (Or.inl ⟨by rfl, ?_⟩) hHeld ?_ ?_
                  rotate_left
                  · rintro w' ⟨s0, s1, s2, s3⟩
                    go_simp
                    with_reducible rfl
                  rotate_left
                  · simp only [Act.put, s1, s2, s3, i64_w, i32_w]
                    rfl
                  refine pure_ (i := 8) (N := some 65) (v := ?_) (a' := ?_) #[true, true, true, true, true, true, true, true, true, true, false, false, true, true, false, false] rfl rfl (any_of HT_.out (by kernel_rfl)) (fun _ _ _ h => h) (Or.inl ⟨by rfl, ?_⟩) ?_ ?_
                  rotate_left
                  · intro w'
                    go_simp
                    with_reducible rfl
                  rotate_left
                  · simp only [Act.put, s1, s2, s3, i64_w, i32_w]
                    rfl
                  refine pure_ (i := 14) (N := some 11) (v := ?_) (a' := ?_) #[true, true, true, true, true, true, true, true, true, true, false, false, true, true, true, false] rfl rfl (any_of HT_.out (by kernel_rfl)) (fun _ _ _ h => h) (Or.inl ⟨by rfl, ?_⟩) ?_ ?_
                  rotate_left
                  · intro w'
                    go_simp
                    with_reducible rfl
                  rotate_left
                  · simp only [Act.put, s1, s2, s3, i64_w, i32_w]
                    rfl
                  refine take_ (i := 10) (N := some 67) (v := ?_) (a' := ?_) #[true, true, true, true, true, true, true, true, true, true, true, false, true, true, true, false] rfl rfl (take_ofW HT_.out HW_.out (by kernel_rfl)) (fun _ _ _ h => h) (Or.inl ⟨by rfl, ?_⟩) hHeld ?_ ?_
                  rotate_left
                  · rintro w' ⟨s0, s1, s2, s3⟩
                    go_simp
                    with_reducible rfl
                  rotate_left
                  · simp only [Act.put, s1, s2, s3, i64_w, i32_w]
                    rfl
                  refine pure_ (i := 11) (N := some 68) (v := ?_) (a' := ?_) #[true, true, true, true, true, true, true, true, true, true, true, true, true, true, true, false] rfl rfl (any_of HT_.out (by kernel_rfl)) (fun _ _ _ h => h) (Or.inl ⟨by rfl, ?_⟩) ?_ ?_
                  rotate_left
                  · intro w'
                    go_simp
                    with_reducible rfl
                  rotate_left
                  · simp only [Act.put, s1, s2, s3, i64_w, i32_w]
                    rfl
                  refine pure_ (i := 15) (N := some 12) (v := ?_) (a' := ?_) #[true, true, true, true, true, true, true, true, true, true, true, true, true, true, true, true] rfl rfl (any_of HT_.out (by kernel_rfl)) (fun _ _ _ h => h) (Or.inl ⟨by rfl, ?_⟩) ?_ ?_
                  rotate_left
                  · intro w'
                    go_simp
                    with_reducible rfl
                  rotate_left
                  · simp only [Act.put, s1, s2, s3, i64_w, i32_w]
                    rfl
                  refine done_ (done_of HT_.out (by kernel_rfl)) ?_
                  have hnb107 := NB437_438.out
                  have hnc107 := NB438_437.out
                  have hnb108 := NB437_439.out
                  have hnc108 := NB439_437.out
                  have hcz109_0 : w106.cell? ⟨gb437, 0, none⟩ = some (.int .u32 a1_0) := cz BK437
                  have hcz109_1 : w106.cell? ⟨gb437, 1, none⟩ = some (.int .u32 a1_1) := cz BK437
                  have hfz109_0 := blk_frozen BK437.out 0
                  have hfz109_1 := blk_frozen BK437.out 1
                  have hnb110 := NB438_439.out
                  have hnc110 := NB439_438.out
                  have hcz111_0 : w106.cell? ⟨gb438, 0, none⟩ = some (.int .u32 x439000_29) := cz BK438
                  have hcz111_1 : w106.cell? ⟨gb438, 1, none⟩ = some (.int .u32 a2_1) := cz BK438
                  have hfz111_0 := blk_frozen BK438.out 0
                  have hfz111_1 := blk_frozen BK438.out 1
                  have hcz112_0 : w106.cell? ⟨gb439, 0, none⟩ = some (.int .u32 x440000_29) := cz BK439
                  have hcz112_1 : w106.cell? ⟨gb439, 1, none⟩ = some (.int .u32 x440001_29) := cz BK439
                  have hfz112_0 := blk_frozen BK439.out 0
                  have hfz112_1 := blk_frozen BK439.out 1
                  try go_wp2
                  refine bodyPost_ret (results_ctt rfl _ _ gb439 24 #[.int .u32 a1_0, .int .u32 a1_1] (0, 0) _ rfl (by refine bkT ?_; refine blk_put (cs := #[.int .u32 a1_0, .int .u32 x440001_29]) ?_ 1 _ rfl; refine bkT ?_; refine blk_put (cs := #[.int .u32 x440000_29, .int .u32 x440001_29]) ?_ 0 _ rfl; refine bkT ?_; exact BK439.out) Try.underlying24 rfl (by kernel_rfl)) rfl ?_
                  exact ⟨by first | rfl | (simp [errW_none, errW_some] <;> rfl) | (simp [*, errW_none, errW_some] <;> rfl), hbA HB⟩
                rw [if_neg c105] at H; have c105b0 : decide (a1_1 < x439000_29) = false := decide_eq_false c105; clear c105; obtain ⟨ji113, hji113⟩ : ∃ j_ : Int, (mn a1_1 ((a2_1 - 1) % 4294967296)) = j_ := ⟨_, rfl⟩
                replace H : (some (0, ji113, true, 0)) = some (r1, r2, r3, r4) := by first | (rw [hji113] at H; exact H) | (simp only [hji113] at H ⊢; exact H)
                have hji113_ : (if ((a2_1 - 1) % 4294967296) < a1_1 then ((a2_1 - 1) % 4294967296) else a1_1) = ji113 := hji113
                simp only [Option.some.injEq, Prod.mk.injEq] at H; obtain ⟨rfl, rfl, rfl, rfl⟩ := H
                try go_wp2
                have n0_ := am (blk_drew BK437.out)
                have n1_ := am (blk_drew BK438.out)
                have n2_ := am (blk_drew BK439.out)
                have n3_ := am (below_drew1 HB.out)
                clear BK437; clear BK438; clear BK439; clear HB; have BK437 := n0_; have BK438 := n1_; have BK439 := n2_; have HB := n3_; clear n0_ n1_ n2_ n3_; refine start_ (n := 16) (S := fun w' => w'.cell? ⟨gb437, 0, none⟩ = some (.int .u32 a1_0) ∧ w'.cell? ⟨gb437, 1, none⟩ = some (.int .u32 a1_1) ∧ w'.cell? ⟨gb438, 0, none⟩ = some (.int .u32 x439000_29) ∧ w'.cell? ⟨gb438, 1, none⟩ = some (.int .u32 a2_1)) (ds := []) #[false, false, false, false, false, false, false, false, false, false, false, false, false, false, false, false] (by kernel_rfl) rfl rfl ⟨(blk_cell BK437.out 0).trans rfl, (blk_cell BK437.out 1).trans rfl, (blk_cell BK438.out 0).trans rfl, (blk_cell BK438.out 1).trans rfl⟩ (fun hHeld => ?_); refine with_tabW lamplighterref19_Do.tab11 lamplighterref19_Do.bits11 (fun HT_ HW_ => ?_)
                generalize wc.drew = w114 at BK437 BK438 BK439 HB hHeld ⊢
                refine pure_ (i := 0) (N := some 57) (v := ?_) (a' := ?_) #[true, false, false, false, false, false, false, false, false, false, false, false, false, false, false, false] rfl rfl (any_of HT_.out (by kernel_rfl)) (fun _ _ _ h => h) (Or.inl ⟨by rfl, ?_⟩) ?_ ?_
                rotate_left
                · intro w'
                  go_simp
                  with_reducible rfl
                rotate_left
                · simp only [Act.put, s1, s2, s3, i64_w, i32_w]
                  rfl
                refine pure_ (i := 3) (N := some 60) (v := ?_) (a' := ?_) #[true, false, false, true, false, false, false, false, false, false, false, false, false, false, false, false] rfl rfl (any_of HT_.out (by kernel_rfl)) (fun _ _ _ h => h) (Or.inl ⟨by rfl, ?_⟩) ?_ ?_
                rotate_left
                · intro w'
                  go_simp
                  with_reducible rfl
                rotate_left
                · simp only [Act.put, s1, s2, s3, i64_w, i32_w]
                  rfl
                refine pure_ (i := 6) (N := some 63) (v := ?_) (a' := ?_) #[true, false, false, true, false, false, true, false, false, false, false, false, false, false, false, false] rfl rfl (any_of HT_.out (by kernel_rfl)) (fun _ _ _ h => h) (Or.inl ⟨by rfl, ?_⟩) ?_ ?_
                rotate_left
                · intro w'
                  go_simp
                  with_reducible rfl
                rotate_left
                · simp only [Act.put, s1, s2, s3, i64_w, i32_w]
                  rfl
                refine pure_ (i := 9) (N := some 66) (v := ?_) (a' := ?_) #[true, false, false, true, false, false, true, false, false, true, false, false, false, false, false, false] rfl rfl (any_of HT_.out (by kernel_rfl)) (fun _ _ _ h => h) (Or.inl ⟨by rfl, ?_⟩) ?_ ?_
                rotate_left
                · intro w'
                  go_simp
                  with_reducible rfl
                rotate_left
                · simp only [Act.put, s1, s2, s3, i64_w, i32_w]
                  rfl
                refine take_ (i := 1) (N := some 58) (v := ?_) (a' := ?_) #[true, true, false, true, false, false, true, false, false, true, false, false, false, false, false, false] rfl rfl (take_ofW HT_.out HW_.out (by kernel_rfl)) (fun _ _ _ h => h) (Or.inl ⟨by rfl, ?_⟩) hHeld ?_ ?_
                rotate_left
                · rintro w' ⟨s0, s1, s2, s3⟩
                  go_simp
                  with_reducible rfl
                rotate_left
                · simp only [Act.put, s1, s2, s3, i64_w, i32_w]
                  rfl
                refine pure_ (i := 2) (N := some 59) (v := ?_) (a' := ?_) #[true, true, true, true, false, false, true, false, false, true, false, false, false, false, false, false] rfl rfl (any_of HT_.out (by kernel_rfl)) (fun _ _ _ h => h) (Or.inl ⟨by rfl, ?_⟩) ?_ ?_
                rotate_left
                · intro w'
                  go_simp
                  with_reducible rfl
                rotate_left
                · simp only [Act.put, s1, s2, s3, i64_w, i32_w]
                  rfl
                refine pure_ (i := 12) (N := some 9) (v := ?_) (a' := ?_) #[true, true, true, true, false, false, true, false, false, true, false, false, true, false, false, false] rfl rfl (any_of HT_.out (by kernel_rfl)) (fun _ _ _ h => h) (Or.inl ⟨by rfl, ?_⟩) ?_ ?_
                rotate_left
                · intro w'
                  go_simp
                  with_reducible rfl
                rotate_left
                · simp only [Act.put, s1, s2, s3, i64_w, i32_w]
                  rfl
                refine take_ (i := 4) (N := some 61) (v := ?_) (a' := ?_) #[true, true, true, true, true, false, true, false, false, true, false, false, true, false, false, false] rfl rfl (take_ofW HT_.out HW_.out (by kernel_rfl)) (fun _ _ _ h => h) (Or.inl ⟨by rfl, ?_⟩) hHeld ?_ ?_
                rotate_left
                · rintro w' ⟨s0, s1, s2, s3⟩
                  go_simp
                  with_reducible rfl
                rotate_left
                · simp only [Act.put, s1, s2, s3, i64_w, i32_w]
                  rfl
                refine pure_ (i := 5) (N := some 62) (v := ?_) (a' := ?_) #[true, true, true, true, true, true, true, false, false, true, false, false, true, false, false, false] rfl rfl (any_of HT_.out (by kernel_rfl)) (fun _ _ _ h => h) (Or.inl ⟨by rfl, ?_⟩) ?_ ?_
                rotate_left
                · intro w'
                  go_simp
                  with_reducible rfl
                rotate_left
                · simp only [Act.put, s1, s2, s3, i64_w, i32_w]
                  rfl
                refine pure_ (i := 13) (N := some 10) (v := ?_) (a' := ?_) #[true, true, true, true, true, true, true, false, false, true, false, false, true, true, false, false] rfl rfl (any_of HT_.out (by kernel_rfl)) (fun _ _ _ h => h) (Or.inl ⟨by rfl, ?_⟩) ?_ ?_
                rotate_left
                · intro w'
                  go_simp
                  with_reducible rfl
                rotate_left
                · simp only [Act.put, s1, s2, s3, i64_w, i32_w]
                  rfl
                refine take_ (i := 7) (N := some 64) (v := ?_) (a' := ?_) #[true, true, true, true, true, true, true, true, false, true, false, false, true, true, false, false] rfl rfl (take_ofW HT_.out HW_.out (by kernel_rfl)) (fun _ _ _ h => h) (Or.inl ⟨by rfl, ?_⟩) hHeld ?_ ?_
                rotate_left
                · rintro w' ⟨s0, s1, s2, s3⟩
                  go_simp
                  with_reducible rfl
                rotate_left
                · simp only [Act.put, s1, s2, s3, i64_w, i32_w]
                  rfl
                refine pure_ (i := 8) (N := some 65) (v := ?_) (a' := ?_) #[true, true, true, true, true, true, true, true, true, true, false, false, true, true, false, false] rfl rfl (any_of HT_.out (by kernel_rfl)) (fun _ _ _ h => h) (Or.inl ⟨by rfl, ?_⟩) ?_ ?_
                rotate_left
                · intro w'
                  go_simp
                  with_reducible rfl
                rotate_left
                · simp only [Act.put, s1, s2, s3, i64_w, i32_w]
                  rfl
                refine pure_ (i := 14) (N := some 11) (v := ?_) (a' := ?_) #[true, true, true, true, true, true, true, true, true, true, false, false, true, true, true, false] rfl rfl (any_of HT_.out (by kernel_rfl)) (fun _ _ _ h => h) (Or.inl ⟨by rfl, ?_⟩) ?_ ?_
                rotate_left
                · intro w'
                  go_simp
                  with_reducible rfl
                rotate_left
                · simp only [Act.put, s1, s2, s3, i64_w, i32_w]
                  rfl
                refine take_ (i := 10) (N := some 67) (v := ?_) (a' := ?_) #[true, true, true, true, true, true, true, true, true, true, true, false, true, true, true, false] rfl rfl (take_ofW HT_.out HW_.out (by kernel_rfl)) (fun _ _ _ h => h) (Or.inl ⟨by rfl, ?_⟩) hHeld ?_ ?_
                rotate_left
                · rintro w' ⟨s0, s1, s2, s3⟩
                  go_simp
                  with_reducible rfl
                rotate_left
                · simp only [Act.put, s1, s2, s3, i64_w, i32_w]
                  rfl
                refine pure_ (i := 11) (N := some 68) (v := ?_) (a' := ?_) #[true, true, true, true, true, true, true, true, true, true, true, true, true, true, true, false] rfl rfl (any_of HT_.out (by kernel_rfl)) (fun _ _ _ h => h) (Or.inl ⟨by rfl, ?_⟩) ?_ ?_
                rotate_left
                · intro w'
                  go_simp
                  with_reducible rfl
                rotate_left
                · simp only [Act.put, s1, s2, s3, i64_w, i32_w]
                  rfl
                refine pure_ (i := 15) (N := some 12) (v := ?_) (a' := ?_) #[true, true, true, true, true, true, true, true, true, true, true, true, true, true, true, true] rfl rfl (any_of HT_.out (by kernel_rfl)) (fun _ _ _ h => h) (Or.inl ⟨by rfl, ?_⟩) ?_ ?_
                rotate_left
                · intro w'
                  go_simp
                  with_reducible rfl
                rotate_left
                · simp only [Act.put, s1, s2, s3, i64_w, i32_w]
                  rfl
                refine done_ (done_of HT_.out (by kernel_rfl)) ?_
                have hnb115 := NB437_438.out
                have hnc115 := NB438_437.out
                have hnb116 := NB437_439.out
                have hnc116 := NB439_437.out
                have hcz117_0 : w114.cell? ⟨gb437, 0, none⟩ = some (.int .u32 a1_0) := cz BK437
                have hcz117_1 : w114.cell? ⟨gb437, 1, none⟩ = some (.int .u32 a1_1) := cz BK437
                have hfz117_0 := blk_frozen BK437.out 0
                have hfz117_1 := blk_frozen BK437.out 1
                have hnb118 := NB438_439.out
                have hnc118 := NB439_438.out
                have hcz119_0 : w114.cell? ⟨gb438, 0, none⟩ = some (.int .u32 x439000_29) := cz BK438
                have hcz119_1 : w114.cell? ⟨gb438, 1, none⟩ = some (.int .u32 a2_1) := cz BK438
                have hfz119_0 := blk_frozen BK438.out 0
                have hfz119_1 := blk_frozen BK438.out 1
                have hcz120_0 : w114.cell? ⟨gb439, 0, none⟩ = some (.int .u32 x440000_29) := cz BK439
                have hcz120_1 : w114.cell? ⟨gb439, 1, none⟩ = some (.int .u32 x440001_29) := cz BK439
                have hfz120_0 := blk_frozen BK439.out 0
                have hfz120_1 := blk_frozen BK439.out 1
                try go_wp2
                refine bodyPost_ret (results_ctt rfl _ _ gb439 24 #[.int .u32 0, .int .u32 ji113] (0, 0) _ rfl (by refine bkT ?_; refine blk_put (cs := #[.int .u32 0, .int .u32 x440001_29]) ?_ 1 _ rfl; refine bkT ?_; refine blk_put (cs := #[.int .u32 x440000_29, .int .u32 x440001_29]) ?_ 0 _ rfl; refine bkT ?_; exact BK439.out) Try.underlying24 rfl (by kernel_rfl)) rfl ?_
                exact ⟨by first | rfl | (simp [errW_none, errW_some] <;> rfl) | (simp only [← hji113]; first | rfl | (simp [errW_none, errW_some] <;> rfl)) | (simp [*, errW_none, errW_some] <;> rfl), hbA HB⟩
              rw [if_neg c104] at H; have c104b0 : (x0_29 == 5) = false := beq_eq_false_iff_ne.mpr c104; have c104b1 : (x0_29 != 5) = true := bne_iff_ne.mpr c104; by_cases c121 : x0_29 = 8
              · rw [if_pos c121] at H; have c121b0 : (x0_29 == 8) = true := beq_iff_eq.mpr c121; have c121b1 : (x0_29 != 8) = false := bne_eq_false_iff_eq.mpr c121; clear c121; obtain ⟨ji122, hji122⟩ : ∃ j_ : Int, (mn a1_1 a2_1) = j_ := ⟨_, rfl⟩
                replace H : (some (0, ji122, true, 0)) = some (r1, r2, r3, r4) := by first | (rw [hji122] at H; exact H) | (simp only [hji122] at H ⊢; exact H)
                have hji122_ : (if a2_1 < a1_1 then a2_1 else a1_1) = ji122 := hji122
                simp only [Option.some.injEq, Prod.mk.injEq] at H; obtain ⟨rfl, rfl, rfl, rfl⟩ := H
                try go_wp2
                have n0_ := am (blk_drew BK437.out)
                have n1_ := am (blk_drew BK438.out)
                have n2_ := am (blk_drew BK439.out)
                have n3_ := am (below_drew1 HB.out)
                clear BK437; clear BK438; clear BK439; clear HB; have BK437 := n0_; have BK438 := n1_; have BK439 := n2_; have HB := n3_; clear n0_ n1_ n2_ n3_; refine start_ (n := 16) (S := fun w' => w'.cell? ⟨gb437, 0, none⟩ = some (.int .u32 a1_0) ∧ w'.cell? ⟨gb437, 1, none⟩ = some (.int .u32 a1_1) ∧ w'.cell? ⟨gb438, 0, none⟩ = some (.int .u32 x439000_29) ∧ w'.cell? ⟨gb438, 1, none⟩ = some (.int .u32 a2_1)) (ds := []) #[false, false, false, false, false, false, false, false, false, false, false, false, false, false, false, false] (by kernel_rfl) rfl rfl ⟨(blk_cell BK437.out 0).trans rfl, (blk_cell BK437.out 1).trans rfl, (blk_cell BK438.out 0).trans rfl, (blk_cell BK438.out 1).trans rfl⟩ (fun hHeld => ?_); refine with_tabW lamplighterref19_Do.tab11 lamplighterref19_Do.bits11 (fun HT_ HW_ => ?_)
                generalize wc.drew = w123 at BK437 BK438 BK439 HB hHeld ⊢
                refine pure_ (i := 0) (N := some 57) (v := ?_) (a' := ?_) #[true, false, false, false, false, false, false, false, false, false, false, false, false, false, false, false] rfl rfl (any_of HT_.out (by kernel_rfl)) (fun _ _ _ h => h) (Or.inl ⟨by rfl, ?_⟩) ?_ ?_
                rotate_left
                · intro w'
                  go_simp
                  with_reducible rfl
                rotate_left
                · simp only [Act.put, s1, s2, s3, i64_w, i32_w]
                  rfl
                refine pure_ (i := 3) (N := some 60) (v := ?_) (a' := ?_) #[true, false, false, true, false, false, false, false, false, false, false, false, false, false, false, false] rfl rfl (any_of HT_.out (by kernel_rfl)) (fun _ _ _ h => h) (Or.inl ⟨by rfl, ?_⟩) ?_ ?_
                rotate_left
                · intro w'
                  go_simp
                  with_reducible rfl
                rotate_left
                · simp only [Act.put, s1, s2, s3, i64_w, i32_w]
                  rfl
                refine pure_ (i := 6) (N := some 63) (v := ?_) (a' := ?_) #[true, false, false, true, false, false, true, false, false, false, false, false, false, false, false, false] rfl rfl (any_of HT_.out (by kernel_rfl)) (fun _ _ _ h => h) (Or.inl ⟨by rfl, ?_⟩) ?_ ?_
                rotate_left
                · intro w'
                  go_simp
                  with_reducible rfl
                rotate_left
                · simp only [Act.put, s1, s2, s3, i64_w, i32_w]
                  rfl
                refine pure_ (i := 9) (N := some 66) (v := ?_) (a' := ?_) #[true, false, false, true, false, false, true, false, false, true, false, false, false, false, false, false] rfl rfl (any_of HT_.out (by kernel_rfl)) (fun _ _ _ h => h) (Or.inl ⟨by rfl, ?_⟩) ?_ ?_
                rotate_left
                · intro w'
                  go_simp
                  with_reducible rfl
                rotate_left
                · simp only [Act.put, s1, s2, s3, i64_w, i32_w]
                  rfl
                refine take_ (i := 1) (N := some 58) (v := ?_) (a' := ?_) #[true, true, false, true, false, false, true, false, false, true, false, false, false, false, false, false] rfl rfl (take_ofW HT_.out HW_.out (by kernel_rfl)) (fun _ _ _ h => h) (Or.inl ⟨by rfl, ?_⟩) hHeld ?_ ?_
                rotate_left
                · rintro w' ⟨s0, s1, s2, s3⟩
                  go_simp
                  with_reducible rfl
                rotate_left
                · simp only [Act.put, s1, s2, s3, i64_w, i32_w]
                  rfl
                refine pure_ (i := 2) (N := some 59) (v := ?_) (a' := ?_) #[true, true, true, true, false, false, true, false, false, true, false, false, false, false, false, false] rfl rfl (any_of HT_.out (by kernel_rfl)) (fun _ _ _ h => h) (Or.inl ⟨by rfl, ?_⟩) ?_ ?_
                rotate_left
                · intro w'
                  go_simp
                  with_reducible rfl
                rotate_left
                · simp only [Act.put, s1, s2, s3, i64_w, i32_w]
                  rfl
                refine pure_ (i := 12) (N := some 9) (v := ?_) (a' := ?_) #[true, true, true, true, false, false, true, false, false, true, false, false, true, false, false, false] rfl rfl (any_of HT_.out (by kernel_rfl)) (fun _ _ _ h => h) (Or.inl ⟨by rfl, ?_⟩) ?_ ?_
                rotate_left
                · intro w'
                  go_simp
                  with_reducible rfl
                rotate_left
                · simp only [Act.put, s1, s2, s3, i64_w, i32_w]
                  rfl
                refine take_ (i := 4) (N := some 61) (v := ?_) (a' := ?_) #[true, true, true, true, true, false, true, false, false, true, false, false, true, false, false, false] rfl rfl (take_ofW HT_.out HW_.out (by kernel_rfl)) (fun _ _ _ h => h) (Or.inl ⟨by rfl, ?_⟩) hHeld ?_ ?_
                rotate_left
                · rintro w' ⟨s0, s1, s2, s3⟩
                  go_simp
                  with_reducible rfl
                rotate_left
                · simp only [Act.put, s1, s2, s3, i64_w, i32_w]
                  rfl
                refine pure_ (i := 5) (N := some 62) (v := ?_) (a' := ?_) #[true, true, true, true, true, true, true, false, false, true, false, false, true, false, false, false] rfl rfl (any_of HT_.out (by kernel_rfl)) (fun _ _ _ h => h) (Or.inl ⟨by rfl, ?_⟩) ?_ ?_
                rotate_left
                · intro w'
                  go_simp
                  with_reducible rfl
                rotate_left
                · simp only [Act.put, s1, s2, s3, i64_w, i32_w]
                  rfl
                refine pure_ (i := 13) (N := some 10) (v := ?_) (a' := ?_) #[true, true, true, true, true, true, true, false, false, true, false, false, true, true, false, false] rfl rfl (any_of HT_.out (by kernel_rfl)) (fun _ _ _ h => h) (Or.inl ⟨by rfl, ?_⟩) ?_ ?_
                rotate_left
                · intro w'
                  go_simp
                  with_reducible rfl
                rotate_left
                · simp only [Act.put, s1, s2, s3, i64_w, i32_w]
                  rfl
                refine take_ (i := 7) (N := some 64) (v := ?_) (a' := ?_) #[true, true, true, true, true, true, true, true, false, true, false, false, true, true, false, false] rfl rfl (take_ofW HT_.out HW_.out (by kernel_rfl)) (fun _ _ _ h => h) (Or.inl ⟨by rfl, ?_⟩) hHeld ?_ ?_
                rotate_left
                · rintro w' ⟨s0, s1, s2, s3⟩
                  go_simp
                  with_reducible rfl
                rotate_left
                · simp only [Act.put, s1, s2, s3, i64_w, i32_w]
                  rfl
                refine pure_ (i := 8) (N := some 65) (v := ?_) (a' := ?_) #[true, true, true, true, true, true, true, true, true, true, false, false, true, true, false, false] rfl rfl (any_of HT_.out (by kernel_rfl)) (fun _ _ _ h => h) (Or.inl ⟨by rfl, ?_⟩) ?_ ?_
                rotate_left
                · intro w'
                  go_simp
                  with_reducible rfl
                rotate_left
                · simp only [Act.put, s1, s2, s3, i64_w, i32_w]
                  rfl
                refine pure_ (i := 14) (N := some 11) (v := ?_) (a' := ?_) #[true, true, true, true, true, true, true, true, true, true, false, false, true, true, true, false] rfl rfl (any_of HT_.out (by kernel_rfl)) (fun _ _ _ h => h) (Or.inl ⟨by rfl, ?_⟩) ?_ ?_
                rotate_left
                · intro w'
                  go_simp
                  with_reducible rfl
                rotate_left
                · simp only [Act.put, s1, s2, s3, i64_w, i32_w]
                  rfl
                refine take_ (i := 10) (N := some 67) (v := ?_) (a' := ?_) #[true, true, true, true, true, true, true, true, true, true, true, false, true, true, true, false] rfl rfl (take_ofW HT_.out HW_.out (by kernel_rfl)) (fun _ _ _ h => h) (Or.inl ⟨by rfl, ?_⟩) hHeld ?_ ?_
                rotate_left
                · rintro w' ⟨s0, s1, s2, s3⟩
                  go_simp
                  with_reducible rfl
                rotate_left
                · simp only [Act.put, s1, s2, s3, i64_w, i32_w]
                  rfl
                refine pure_ (i := 11) (N := some 68) (v := ?_) (a' := ?_) #[true, true, true, true, true, true, true, true, true, true, true, true, true, true, true, false] rfl rfl (any_of HT_.out (by kernel_rfl)) (fun _ _ _ h => h) (Or.inl ⟨by rfl, ?_⟩) ?_ ?_
                rotate_left
                · intro w'
                  go_simp
                  with_reducible rfl
                rotate_left
                · simp only [Act.put, s1, s2, s3, i64_w, i32_w]
                  rfl
                refine pure_ (i := 15) (N := some 12) (v := ?_) (a' := ?_) #[true, true, true, true, true, true, true, true, true, true, true, true, true, true, true, true] rfl rfl (any_of HT_.out (by kernel_rfl)) (fun _ _ _ h => h) (Or.inl ⟨by rfl, ?_⟩) ?_ ?_
                rotate_left
                · intro w'
                  go_simp
                  with_reducible rfl
                rotate_left
                · simp only [Act.put, s1, s2, s3, i64_w, i32_w]
                  rfl
                refine done_ (done_of HT_.out (by kernel_rfl)) ?_
                have hnb124 := NB437_438.out
                have hnc124 := NB438_437.out
                have hnb125 := NB437_439.out
                have hnc125 := NB439_437.out
                have hcz126_0 : w123.cell? ⟨gb437, 0, none⟩ = some (.int .u32 a1_0) := cz BK437
                have hcz126_1 : w123.cell? ⟨gb437, 1, none⟩ = some (.int .u32 a1_1) := cz BK437
                have hfz126_0 := blk_frozen BK437.out 0
                have hfz126_1 := blk_frozen BK437.out 1
                have hnb127 := NB438_439.out
                have hnc127 := NB439_438.out
                have hcz128_0 : w123.cell? ⟨gb438, 0, none⟩ = some (.int .u32 x439000_29) := cz BK438
                have hcz128_1 : w123.cell? ⟨gb438, 1, none⟩ = some (.int .u32 a2_1) := cz BK438
                have hfz128_0 := blk_frozen BK438.out 0
                have hfz128_1 := blk_frozen BK438.out 1
                have hcz129_0 : w123.cell? ⟨gb439, 0, none⟩ = some (.int .u32 x440000_29) := cz BK439
                have hcz129_1 : w123.cell? ⟨gb439, 1, none⟩ = some (.int .u32 x440001_29) := cz BK439
                have hfz129_0 := blk_frozen BK439.out 0
                have hfz129_1 := blk_frozen BK439.out 1
                try go_wp2
                refine bodyPost_ret (results_ctt rfl _ _ gb439 24 #[.int .u32 0, .int .u32 ji122] (0, 0) _ rfl (by refine bkT ?_; refine blk_put (cs := #[.int .u32 0, .int .u32 x440001_29]) ?_ 1 _ rfl; refine bkT ?_; refine blk_put (cs := #[.int .u32 x440000_29, .int .u32 x440001_29]) ?_ 0 _ rfl; refine bkT ?_; exact BK439.out) Try.underlying24 rfl (by kernel_rfl)) rfl ?_
                exact ⟨by first | rfl | (simp [errW_none, errW_some] <;> rfl) | (simp only [← hji122]; first | rfl | (simp [errW_none, errW_some] <;> rfl)) | (simp [*, errW_none, errW_some] <;> rfl), hbA HB⟩
              rw [if_neg c121] at H; have c121b0 : (x0_29 == 8) = false := beq_eq_false_iff_ne.mpr c121; have c121b1 : (x0_29 != 8) = true := bne_iff_ne.mpr c121; by_cases c130 : x0_29 = 9
              · rw [if_pos c130] at H; have c130b0 : (x0_29 == 9) = true := beq_iff_eq.mpr c130; have c130b1 : (x0_29 != 9) = false := bne_eq_false_iff_eq.mpr c130; clear c130; obtain ⟨ji131, hji131⟩ : ∃ j_ : Int, (mx a1_0 x439000_29) = j_ := ⟨_, rfl⟩
                replace H : ((lamplighterref19_cap1.f kj29 (mx a1_1 a2_1)).bind fun t452 => (some (ji131, t452, true, 0))) = some (r1, r2, r3, r4) := by first | (rw [hji131] at H; exact H) | (simp only [hji131] at H ⊢; exact H)
                have hji131_ : (if a1_0 < x439000_29 then x439000_29 else a1_0) = ji131 := hji131
                obtain ⟨ji132, hji132⟩ : ∃ j_ : Int, (mx a1_1 a2_1) = j_ := ⟨_, rfl⟩
                replace H : ((lamplighterref19_cap1.f kj29 (ji132)).bind fun t452 => (some (ji131, t452, true, 0))) = some (r1, r2, r3, r4) := by first | (rw [hji132] at H; exact H) | (simp only [hji132] at H ⊢; exact H)
                have hji132_ : (if a1_1 < a2_1 then a2_1 else a1_1) = ji132 := hji132
                replace H := Option.bind_eq_some_iff.mp H; obtain ⟨t452, A1330, H⟩ := H; replace H : (some (ji131, t452, true, 0)) = some (r1, r2, r3, r4) := H; have A133 := am A1330; clear A1330; simp only [Option.some.injEq, Prod.mk.injEq] at H; obtain ⟨rfl, rfl, rfl, rfl⟩ := H
                try go_wp2
                have n0_ := am (blk_drew BK437.out)
                have n1_ := am (blk_drew BK438.out)
                have n2_ := am (blk_drew BK439.out)
                have n3_ := am (below_drew1 HB.out)
                clear BK437; clear BK438; clear BK439; clear HB; have BK437 := n0_; have BK438 := n1_; have BK439 := n2_; have HB := n3_; clear n0_ n1_ n2_ n3_; refine start_ (n := 16) (S := fun w' => w'.cell? ⟨gb437, 0, none⟩ = some (.int .u32 a1_0) ∧ w'.cell? ⟨gb437, 1, none⟩ = some (.int .u32 a1_1) ∧ w'.cell? ⟨gb438, 0, none⟩ = some (.int .u32 x439000_29) ∧ w'.cell? ⟨gb438, 1, none⟩ = some (.int .u32 a2_1)) (ds := []) #[false, false, false, false, false, false, false, false, false, false, false, false, false, false, false, false] (by kernel_rfl) rfl rfl ⟨(blk_cell BK437.out 0).trans rfl, (blk_cell BK437.out 1).trans rfl, (blk_cell BK438.out 0).trans rfl, (blk_cell BK438.out 1).trans rfl⟩ (fun hHeld => ?_); refine with_tabW lamplighterref19_Do.tab11 lamplighterref19_Do.bits11 (fun HT_ HW_ => ?_)
                generalize wc.drew = w134 at BK437 BK438 BK439 HB hHeld ⊢
                refine pure_ (i := 0) (N := some 57) (v := ?_) (a' := ?_) #[true, false, false, false, false, false, false, false, false, false, false, false, false, false, false, false] rfl rfl (any_of HT_.out (by kernel_rfl)) (fun _ _ _ h => h) (Or.inl ⟨by rfl, ?_⟩) ?_ ?_
                rotate_left
                · intro w'
                  go_simp
                  with_reducible rfl
                rotate_left
                · simp only [Act.put, s1, s2, s3, i64_w, i32_w]
                  rfl
                refine pure_ (i := 3) (N := some 60) (v := ?_) (a' := ?_) #[true, false, false, true, false, false, false, false, false, false, false, false, false, false, false, false] rfl rfl (any_of HT_.out (by kernel_rfl)) (fun _ _ _ h => h) (Or.inl ⟨by rfl, ?_⟩) ?_ ?_
                rotate_left
                · intro w'
                  go_simp
                  with_reducible rfl
                rotate_left
                · simp only [Act.put, s1, s2, s3, i64_w, i32_w]
                  rfl
                refine pure_ (i := 6) (N := some 63) (v := ?_) (a' := ?_) #[true, false, false, true, false, false, true, false, false, false, false, false, false, false, false, false] rfl rfl (any_of HT_.out (by kernel_rfl)) (fun _ _ _ h => h) (Or.inl ⟨by rfl, ?_⟩) ?_ ?_
                rotate_left
                · intro w'
                  go_simp
                  with_reducible rfl
                rotate_left
                · simp only [Act.put, s1, s2, s3, i64_w, i32_w]
                  rfl
                refine pure_ (i := 9) (N := some 66) (v := ?_) (a' := ?_) #[true, false, false, true, false, false, true, false, false, true, false, false, false, false, false, false] rfl rfl (any_of HT_.out (by kernel_rfl)) (fun _ _ _ h => h) (Or.inl ⟨by rfl, ?_⟩) ?_ ?_
                rotate_left
                · intro w'
                  go_simp
                  with_reducible rfl
                rotate_left
                · simp only [Act.put, s1, s2, s3, i64_w, i32_w]
                  rfl
                refine take_ (i := 1) (N := some 58) (v := ?_) (a' := ?_) #[true, true, false, true, false, false, true, false, false, true, false, false, false, false, false, false] rfl rfl (take_ofW HT_.out HW_.out (by kernel_rfl)) (fun _ _ _ h => h) (Or.inl ⟨by rfl, ?_⟩) hHeld ?_ ?_
                rotate_left
                · rintro w' ⟨s0, s1, s2, s3⟩
                  go_simp
                  with_reducible rfl
                rotate_left
                · simp only [Act.put, s1, s2, s3, i64_w, i32_w]
                  rfl
                refine pure_ (i := 2) (N := some 59) (v := ?_) (a' := ?_) #[true, true, true, true, false, false, true, false, false, true, false, false, false, false, false, false] rfl rfl (any_of HT_.out (by kernel_rfl)) (fun _ _ _ h => h) (Or.inl ⟨by rfl, ?_⟩) ?_ ?_
                rotate_left
                · intro w'
                  go_simp
                  with_reducible rfl
                rotate_left
                · simp only [Act.put, s1, s2, s3, i64_w, i32_w]
                  rfl
                refine pure_ (i := 12) (N := some 9) (v := ?_) (a' := ?_) #[true, true, true, true, false, false, true, false, false, true, false, false, true, false, false, false] rfl rfl (any_of HT_.out (by kernel_rfl)) (fun _ _ _ h => h) (Or.inl ⟨by rfl, ?_⟩) ?_ ?_
                rotate_left
                · intro w'
                  go_simp
                  with_reducible rfl
                rotate_left
                · simp only [Act.put, s1, s2, s3, i64_w, i32_w]
                  rfl
                refine take_ (i := 4) (N := some 61) (v := ?_) (a' := ?_) #[true, true, true, true, true, false, true, false, false, true, false, false, true, false, false, false] rfl rfl (take_ofW HT_.out HW_.out (by kernel_rfl)) (fun _ _ _ h => h) (Or.inl ⟨by rfl, ?_⟩) hHeld ?_ ?_
                rotate_left
                · rintro w' ⟨s0, s1, s2, s3⟩
                  go_simp
                  with_reducible rfl
                rotate_left
                · simp only [Act.put, s1, s2, s3, i64_w, i32_w]
                  rfl
                refine pure_ (i := 5) (N := some 62) (v := ?_) (a' := ?_) #[true, true, true, true, true, true, true, false, false, true, false, false, true, false, false, false] rfl rfl (any_of HT_.out (by kernel_rfl)) (fun _ _ _ h => h) (Or.inl ⟨by rfl, ?_⟩) ?_ ?_
                rotate_left
                · intro w'
                  go_simp
                  with_reducible rfl
                rotate_left
                · simp only [Act.put, s1, s2, s3, i64_w, i32_w]
                  rfl
                refine pure_ (i := 13) (N := some 10) (v := ?_) (a' := ?_) #[true, true, true, true, true, true, true, false, false, true, false, false, true, true, false, false] rfl rfl (any_of HT_.out (by kernel_rfl)) (fun _ _ _ h => h) (Or.inl ⟨by rfl, ?_⟩) ?_ ?_
                rotate_left
                · intro w'
                  go_simp
                  with_reducible rfl
                rotate_left
                · simp only [Act.put, s1, s2, s3, i64_w, i32_w]
                  rfl
                refine take_ (i := 7) (N := some 64) (v := ?_) (a' := ?_) #[true, true, true, true, true, true, true, true, false, true, false, false, true, true, false, false] rfl rfl (take_ofW HT_.out HW_.out (by kernel_rfl)) (fun _ _ _ h => h) (Or.inl ⟨by rfl, ?_⟩) hHeld ?_ ?_
                rotate_left
                · rintro w' ⟨s0, s1, s2, s3⟩
                  go_simp
                  with_reducible rfl
                rotate_left
                · simp only [Act.put, s1, s2, s3, i64_w, i32_w]
                  rfl
                refine pure_ (i := 8) (N := some 65) (v := ?_) (a' := ?_) #[true, true, true, true, true, true, true, true, true, true, false, false, true, true, false, false] rfl rfl (any_of HT_.out (by kernel_rfl)) (fun _ _ _ h => h) (Or.inl ⟨by rfl, ?_⟩) ?_ ?_
                rotate_left
                · intro w'
                  go_simp
                  with_reducible rfl
                rotate_left
                · simp only [Act.put, s1, s2, s3, i64_w, i32_w]
                  rfl
                refine pure_ (i := 14) (N := some 11) (v := ?_) (a' := ?_) #[true, true, true, true, true, true, true, true, true, true, false, false, true, true, true, false] rfl rfl (any_of HT_.out (by kernel_rfl)) (fun _ _ _ h => h) (Or.inl ⟨by rfl, ?_⟩) ?_ ?_
                rotate_left
                · intro w'
                  go_simp
                  with_reducible rfl
                rotate_left
                · simp only [Act.put, s1, s2, s3, i64_w, i32_w]
                  rfl
                refine take_ (i := 10) (N := some 67) (v := ?_) (a' := ?_) #[true, true, true, true, true, true, true, true, true, true, true, false, true, true, true, false] rfl rfl (take_ofW HT_.out HW_.out (by kernel_rfl)) (fun _ _ _ h => h) (Or.inl ⟨by rfl, ?_⟩) hHeld ?_ ?_
                rotate_left
                · rintro w' ⟨s0, s1, s2, s3⟩
                  go_simp
                  with_reducible rfl
                rotate_left
                · simp only [Act.put, s1, s2, s3, i64_w, i32_w]
                  rfl
                refine pure_ (i := 11) (N := some 68) (v := ?_) (a' := ?_) #[true, true, true, true, true, true, true, true, true, true, true, true, true, true, true, false] rfl rfl (any_of HT_.out (by kernel_rfl)) (fun _ _ _ h => h) (Or.inl ⟨by rfl, ?_⟩) ?_ ?_
                rotate_left
                · intro w'
                  go_simp
                  with_reducible rfl
                rotate_left
                · simp only [Act.put, s1, s2, s3, i64_w, i32_w]
                  rfl
                refine pure_ (i := 15) (N := some 12) (v := ?_) (a' := ?_) #[true, true, true, true, true, true, true, true, true, true, true, true, true, true, true, true] rfl rfl (any_of HT_.out (by kernel_rfl)) (fun _ _ _ h => h) (Or.inl ⟨by rfl, ?_⟩) ?_ ?_
                rotate_left
                · intro w'
                  go_simp
                  with_reducible rfl
                rotate_left
                · simp only [Act.put, s1, s2, s3, i64_w, i32_w]
                  rfl
                refine done_ (done_of HT_.out (by kernel_rfl)) ?_
                try go_wp2
                have n0_ := am (blk_drew BK437.out)
                have n1_ := am (blk_drew BK438.out)
                have n2_ := am (blk_drew BK439.out)
                have n3_ := am (below_drew1 HB.out)
                clear BK437; clear BK438; clear BK439; clear HB; have BK437 := n0_; have BK438 := n1_; have BK439 := n2_; have HB := n3_; clear n0_ n1_ n2_ n3_; refine start_ (n := 15) (S := fun w' => w'.cell? ⟨gb437, 0, none⟩ = some (.int .u32 a1_0) ∧ w'.cell? ⟨gb437, 1, none⟩ = some (.int .u32 a1_1) ∧ w'.cell? ⟨gb438, 0, none⟩ = some (.int .u32 x439000_29) ∧ w'.cell? ⟨gb438, 1, none⟩ = some (.int .u32 a2_1)) (ds := []) #[false, false, false, false, false, false, false, false, false, false, false, false, false, false, false] (by kernel_rfl) rfl rfl ⟨(blk_cell BK437.out 0).trans rfl, (blk_cell BK437.out 1).trans rfl, (blk_cell BK438.out 0).trans rfl, (blk_cell BK438.out 1).trans rfl⟩ (fun hHeld => ?_); refine with_tabW lamplighterref19_Do.tab30 lamplighterref19_Do.bits30 (fun HT_ HW_ => ?_)
                generalize w134.drew = w135 at BK437 BK438 BK439 HB hHeld ⊢
                refine pure_ (i := 0) (N := some 148) (v := ?_) (a' := ?_) #[true, false, false, false, false, false, false, false, false, false, false, false, false, false, false] rfl rfl (any_of HT_.out (by kernel_rfl)) (fun _ _ _ h => h) (Or.inl ⟨by rfl, ?_⟩) ?_ ?_
                rotate_left
                · intro w'
                  go_simp
                  with_reducible rfl
                rotate_left
                · simp only [Act.put, s1, s2, s3, i64_w, i32_w]
                  rfl
                refine pure_ (i := 2) (N := some 150) (v := ?_) (a' := ?_) #[true, false, true, false, false, false, false, false, false, false, false, false, false, false, false] rfl rfl (any_of HT_.out (by kernel_rfl)) (fun _ _ _ h => h) (Or.inl ⟨by rfl, ?_⟩) ?_ ?_
                rotate_left
                · intro w'
                  go_simp
                  with_reducible rfl
                rotate_left
                · simp only [Act.put, s1, s2, s3, i64_w, i32_w]
                  rfl
                refine pure_ (i := 5) (N := some 153) (v := ?_) (a' := ?_) #[true, false, true, false, false, true, false, false, false, false, false, false, false, false, false] rfl rfl (any_of HT_.out (by kernel_rfl)) (fun _ _ _ h => h) (Or.inl ⟨by rfl, ?_⟩) ?_ ?_
                rotate_left
                · intro w'
                  go_simp
                  with_reducible rfl
                rotate_left
                · simp only [Act.put, s1, s2, s3, i64_w, i32_w]
                  rfl
                refine pure_ (i := 7) (N := some 155) (v := ?_) (a' := ?_) #[true, false, true, false, false, true, false, true, false, false, false, false, false, false, false] rfl rfl (any_of HT_.out (by kernel_rfl)) (fun _ _ _ h => h) (Or.inl ⟨by rfl, ?_⟩) ?_ ?_
                rotate_left
                · intro w'
                  go_simp
                  with_reducible rfl
                rotate_left
                · simp only [Act.put, s1, s2, s3, i64_w, i32_w]
                  rfl
                refine take_ (i := 1) (N := some 149) (v := ?_) (a' := ?_) #[true, true, true, false, false, true, false, true, false, false, false, false, false, false, false] rfl rfl (take_ofW HT_.out HW_.out (by kernel_rfl)) (fun _ _ _ h => h) (Or.inl ⟨by rfl, ?_⟩) hHeld ?_ ?_
                rotate_left
                · rintro w' ⟨s0, s1, s2, s3⟩
                  go_simp
                  with_reducible rfl
                rotate_left
                · simp only [Act.put, s1, s2, s3, i64_w, i32_w]
                  rfl
                refine take_ (i := 3) (N := some 151) (v := ?_) (a' := ?_) #[true, true, true, true, false, true, false, true, false, false, false, false, false, false, false] rfl rfl (take_ofW HT_.out HW_.out (by kernel_rfl)) (fun _ _ _ h => h) (Or.inl ⟨by rfl, ?_⟩) hHeld ?_ ?_
                rotate_left
                · rintro w' ⟨s0, s1, s2, s3⟩
                  go_simp
                  with_reducible rfl
                rotate_left
                · simp only [Act.put, s1, s2, s3, i64_w, i32_w]
                  rfl
                refine pure_ (i := 4) (N := some 152) (v := ?_) (a' := ?_) #[true, true, true, true, true, true, false, true, false, false, false, false, false, false, false] rfl rfl (any_of HT_.out (by kernel_rfl)) (fun _ _ _ h => h) (Or.inl ⟨by rfl, ?_⟩) ?_ ?_
                rotate_left
                · intro w'
                  go_simp
                  with_reducible rfl
                rotate_left
                · simp only [Act.put, s1, s2, s3, i64_w, i32_w]
                  rfl
                refine take_ (i := 6) (N := some 154) (v := ?_) (a' := ?_) #[true, true, true, true, true, true, true, true, false, false, false, false, false, false, false] rfl rfl (take_ofW HT_.out HW_.out (by kernel_rfl)) (fun _ _ _ h => h) (Or.inl ⟨by rfl, ?_⟩) hHeld ?_ ?_
                rotate_left
                · rintro w' ⟨s0, s1, s2, s3⟩
                  go_simp
                  with_reducible rfl
                rotate_left
                · simp only [Act.put, s1, s2, s3, i64_w, i32_w]
                  rfl
                refine take_ (i := 8) (N := some 156) (v := ?_) (a' := ?_) #[true, true, true, true, true, true, true, true, true, false, false, false, false, false, false] rfl rfl (take_ofW HT_.out HW_.out (by kernel_rfl)) (fun _ _ _ h => h) (Or.inl ⟨by rfl, ?_⟩) hHeld ?_ ?_
                rotate_left
                · rintro w' ⟨s0, s1, s2, s3⟩
                  go_simp
                  with_reducible rfl
                rotate_left
                · simp only [Act.put, s1, s2, s3, i64_w, i32_w]
                  rfl
                refine pure_ (i := 9) (N := some 157) (v := ?_) (a' := ?_) #[true, true, true, true, true, true, true, true, true, true, false, false, false, false, false] rfl rfl (any_of HT_.out (by kernel_rfl)) (fun _ _ _ h => h) (Or.inl ⟨by rfl, ?_⟩) ?_ ?_
                rotate_left
                · intro w'
                  go_simp
                  with_reducible rfl
                rotate_left
                · simp only [Act.put, s1, s2, s3, i64_w, i32_w]
                  rfl
                refine one_ (i := 10) (N := some 158) #[true, true, true, true, true, true, true, true, true, true, true, false, false, false, false] rfl rfl (one_of HT_.out (by kernel_rfl)) (by decide) (fun K hK => ?_)
                refine goes_ Try.func45 (by kernel_rfl) rfl #[.int .u32 ji132] (by rfl) rfl rfl (by (try simp only [List.map_toArray, List.map_cons, List.map_nil]); first | done | (simp only [hji132]; rfl) | rfl | (simp only [List.length_drop, List.length_take]; rfl)) ?_
                with_reducible refine (lamplighterref19_cap1.calls kj29 ji132 t452 _ A133.out).mono ?_
                rintro e w' ⟨rfl, ⟨nd, rfl⟩⟩
                refine ⟨_, rfl, ?_⟩
                refine hK.out _ _ ⟨(blk_cell BK437.out 0).trans rfl, (blk_cell BK437.out 1).trans rfl, (blk_cell BK438.out 0).trans rfl, (blk_cell BK438.out 1).trans rfl⟩ (fun hHeld => ?_)
                clear hK K; refine norm_ (a' := ?_) ?_ ?_
                rotate_left
                · show Act.put _ (some 158) _ = _
                  simp only [Act.put, s1, s2, s3, i64_w, i32_w]
                  rfl
                refine pure_ (i := 11) (N := some 159) (v := ?_) (a' := ?_) #[true, true, true, true, true, true, true, true, true, true, true, true, false, false, false] rfl rfl (any_of HT_.out (by kernel_rfl)) (fun _ _ _ h => h) (Or.inl ⟨by rfl, ?_⟩) ?_ ?_
                rotate_left
                · intro w'
                  go_simp
                  with_reducible rfl
                rotate_left
                · simp only [Act.put, s1, s2, s3, i64_w, i32_w]
                  rfl
                refine one_ (i := 12) (N := none) #[true, true, true, true, true, true, true, true, true, true, true, true, true, false, false] rfl rfl (one_of HT_.out (by kernel_rfl)) (by decide) (fun K hK => ?_)
                have hs136 : w135.cell? ⟨gb439, 0, none⟩ = some (.int .u32 x440000_29) := cz BK439
                have hfs136 := blk_frozen BK439.out 0
                have hns136_0 := NB437_439.out
                have hns136_1 := NB438_439.out
                have hms136_0 := NB439_437.out
                have hms136_1 := NB439_438.out
                have hs137 : w135.cell? ⟨gb439, 1, none⟩ = some (.int .u32 x440001_29) := cz BK439
                have hfs137 := blk_frozen BK439.out 1
                have hns137_0 := NB437_439.out
                have hns137_1 := NB438_439.out
                have hms137_0 := NB439_437.out
                have hms137_1 := NB439_438.out
                refine skip_ (w1 := ?_) (by rfl) rfl ?_ ?_
                rotate_left
                · go_simp
                  rfl
                refine hK.out _ _ ⟨((cell_far (p := ⟨gb439, _, none⟩) NB437_439.out _).trans (((cell_far (p := ⟨gb439, _, none⟩) NB437_439.out _).trans (hHeld.1)))), ((cell_far (p := ⟨gb439, _, none⟩) NB437_439.out _).trans (((cell_far (p := ⟨gb439, _, none⟩) NB437_439.out _).trans (hHeld.2.1)))), ((cell_far (p := ⟨gb439, _, none⟩) NB438_439.out _).trans (((cell_far (p := ⟨gb439, _, none⟩) NB438_439.out _).trans (hHeld.2.2.1)))), ((cell_far (p := ⟨gb439, _, none⟩) NB438_439.out _).trans (((cell_far (p := ⟨gb439, _, none⟩) NB438_439.out _).trans (hHeld.2.2.2))))⟩ (fun hHeld => ?_)
                clear hK K; refine pure_ (i := 13) (N := some 7) (v := ?_) (a' := ?_) #[true, true, true, true, true, true, true, true, true, true, true, true, true, true, false] rfl rfl (any_of HT_.out (by kernel_rfl)) (fun _ _ _ h => h) (Or.inl ⟨by rfl, ?_⟩) ?_ ?_
                rotate_left
                · intro w'
                  go_simp
                  with_reducible rfl
                rotate_left
                · simp only [Act.put, s1, s2, s3, i64_w, i32_w]
                  rfl
                refine pure_ (i := 14) (N := some 8) (v := ?_) (a' := ?_) #[true, true, true, true, true, true, true, true, true, true, true, true, true, true, true] rfl rfl (any_of HT_.out (by kernel_rfl)) (fun _ _ _ h => h) (Or.inl ⟨by rfl, ?_⟩) ?_ ?_
                rotate_left
                · intro w'
                  go_simp
                  with_reducible rfl
                rotate_left
                · simp only [Act.put, s1, s2, s3, i64_w, i32_w]
                  rfl
                refine done_ (done_of HT_.out (by kernel_rfl)) ?_
                try go_wp2
                refine bodyPost_ret (results_ctt rfl _ _ gb439 24 #[.int .u32 ji131, .int .u32 t452] (0, 0) _ rfl (by refine bkT ?_; refine blk_put (cs := #[.int .u32 ji131, .int .u32 x440001_29]) ?_ 1 _ rfl; refine bkT ?_; refine blk_put (cs := #[.int .u32 x440000_29, .int .u32 x440001_29]) ?_ 0 _ rfl; refine bkT ?_; exact BK439.out) Try.underlying24 rfl (by kernel_rfl)) rfl ?_
                exact ⟨by first | rfl | (simp [errW_none, errW_some] <;> rfl) | (simp only [← hji131, ← hji132]; first | rfl | (simp [errW_none, errW_some] <;> rfl)) | (simp [*, errW_none, errW_some] <;> rfl), hbA HB⟩
              rw [if_neg c130] at H; have c130b0 : (x0_29 == 9) = false := beq_eq_false_iff_ne.mpr c130; have c130b1 : (x0_29 != 9) = true := bne_iff_ne.mpr c130; by_cases c138 : x0_29 = 10
              · rw [if_pos c138] at H; have c138b0 : (x0_29 == 10) = true := beq_iff_eq.mpr c138; have c138b1 : (x0_29 != 10) = false := bne_eq_false_iff_eq.mpr c138; clear c138; obtain ⟨ji139, hji139⟩ : ∃ j_ : Int, (mx a1_1 a2_1) = j_ := ⟨_, rfl⟩
                replace H : ((lamplighterref19_cap1.f kj29 (ji139)).bind fun t453 => (some (0, t453, true, 0))) = some (r1, r2, r3, r4) := by first | (rw [hji139] at H; exact H) | (simp only [hji139] at H ⊢; exact H)
                have hji139_ : (if a1_1 < a2_1 then a2_1 else a1_1) = ji139 := hji139
                replace H := Option.bind_eq_some_iff.mp H; obtain ⟨t453, A1400, H⟩ := H; replace H : (some (0, t453, true, 0)) = some (r1, r2, r3, r4) := H; have A140 := am A1400; clear A1400; simp only [Option.some.injEq, Prod.mk.injEq] at H; obtain ⟨rfl, rfl, rfl, rfl⟩ := H
                try go_wp2
                have n0_ := am (blk_drew BK437.out)
                have n1_ := am (blk_drew BK438.out)
                have n2_ := am (blk_drew BK439.out)
                have n3_ := am (below_drew1 HB.out)
                clear BK437; clear BK438; clear BK439; clear HB; have BK437 := n0_; have BK438 := n1_; have BK439 := n2_; have HB := n3_; clear n0_ n1_ n2_ n3_; refine start_ (n := 16) (S := fun w' => w'.cell? ⟨gb437, 0, none⟩ = some (.int .u32 a1_0) ∧ w'.cell? ⟨gb437, 1, none⟩ = some (.int .u32 a1_1) ∧ w'.cell? ⟨gb438, 0, none⟩ = some (.int .u32 x439000_29) ∧ w'.cell? ⟨gb438, 1, none⟩ = some (.int .u32 a2_1)) (ds := []) #[false, false, false, false, false, false, false, false, false, false, false, false, false, false, false, false] (by kernel_rfl) rfl rfl ⟨(blk_cell BK437.out 0).trans rfl, (blk_cell BK437.out 1).trans rfl, (blk_cell BK438.out 0).trans rfl, (blk_cell BK438.out 1).trans rfl⟩ (fun hHeld => ?_); refine with_tabW lamplighterref19_Do.tab11 lamplighterref19_Do.bits11 (fun HT_ HW_ => ?_)
                generalize wc.drew = w141 at BK437 BK438 BK439 HB hHeld ⊢
                refine pure_ (i := 0) (N := some 57) (v := ?_) (a' := ?_) #[true, false, false, false, false, false, false, false, false, false, false, false, false, false, false, false] rfl rfl (any_of HT_.out (by kernel_rfl)) (fun _ _ _ h => h) (Or.inl ⟨by rfl, ?_⟩) ?_ ?_
                rotate_left
                · intro w'
                  go_simp
                  with_reducible rfl
                rotate_left
                · simp only [Act.put, s1, s2, s3, i64_w, i32_w]
                  rfl
                refine pure_ (i := 3) (N := some 60) (v := ?_) (a' := ?_) #[true, false, false, true, false, false, false, false, false, false, false, false, false, false, false, false] rfl rfl (any_of HT_.out (by kernel_rfl)) (fun _ _ _ h => h) (Or.inl ⟨by rfl, ?_⟩) ?_ ?_
                rotate_left
                · intro w'
                  go_simp
                  with_reducible rfl
                rotate_left
                · simp only [Act.put, s1, s2, s3, i64_w, i32_w]
                  rfl
                refine pure_ (i := 6) (N := some 63) (v := ?_) (a' := ?_) #[true, false, false, true, false, false, true, false, false, false, false, false, false, false, false, false] rfl rfl (any_of HT_.out (by kernel_rfl)) (fun _ _ _ h => h) (Or.inl ⟨by rfl, ?_⟩) ?_ ?_
                rotate_left
                · intro w'
                  go_simp
                  with_reducible rfl
                rotate_left
                · simp only [Act.put, s1, s2, s3, i64_w, i32_w]
                  rfl
                refine pure_ (i := 9) (N := some 66) (v := ?_) (a' := ?_) #[true, false, false, true, false, false, true, false, false, true, false, false, false, false, false, false] rfl rfl (any_of HT_.out (by kernel_rfl)) (fun _ _ _ h => h) (Or.inl ⟨by rfl, ?_⟩) ?_ ?_
                rotate_left
                · intro w'
                  go_simp
                  with_reducible rfl
                rotate_left
                · simp only [Act.put, s1, s2, s3, i64_w, i32_w]
                  rfl
                refine take_ (i := 1) (N := some 58) (v := ?_) (a' := ?_) #[true, true, false, true, false, false, true, false, false, true, false, false, false, false, false, false] rfl rfl (take_ofW HT_.out HW_.out (by kernel_rfl)) (fun _ _ _ h => h) (Or.inl ⟨by rfl, ?_⟩) hHeld ?_ ?_
                rotate_left
                · rintro w' ⟨s0, s1, s2, s3⟩
                  go_simp
                  with_reducible rfl
                rotate_left
                · simp only [Act.put, s1, s2, s3, i64_w, i32_w]
                  rfl
                refine pure_ (i := 2) (N := some 59) (v := ?_) (a' := ?_) #[true, true, true, true, false, false, true, false, false, true, false, false, false, false, false, false] rfl rfl (any_of HT_.out (by kernel_rfl)) (fun _ _ _ h => h) (Or.inl ⟨by rfl, ?_⟩) ?_ ?_
                rotate_left
                · intro w'
                  go_simp
                  with_reducible rfl
                rotate_left
                · simp only [Act.put, s1, s2, s3, i64_w, i32_w]
                  rfl
                refine pure_ (i := 12) (N := some 9) (v := ?_) (a' := ?_) #[true, true, true, true, false, false, true, false, false, true, false, false, true, false, false, false] rfl rfl (any_of HT_.out (by kernel_rfl)) (fun _ _ _ h => h) (Or.inl ⟨by rfl, ?_⟩) ?_ ?_
                rotate_left
                · intro w'
                  go_simp
                  with_reducible rfl
                rotate_left
                · simp only [Act.put, s1, s2, s3, i64_w, i32_w]
                  rfl
                refine take_ (i := 4) (N := some 61) (v := ?_) (a' := ?_) #[true, true, true, true, true, false, true, false, false, true, false, false, true, false, false, false] rfl rfl (take_ofW HT_.out HW_.out (by kernel_rfl)) (fun _ _ _ h => h) (Or.inl ⟨by rfl, ?_⟩) hHeld ?_ ?_
                rotate_left
                · rintro w' ⟨s0, s1, s2, s3⟩
                  go_simp
                  with_reducible rfl
                rotate_left
                · simp only [Act.put, s1, s2, s3, i64_w, i32_w]
                  rfl
                refine pure_ (i := 5) (N := some 62) (v := ?_) (a' := ?_) #[true, true, true, true, true, true, true, false, false, true, false, false, true, false, false, false] rfl rfl (any_of HT_.out (by kernel_rfl)) (fun _ _ _ h => h) (Or.inl ⟨by rfl, ?_⟩) ?_ ?_
                rotate_left
                · intro w'
                  go_simp
                  with_reducible rfl
                rotate_left
                · simp only [Act.put, s1, s2, s3, i64_w, i32_w]
                  rfl
                refine pure_ (i := 13) (N := some 10) (v := ?_) (a' := ?_) #[true, true, true, true, true, true, true, false, false, true, false, false, true, true, false, false] rfl rfl (any_of HT_.out (by kernel_rfl)) (fun _ _ _ h => h) (Or.inl ⟨by rfl, ?_⟩) ?_ ?_
                rotate_left
                · intro w'
                  go_simp
                  with_reducible rfl
                rotate_left
                · simp only [Act.put, s1, s2, s3, i64_w, i32_w]
                  rfl
                refine take_ (i := 7) (N := some 64) (v := ?_) (a' := ?_) #[true, true, true, true, true, true, true, true, false, true, false, false, true, true, false, false] rfl rfl (take_ofW HT_.out HW_.out (by kernel_rfl)) (fun _ _ _ h => h) (Or.inl ⟨by rfl, ?_⟩) hHeld ?_ ?_
                rotate_left
                · rintro w' ⟨s0, s1, s2, s3⟩
                  go_simp
                  with_reducible rfl
                rotate_left
                · simp only [Act.put, s1, s2, s3, i64_w, i32_w]
                  rfl
                refine pure_ (i := 8) (N := some 65) (v := ?_) (a' := ?_) #[true, true, true, true, true, true, true, true, true, true, false, false, true, true, false, false] rfl rfl (any_of HT_.out (by kernel_rfl)) (fun _ _ _ h => h) (Or.inl ⟨by rfl, ?_⟩) ?_ ?_
                rotate_left
                · intro w'
                  go_simp
                  with_reducible rfl
                rotate_left
                · simp only [Act.put, s1, s2, s3, i64_w, i32_w]
                  rfl
                refine pure_ (i := 14) (N := some 11) (v := ?_) (a' := ?_) #[true, true, true, true, true, true, true, true, true, true, false, false, true, true, true, false] rfl rfl (any_of HT_.out (by kernel_rfl)) (fun _ _ _ h => h) (Or.inl ⟨by rfl, ?_⟩) ?_ ?_
                rotate_left
                · intro w'
                  go_simp
                  with_reducible rfl
                rotate_left
                · simp only [Act.put, s1, s2, s3, i64_w, i32_w]
                  rfl
                refine take_ (i := 10) (N := some 67) (v := ?_) (a' := ?_) #[true, true, true, true, true, true, true, true, true, true, true, false, true, true, true, false] rfl rfl (take_ofW HT_.out HW_.out (by kernel_rfl)) (fun _ _ _ h => h) (Or.inl ⟨by rfl, ?_⟩) hHeld ?_ ?_
                rotate_left
                · rintro w' ⟨s0, s1, s2, s3⟩
                  go_simp
                  with_reducible rfl
                rotate_left
                · simp only [Act.put, s1, s2, s3, i64_w, i32_w]
                  rfl
                refine pure_ (i := 11) (N := some 68) (v := ?_) (a' := ?_) #[true, true, true, true, true, true, true, true, true, true, true, true, true, true, true, false] rfl rfl (any_of HT_.out (by kernel_rfl)) (fun _ _ _ h => h) (Or.inl ⟨by rfl, ?_⟩) ?_ ?_
                rotate_left
                · intro w'
                  go_simp
                  with_reducible rfl
                rotate_left
                · simp only [Act.put, s1, s2, s3, i64_w, i32_w]
                  rfl
                refine pure_ (i := 15) (N := some 12) (v := ?_) (a' := ?_) #[true, true, true, true, true, true, true, true, true, true, true, true, true, true, true, true] rfl rfl (any_of HT_.out (by kernel_rfl)) (fun _ _ _ h => h) (Or.inl ⟨by rfl, ?_⟩) ?_ ?_
                rotate_left
                · intro w'
                  go_simp
                  with_reducible rfl
                rotate_left
                · simp only [Act.put, s1, s2, s3, i64_w, i32_w]
                  rfl
                refine done_ (done_of HT_.out (by kernel_rfl)) ?_
                have hnb142 := NB437_438.out
                have hnc142 := NB438_437.out
                have hnb143 := NB437_439.out
                have hnc143 := NB439_437.out
                have hcz144_0 : w141.cell? ⟨gb437, 0, none⟩ = some (.int .u32 a1_0) := cz BK437
                have hcz144_1 : w141.cell? ⟨gb437, 1, none⟩ = some (.int .u32 a1_1) := cz BK437
                have hfz144_0 := blk_frozen BK437.out 0
                have hfz144_1 := blk_frozen BK437.out 1
                have hnb145 := NB438_439.out
                have hnc145 := NB439_438.out
                have hcz146_0 : w141.cell? ⟨gb438, 0, none⟩ = some (.int .u32 x439000_29) := cz BK438
                have hcz146_1 : w141.cell? ⟨gb438, 1, none⟩ = some (.int .u32 a2_1) := cz BK438
                have hfz146_0 := blk_frozen BK438.out 0
                have hfz146_1 := blk_frozen BK438.out 1
                try go_wp2_with (first | ((with_reducible refine gate_callee (f := 45) rfl ?_); refine goesL_ (some 167) rfl rfl Try.func45 (by kernel_rfl) rfl #[.int .u32 ji139] rfl (by (try simp only [List.map_toArray, List.map_cons, List.map_nil]); first | done | (simp only [hji139]; rfl) | rfl | (simp only [List.length_drop, List.length_take]; rfl)) ?_; (with_reducible refine (lamplighterref19_cap1.calls kj29 ji139 t453 _ A140.out).mono ?_); rintro e w' ⟨rfl, ⟨nd, rfl⟩⟩; refine ⟨_, rfl, ?_⟩; (try (rw [drewN_self w141]; generalize hq_ : World.drewN w141 _ = w141; have n0_ : Aside0 (w141.heap[gb437]? = some (.cells #[.int .u32 a1_0, .int .u32 a1_1] 24 (0, 0))) := ⟨by rw [← hq_]; exact (bkA BK437)⟩; have n1_ : Aside0 (w141.heap[gb438]? = some (.cells #[.int .u32 x439000_29, .int .u32 a2_1] 24 (0, 0))) := ⟨by rw [← hq_]; exact (bkA BK438)⟩; have n2_ : Aside0 (w141.heap[gb439]? = some (.cells #[.int .u32 x440000_29, .int .u32 x440001_29] 24 (0, 0))) := ⟨by rw [← hq_]; exact (bkA BK439)⟩; have n3_ : Aside0 (Below w.heap.size w w141) := ⟨by rw [← hq_]; exact (hbA HB)⟩; clear BK437 BK438 BK439 HB hq_; have BK437 := n0_; have BK438 := n1_; have BK439 := n2_; have HB := n3_; clear n0_ n1_ n2_ n3_; clear hcz144_0; have hcz144_0 : w141.cell? ⟨gb437, 0, none⟩ = some (.int .u32 a1_0) := cz BK437; clear hfz144_0; have hfz144_0 := blk_frozen BK437.out 0; clear hcz144_1; have hcz144_1 : w141.cell? ⟨gb437, 1, none⟩ = some (.int .u32 a1_1) := cz BK437; clear hfz144_1; have hfz144_1 := blk_frozen BK437.out 1; clear hcz146_0; have hcz146_0 : w141.cell? ⟨gb438, 0, none⟩ = some (.int .u32 x439000_29) := cz BK438; clear hfz146_0; have hfz146_0 := blk_frozen BK438.out 0; clear hcz146_1; have hcz146_1 : w141.cell? ⟨gb438, 1, none⟩ = some (.int .u32 a2_1) := cz BK438; clear hfz146_1; have hfz146_1 := blk_frozen BK438.out 1)); have hcz147_0 : w141.cell? ⟨gb439, 0, none⟩ = some (.int .u32 x440000_29) := cz BK439; have hcz147_1 : w141.cell? ⟨gb439, 1, none⟩ = some (.int .u32 x440001_29) := cz BK439; have hfz147_0 := blk_frozen BK439.out 0; have hfz147_1 := blk_frozen BK439.out 1))
                refine bodyPost_ret (results_ctt rfl _ _ gb439 24 #[.int .u32 0, .int .u32 t453] (0, 0) _ rfl (by refine bkT ?_; refine blk_put (cs := #[.int .u32 0, .int .u32 x440001_29]) ?_ 1 _ rfl; refine bkT ?_; refine blk_put (cs := #[.int .u32 x440000_29, .int .u32 x440001_29]) ?_ 0 _ rfl; refine bkT ?_; exact BK439.out) Try.underlying24 rfl (by kernel_rfl)) rfl ?_
                exact ⟨by first | rfl | (simp [errW_none, errW_some] <;> rfl) | (simp only [← hji139]; first | rfl | (simp [errW_none, errW_some] <;> rfl)) | (simp [*, errW_none, errW_some] <;> rfl), hbA HB⟩
              rw [if_neg c138] at H; have c138b0 : (x0_29 == 10) = false := beq_eq_false_iff_ne.mpr c138; have c138b1 : (x0_29 != 10) = true := bne_iff_ne.mpr c138; by_cases c148 : x0_29 = 11
              · rw [if_pos c148] at H; have c148b0 : (x0_29 == 11) = true := beq_iff_eq.mpr c148; have c148b1 : (x0_29 != 11) = false := bne_eq_false_iff_eq.mpr c148; clear c148; by_cases c149 : x439000_29 ≥ 32
                · rw [if_pos c149] at H; have c149b0 : decide (32 ≤ x439000_29) = true := decide_eq_true c149; clear c149; replace H := Option.bind_eq_some_iff.mp H; obtain ⟨⟨t454, t455⟩, A1500, H⟩ := H; replace H : (some (t454, t455, true, 0)) = some (r1, r2, r3, r4) := H; have A150 := am A1500; clear A1500; simp only [Option.some.injEq, Prod.mk.injEq] at H; obtain ⟨rfl, rfl, rfl, rfl⟩ := H
                  try go_wp2
                  have n0_ := am (blk_drew BK437.out)
                  have n1_ := am (blk_drew BK438.out)
                  have n2_ := am (blk_drew BK439.out)
                  have n3_ := am (below_drew1 HB.out)
                  clear BK437; clear BK438; clear BK439; clear HB; have BK437 := n0_; have BK438 := n1_; have BK439 := n2_; have HB := n3_; clear n0_ n1_ n2_ n3_; refine start_ (n := 16) (S := fun w' => w'.cell? ⟨gb437, 0, none⟩ = some (.int .u32 a1_0) ∧ w'.cell? ⟨gb437, 1, none⟩ = some (.int .u32 a1_1) ∧ w'.cell? ⟨gb438, 0, none⟩ = some (.int .u32 x439000_29) ∧ w'.cell? ⟨gb438, 1, none⟩ = some (.int .u32 a2_1)) (ds := []) #[false, false, false, false, false, false, false, false, false, false, false, false, false, false, false, false] (by kernel_rfl) rfl rfl ⟨(blk_cell BK437.out 0).trans rfl, (blk_cell BK437.out 1).trans rfl, (blk_cell BK438.out 0).trans rfl, (blk_cell BK438.out 1).trans rfl⟩ (fun hHeld => ?_); refine with_tabW lamplighterref19_Do.tab11 lamplighterref19_Do.bits11 (fun HT_ HW_ => ?_)
                  generalize wc.drew = w151 at BK437 BK438 BK439 HB hHeld ⊢
                  refine pure_ (i := 0) (N := some 57) (v := ?_) (a' := ?_) #[true, false, false, false, false, false, false, false, false, false, false, false, false, false, false, false] rfl rfl (any_of HT_.out (by kernel_rfl)) (fun _ _ _ h => h) (Or.inl ⟨by rfl, ?_⟩) ?_ ?_
                  rotate_left
                  · intro w'
                    go_simp
                    with_reducible rfl
                  rotate_left
                  · simp only [Act.put, s1, s2, s3, i64_w, i32_w]
                    rfl
                  refine pure_ (i := 3) (N := some 60) (v := ?_) (a' := ?_) #[true, false, false, true, false, false, false, false, false, false, false, false, false, false, false, false] rfl rfl (any_of HT_.out (by kernel_rfl)) (fun _ _ _ h => h) (Or.inl ⟨by rfl, ?_⟩) ?_ ?_
                  rotate_left
                  · intro w'
                    go_simp
                    with_reducible rfl
                  rotate_left
                  · simp only [Act.put, s1, s2, s3, i64_w, i32_w]
                    rfl
                  refine pure_ (i := 6) (N := some 63) (v := ?_) (a' := ?_) #[true, false, false, true, false, false, true, false, false, false, false, false, false, false, false, false] rfl rfl (any_of HT_.out (by kernel_rfl)) (fun _ _ _ h => h) (Or.inl ⟨by rfl, ?_⟩) ?_ ?_
                  rotate_left
                  · intro w'
                    go_simp
                    with_reducible rfl
                  rotate_left
                  · simp only [Act.put, s1, s2, s3, i64_w, i32_w]
                    rfl
                  refine pure_ (i := 9) (N := some 66) (v := ?_) (a' := ?_) #[true, false, false, true, false, false, true, false, false, true, false, false, false, false, false, false] rfl rfl (any_of HT_.out (by kernel_rfl)) (fun _ _ _ h => h) (Or.inl ⟨by rfl, ?_⟩) ?_ ?_
                  rotate_left
                  · intro w'
                    go_simp
                    with_reducible rfl
                  rotate_left
                  · simp only [Act.put, s1, s2, s3, i64_w, i32_w]
                    rfl
                  refine take_ (i := 1) (N := some 58) (v := ?_) (a' := ?_) #[true, true, false, true, false, false, true, false, false, true, false, false, false, false, false, false] rfl rfl (take_ofW HT_.out HW_.out (by kernel_rfl)) (fun _ _ _ h => h) (Or.inl ⟨by rfl, ?_⟩) hHeld ?_ ?_
                  rotate_left
                  · rintro w' ⟨s0, s1, s2, s3⟩
                    go_simp
                    with_reducible rfl
                  rotate_left
                  · simp only [Act.put, s1, s2, s3, i64_w, i32_w]
                    rfl
                  refine pure_ (i := 2) (N := some 59) (v := ?_) (a' := ?_) #[true, true, true, true, false, false, true, false, false, true, false, false, false, false, false, false] rfl rfl (any_of HT_.out (by kernel_rfl)) (fun _ _ _ h => h) (Or.inl ⟨by rfl, ?_⟩) ?_ ?_
                  rotate_left
                  · intro w'
                    go_simp
                    with_reducible rfl
                  rotate_left
                  · simp only [Act.put, s1, s2, s3, i64_w, i32_w]
                    rfl
                  refine pure_ (i := 12) (N := some 9) (v := ?_) (a' := ?_) #[true, true, true, true, false, false, true, false, false, true, false, false, true, false, false, false] rfl rfl (any_of HT_.out (by kernel_rfl)) (fun _ _ _ h => h) (Or.inl ⟨by rfl, ?_⟩) ?_ ?_
                  rotate_left
                  · intro w'
                    go_simp
                    with_reducible rfl
                  rotate_left
                  · simp only [Act.put, s1, s2, s3, i64_w, i32_w]
                    rfl
                  refine take_ (i := 4) (N := some 61) (v := ?_) (a' := ?_) #[true, true, true, true, true, false, true, false, false, true, false, false, true, false, false, false] rfl rfl (take_ofW HT_.out HW_.out (by kernel_rfl)) (fun _ _ _ h => h) (Or.inl ⟨by rfl, ?_⟩) hHeld ?_ ?_
                  rotate_left
                  · rintro w' ⟨s0, s1, s2, s3⟩
                    go_simp
                    with_reducible rfl
                  rotate_left
                  · simp only [Act.put, s1, s2, s3, i64_w, i32_w]
                    rfl
                  refine pure_ (i := 5) (N := some 62) (v := ?_) (a' := ?_) #[true, true, true, true, true, true, true, false, false, true, false, false, true, false, false, false] rfl rfl (any_of HT_.out (by kernel_rfl)) (fun _ _ _ h => h) (Or.inl ⟨by rfl, ?_⟩) ?_ ?_
                  rotate_left
                  · intro w'
                    go_simp
                    with_reducible rfl
                  rotate_left
                  · simp only [Act.put, s1, s2, s3, i64_w, i32_w]
                    rfl
                  refine pure_ (i := 13) (N := some 10) (v := ?_) (a' := ?_) #[true, true, true, true, true, true, true, false, false, true, false, false, true, true, false, false] rfl rfl (any_of HT_.out (by kernel_rfl)) (fun _ _ _ h => h) (Or.inl ⟨by rfl, ?_⟩) ?_ ?_
                  rotate_left
                  · intro w'
                    go_simp
                    with_reducible rfl
                  rotate_left
                  · simp only [Act.put, s1, s2, s3, i64_w, i32_w]
                    rfl
                  refine take_ (i := 7) (N := some 64) (v := ?_) (a' := ?_) #[true, true, true, true, true, true, true, true, false, true, false, false, true, true, false, false] rfl rfl (take_ofW HT_.out HW_.out (by kernel_rfl)) (fun _ _ _ h => h) (Or.inl ⟨by rfl, ?_⟩) hHeld ?_ ?_
                  rotate_left
                  · rintro w' ⟨s0, s1, s2, s3⟩
                    go_simp
                    with_reducible rfl
                  rotate_left
                  · simp only [Act.put, s1, s2, s3, i64_w, i32_w]
                    rfl
                  refine pure_ (i := 8) (N := some 65) (v := ?_) (a' := ?_) #[true, true, true, true, true, true, true, true, true, true, false, false, true, true, false, false] rfl rfl (any_of HT_.out (by kernel_rfl)) (fun _ _ _ h => h) (Or.inl ⟨by rfl, ?_⟩) ?_ ?_
                  rotate_left
                  · intro w'
                    go_simp
                    with_reducible rfl
                  rotate_left
                  · simp only [Act.put, s1, s2, s3, i64_w, i32_w]
                    rfl
                  refine pure_ (i := 14) (N := some 11) (v := ?_) (a' := ?_) #[true, true, true, true, true, true, true, true, true, true, false, false, true, true, true, false] rfl rfl (any_of HT_.out (by kernel_rfl)) (fun _ _ _ h => h) (Or.inl ⟨by rfl, ?_⟩) ?_ ?_
                  rotate_left
                  · intro w'
                    go_simp
                    with_reducible rfl
                  rotate_left
                  · simp only [Act.put, s1, s2, s3, i64_w, i32_w]
                    rfl
                  refine take_ (i := 10) (N := some 67) (v := ?_) (a' := ?_) #[true, true, true, true, true, true, true, true, true, true, true, false, true, true, true, false] rfl rfl (take_ofW HT_.out HW_.out (by kernel_rfl)) (fun _ _ _ h => h) (Or.inl ⟨by rfl, ?_⟩) hHeld ?_ ?_
                  rotate_left
                  · rintro w' ⟨s0, s1, s2, s3⟩
                    go_simp
                    with_reducible rfl
                  rotate_left
                  · simp only [Act.put, s1, s2, s3, i64_w, i32_w]
                    rfl
                  refine pure_ (i := 11) (N := some 68) (v := ?_) (a' := ?_) #[true, true, true, true, true, true, true, true, true, true, true, true, true, true, true, false] rfl rfl (any_of HT_.out (by kernel_rfl)) (fun _ _ _ h => h) (Or.inl ⟨by rfl, ?_⟩) ?_ ?_
                  rotate_left
                  · intro w'
                    go_simp
                    with_reducible rfl
                  rotate_left
                  · simp only [Act.put, s1, s2, s3, i64_w, i32_w]
                    rfl
                  refine pure_ (i := 15) (N := some 12) (v := ?_) (a' := ?_) #[true, true, true, true, true, true, true, true, true, true, true, true, true, true, true, true] rfl rfl (any_of HT_.out (by kernel_rfl)) (fun _ _ _ h => h) (Or.inl ⟨by rfl, ?_⟩) ?_ ?_
                  rotate_left
                  · intro w'
                    go_simp
                    with_reducible rfl
                  rotate_left
                  · simp only [Act.put, s1, s2, s3, i64_w, i32_w]
                    rfl
                  refine done_ (done_of HT_.out (by kernel_rfl)) ?_
                  have hnb152 := NB438_437.out
                  have hnc152 := NB437_438.out
                  have hnb153 := NB438_439.out
                  have hnc153 := NB439_438.out
                  have hcz154_0 : w151.cell? ⟨gb438, 0, none⟩ = some (.int .u32 x439000_29) := cz BK438
                  have hcz154_1 : w151.cell? ⟨gb438, 1, none⟩ = some (.int .u32 a2_1) := cz BK438
                  have hfz154_0 := blk_frozen BK438.out 0
                  have hfz154_1 := blk_frozen BK438.out 1
                  try go_wp2_with (first | ((with_reducible refine gate_callee (f := 46) rfl ?_); refine goesL_ (some 174) rfl rfl Try.func46 (by kernel_rfl) rfl #[.int .u32 0] rfl (by (try simp only [List.map_toArray, List.map_cons, List.map_nil]); first | done | rfl | (simp only [List.length_drop, List.length_take]; rfl)) ?_; (with_reducible refine (lamplighterref19_One.calls 0 t454 t455 _ A150.out).mono ?_); rintro e w155 ⟨rfl, hb⟩; refine ⟨_, rfl, ?_⟩; replace BK437 := bbA BK437 hb; replace BK438 := bbA BK438 hb; replace BK439 := bbA BK439 hb; replace HB := bsA HB hb; (try clear hb); (try clear hb2); (try clear hk); (try clear hi); have hnb156 := NB439_437.out; have hnc156 := NB437_439.out; have hcz157_0 : w155.cell? ⟨gb439, 0, none⟩ = some (.int .u32 x440000_29) := cz BK439; have hcz157_1 : w155.cell? ⟨gb439, 1, none⟩ = some (.int .u32 x440001_29) := cz BK439; have hfz157_0 := blk_frozen BK439.out 0; have hfz157_1 := blk_frozen BK439.out 1))
                  refine bodyPost_ret (results_ctt rfl _ _ gb439 24 #[.int .u32 t454, .int .u32 t455] (0, 0) _ rfl (by refine bkT ?_; refine blk_put (cs := #[.int .u32 t454, .int .u32 x440001_29]) ?_ 1 _ rfl; refine bkT ?_; refine blk_put (cs := #[.int .u32 x440000_29, .int .u32 x440001_29]) ?_ 0 _ rfl; refine bkT ?_; exact BK439.out) Try.underlying24 rfl (by kernel_rfl)) rfl ?_
                  exact ⟨by first | rfl | (simp [errW_none, errW_some] <;> rfl) | (simp [*, errW_none, errW_some] <;> rfl), hbA HB⟩
                rw [if_neg c149] at H; have c149b0 : decide (32 ≤ x439000_29) = false := decide_eq_false c149; clear c149; have HC158 := am H; clear H
                try go_wp2
                have n0_ := am (blk_drew BK437.out)
                have n1_ := am (blk_drew BK438.out)
                have n2_ := am (blk_drew BK439.out)
                have n3_ := am (below_drew1 HB.out)
                clear BK437; clear BK438; clear BK439; clear HB; have BK437 := n0_; have BK438 := n1_; have BK439 := n2_; have HB := n3_; clear n0_ n1_ n2_ n3_; refine start_ (n := 16) (S := fun w' => w'.cell? ⟨gb437, 0, none⟩ = some (.int .u32 a1_0) ∧ w'.cell? ⟨gb437, 1, none⟩ = some (.int .u32 a1_1) ∧ w'.cell? ⟨gb438, 0, none⟩ = some (.int .u32 x439000_29) ∧ w'.cell? ⟨gb438, 1, none⟩ = some (.int .u32 a2_1)) (ds := []) #[false, false, false, false, false, false, false, false, false, false, false, false, false, false, false, false] (by kernel_rfl) rfl rfl ⟨(blk_cell BK437.out 0).trans rfl, (blk_cell BK437.out 1).trans rfl, (blk_cell BK438.out 0).trans rfl, (blk_cell BK438.out 1).trans rfl⟩ (fun hHeld => ?_); refine with_tabW lamplighterref19_Do.tab11 lamplighterref19_Do.bits11 (fun HT_ HW_ => ?_)
                generalize wc.drew = w159 at BK437 BK438 BK439 HB hHeld ⊢
                refine pure_ (i := 0) (N := some 57) (v := ?_) (a' := ?_) #[true, false, false, false, false, false, false, false, false, false, false, false, false, false, false, false] rfl rfl (any_of HT_.out (by kernel_rfl)) (fun _ _ _ h => h) (Or.inl ⟨by rfl, ?_⟩) ?_ ?_
                rotate_left
                · intro w'
                  go_simp
                  with_reducible rfl
                rotate_left
                · simp only [Act.put, s1, s2, s3, i64_w, i32_w]
                  rfl
                refine pure_ (i := 3) (N := some 60) (v := ?_) (a' := ?_) #[true, false, false, true, false, false, false, false, false, false, false, false, false, false, false, false] rfl rfl (any_of HT_.out (by kernel_rfl)) (fun _ _ _ h => h) (Or.inl ⟨by rfl, ?_⟩) ?_ ?_
                rotate_left
                · intro w'
                  go_simp
                  with_reducible rfl
                rotate_left
                · simp only [Act.put, s1, s2, s3, i64_w, i32_w]
                  rfl
                refine pure_ (i := 6) (N := some 63) (v := ?_) (a' := ?_) #[true, false, false, true, false, false, true, false, false, false, false, false, false, false, false, false] rfl rfl (any_of HT_.out (by kernel_rfl)) (fun _ _ _ h => h) (Or.inl ⟨by rfl, ?_⟩) ?_ ?_
                rotate_left
                · intro w'
                  go_simp
                  with_reducible rfl
                rotate_left
                · simp only [Act.put, s1, s2, s3, i64_w, i32_w]
                  rfl
                refine pure_ (i := 9) (N := some 66) (v := ?_) (a' := ?_) #[true, false, false, true, false, false, true, false, false, true, false, false, false, false, false, false] rfl rfl (any_of HT_.out (by kernel_rfl)) (fun _ _ _ h => h) (Or.inl ⟨by rfl, ?_⟩) ?_ ?_
                rotate_left
                · intro w'
                  go_simp
                  with_reducible rfl
                rotate_left
                · simp only [Act.put, s1, s2, s3, i64_w, i32_w]
                  rfl
                refine take_ (i := 1) (N := some 58) (v := ?_) (a' := ?_) #[true, true, false, true, false, false, true, false, false, true, false, false, false, false, false, false] rfl rfl (take_ofW HT_.out HW_.out (by kernel_rfl)) (fun _ _ _ h => h) (Or.inl ⟨by rfl, ?_⟩) hHeld ?_ ?_
                rotate_left
                · rintro w' ⟨s0, s1, s2, s3⟩
                  go_simp
                  with_reducible rfl
                rotate_left
                · simp only [Act.put, s1, s2, s3, i64_w, i32_w]
                  rfl
                refine pure_ (i := 2) (N := some 59) (v := ?_) (a' := ?_) #[true, true, true, true, false, false, true, false, false, true, false, false, false, false, false, false] rfl rfl (any_of HT_.out (by kernel_rfl)) (fun _ _ _ h => h) (Or.inl ⟨by rfl, ?_⟩) ?_ ?_
                rotate_left
                · intro w'
                  go_simp
                  with_reducible rfl
                rotate_left
                · simp only [Act.put, s1, s2, s3, i64_w, i32_w]
                  rfl
                refine pure_ (i := 12) (N := some 9) (v := ?_) (a' := ?_) #[true, true, true, true, false, false, true, false, false, true, false, false, true, false, false, false] rfl rfl (any_of HT_.out (by kernel_rfl)) (fun _ _ _ h => h) (Or.inl ⟨by rfl, ?_⟩) ?_ ?_
                rotate_left
                · intro w'
                  go_simp
                  with_reducible rfl
                rotate_left
                · simp only [Act.put, s1, s2, s3, i64_w, i32_w]
                  rfl
                refine take_ (i := 4) (N := some 61) (v := ?_) (a' := ?_) #[true, true, true, true, true, false, true, false, false, true, false, false, true, false, false, false] rfl rfl (take_ofW HT_.out HW_.out (by kernel_rfl)) (fun _ _ _ h => h) (Or.inl ⟨by rfl, ?_⟩) hHeld ?_ ?_
                rotate_left
                · rintro w' ⟨s0, s1, s2, s3⟩
                  go_simp
                  with_reducible rfl
                rotate_left
                · simp only [Act.put, s1, s2, s3, i64_w, i32_w]
                  rfl
                refine pure_ (i := 5) (N := some 62) (v := ?_) (a' := ?_) #[true, true, true, true, true, true, true, false, false, true, false, false, true, false, false, false] rfl rfl (any_of HT_.out (by kernel_rfl)) (fun _ _ _ h => h) (Or.inl ⟨by rfl, ?_⟩) ?_ ?_
                rotate_left
                · intro w'
                  go_simp
                  with_reducible rfl
                rotate_left
                · simp only [Act.put, s1, s2, s3, i64_w, i32_w]
                  rfl
                refine pure_ (i := 13) (N := some 10) (v := ?_) (a' := ?_) #[true, true, true, true, true, true, true, false, false, true, false, false, true, true, false, false] rfl rfl (any_of HT_.out (by kernel_rfl)) (fun _ _ _ h => h) (Or.inl ⟨by rfl, ?_⟩) ?_ ?_
                rotate_left
                · intro w'
                  go_simp
                  with_reducible rfl
                rotate_left
                · simp only [Act.put, s1, s2, s3, i64_w, i32_w]
                  rfl
                refine take_ (i := 7) (N := some 64) (v := ?_) (a' := ?_) #[true, true, true, true, true, true, true, true, false, true, false, false, true, true, false, false] rfl rfl (take_ofW HT_.out HW_.out (by kernel_rfl)) (fun _ _ _ h => h) (Or.inl ⟨by rfl, ?_⟩) hHeld ?_ ?_
                rotate_left
                · rintro w' ⟨s0, s1, s2, s3⟩
                  go_simp
                  with_reducible rfl
                rotate_left
                · simp only [Act.put, s1, s2, s3, i64_w, i32_w]
                  rfl
                refine pure_ (i := 8) (N := some 65) (v := ?_) (a' := ?_) #[true, true, true, true, true, true, true, true, true, true, false, false, true, true, false, false] rfl rfl (any_of HT_.out (by kernel_rfl)) (fun _ _ _ h => h) (Or.inl ⟨by rfl, ?_⟩) ?_ ?_
                rotate_left
                · intro w'
                  go_simp
                  with_reducible rfl
                rotate_left
                · simp only [Act.put, s1, s2, s3, i64_w, i32_w]
                  rfl
                refine pure_ (i := 14) (N := some 11) (v := ?_) (a' := ?_) #[true, true, true, true, true, true, true, true, true, true, false, false, true, true, true, false] rfl rfl (any_of HT_.out (by kernel_rfl)) (fun _ _ _ h => h) (Or.inl ⟨by rfl, ?_⟩) ?_ ?_
                rotate_left
                · intro w'
                  go_simp
                  with_reducible rfl
                rotate_left
                · simp only [Act.put, s1, s2, s3, i64_w, i32_w]
                  rfl
                refine take_ (i := 10) (N := some 67) (v := ?_) (a' := ?_) #[true, true, true, true, true, true, true, true, true, true, true, false, true, true, true, false] rfl rfl (take_ofW HT_.out HW_.out (by kernel_rfl)) (fun _ _ _ h => h) (Or.inl ⟨by rfl, ?_⟩) hHeld ?_ ?_
                rotate_left
                · rintro w' ⟨s0, s1, s2, s3⟩
                  go_simp
                  with_reducible rfl
                rotate_left
                · simp only [Act.put, s1, s2, s3, i64_w, i32_w]
                  rfl
                refine pure_ (i := 11) (N := some 68) (v := ?_) (a' := ?_) #[true, true, true, true, true, true, true, true, true, true, true, true, true, true, true, false] rfl rfl (any_of HT_.out (by kernel_rfl)) (fun _ _ _ h => h) (Or.inl ⟨by rfl, ?_⟩) ?_ ?_
                rotate_left
                · intro w'
                  go_simp
                  with_reducible rfl
                rotate_left
                · simp only [Act.put, s1, s2, s3, i64_w, i32_w]
                  rfl
                refine pure_ (i := 15) (N := some 12) (v := ?_) (a' := ?_) #[true, true, true, true, true, true, true, true, true, true, true, true, true, true, true, true] rfl rfl (any_of HT_.out (by kernel_rfl)) (fun _ _ _ h => h) (Or.inl ⟨by rfl, ?_⟩) ?_ ?_
                rotate_left
                · intro w'
                  go_simp
                  with_reducible rfl
                rotate_left
                · simp only [Act.put, s1, s2, s3, i64_w, i32_w]
                  rfl
                refine done_ (done_of HT_.out (by kernel_rfl)) ?_
                have hnb160 := NB438_437.out
                have hnc160 := NB437_438.out
                have hnb161 := NB438_439.out
                have hnc161 := NB439_438.out
                have hcz162_0 : w159.cell? ⟨gb438, 0, none⟩ = some (.int .u32 x439000_29) := cz BK438
                have hcz162_1 : w159.cell? ⟨gb438, 1, none⟩ = some (.int .u32 a2_1) := cz BK438
                have hfz162_0 := blk_frozen BK438.out 0
                have hfz162_1 := blk_frozen BK438.out 1
                go_upto_region 36 with (fail)
                go_cut [186] (fun v186 wc => ∃ (kq : Nat) (x186_157 : Bool), v186 = .bool x186_157 ∧ Aside0 (lamplighterref19_Do.j4 kq x186_157 a1_0 a1_1 x439000_29 a2_1 = some (r1, r2, r3, r4)) ∧ Aside0 (kq ≤ kj29) ∧ Aside0 (wc.heap[gb437]? = some (.cells #[.int .u32 a1_0, .int .u32 a1_1] 24 (0, 0))) ∧ Aside0 (wc.heap[gb438]? = some (.cells #[.int .u32 x439000_29, .int .u32 a2_1] 24 (0, 0))) ∧ Aside0 (wc.heap[gb439]? = some (.cells #[.int .u32 x440000_29, .int .u32 x440001_29] 24 (0, 0))) ∧ Aside0 (Below w.heap.size w wc))
                case first => as_aux_lemma =>
                  have H := HC158.out
                  clear HC158; by_cases c163 : x439000_29 = a2_1
                  · rw [if_pos c163] at H; have c163b0 : (x439000_29 == a2_1) = true := beq_iff_eq.mpr c163; have c163b1 : (x439000_29 != a2_1) = false := bne_eq_false_iff_eq.mpr c163; clear c163; (first | rw [c163b0] | (simp only [i64_w, i32_w]; rw [c163b0]) | skip)
                    by_cases c164 : 0 ≤ x439000_29
                    · rw [if_pos c164] at H; have c164b0 := eq_true c164; have c164b1 : decide (0 ≤ x439000_29) = true := decide_eq_true c164; clear c164; obtain ⟨ji165, hji165⟩ : ∃ j_ : Int, (shl .i64 (wrap64 (a1_1)) x439000_29) = j_ := ⟨_, rfl⟩
                      replace H : (lamplighterref19_Do.j4 kj29 (decide ((ji165) > 4294967295)) a1_0 a1_1 x439000_29 a2_1) = some (r1, r2, r3, r4) := by first | (rw [hji165] at H; exact H) | (simp only [hji165] at H ⊢; exact H)
                      have hji165_ : (IntKind.i64.wrap ((wrap64 (a1_1)) * 2 ^ min x439000_29.toNat 64)) = ji165 := hji165
                      have hji165z : x439000_29 ≤ 64 → (IntKind.i64.wrap ((wrap64 (a1_1)) * 2 ^ x439000_29.toNat)) = ji165 := shl_small hji165
                      have hji165y : (wrap64 ((wrap64 (a1_1)) * 2 ^ min x439000_29.toNat 64)) = ji165 := (i64_w _).symm.trans hji165_
                      have hji165x : x439000_29 ≤ 64 → (wrap64 ((wrap64 (a1_1)) * 2 ^ x439000_29.toNat)) = ji165 := fun h_ => (i64_w _).symm.trans (hji165z h_)
                      have H' := am H; clear H; have hnb166 := NB438_437.out
                      have hnc166 := NB437_438.out
                      have hnb167 := NB438_439.out
                      have hnc167 := NB439_438.out
                      have hcz168_0 : w159.cell? ⟨gb438, 0, none⟩ = some (.int .u32 x439000_29) := cz BK438
                      have hcz168_1 : w159.cell? ⟨gb438, 1, none⟩ = some (.int .u32 a2_1) := cz BK438
                      have hfz168_0 := blk_frozen BK438.out 0
                      have hfz168_1 := blk_frozen BK438.out 1
                      go_wp2
                      go_meet
                      case rel => exact ⟨_, (decide ((ji165) > 4294967295)), (by first | rfl | (simp; done) | (simp only [← hji165] <;> (first | rfl | simp)) | (simp [*]; done)), H', ⟨by have := HJ3.out; have := HJ27.out; have := HJ29.out; first | omega | exact Nat.le_refl _⟩, ⟨by refine bkT ?_; exact BK437.out⟩, ⟨by refine bkT ?_; exact BK438.out⟩, ⟨by refine bkT ?_; exact BK439.out⟩, ⟨by repeat (first | (with_reducible first | exact HB.out | apply below_alloc | apply pw_below_drewN | apply below_drew1 | refine below_set ?_ GE437.out | refine below_set ?_ GE438.out | refine below_set ?_ GE439.out) | exact HB.out)⟩⟩
                    rw [if_neg c164] at H; exact absurd H (by simp)
                  rw [if_neg c163] at H; have c163b0 : (x439000_29 == a2_1) = false := beq_eq_false_iff_ne.mpr c163; have c163b1 : (x439000_29 != a2_1) = true := bne_iff_ne.mpr c163; (first | rw [c163b0] | (simp only [i64_w, i32_w]; rw [c163b0]) | skip)
                  have H' := am H; clear H; have hnb169 := NB438_437.out
                  have hnc169 := NB437_438.out
                  have hnb170 := NB438_439.out
                  have hnc170 := NB439_438.out
                  have hcz171_0 : w159.cell? ⟨gb438, 0, none⟩ = some (.int .u32 x439000_29) := cz BK438
                  have hcz171_1 : w159.cell? ⟨gb438, 1, none⟩ = some (.int .u32 a2_1) := cz BK438
                  have hfz171_0 := blk_frozen BK438.out 0
                  have hfz171_1 := blk_frozen BK438.out 1
                  go_wp2
                  go_meet
                  case rel => exact ⟨_, (true), (by first | rfl | (simp; done) | (simp [*]; done) | (congr 1; omega) | (congr 2; omega) | (rw [Int.tdiv_eq_ediv_of_nonneg (by decide)]; done)), H', ⟨by have := HJ3.out; have := HJ27.out; have := HJ29.out; first | omega | exact Nat.le_refl _⟩, ⟨by refine bkT ?_; exact BK437.out⟩, ⟨by refine bkT ?_; exact BK438.out⟩, ⟨by refine bkT ?_; exact BK439.out⟩, ⟨by repeat (first | (with_reducible first | exact HB.out | apply below_alloc | apply pw_below_drewN | apply below_drew1 | refine below_set ?_ GE437.out | refine below_set ?_ GE438.out | refine below_set ?_ GE439.out) | exact HB.out)⟩⟩
                case rest => as_aux_lemma =>
                  clear HC158
                  try clear c1
                  try clear p1
                  try clear p2
                  try clear c4
                  try clear p6
                  try clear c13
                  try clear c14
                  try clear c15
                  try clear c16
                  try clear c17
                  try clear c45
                  try clear c46
                  try clear p64
                  try clear c130
                  try clear c130b0
                  try clear c130b1
                  try clear c138
                  try clear c138b0
                  try clear c138b1
                  try clear c142
                  try clear c143
                  try clear c145
                  try clear c148
                  try clear c148b0
                  try clear c148b1
                  try clear c149
                  try clear c149b0
                  try clear c152
                  try clear c153
                  try clear c156
                  try clear c160
                  try clear c161
                  try clear c163
                  try clear c163b0
                  try clear c163b1
                  try clear c164
                  try clear c164b0
                  try clear c164b1
                  try clear c166
                  try clear c167
                  try clear c169
                  try clear c170
                  try clear hcz144_0
                  try clear hcz144_1
                  try clear hcz146_0
                  try clear hcz146_1
                  try clear hcz147_0
                  try clear hcz147_1
                  try clear hcz154_0
                  try clear hcz154_1
                  try clear hcz157_0
                  try clear hcz157_1
                  try clear hcz162_0
                  try clear hcz162_1
                  try clear hcz168_0
                  try clear hcz168_1
                  try clear hcz171_0
                  try clear hcz171_1
                  try clear hfz144_0
                  try clear hfz144_1
                  try clear hfz146_0
                  try clear hfz146_1
                  try clear hfz147_0
                  try clear hfz147_1
                  try clear hfz154_0
                  try clear hfz154_1
                  try clear hfz157_0
                  try clear hfz157_1
                  try clear hfz162_0
                  try clear hfz162_1
                  try clear hfz168_0
                  try clear hfz168_1
                  try clear hfz171_0
                  try clear hfz171_1
                  obtain ⟨kq, x186_157, rfl, HA, HJ157, BK437, BK438, BK439, HB⟩ := hcut
                  cases kq with
                  | zero => exact absurd HA.out (by simp [lamplighterref19_Do.j4])
                  | succ kj157 =>
                    have H := HA.out
                    clear HA; simp only [lamplighterref19_Do.j4] at H
                    by_cases c172 : x186_157 = true
                    · subst c172; have H1 : ((lamplighterref19_All.f).bind fun bt456 => (some (bt456.1, bt456.2, true, 0))) = some (r1, r2, r3, r4) := by rw [if_pos rfl] at H; exact H
                      clear H; have H := H1; clear H1; replace H := Option.bind_eq_some_iff.mp H; obtain ⟨⟨t456, t457⟩, A1730, H⟩ := H; replace H : (some (t456, t457, true, 0)) = some (r1, r2, r3, r4) := H; have A173 := am A1730; clear A1730; simp only [Option.some.injEq, Prod.mk.injEq] at H; obtain ⟨rfl, rfl, rfl, rfl⟩ := H
                      go_wp2_with (first | ((with_reducible refine gate_callee (f := 42) rfl ?_); refine goesL_ (some 187) rfl rfl Try.func42 (by kernel_rfl) rfl #[] rfl (by (try simp only [List.map_toArray, List.map_cons, List.map_nil]); first | done | rfl | (simp only [List.length_drop, List.length_take]; rfl)) ?_; (with_reducible refine (lamplighterref19_All.calls  t456 t457 _ A173.out).mono ?_); rintro e w174 ⟨rfl, hb⟩; refine ⟨_, rfl, ?_⟩; replace BK437 := bbA BK437 hb; replace BK438 := bbA BK438 hb; replace BK439 := bbA BK439 hb; replace HB := bsA HB hb; (try clear hb); (try clear hb2); (try clear hk); (try clear hi); have hnb175 := NB439_437.out; have hnc175 := NB437_439.out; have hnb176 := NB439_438.out; have hnc176 := NB438_439.out; have hcz177_0 : w174.cell? ⟨gb439, 0, none⟩ = some (.int .u32 x440000_29) := cz BK439; have hcz177_1 : w174.cell? ⟨gb439, 1, none⟩ = some (.int .u32 x440001_29) := cz BK439; have hfz177_0 := blk_frozen BK439.out 0; have hfz177_1 := blk_frozen BK439.out 1))
                      refine bodyPost_ret (results_ctt rfl _ _ gb439 24 #[.int .u32 t456, .int .u32 t457] (0, 0) _ rfl (by refine bkT ?_; refine blk_put (cs := #[.int .u32 t456, .int .u32 x440001_29]) ?_ 1 _ rfl; refine bkT ?_; refine blk_put (cs := #[.int .u32 x440000_29, .int .u32 x440001_29]) ?_ 0 _ rfl; refine bkT ?_; exact BK439.out) Try.underlying24 rfl (by kernel_rfl)) rfl ?_
                      exact ⟨by first | rfl | (simp [errW_none, errW_some] <;> rfl) | (simp [*, errW_none, errW_some] <;> rfl), hbA HB⟩
                    replace c172 := Bool.eq_false_iff.mpr c172; subst c172; have H1 : (if 0 ≤ x439000_29 then (some (shl .u32 a1_0 x439000_29, shl .u32 a1_1 x439000_29, true, 0)) else (none)) = some (r1, r2, r3, r4) := by rw [if_neg (show ¬ (false = true) by decide)] at H; exact H
                    clear H; have H := H1; clear H1; by_cases c178 : 0 ≤ x439000_29
                    · rw [if_pos c178] at H; have c178b0 := eq_true c178; have c178b1 : decide (0 ≤ x439000_29) = true := decide_eq_true c178; clear c178; obtain ⟨ji179, hji179⟩ : ∃ j_ : Int, (shl .u32 a1_0 x439000_29) = j_ := ⟨_, rfl⟩
                      replace H : (some (ji179, shl .u32 a1_1 x439000_29, true, 0)) = some (r1, r2, r3, r4) := by first | (rw [hji179] at H; exact H) | (simp only [hji179] at H ⊢; exact H)
                      have hji179_ : (IntKind.u32.wrap (a1_0 * 2 ^ min x439000_29.toNat 32)) = ji179 := hji179
                      have hji179z : x439000_29 ≤ 32 → (IntKind.u32.wrap (a1_0 * 2 ^ x439000_29.toNat)) = ji179 := shl_small hji179
                      have c180b0 := eq_true (of_decide_eq_true (by first | (with_reducible assumption) | assumption) : 0 ≤ x439000_29)
                      obtain ⟨ji181, hji181⟩ : ∃ j_ : Int, (shl .u32 a1_1 x439000_29) = j_ := ⟨_, rfl⟩
                      replace H : (some (ji179, ji181, true, 0)) = some (r1, r2, r3, r4) := by first | (rw [hji181] at H; exact H) | (simp only [hji181] at H ⊢; exact H)
                      have hji181_ : (IntKind.u32.wrap (a1_1 * 2 ^ min x439000_29.toNat 32)) = ji181 := hji181
                      have hji181z : x439000_29 ≤ 32 → (IntKind.u32.wrap (a1_1 * 2 ^ x439000_29.toNat)) = ji181 := shl_small hji181
                      simp only [Option.some.injEq, Prod.mk.injEq] at H; obtain ⟨rfl, rfl, rfl, rfl⟩ := H; have hnb182 := NB437_438.out
                      have hnc182 := NB438_437.out
                      have hnb183 := NB437_439.out
                      have hnc183 := NB439_437.out
                      have hcz184_0 : wc.cell? ⟨gb437, 0, none⟩ = some (.int .u32 a1_0) := cz BK437
                      have hcz184_1 : wc.cell? ⟨gb437, 1, none⟩ = some (.int .u32 a1_1) := cz BK437
                      have hfz184_0 := blk_frozen BK437.out 0
                      have hfz184_1 := blk_frozen BK437.out 1
                      have hnb185 := NB438_439.out
                      have hnc185 := NB439_438.out
                      have hcz186_0 : wc.cell? ⟨gb438, 0, none⟩ = some (.int .u32 x439000_29) := cz BK438
                      have hcz186_1 : wc.cell? ⟨gb438, 1, none⟩ = some (.int .u32 a2_1) := cz BK438
                      have hfz186_0 := blk_frozen BK438.out 0
                      have hfz186_1 := blk_frozen BK438.out 1
                      have hcz187_0 : wc.cell? ⟨gb439, 0, none⟩ = some (.int .u32 x440000_29) := cz BK439
                      have hcz187_1 : wc.cell? ⟨gb439, 1, none⟩ = some (.int .u32 x440001_29) := cz BK439
                      have hfz187_0 := blk_frozen BK439.out 0
                      have hfz187_1 := blk_frozen BK439.out 1
                      go_wp2
                      refine bodyPost_ret (results_ctt rfl _ _ gb439 24 #[.int .u32 ji179, .int .u32 ji181] (0, 0) _ rfl (by refine bkT ?_; refine blk_put (cs := #[.int .u32 ji179, .int .u32 x440001_29]) ?_ 1 _ rfl; refine bkT ?_; refine blk_put (cs := #[.int .u32 x440000_29, .int .u32 x440001_29]) ?_ 0 _ rfl; refine bkT ?_; exact BK439.out) Try.underlying24 rfl (by kernel_rfl)) rfl ?_
                      exact ⟨by first | rfl | (simp [errW_none, errW_some] <;> rfl) | (simp only [← hji179, ← hji181]; first | rfl | (simp [errW_none, errW_some] <;> rfl)) | (simp [*, errW_none, errW_some] <;> rfl), hbA HB⟩
                    rw [if_neg c178] at H; exact absurd H (by simp)
              rw [if_neg c148] at H; have c148b0 : (x0_29 == 11) = false := beq_eq_false_iff_ne.mpr c148; have c148b1 : (x0_29 != 11) = true := bne_iff_ne.mpr c148; have HC188 := am H; clear H
              try go_wp2
              have n0_ := am (blk_drew BK437.out)
              have n1_ := am (blk_drew BK438.out)
              have n2_ := am (blk_drew BK439.out)
              have n3_ := am (below_drew1 HB.out)
              clear BK437; clear BK438; clear BK439; clear HB; have BK437 := n0_; have BK438 := n1_; have BK439 := n2_; have HB := n3_; clear n0_ n1_ n2_ n3_; refine start_ (n := 16) (S := fun w' => w'.cell? ⟨gb437, 0, none⟩ = some (.int .u32 a1_0) ∧ w'.cell? ⟨gb437, 1, none⟩ = some (.int .u32 a1_1) ∧ w'.cell? ⟨gb438, 0, none⟩ = some (.int .u32 x439000_29) ∧ w'.cell? ⟨gb438, 1, none⟩ = some (.int .u32 a2_1)) (ds := []) #[false, false, false, false, false, false, false, false, false, false, false, false, false, false, false, false] (by kernel_rfl) rfl rfl ⟨(blk_cell BK437.out 0).trans rfl, (blk_cell BK437.out 1).trans rfl, (blk_cell BK438.out 0).trans rfl, (blk_cell BK438.out 1).trans rfl⟩ (fun hHeld => ?_); refine with_tabW lamplighterref19_Do.tab11 lamplighterref19_Do.bits11 (fun HT_ HW_ => ?_)
              generalize wc.drew = w189 at BK437 BK438 BK439 HB hHeld ⊢
              refine pure_ (i := 0) (N := some 57) (v := ?_) (a' := ?_) #[true, false, false, false, false, false, false, false, false, false, false, false, false, false, false, false] rfl rfl (any_of HT_.out (by kernel_rfl)) (fun _ _ _ h => h) (Or.inl ⟨by rfl, ?_⟩) ?_ ?_
              rotate_left
              · intro w'
                go_simp
                with_reducible rfl
              rotate_left
              · simp only [Act.put, s1, s2, s3, i64_w, i32_w]
                rfl
              refine pure_ (i := 3) (N := some 60) (v := ?_) (a' := ?_) #[true, false, false, true, false, false, false, false, false, false, false, false, false, false, false, false] rfl rfl (any_of HT_.out (by kernel_rfl)) (fun _ _ _ h => h) (Or.inl ⟨by rfl, ?_⟩) ?_ ?_
              rotate_left
              · intro w'
                go_simp
                with_reducible rfl
              rotate_left
              · simp only [Act.put, s1, s2, s3, i64_w, i32_w]
                rfl
              refine pure_ (i := 6) (N := some 63) (v := ?_) (a' := ?_) #[true, false, false, true, false, false, true, false, false, false, false, false, false, false, false, false] rfl rfl (any_of HT_.out (by kernel_rfl)) (fun _ _ _ h => h) (Or.inl ⟨by rfl, ?_⟩) ?_ ?_
              rotate_left
              · intro w'
                go_simp
                with_reducible rfl
              rotate_left
              · simp only [Act.put, s1, s2, s3, i64_w, i32_w]
                rfl
              refine pure_ (i := 9) (N := some 66) (v := ?_) (a' := ?_) #[true, false, false, true, false, false, true, false, false, true, false, false, false, false, false, false] rfl rfl (any_of HT_.out (by kernel_rfl)) (fun _ _ _ h => h) (Or.inl ⟨by rfl, ?_⟩) ?_ ?_
              rotate_left
              · intro w'
                go_simp
                with_reducible rfl
              rotate_left
              · simp only [Act.put, s1, s2, s3, i64_w, i32_w]
                rfl
              refine take_ (i := 1) (N := some 58) (v := ?_) (a' := ?_) #[true, true, false, true, false, false, true, false, false, true, false, false, false, false, false, false] rfl rfl (take_ofW HT_.out HW_.out (by kernel_rfl)) (fun _ _ _ h => h) (Or.inl ⟨by rfl, ?_⟩) hHeld ?_ ?_
              rotate_left
              · rintro w' ⟨s0, s1, s2, s3⟩
                go_simp
                with_reducible rfl
              rotate_left
              · simp only [Act.put, s1, s2, s3, i64_w, i32_w]
                rfl
              refine pure_ (i := 2) (N := some 59) (v := ?_) (a' := ?_) #[true, true, true, true, false, false, true, false, false, true, false, false, false, false, false, false] rfl rfl (any_of HT_.out (by kernel_rfl)) (fun _ _ _ h => h) (Or.inl ⟨by rfl, ?_⟩) ?_ ?_
              rotate_left
              · intro w'
                go_simp
                with_reducible rfl
              rotate_left
              · simp only [Act.put, s1, s2, s3, i64_w, i32_w]
                rfl
              refine pure_ (i := 12) (N := some 9) (v := ?_) (a' := ?_) #[true, true, true, true, false, false, true, false, false, true, false, false, true, false, false, false] rfl rfl (any_of HT_.out (by kernel_rfl)) (fun _ _ _ h => h) (Or.inl ⟨by rfl, ?_⟩) ?_ ?_
              rotate_left
              · intro w'
                go_simp
                with_reducible rfl
              rotate_left
              · simp only [Act.put, s1, s2, s3, i64_w, i32_w]
                rfl
              refine take_ (i := 4) (N := some 61) (v := ?_) (a' := ?_) #[true, true, true, true, true, false, true, false, false, true, false, false, true, false, false, false] rfl rfl (take_ofW HT_.out HW_.out (by kernel_rfl)) (fun _ _ _ h => h) (Or.inl ⟨by rfl, ?_⟩) hHeld ?_ ?_
              rotate_left
              · rintro w' ⟨s0, s1, s2, s3⟩
                go_simp
                with_reducible rfl
              rotate_left
              · simp only [Act.put, s1, s2, s3, i64_w, i32_w]
                rfl
              refine pure_ (i := 5) (N := some 62) (v := ?_) (a' := ?_) #[true, true, true, true, true, true, true, false, false, true, false, false, true, false, false, false] rfl rfl (any_of HT_.out (by kernel_rfl)) (fun _ _ _ h => h) (Or.inl ⟨by rfl, ?_⟩) ?_ ?_
              rotate_left
              · intro w'
                go_simp
                with_reducible rfl
              rotate_left
              · simp only [Act.put, s1, s2, s3, i64_w, i32_w]
                rfl
              refine pure_ (i := 13) (N := some 10) (v := ?_) (a' := ?_) #[true, true, true, true, true, true, true, false, false, true, false, false, true, true, false, false] rfl rfl (any_of HT_.out (by kernel_rfl)) (fun _ _ _ h => h) (Or.inl ⟨by rfl, ?_⟩) ?_ ?_
              rotate_left
              · intro w'
                go_simp
                with_reducible rfl
              rotate_left
              · simp only [Act.put, s1, s2, s3, i64_w, i32_w]
                rfl
              refine take_ (i := 7) (N := some 64) (v := ?_) (a' := ?_) #[true, true, true, true, true, true, true, true, false, true, false, false, true, true, false, false] rfl rfl (take_ofW HT_.out HW_.out (by kernel_rfl)) (fun _ _ _ h => h) (Or.inl ⟨by rfl, ?_⟩) hHeld ?_ ?_
              rotate_left
              · rintro w' ⟨s0, s1, s2, s3⟩
                go_simp
                with_reducible rfl
              rotate_left
              · simp only [Act.put, s1, s2, s3, i64_w, i32_w]
                rfl
              refine pure_ (i := 8) (N := some 65) (v := ?_) (a' := ?_) #[true, true, true, true, true, true, true, true, true, true, false, false, true, true, false, false] rfl rfl (any_of HT_.out (by kernel_rfl)) (fun _ _ _ h => h) (Or.inl ⟨by rfl, ?_⟩) ?_ ?_
              rotate_left
              · intro w'
                go_simp
                with_reducible rfl
              rotate_left
              · simp only [Act.put, s1, s2, s3, i64_w, i32_w]
                rfl
              refine pure_ (i := 14) (N := some 11) (v := ?_) (a' := ?_) #[true, true, true, true, true, true, true, true, true, true, false, false, true, true, true, false] rfl rfl (any_of HT_.out (by kernel_rfl)) (fun _ _ _ h => h) (Or.inl ⟨by rfl, ?_⟩) ?_ ?_
              rotate_left
              · intro w'
                go_simp
                with_reducible rfl
              rotate_left
              · simp only [Act.put, s1, s2, s3, i64_w, i32_w]
                rfl
              refine take_ (i := 10) (N := some 67) (v := ?_) (a' := ?_) #[true, true, true, true, true, true, true, true, true, true, true, false, true, true, true, false] rfl rfl (take_ofW HT_.out HW_.out (by kernel_rfl)) (fun _ _ _ h => h) (Or.inl ⟨by rfl, ?_⟩) hHeld ?_ ?_
              rotate_left
              · rintro w' ⟨s0, s1, s2, s3⟩
                go_simp
                with_reducible rfl
              rotate_left
              · simp only [Act.put, s1, s2, s3, i64_w, i32_w]
                rfl
              refine pure_ (i := 11) (N := some 68) (v := ?_) (a' := ?_) #[true, true, true, true, true, true, true, true, true, true, true, true, true, true, true, false] rfl rfl (any_of HT_.out (by kernel_rfl)) (fun _ _ _ h => h) (Or.inl ⟨by rfl, ?_⟩) ?_ ?_
              rotate_left
              · intro w'
                go_simp
                with_reducible rfl
              rotate_left
              · simp only [Act.put, s1, s2, s3, i64_w, i32_w]
                rfl
              refine pure_ (i := 15) (N := some 12) (v := ?_) (a' := ?_) #[true, true, true, true, true, true, true, true, true, true, true, true, true, true, true, true] rfl rfl (any_of HT_.out (by kernel_rfl)) (fun _ _ _ h => h) (Or.inl ⟨by rfl, ?_⟩) ?_ ?_
              rotate_left
              · intro w'
                go_simp
                with_reducible rfl
              rotate_left
              · simp only [Act.put, s1, s2, s3, i64_w, i32_w]
                rfl
              refine done_ (done_of HT_.out (by kernel_rfl)) ?_
              go_upto_if 199 with (fail)
              go_cut [199] (fun v199 wc => ∃ (kq : Nat) (x199_187 : Bool), v199 = .bool x199_187 ∧ Aside0 (lamplighterref19_Do.j5 kq x0_29 x199_187 a1_0 a1_1 x439000_29 a2_1 = some (r1, r2, r3, r4)) ∧ Aside0 (kq ≤ kj29) ∧ Aside0 (wc.heap[gb437]? = some (.cells #[.int .u32 a1_0, .int .u32 a1_1] 24 (0, 0))) ∧ Aside0 (wc.heap[gb438]? = some (.cells #[.int .u32 x439000_29, .int .u32 a2_1] 24 (0, 0))) ∧ Aside0 (wc.heap[gb439]? = some (.cells #[.int .u32 x440000_29, .int .u32 x440001_29] 24 (0, 0))) ∧ Aside0 (Below w.heap.size w wc))
              case first => as_aux_lemma =>
                have H := HC188.out
                clear HC188; by_cases c190 : x0_29 = 13
                · rw [if_pos c190] at H; have c190b0 : (x0_29 == 13) = true := beq_iff_eq.mpr c190; have c190b1 : (x0_29 != 13) = false := bne_eq_false_iff_eq.mpr c190; clear c190; (first | rw [c190b0] | (simp only [i64_w, i32_w]; rw [c190b0]) | skip)
                  have H' := am H; clear H
                  go_wp2
                  go_meet
                  case rel => exact ⟨_, ((x0_29 == 13)), (by first | rfl | (simp; done) | (simp [*]; done) | (congr 1; omega) | (congr 2; omega) | (rw [Int.tdiv_eq_ediv_of_nonneg (by decide)]; done)), H', ⟨by have := HJ3.out; have := HJ27.out; have := HJ29.out; first | omega | exact Nat.le_refl _⟩, ⟨by refine bkT ?_; exact BK437.out⟩, ⟨by refine bkT ?_; exact BK438.out⟩, ⟨by refine bkT ?_; exact BK439.out⟩, ⟨by repeat (first | (with_reducible first | exact HB.out | apply below_alloc | apply pw_below_drewN | apply below_drew1 | refine below_set ?_ GE437.out | refine below_set ?_ GE438.out | refine below_set ?_ GE439.out) | exact HB.out)⟩⟩
                rw [if_neg c190] at H; have c190b0 : (x0_29 == 13) = false := beq_eq_false_iff_ne.mpr c190; have c190b1 : (x0_29 != 13) = true := bne_iff_ne.mpr c190; (first | rw [c190b0] | (simp only [i64_w, i32_w]; rw [c190b0]) | skip)
                have H' := am H; clear H
                go_wp2
                go_meet
                case rel => exact ⟨_, ((x0_29 == 12)), (by first | rfl | (simp; done) | (simp [*]; done) | (congr 1; omega) | (congr 2; omega) | (rw [Int.tdiv_eq_ediv_of_nonneg (by decide)]; done)), H', ⟨by have := HJ3.out; have := HJ27.out; have := HJ29.out; first | omega | exact Nat.le_refl _⟩, ⟨by refine bkT ?_; exact BK437.out⟩, ⟨by refine bkT ?_; exact BK438.out⟩, ⟨by refine bkT ?_; exact BK439.out⟩, ⟨by repeat (first | (with_reducible first | exact HB.out | apply below_alloc | apply pw_below_drewN | apply below_drew1 | refine below_set ?_ GE437.out | refine below_set ?_ GE438.out | refine below_set ?_ GE439.out) | exact HB.out)⟩⟩
              case rest => as_aux_lemma =>
                clear HC188
                try clear c1
                try clear p1
                try clear p2
                try clear c4
                try clear p6
                try clear c13
                try clear c14
                try clear c15
                try clear c16
                try clear c17
                try clear c18
                try clear c19
                try clear c42
                try clear c45
                try clear c46
                try clear p64
                try clear c130
                try clear c130b0
                try clear c130b1
                try clear c138
                try clear c138b0
                try clear c138b1
                try clear c142
                try clear c143
                try clear c145
                try clear c148
                try clear c148b0
                try clear c148b1
                try clear c149
                try clear c149b0
                try clear c152
                try clear c153
                try clear c156
                try clear c160
                try clear c161
                try clear c163
                try clear c163b0
                try clear c163b1
                try clear c164
                try clear c164b0
                try clear c164b1
                try clear c166
                try clear c167
                try clear c169
                try clear c170
                try clear c172
                try clear c175
                try clear c176
                try clear c178
                try clear c178b0
                try clear c178b1
                try clear c180
                try clear c180b0
                try clear c182
                try clear c183
                try clear c185
                try clear c190
                try clear c190b0
                try clear c190b1
                try clear hcz144_0
                try clear hcz144_1
                try clear hcz146_0
                try clear hcz146_1
                try clear hcz147_0
                try clear hcz147_1
                try clear hcz154_0
                try clear hcz154_1
                try clear hcz157_0
                try clear hcz157_1
                try clear hcz162_0
                try clear hcz162_1
                try clear hcz168_0
                try clear hcz168_1
                try clear hcz171_0
                try clear hcz171_1
                try clear hcz177_0
                try clear hcz177_1
                try clear hcz184_0
                try clear hcz184_1
                try clear hcz186_0
                try clear hcz186_1
                try clear hcz187_0
                try clear hcz187_1
                try clear hfz144_0
                try clear hfz144_1
                try clear hfz146_0
                try clear hfz146_1
                try clear hfz147_0
                try clear hfz147_1
                try clear hfz154_0
                try clear hfz154_1
                try clear hfz157_0
                try clear hfz157_1
                try clear hfz162_0
                try clear hfz162_1
                try clear hfz168_0
                try clear hfz168_1
                try clear hfz171_0
                try clear hfz171_1
                try clear hfz177_0
                try clear hfz177_1
                try clear hfz184_0
                try clear hfz184_1
                try clear hfz186_0
                try clear hfz186_1
                try clear hfz187_0
                try clear hfz187_1
                try clear p1
                try clear p2
                try clear p6
                try clear p64
                obtain ⟨kq, x199_187, rfl, HA, HJ187, BK437, BK438, BK439, HB⟩ := hcut
                cases kq with
                | zero => exact absurd HA.out (by simp [lamplighterref19_Do.j5])
                | succ kj187 =>
                  have H := HA.out
                  clear HA; simp only [lamplighterref19_Do.j5] at H
                  by_cases c191 : x199_187 = true
                  · subst c191; have H1 : (if x0_29 = 13 then (lamplighterref19_Do.j6 kj187 (decide (a1_1 ≥ 2147483648)) a1_0 a1_1 x439000_29 a2_1) else (lamplighterref19_Do.j6 kj187 false a1_0 a1_1 x439000_29 a2_1)) = some (r1, r2, r3, r4) := by rw [if_pos rfl] at H; exact H
                    clear H; have H := H1; clear H1; have HC192 := am H; clear H
                    go_upto_region 41 with (fail)
                    go_cut [208] (fun v208 wc => ∃ (kq : Nat) (x208_191 : Bool), v208 = .bool x208_191 ∧ Aside0 (lamplighterref19_Do.j6 kq x208_191 a1_0 a1_1 x439000_29 a2_1 = some (r1, r2, r3, r4)) ∧ Aside0 (kq ≤ kj187) ∧ Aside0 (wc.heap[gb437]? = some (.cells #[.int .u32 a1_0, .int .u32 a1_1] 24 (0, 0))) ∧ Aside0 (wc.heap[gb438]? = some (.cells #[.int .u32 x439000_29, .int .u32 a2_1] 24 (0, 0))) ∧ Aside0 (wc.heap[gb439]? = some (.cells #[.int .u32 x440000_29, .int .u32 x440001_29] 24 (0, 0))) ∧ Aside0 (Below w.heap.size w wc))
                    case first => as_aux_lemma =>
                      have H := HC192.out
                      clear HC192; by_cases c193 : x0_29 = 13
                      · rw [if_pos c193] at H; have c193b0 : (x0_29 == 13) = true := beq_iff_eq.mpr c193; have c193b1 : (x0_29 != 13) = false := bne_eq_false_iff_eq.mpr c193; clear c193; (first | rw [c193b0] | (simp only [i64_w, i32_w]; rw [c193b0]) | skip)
                        have H' := am H; clear H; have hnb194 := NB437_438.out
                        have hnc194 := NB438_437.out
                        have hnb195 := NB437_439.out
                        have hnc195 := NB439_437.out
                        have hcz196_0 : wc.cell? ⟨gb437, 0, none⟩ = some (.int .u32 a1_0) := cz BK437
                        have hcz196_1 : wc.cell? ⟨gb437, 1, none⟩ = some (.int .u32 a1_1) := cz BK437
                        have hfz196_0 := blk_frozen BK437.out 0
                        have hfz196_1 := blk_frozen BK437.out 1
                        go_wp2
                        go_meet
                        case rel => exact ⟨_, (decide (a1_1 ≥ 2147483648)), (by first | rfl | (simp; done) | (simp [*]; done) | (congr 1; omega) | (congr 2; omega) | (rw [Int.tdiv_eq_ediv_of_nonneg (by decide)]; done)), H', ⟨by have := HJ3.out; have := HJ27.out; have := HJ29.out; have := HJ187.out; first | omega | exact Nat.le_refl _⟩, ⟨by refine bkT ?_; exact BK437.out⟩, ⟨by refine bkT ?_; exact BK438.out⟩, ⟨by refine bkT ?_; exact BK439.out⟩, ⟨by repeat (first | (with_reducible first | exact HB.out | apply below_alloc | apply pw_below_drewN | apply below_drew1 | refine below_set ?_ GE437.out | refine below_set ?_ GE438.out | refine below_set ?_ GE439.out) | exact HB.out)⟩⟩
                      rw [if_neg c193] at H; have c193b0 : (x0_29 == 13) = false := beq_eq_false_iff_ne.mpr c193; have c193b1 : (x0_29 != 13) = true := bne_iff_ne.mpr c193; (first | rw [c193b0] | (simp only [i64_w, i32_w]; rw [c193b0]) | skip)
                      have H' := am H; clear H
                      go_wp2
                      go_meet
                      case rel => exact ⟨_, (false), (by first | rfl | (simp; done) | (simp [*]; done) | (congr 1; omega) | (congr 2; omega) | (rw [Int.tdiv_eq_ediv_of_nonneg (by decide)]; done)), H', ⟨by have := HJ3.out; have := HJ27.out; have := HJ29.out; have := HJ187.out; first | omega | exact Nat.le_refl _⟩, ⟨by refine bkT ?_; exact BK437.out⟩, ⟨by refine bkT ?_; exact BK438.out⟩, ⟨by refine bkT ?_; exact BK439.out⟩, ⟨by repeat (first | (with_reducible first | exact HB.out | apply below_alloc | apply pw_below_drewN | apply below_drew1 | refine below_set ?_ GE437.out | refine below_set ?_ GE438.out | refine below_set ?_ GE439.out) | exact HB.out)⟩⟩
                    case rest => as_aux_lemma =>
                      clear HC192
                      try clear c1
                      try clear p1
                      try clear p2
                      try clear c4
                      try clear p6
                      try clear c13
                      try clear c14
                      try clear c15
                      try clear c16
                      try clear c17
                      try clear c18
                      try clear c19
                      try clear c42
                      try clear c45
                      try clear c46
                      try clear p64
                      try clear c130
                      try clear c130b0
                      try clear c130b1
                      try clear c138
                      try clear c138b0
                      try clear c138b1
                      try clear c142
                      try clear c143
                      try clear c145
                      try clear c148
                      try clear c148b0
                      try clear c148b1
                      try clear c149
                      try clear c149b0
                      try clear c152
                      try clear c153
                      try clear c156
                      try clear c160
                      try clear c161
                      try clear c163
                      try clear c163b0
                      try clear c163b1
                      try clear c164
                      try clear c164b0
                      try clear c164b1
                      try clear c166
                      try clear c167
                      try clear c169
                      try clear c170
                      try clear c172
                      try clear c175
                      try clear c176
                      try clear c178
                      try clear c178b0
                      try clear c178b1
                      try clear c180
                      try clear c180b0
                      try clear c182
                      try clear c183
                      try clear c185
                      try clear c190
                      try clear c190b0
                      try clear c190b1
                      try clear c191
                      try clear c193
                      try clear c193b0
                      try clear c193b1
                      try clear c194
                      try clear c195
                      try clear hcz144_0
                      try clear hcz144_1
                      try clear hcz146_0
                      try clear hcz146_1
                      try clear hcz147_0
                      try clear hcz147_1
                      try clear hcz154_0
                      try clear hcz154_1
                      try clear hcz157_0
                      try clear hcz157_1
                      try clear hcz162_0
                      try clear hcz162_1
                      try clear hcz168_0
                      try clear hcz168_1
                      try clear hcz171_0
                      try clear hcz171_1
                      try clear hcz177_0
                      try clear hcz177_1
                      try clear hcz184_0
                      try clear hcz184_1
                      try clear hcz186_0
                      try clear hcz186_1
                      try clear hcz187_0
                      try clear hcz187_1
                      try clear hcz196_0
                      try clear hcz196_1
                      try clear hfz144_0
                      try clear hfz144_1
                      try clear hfz146_0
                      try clear hfz146_1
                      try clear hfz147_0
                      try clear hfz147_1
                      try clear hfz154_0
                      try clear hfz154_1
                      try clear hfz157_0
                      try clear hfz157_1
                      try clear hfz162_0
                      try clear hfz162_1
                      try clear hfz168_0
                      try clear hfz168_1
                      try clear hfz171_0
                      try clear hfz171_1
                      try clear hfz177_0
                      try clear hfz177_1
                      try clear hfz184_0
                      try clear hfz184_1
                      try clear hfz186_0
                      try clear hfz186_1
                      try clear hfz187_0
                      try clear hfz187_1
                      try clear hfz196_0
                      try clear hfz196_1
                      try clear p1
                      try clear p2
                      try clear p6
                      try clear p64
                      obtain ⟨kq, x208_191, rfl, HA, HJ191, BK437, BK438, BK439, HB⟩ := hcut
                      cases kq with
                      | zero => exact absurd HA.out (by simp [lamplighterref19_Do.j6])
                      | succ kj191 =>
                        have H := HA.out
                        clear HA; simp only [lamplighterref19_Do.j6] at H
                        by_cases c197 : x208_191 = true
                        · subst c197; have H1 : ((lamplighterref19_All.f).bind fun bt458 => (some (bt458.1, bt458.2, true, 0))) = some (r1, r2, r3, r4) := by rw [if_pos rfl] at H; exact H
                          clear H; have H := H1; clear H1; replace H := Option.bind_eq_some_iff.mp H; obtain ⟨⟨t458, t459⟩, A1980, H⟩ := H; replace H : (some (t458, t459, true, 0)) = some (r1, r2, r3, r4) := H; have A198 := am A1980; clear A1980; simp only [Option.some.injEq, Prod.mk.injEq] at H; obtain ⟨rfl, rfl, rfl, rfl⟩ := H
                          go_wp2_with (first | ((with_reducible refine gate_callee (f := 42) rfl ?_); refine goesL_ (some 209) rfl rfl Try.func42 (by kernel_rfl) rfl #[] rfl (by (try simp only [List.map_toArray, List.map_cons, List.map_nil]); first | done | rfl | (simp only [List.length_drop, List.length_take]; rfl)) ?_; (with_reducible refine (lamplighterref19_All.calls  t458 t459 _ A198.out).mono ?_); rintro e w199 ⟨rfl, hb⟩; refine ⟨_, rfl, ?_⟩; replace BK437 := bbA BK437 hb; replace BK438 := bbA BK438 hb; replace BK439 := bbA BK439 hb; replace HB := bsA HB hb; (try clear hb); (try clear hb2); (try clear hk); (try clear hi); have hnb200 := NB439_437.out; have hnc200 := NB437_439.out; have hnb201 := NB439_438.out; have hnc201 := NB438_439.out; have hcz202_0 : w199.cell? ⟨gb439, 0, none⟩ = some (.int .u32 x440000_29) := cz BK439; have hcz202_1 : w199.cell? ⟨gb439, 1, none⟩ = some (.int .u32 x440001_29) := cz BK439; have hfz202_0 := blk_frozen BK439.out 0; have hfz202_1 := blk_frozen BK439.out 1))
                          refine bodyPost_ret (results_ctt rfl _ _ gb439 24 #[.int .u32 t458, .int .u32 t459] (0, 0) _ rfl (by refine bkT ?_; refine blk_put (cs := #[.int .u32 t458, .int .u32 x440001_29]) ?_ 1 _ rfl; refine bkT ?_; refine blk_put (cs := #[.int .u32 x440000_29, .int .u32 x440001_29]) ?_ 0 _ rfl; refine bkT ?_; exact BK439.out) Try.underlying24 rfl (by kernel_rfl)) rfl ?_
                          exact ⟨by first | rfl | (simp [errW_none, errW_some] <;> rfl) | (simp [*, errW_none, errW_some] <;> rfl), hbA HB⟩
                        replace c197 := Bool.eq_false_iff.mpr c197; subst c197; have H1 : ((lamplighterref19_moved.f a1_0 a2_1).bind fun t460 => ((lamplighterref19_moved.f a1_1 x439000_29).bind fun t461 => (some (t460, t461, true, 0)))) = some (r1, r2, r3, r4) := by rw [if_neg (show ¬ (false = true) by decide)] at H; exact H
                        clear H; have H := H1; clear H1; replace H := Option.bind_eq_some_iff.mp H; obtain ⟨t460, A2030, H⟩ := H; replace H : ((lamplighterref19_moved.f a1_1 x439000_29).bind fun t461 => (some (t460, t461, true, 0))) = some (r1, r2, r3, r4) := H; have A203 := am A2030; clear A2030; replace H := Option.bind_eq_some_iff.mp H; obtain ⟨t461, A2040, H⟩ := H; replace H : (some (t460, t461, true, 0)) = some (r1, r2, r3, r4) := H; have A204 := am A2040; clear A2040; simp only [Option.some.injEq, Prod.mk.injEq] at H; obtain ⟨rfl, rfl, rfl, rfl⟩ := H
                        try go_wp2
                        have n0_ := am (blk_drew BK437.out)
                        have n1_ := am (blk_drew BK438.out)
                        have n2_ := am (blk_drew BK439.out)
                        have n3_ := am (below_drew1 HB.out)
                        clear BK437; clear BK438; clear BK439; clear HB; have BK437 := n0_; have BK438 := n1_; have BK439 := n2_; have HB := n3_; clear n0_ n1_ n2_ n3_; refine start_ (n := 14) (S := fun w' => w'.cell? ⟨gb437, 0, none⟩ = some (.int .u32 a1_0) ∧ w'.cell? ⟨gb437, 1, none⟩ = some (.int .u32 a1_1) ∧ w'.cell? ⟨gb438, 0, none⟩ = some (.int .u32 x439000_29) ∧ w'.cell? ⟨gb438, 1, none⟩ = some (.int .u32 a2_1)) (ds := []) #[false, false, false, false, false, false, false, false, false, false, false, false, false, false] (by kernel_rfl) rfl rfl ⟨(blk_cell BK437.out 0).trans rfl, (blk_cell BK437.out 1).trans rfl, (blk_cell BK438.out 0).trans rfl, (blk_cell BK438.out 1).trans rfl⟩ (fun hHeld => ?_); refine with_tabW lamplighterref19_Do.tab43 lamplighterref19_Do.bits43 (fun HT_ HW_ => ?_)
                        generalize wc.drew = w205 at BK437 BK438 BK439 HB hHeld ⊢
                        refine pure_ (i := 0) (N := some 210) (v := ?_) (a' := ?_) #[true, false, false, false, false, false, false, false, false, false, false, false, false, false] rfl rfl (any_of HT_.out (by kernel_rfl)) (fun _ _ _ h => h) (Or.inl ⟨by rfl, ?_⟩) ?_ ?_
                        rotate_left
                        · intro w'
                          go_simp
                          with_reducible rfl
                        rotate_left
                        · simp only [Act.put, s1, s2, s3, i64_w, i32_w]
                          rfl
                        refine pure_ (i := 2) (N := some 212) (v := ?_) (a' := ?_) #[true, false, true, false, false, false, false, false, false, false, false, false, false, false] rfl rfl (any_of HT_.out (by kernel_rfl)) (fun _ _ _ h => h) (Or.inl ⟨by rfl, ?_⟩) ?_ ?_
                        rotate_left
                        · intro w'
                          go_simp
                          with_reducible rfl
                        rotate_left
                        · simp only [Act.put, s1, s2, s3, i64_w, i32_w]
                          rfl
                        refine pure_ (i := 5) (N := some 215) (v := ?_) (a' := ?_) #[true, false, true, false, false, true, false, false, false, false, false, false, false, false] rfl rfl (any_of HT_.out (by kernel_rfl)) (fun _ _ _ h => h) (Or.inl ⟨by rfl, ?_⟩) ?_ ?_
                        rotate_left
                        · intro w'
                          go_simp
                          with_reducible rfl
                        rotate_left
                        · simp only [Act.put, s1, s2, s3, i64_w, i32_w]
                          rfl
                        refine pure_ (i := 7) (N := some 217) (v := ?_) (a' := ?_) #[true, false, true, false, false, true, false, true, false, false, false, false, false, false] rfl rfl (any_of HT_.out (by kernel_rfl)) (fun _ _ _ h => h) (Or.inl ⟨by rfl, ?_⟩) ?_ ?_
                        rotate_left
                        · intro w'
                          go_simp
                          with_reducible rfl
                        rotate_left
                        · simp only [Act.put, s1, s2, s3, i64_w, i32_w]
                          rfl
                        refine take_ (i := 1) (N := some 211) (v := ?_) (a' := ?_) #[true, true, true, false, false, true, false, true, false, false, false, false, false, false] rfl rfl (take_ofW HT_.out HW_.out (by kernel_rfl)) (fun _ _ _ h => h) (Or.inl ⟨by rfl, ?_⟩) hHeld ?_ ?_
                        rotate_left
                        · rintro w' ⟨s0, s1, s2, s3⟩
                          go_simp
                          with_reducible rfl
                        rotate_left
                        · simp only [Act.put, s1, s2, s3, i64_w, i32_w]
                          rfl
                        refine take_ (i := 3) (N := some 213) (v := ?_) (a' := ?_) #[true, true, true, true, false, true, false, true, false, false, false, false, false, false] rfl rfl (take_ofW HT_.out HW_.out (by kernel_rfl)) (fun _ _ _ h => h) (Or.inl ⟨by rfl, ?_⟩) hHeld ?_ ?_
                        rotate_left
                        · rintro w' ⟨s0, s1, s2, s3⟩
                          go_simp
                          with_reducible rfl
                        rotate_left
                        · simp only [Act.put, s1, s2, s3, i64_w, i32_w]
                          rfl
                        refine take_ (i := 6) (N := some 216) (v := ?_) (a' := ?_) #[true, true, true, true, false, true, true, true, false, false, false, false, false, false] rfl rfl (take_ofW HT_.out HW_.out (by kernel_rfl)) (fun _ _ _ h => h) (Or.inl ⟨by rfl, ?_⟩) hHeld ?_ ?_
                        rotate_left
                        · rintro w' ⟨s0, s1, s2, s3⟩
                          go_simp
                          with_reducible rfl
                        rotate_left
                        · simp only [Act.put, s1, s2, s3, i64_w, i32_w]
                          rfl
                        refine take_ (i := 8) (N := some 218) (v := ?_) (a' := ?_) #[true, true, true, true, false, true, true, true, true, false, false, false, false, false] rfl rfl (take_ofW HT_.out HW_.out (by kernel_rfl)) (fun _ _ _ h => h) (Or.inl ⟨by rfl, ?_⟩) hHeld ?_ ?_
                        rotate_left
                        · rintro w' ⟨s0, s1, s2, s3⟩
                          go_simp
                          with_reducible rfl
                        rotate_left
                        · simp only [Act.put, s1, s2, s3, i64_w, i32_w]
                          rfl
                        refine one_ (i := 4) (N := some 214) #[true, true, true, true, true, true, true, true, true, false, false, false, false, false] rfl rfl (one_of HT_.out (by kernel_rfl)) (by decide) (fun K hK => ?_)
                        refine goes_ Try.func47 (by kernel_rfl) rfl #[.int .u32 a1_0, .int .u32 a2_1] (by rfl) rfl rfl (by (try simp only [List.map_toArray, List.map_cons, List.map_nil]); first | done | rfl | (simp only [List.length_drop, List.length_take]; rfl)) ?_
                        with_reducible refine (lamplighterref19_moved.calls a1_0 a2_1 t460 _ A203.out).mono ?_
                        rintro e w' ⟨rfl, ⟨nd, rfl⟩⟩
                        refine ⟨_, rfl, ?_⟩
                        refine hK.out _ _ ⟨(blk_cell BK437.out 0).trans rfl, (blk_cell BK437.out 1).trans rfl, (blk_cell BK438.out 0).trans rfl, (blk_cell BK438.out 1).trans rfl⟩ (fun hHeld => ?_)
                        clear hK K; refine norm_ (a' := ?_) ?_ ?_
                        rotate_left
                        · show Act.put _ (some 214) _ = _
                          simp only [Act.put, s1, s2, s3, i64_w, i32_w]
                          rfl
                        refine one_ (i := 9) (N := some 219) #[true, true, true, true, true, true, true, true, true, true, false, false, false, false] rfl rfl (one_of HT_.out (by kernel_rfl)) (by decide) (fun K hK => ?_)
                        refine goes_ Try.func47 (by kernel_rfl) rfl #[.int .u32 a1_1, .int .u32 x439000_29] (by rfl) rfl rfl (by (try simp only [List.map_toArray, List.map_cons, List.map_nil]); first | done | rfl | (simp only [List.length_drop, List.length_take]; rfl)) ?_
                        with_reducible refine (lamplighterref19_moved.calls a1_1 x439000_29 t461 _ A204.out).mono ?_
                        rintro e w' ⟨rfl, ⟨nd, rfl⟩⟩
                        refine ⟨_, rfl, ?_⟩
                        refine hK.out _ _ ⟨(blk_cell BK437.out 0).trans rfl, (blk_cell BK437.out 1).trans rfl, (blk_cell BK438.out 0).trans rfl, (blk_cell BK438.out 1).trans rfl⟩ (fun hHeld => ?_)
                        clear hK K; refine norm_ (a' := ?_) ?_ ?_
                        rotate_left
                        · show Act.put _ (some 219) _ = _
                          simp only [Act.put, s1, s2, s3, i64_w, i32_w]
                          rfl
                        refine pure_ (i := 10) (N := some 220) (v := ?_) (a' := ?_) #[true, true, true, true, true, true, true, true, true, true, true, false, false, false] rfl rfl (any_of HT_.out (by kernel_rfl)) (fun _ _ _ h => h) (Or.inl ⟨by rfl, ?_⟩) ?_ ?_
                        rotate_left
                        · intro w'
                          go_simp
                          with_reducible rfl
                        rotate_left
                        · simp only [Act.put, s1, s2, s3, i64_w, i32_w]
                          rfl
                        refine one_ (i := 11) (N := none) #[true, true, true, true, true, true, true, true, true, true, true, true, false, false] rfl rfl (one_of HT_.out (by kernel_rfl)) (by decide) (fun K hK => ?_)
                        have hs206 : w205.cell? ⟨gb439, 0, none⟩ = some (.int .u32 x440000_29) := cz BK439
                        have hfs206 := blk_frozen BK439.out 0
                        have hns206_0 := NB437_439.out
                        have hns206_1 := NB438_439.out
                        have hms206_0 := NB439_437.out
                        have hms206_1 := NB439_438.out
                        have hs207 : w205.cell? ⟨gb439, 1, none⟩ = some (.int .u32 x440001_29) := cz BK439
                        have hfs207 := blk_frozen BK439.out 1
                        have hns207_0 := NB437_439.out
                        have hns207_1 := NB438_439.out
                        have hms207_0 := NB439_437.out
                        have hms207_1 := NB439_438.out
                        refine skip_ (w1 := ?_) (by rfl) rfl ?_ ?_
                        rotate_left
                        · go_simp
                          rfl
                        refine hK.out _ _ ⟨((cell_far (p := ⟨gb439, _, none⟩) NB437_439.out _).trans (((cell_far (p := ⟨gb439, _, none⟩) NB437_439.out _).trans (hHeld.1)))), ((cell_far (p := ⟨gb439, _, none⟩) NB437_439.out _).trans (((cell_far (p := ⟨gb439, _, none⟩) NB437_439.out _).trans (hHeld.2.1)))), ((cell_far (p := ⟨gb439, _, none⟩) NB438_439.out _).trans (((cell_far (p := ⟨gb439, _, none⟩) NB438_439.out _).trans (hHeld.2.2.1)))), ((cell_far (p := ⟨gb439, _, none⟩) NB438_439.out _).trans (((cell_far (p := ⟨gb439, _, none⟩) NB438_439.out _).trans (hHeld.2.2.2))))⟩ (fun hHeld => ?_)
                        clear hK K; refine pure_ (i := 12) (N := some 7) (v := ?_) (a' := ?_) #[true, true, true, true, true, true, true, true, true, true, true, true, true, false] rfl rfl (any_of HT_.out (by kernel_rfl)) (fun _ _ _ h => h) (Or.inl ⟨by rfl, ?_⟩) ?_ ?_
                        rotate_left
                        · intro w'
                          go_simp
                          with_reducible rfl
                        rotate_left
                        · simp only [Act.put, s1, s2, s3, i64_w, i32_w]
                          rfl
                        refine pure_ (i := 13) (N := some 8) (v := ?_) (a' := ?_) #[true, true, true, true, true, true, true, true, true, true, true, true, true, true] rfl rfl (any_of HT_.out (by kernel_rfl)) (fun _ _ _ h => h) (Or.inl ⟨by rfl, ?_⟩) ?_ ?_
                        rotate_left
                        · intro w'
                          go_simp
                          with_reducible rfl
                        rotate_left
                        · simp only [Act.put, s1, s2, s3, i64_w, i32_w]
                          rfl
                        refine done_ (done_of HT_.out (by kernel_rfl)) ?_
                        try go_wp2
                        refine bodyPost_ret (results_ctt rfl _ _ gb439 24 #[.int .u32 t460, .int .u32 t461] (0, 0) _ rfl (by refine bkT ?_; refine blk_put (cs := #[.int .u32 t460, .int .u32 x440001_29]) ?_ 1 _ rfl; refine bkT ?_; refine blk_put (cs := #[.int .u32 x440000_29, .int .u32 x440001_29]) ?_ 0 _ rfl; refine bkT ?_; exact BK439.out) Try.underlying24 rfl (by kernel_rfl)) rfl ?_
                        exact ⟨by first | rfl | (simp [errW_none, errW_some] <;> rfl) | (simp [*, errW_none, errW_some] <;> rfl), hbA HB⟩
                  replace c191 := Bool.eq_false_iff.mpr c191; subst c191; have H1 : ((lamplighterref19_compares.f kj187 x0_29 a1_0 a1_1 x439000_29 a2_1).bind fun bt462 => (some (bt462.1, bt462.2, true, 0))) = some (r1, r2, r3, r4) := by rw [if_neg (show ¬ (false = true) by decide)] at H; exact H
                  clear H; have H := H1; clear H1; replace H := Option.bind_eq_some_iff.mp H; obtain ⟨⟨t462, t463⟩, A2080, H⟩ := H; replace H : (some (t462, t463, true, 0)) = some (r1, r2, r3, r4) := H; have A208 := am A2080; clear A2080; simp only [Option.some.injEq, Prod.mk.injEq] at H; obtain ⟨rfl, rfl, rfl, rfl⟩ := H; have hnb209 := NB437_438.out
                  have hnc209 := NB438_437.out
                  have hnb210 := NB437_439.out
                  have hnc210 := NB439_437.out
                  have hcz211_0 : wc.cell? ⟨gb437, 0, none⟩ = some (.int .u32 a1_0) := cz BK437
                  have hcz211_1 : wc.cell? ⟨gb437, 1, none⟩ = some (.int .u32 a1_1) := cz BK437
                  have hfz211_0 := blk_frozen BK437.out 0
                  have hfz211_1 := blk_frozen BK437.out 1
                  have hnb212 := NB438_439.out
                  have hnc212 := NB439_438.out
                  have hcz213_0 : wc.cell? ⟨gb438, 0, none⟩ = some (.int .u32 x439000_29) := cz BK438
                  have hcz213_1 : wc.cell? ⟨gb438, 1, none⟩ = some (.int .u32 a2_1) := cz BK438
                  have hfz213_0 := blk_frozen BK438.out 0
                  have hfz213_1 := blk_frozen BK438.out 1
                  go_wp2_with (first | ((with_reducible refine gate_callee (f := 48) rfl ?_); refine goesL_ (some 224) rfl rfl Try.func48 (by kernel_rfl) rfl #[.int .i64 x0_29, .agg #[.int .u32 a1_0, .int .u32 a1_1], .agg #[.int .u32 x439000_29, .int .u32 a2_1]] rfl (by (try simp only [List.map_toArray, List.map_cons, List.map_nil]); first | done | rfl | (simp only [List.length_drop, List.length_take]; rfl)) ?_; (with_reducible refine (lamplighterref19_compares.calls kj187 x0_29 a1_0 a1_1 x439000_29 a2_1 t462 t463 _ A208.out).mono ?_); rintro e w214 ⟨rfl, hb⟩; refine ⟨_, rfl, ?_⟩; replace BK437 := bbA BK437 hb; replace BK438 := bbA BK438 hb; replace BK439 := bbA BK439 hb; replace HB := bsA HB hb; (try clear hb); (try clear hb2); (try clear hk); (try clear hi); have hcz215_0 : w214.cell? ⟨gb439, 0, none⟩ = some (.int .u32 x440000_29) := cz BK439; have hcz215_1 : w214.cell? ⟨gb439, 1, none⟩ = some (.int .u32 x440001_29) := cz BK439; have hfz215_0 := blk_frozen BK439.out 0; have hfz215_1 := blk_frozen BK439.out 1))
                  refine bodyPost_ret (results_ctt rfl _ _ gb439 24 #[.int .u32 t462, .int .u32 t463] (0, 0) _ rfl (by refine bkT ?_; refine blk_put (cs := #[.int .u32 t462, .int .u32 x440001_29]) ?_ 1 _ rfl; refine bkT ?_; refine blk_put (cs := #[.int .u32 x440000_29, .int .u32 x440001_29]) ?_ 0 _ rfl; refine bkT ?_; exact BK439.out) Try.underlying24 rfl (by kernel_rfl)) rfl ?_
                  exact ⟨by first | rfl | (simp [errW_none, errW_some] <;> rfl) | (simp [*, errW_none, errW_some] <;> rfl), hbA HB⟩

end Go.Proofs.Ytmhmfnjbioplhaa.PIntervalCalls
