/- Contracts of Go functions of the given program: where NAME.f answers, the call returns that. Conditions: those each theorem names. -/
import Derived.Test.YtmhmfnjbioplhaaPIntervalGrowsx0
import Derived.Test.YtmhmfnjbioplhaaPIntervalGrowsx1
import Derived.Test.YtmhmfnjbioplhaaPIntervalGrowsx4
import Derived.Test.YtmhmfnjbioplhaaPIntervalGrowsx5
import Derived.Test.YtmhmfnjbioplhaaPIntervalGrowsx6
import Derived.Test.YtmhmfnjbioplhaaPIntervalGrowsx7
namespace Go.Proofs.Ytmhmfnjbioplhaa.PIntervalGrows
open Go.RowKit Go.Proofs.YtmhmfnjbioplhaaW.PrintWords Go.Proofs.YtmhmfnjbioplhaaW.PrintLast Go.Proofs.YtmhmfnjbioplhaaW.PrintMore Go.Proofs.Ytmhmfnjbioplhaa.Help
attribute [local go_sem] max2_int min2_int max_two min_two max_three min_three max_four min_four   -- for this text's walks alone
set_option linter.unusedVariables false
set_option linter.unusedSimpArgs false

attribute [local go_sem high] eqA24
/-! ### lamplighterlaw19_IntervalGrows: function 3 -/
mutual
def lamplighterlaw19_IntervalGrows.j0 : Nat → Int → List (S24) → Bool → Int → Int → Int → Int → Int → Int → Int → Int → Option (Bool)
  | 0, _, _, _, _, _, _, _, _, _, _, _ => none
  | k + 1, x4, x5, x52, x345000, x345001, x346000, x346001, x347000, x347001, x348000, x348001 => if x52 = true then (some true) else ((lamplighterkit_Pick.f x4 19).bind fun t353 => ((interval_Do.f k (wrap64 (1 + t353)) x345000 x345001 x346000 x346001).bind fun bt354 => ((interval_Join.f k x345000 x345001 x347000 x347001).bind fun bt359 => ((interval_Join.f k x346000 x346001 x348000 x348001).bind fun bt361 => ((interval_Do.f k (wrap64 (1 + t353)) bt359.1 bt359.2 bt361.1 bt361.2).bind fun bt363 => (if bt354.2.2.1 = true then (if bt363.2.2.1 = true then ((interval_Within.f k bt354.1 bt354.2.1 bt363.1 bt363.2.1).bind fun t368 => (lamplighterlaw19_IntervalGrows.j1 k (wrap64 (1 + t353)) x5 (!t368) x345000 x345001 x347000 x347001)) else (lamplighterlaw19_IntervalGrows.j1 k (wrap64 (1 + t353)) x5 true x345000 x345001 x347000 x347001)) else (lamplighterlaw19_IntervalGrows.j1 k (wrap64 (1 + t353)) x5 false x345000 x345001 x347000 x347001)))))))
def lamplighterlaw19_IntervalGrows.j1 : Nat → Int → List (S24) → Bool → Int → Int → Int → Int → Option (Bool)
  | 0, _, _, _, _, _, _, _ => none
  | k + 1, x4, x5, x86, x345000, x345001, x347000, x347001 => if x86 = true then (some false) else ((lamplighterkit_Pick.f x4 3).bind fun t369 => ((interval_Un.f k (wrap64 (1 + t369)) x345000 x345001).bind fun bt370 => ((interval_Join.f k x345000 x345001 x347000 x347001).bind fun bt374 => ((interval_Un.f k (wrap64 (1 + t369)) bt374.1 bt374.2).bind fun bt376 => ((interval_Within.f k bt370.1 bt370.2.1 bt376.1 bt376.2.1).bind fun t380 => (if t380 = true then (lamplighterlaw19_IntervalGrows.l0 k x5 0 0 x345000 x345001) else (some false)))))))
def lamplighterlaw19_IntervalGrows.l0 : Nat → List (S24) → Int → Int → Int → Int → Option (Bool)
  | 0, _, _, _, _, _ => none
  | k + 1, x5, x25, x26, x382000, x382001 => if x26 < (x5.length : Int) then (if 0 ≤ x26 then ((interval_Check.f ((rd_T24 x5 x26).f0) ((rd_T24 x5 x26).f1)).bind fun t383 => (if t383 = 0 then ((interval_Widen.f k x382000 x382001 ((rd_T24 x5 x26).f0) ((rd_T24 x5 x26).f1)).bind fun bt385 => (if (!(bt385.1 == x382000) || (!(bt385.2 == x382001))) = true then (lamplighterlaw19_IntervalGrows.j3 k x5 (wrap64 (x25 + 1)) x26 x382000 x382001 bt385.1 bt385.2) else (lamplighterlaw19_IntervalGrows.j3 k x5 x25 x26 x382000 x382001 bt385.1 bt385.2))) else (lamplighterlaw19_IntervalGrows.l0 k x5 x25 (wrap64 (x26 + 1)) x382000 x382001))) else (none)) else (some (decide (x25 ≤ 9)))
def lamplighterlaw19_IntervalGrows.j3 : Nat → List (S24) → Int → Int → Int → Int → Int → Int → Option (Bool)
  | 0, _, _, _, _, _, _, _ => none
  | k + 1, x5, x25, x26, x382000, x382001, x388000, x388001 => if 0 ≤ x26 then (if x26 < (x5.length : Int) then ((interval_Within.f k ((rd_T24 x5 x26).f0) ((rd_T24 x5 x26).f1) x388000 x388001).bind fun t389 => (if t389 = true then ((interval_Within.f k x382000 x382001 x388000 x388001).bind fun t390 => (if t390 = true then (lamplighterlaw19_IntervalGrows.l0 k x5 x25 (wrap64 (x26 + 1)) x388000 x388001) else (some false))) else (some false))) else (none)) else (none)
end
def lamplighterlaw19_IntervalGrows.f (k : Nat) (a0_0 : Int) (a0_1 : Int) (a1_0 : Int) (a1_1 : Int) (a2_0 : Int) (a2_1 : Int) (a3_0 : Int) (a3_1 : Int) (a4 : Int) (l5 : List (S24)) : Option (Bool) := (lamplighterlaw19_lives.f k).bind fun t348 => (if t348 = true then ((interval_Check.f a0_0 a0_1).bind fun t349 => (if t349 = 0 then ((interval_Check.f a1_0 a1_1).bind fun t350 => (if t350 = 0 then ((interval_Check.f a2_0 a2_1).bind fun t351 => (if t351 = 0 then ((interval_Check.f a3_0 a3_1).bind fun t352 => (if t352 = 0 then (lamplighterlaw19_IntervalGrows.j0 k a4 l5 (decide ((l5.length : Int) > 60)) a0_0 a0_1 a1_0 a1_1 a2_0 a2_1 a3_0 a3_1) else (lamplighterlaw19_IntervalGrows.j0 k a4 l5 true a0_0 a0_1 a1_0 a1_1 a2_0 a2_1 a3_0 a3_1))) else (lamplighterlaw19_IntervalGrows.j0 k a4 l5 true a0_0 a0_1 a1_0 a1_1 a2_0 a2_1 a3_0 a3_1))) else (lamplighterlaw19_IntervalGrows.j0 k a4 l5 true a0_0 a0_1 a1_0 a1_1 a2_0 a2_1 a3_0 a3_1))) else (lamplighterlaw19_IntervalGrows.j0 k a4 l5 true a0_0 a0_1 a1_0 a1_1 a2_0 a2_1 a3_0 a3_1))) else (some false))
theorem lamplighterlaw19_IntervalGrows.mono_l : ∀ k, (∀ y0 y1 y2 y3 y4 y5 y6 y7 y8 y9 y10, LeO (lamplighterlaw19_IntervalGrows.j0 k y0 y1 y2 y3 y4 y5 y6 y7 y8 y9 y10) (lamplighterlaw19_IntervalGrows.j0 (k + 1) y0 y1 y2 y3 y4 y5 y6 y7 y8 y9 y10)) ∧ (∀ y0 y1 y2 y3 y4 y5 y6, LeO (lamplighterlaw19_IntervalGrows.j1 k y0 y1 y2 y3 y4 y5 y6) (lamplighterlaw19_IntervalGrows.j1 (k + 1) y0 y1 y2 y3 y4 y5 y6)) ∧ (∀ y0 y1 y2 y3 y4, LeO (lamplighterlaw19_IntervalGrows.l0 k y0 y1 y2 y3 y4) (lamplighterlaw19_IntervalGrows.l0 (k + 1) y0 y1 y2 y3 y4)) ∧ (∀ y0 y1 y2 y3 y4 y5 y6, LeO (lamplighterlaw19_IntervalGrows.j3 k y0 y1 y2 y3 y4 y5 y6) (lamplighterlaw19_IntervalGrows.j3 (k + 1) y0 y1 y2 y3 y4 y5 y6))
  | 0 => ⟨fun _ _ _ _ _ _ _ _ _ _ _ r h => by simp [lamplighterlaw19_IntervalGrows.j0] at h, fun _ _ _ _ _ _ _ r h => by simp [lamplighterlaw19_IntervalGrows.j1] at h, fun _ _ _ _ _ r h => by simp [lamplighterlaw19_IntervalGrows.l0] at h, fun _ _ _ _ _ _ _ r h => by simp [lamplighterlaw19_IntervalGrows.j3] at h⟩
  | k + 1 => by
    obtain ⟨ih0, ih1, ih2, ih3⟩ := lamplighterlaw19_IntervalGrows.mono_l k
    refine ⟨?_, ?_, ?_, ?_⟩
    · intro y0 y1 y2 y3 y4 y5 y6 y7 y8 y9 y10
      unfold lamplighterlaw19_IntervalGrows.j0
      repeat' first
      | (with_reducible exact ih0 _ _ _ _ _ _ _ _ _ _ _)
      | (with_reducible exact ih1 _ _ _ _ _ _ _)
      | (with_reducible exact ih2 _ _ _ _ _)
      | (with_reducible exact ih3 _ _ _ _ _ _ _)
      | (with_reducible exact interval_Do.mono _ _ _ _ _ _)
      | (with_reducible exact interval_Join.mono _ _ _ _ _)
      | (with_reducible exact interval_Un.mono _ _ _ _)
      | (with_reducible exact interval_Widen.mono _ _ _ _ _)
      | (with_reducible exact interval_Within.mono _ _ _ _ _)
      | (with_reducible exact lamplighterlaw19_lives.mono _)
      | (with_reducible exact LeO.refl _)
      | (with_reducible exact LeO.none _)
      | (with_reducible refine LeO.ite ?_ ?_)
      | (with_reducible refine LeO.bind ?_ (fun _ => ?_))
      | exact ih0 _ _ _ _ _ _ _ _ _ _ _
      | exact ih1 _ _ _ _ _ _ _
      | exact ih2 _ _ _ _ _
      | exact ih3 _ _ _ _ _ _ _
      | exact interval_Do.mono _ _ _ _ _ _
      | exact interval_Join.mono _ _ _ _ _
      | exact interval_Un.mono _ _ _ _
      | exact interval_Widen.mono _ _ _ _ _
      | exact interval_Within.mono _ _ _ _ _
      | exact lamplighterlaw19_lives.mono _
      | exact LeO.none _
      | refine LeO.ite ?_ ?_
      | refine LeO.bind ?_ (fun _ => ?_)
    · intro y0 y1 y2 y3 y4 y5 y6
      unfold lamplighterlaw19_IntervalGrows.j1
      repeat' first
      | (with_reducible exact ih0 _ _ _ _ _ _ _ _ _ _ _)
      | (with_reducible exact ih1 _ _ _ _ _ _ _)
      | (with_reducible exact ih2 _ _ _ _ _)
      | (with_reducible exact ih3 _ _ _ _ _ _ _)
      | (with_reducible exact interval_Do.mono _ _ _ _ _ _)
      | (with_reducible exact interval_Join.mono _ _ _ _ _)
      | (with_reducible exact interval_Un.mono _ _ _ _)
      | (with_reducible exact interval_Widen.mono _ _ _ _ _)
      | (with_reducible exact interval_Within.mono _ _ _ _ _)
      | (with_reducible exact lamplighterlaw19_lives.mono _)
      | (with_reducible exact LeO.refl _)
      | (with_reducible exact LeO.none _)
      | (with_reducible refine LeO.ite ?_ ?_)
      | (with_reducible refine LeO.bind ?_ (fun _ => ?_))
      | exact ih0 _ _ _ _ _ _ _ _ _ _ _
      | exact ih1 _ _ _ _ _ _ _
      | exact ih2 _ _ _ _ _
      | exact ih3 _ _ _ _ _ _ _
      | exact interval_Do.mono _ _ _ _ _ _
      | exact interval_Join.mono _ _ _ _ _
      | exact interval_Un.mono _ _ _ _
      | exact interval_Widen.mono _ _ _ _ _
      | exact interval_Within.mono _ _ _ _ _
      | exact lamplighterlaw19_lives.mono _
      | exact LeO.none _
      | refine LeO.ite ?_ ?_
      | refine LeO.bind ?_ (fun _ => ?_)
    · intro y0 y1 y2 y3 y4
      unfold lamplighterlaw19_IntervalGrows.l0
      repeat' first
      | (with_reducible exact ih0 _ _ _ _ _ _ _ _ _ _ _)
      | (with_reducible exact ih1 _ _ _ _ _ _ _)
      | (with_reducible exact ih2 _ _ _ _ _)
      | (with_reducible exact ih3 _ _ _ _ _ _ _)
      | (with_reducible exact interval_Do.mono _ _ _ _ _ _)
      | (with_reducible exact interval_Join.mono _ _ _ _ _)
      | (with_reducible exact interval_Un.mono _ _ _ _)
      | (with_reducible exact interval_Widen.mono _ _ _ _ _)
      | (with_reducible exact interval_Within.mono _ _ _ _ _)
      | (with_reducible exact lamplighterlaw19_lives.mono _)
      | (with_reducible exact LeO.refl _)
      | (with_reducible exact LeO.none _)
      | (with_reducible refine LeO.ite ?_ ?_)
      | (with_reducible refine LeO.bind ?_ (fun _ => ?_))
      | exact ih0 _ _ _ _ _ _ _ _ _ _ _
      | exact ih1 _ _ _ _ _ _ _
      | exact ih2 _ _ _ _ _
      | exact ih3 _ _ _ _ _ _ _
      | exact interval_Do.mono _ _ _ _ _ _
      | exact interval_Join.mono _ _ _ _ _
      | exact interval_Un.mono _ _ _ _
      | exact interval_Widen.mono _ _ _ _ _
      | exact interval_Within.mono _ _ _ _ _
      | exact lamplighterlaw19_lives.mono _
      | exact LeO.none _
      | refine LeO.ite ?_ ?_
      | refine LeO.bind ?_ (fun _ => ?_)
    · intro y0 y1 y2 y3 y4 y5 y6
      unfold lamplighterlaw19_IntervalGrows.j3
      repeat' first
      | (with_reducible exact ih0 _ _ _ _ _ _ _ _ _ _ _)
      | (with_reducible exact ih1 _ _ _ _ _ _ _)
      | (with_reducible exact ih2 _ _ _ _ _)
      | (with_reducible exact ih3 _ _ _ _ _ _ _)
      | (with_reducible exact interval_Do.mono _ _ _ _ _ _)
      | (with_reducible exact interval_Join.mono _ _ _ _ _)
      | (with_reducible exact interval_Un.mono _ _ _ _)
      | (with_reducible exact interval_Widen.mono _ _ _ _ _)
      | (with_reducible exact interval_Within.mono _ _ _ _ _)
      | (with_reducible exact lamplighterlaw19_lives.mono _)
      | (with_reducible exact LeO.refl _)
      | (with_reducible exact LeO.none _)
      | (with_reducible refine LeO.ite ?_ ?_)
      | (with_reducible refine LeO.bind ?_ (fun _ => ?_))
      | exact ih0 _ _ _ _ _ _ _ _ _ _ _
      | exact ih1 _ _ _ _ _ _ _
      | exact ih2 _ _ _ _ _
      | exact ih3 _ _ _ _ _ _ _
      | exact interval_Do.mono _ _ _ _ _ _
      | exact interval_Join.mono _ _ _ _ _
      | exact interval_Un.mono _ _ _ _
      | exact interval_Widen.mono _ _ _ _ _
      | exact interval_Within.mono _ _ _ _ _
      | exact lamplighterlaw19_lives.mono _
      | exact LeO.none _
      | refine LeO.ite ?_ ?_
      | refine LeO.bind ?_ (fun _ => ?_)
theorem lamplighterlaw19_IntervalGrows.mono : ∀ a0 a1 a2 a3 a4 a5 a6 a7 a8 a9 k, LeO (lamplighterlaw19_IntervalGrows.f k a0 a1 a2 a3 a4 a5 a6 a7 a8 a9) (lamplighterlaw19_IntervalGrows.f (k + 1) a0 a1 a2 a3 a4 a5 a6 a7 a8 a9) := by
  intro a0 a1 a2 a3 a4 a5 a6 a7 a8 a9 k
  obtain ⟨ih0, ih1, ih2, ih3⟩ := lamplighterlaw19_IntervalGrows.mono_l k
  unfold lamplighterlaw19_IntervalGrows.f
  repeat' first
      | (with_reducible exact ih0 _ _ _ _ _ _ _ _ _ _ _)
      | (with_reducible exact ih1 _ _ _ _ _ _ _)
      | (with_reducible exact ih2 _ _ _ _ _)
      | (with_reducible exact ih3 _ _ _ _ _ _ _)
      | (with_reducible exact interval_Do.mono _ _ _ _ _ _)
      | (with_reducible exact interval_Join.mono _ _ _ _ _)
      | (with_reducible exact interval_Un.mono _ _ _ _)
      | (with_reducible exact interval_Widen.mono _ _ _ _ _)
      | (with_reducible exact interval_Within.mono _ _ _ _ _)
      | (with_reducible exact lamplighterlaw19_lives.mono _)
      | (with_reducible exact LeO.refl _)
      | (with_reducible exact LeO.none _)
      | (with_reducible refine LeO.ite ?_ ?_)
      | (with_reducible refine LeO.bind ?_ (fun _ => ?_))
      | exact ih0 _ _ _ _ _ _ _ _ _ _ _
      | exact ih1 _ _ _ _ _ _ _
      | exact ih2 _ _ _ _ _
      | exact ih3 _ _ _ _ _ _ _
      | exact interval_Do.mono _ _ _ _ _ _
      | exact interval_Join.mono _ _ _ _ _
      | exact interval_Un.mono _ _ _ _
      | exact interval_Widen.mono _ _ _ _ _
      | exact interval_Within.mono _ _ _ _ _
      | exact lamplighterlaw19_lives.mono _
      | exact LeO.none _
      | refine LeO.ite ?_ ?_
      | refine LeO.bind ?_ (fun _ => ?_)
def lamplighterlaw19_IntervalGrows.T7 : Bool × List (List Nat × List Nat) := (true, [([], []), ([], []), ([], []), ([1, 2], [1, 2]), ([], []), ([], []), ([4, 5, 3], [4, 5]), ([0, 3, 6, 6], [0, 3, 6]), ([7], [7]), ([8], [8]), ([8], [8]), ([8], [8]), ([], []), ([12, 9, 7, 0, 1, 2, 3, 4, 5, 6, 7, 8, 9, 12], [9, 12]), ([10, 13, 0, 1, 2, 3, 4, 5, 6, 7, 8, 9, 10, 12, 13], [10]), ([11, 14, 0, 1, 2, 3, 4, 5, 6, 7, 8, 9, 10, 11, 12, 13, 14], [11])])
def lamplighterlaw19_IntervalGrows.B7 : List Nat := [0, 0, 0, 6, 0, 0, 62, 127, 255, 511, 511, 511, 0, 5119, 14335, 32767]
theorem lamplighterlaw19_IntervalGrows.tab7 : rtab .any (opsOf Try.f3 7) = lamplighterlaw19_IntervalGrows.T7 := by kernel_rfl
theorem lamplighterlaw19_IntervalGrows.bits7 : waitsOk lamplighterlaw19_IntervalGrows.T7.2 lamplighterlaw19_IntervalGrows.B7 = true := by kernel_rfl
def lamplighterlaw19_IntervalGrows.T20 : Bool × List (List Nat × List Nat) := (true, [([], []), ([], []), ([], []), ([1, 2], [1, 2]), ([3], [3]), ([0, 4], [0, 4]), ([], []), ([6, 5, 5, 0, 1, 2, 3, 4, 5, 6], [5, 6])])
def lamplighterlaw19_IntervalGrows.B20 : List Nat := [0, 0, 0, 6, 14, 31, 0, 127]
theorem lamplighterlaw19_IntervalGrows.tab20 : rtab .any (opsOf Try.f3 20) = lamplighterlaw19_IntervalGrows.T20 := by kernel_rfl
theorem lamplighterlaw19_IntervalGrows.bits20 : waitsOk lamplighterlaw19_IntervalGrows.T20.2 lamplighterlaw19_IntervalGrows.B20 = true := by kernel_rfl
def lamplighterlaw19_IntervalGrows.T23 : Bool × List (List Nat × List Nat) := (true, [([], []), ([], []), ([0, 1], [0, 1]), ([2], [2]), ([], []), ([3, 4], [3, 4]), ([5], [5]), ([6, 5], [6]), ([7], [7]), ([7], [7]), ([8, 9, 7, 7], [7, 8, 9]), ([10, 7], [7, 10]), ([7, 11], [7, 11])])
def lamplighterlaw19_IntervalGrows.B23 : List Nat := [0, 0, 3, 7, 0, 31, 63, 127, 255, 255, 1023, 2047, 4095]
theorem lamplighterlaw19_IntervalGrows.tab23 : rtab .any (opsOf Try.f3 23) = lamplighterlaw19_IntervalGrows.T23 := by kernel_rfl
theorem lamplighterlaw19_IntervalGrows.bits23 : waitsOk lamplighterlaw19_IntervalGrows.T23.2 lamplighterlaw19_IntervalGrows.B23 = true := by kernel_rfl
set_option maxHeartbeats 8000000 in
set_option maxRecDepth 100000 in
theorem lamplighterlaw19_IntervalGrows.calls (k : Nat) (a0_0 : Int) (a0_1 : Int) (a1_0 : Int) (a1_1 : Int) (a2_0 : Int) (a2_1 : Int) (a3_0 : Int) (a3_1 : Int) (a4 : Int) (A5 : Option Addr) (c5 : Nat) (l5 : List (S24)) (r : Bool) (w : World) (hr5 : Kd.C k24 w A5 l5.length l5) (hc5 : l5.length ≤ c5) (h : lamplighterlaw19_IntervalGrows.f k a0_0 a0_1 a1_0 a1_1 a2_0 a2_1 a3_0 a3_1 a4 l5 = some r) (hr_ : Aside0 (r = true)) :
    Calls Try.prog 3 #[.agg #[.int .u32 a0_0, .int .u32 a0_1], .agg #[.int .u32 a1_0, .int .u32 a1_1], .agg #[.int .u32 a2_0, .int .u32 a2_1], .agg #[.int .u32 a3_0, .int .u32 a3_1], .int .i64 a4, .slice A5 l5.length c5] w fun e w' => e = .returned (.bool r) ∧ Below w.heap.size w w' := by
  have hu24 := Try.underlying24
  have HR5 := am hr5
  have HC5 := am hc5
  clear hr5 hc5
  have HB := am (Below.refl w.heap.size w)
  have H : ((lamplighterlaw19_lives.f k).bind fun t348 => (if t348 = true then ((interval_Check.f a0_0 a0_1).bind fun t349 => (if t349 = 0 then ((interval_Check.f a1_0 a1_1).bind fun t350 => (if t350 = 0 then ((interval_Check.f a2_0 a2_1).bind fun t351 => (if t351 = 0 then ((interval_Check.f a3_0 a3_1).bind fun t352 => (if t352 = 0 then (lamplighterlaw19_IntervalGrows.j0 k a4 l5 (decide ((l5.length : Int) > 60)) a0_0 a0_1 a1_0 a1_1 a2_0 a2_1 a3_0 a3_1) else (lamplighterlaw19_IntervalGrows.j0 k a4 l5 true a0_0 a0_1 a1_0 a1_1 a2_0 a2_1 a3_0 a3_1))) else (lamplighterlaw19_IntervalGrows.j0 k a4 l5 true a0_0 a0_1 a1_0 a1_1 a2_0 a2_1 a3_0 a3_1))) else (lamplighterlaw19_IntervalGrows.j0 k a4 l5 true a0_0 a0_1 a1_0 a1_1 a2_0 a2_1 a3_0 a3_1))) else (lamplighterlaw19_IntervalGrows.j0 k a4 l5 true a0_0 a0_1 a1_0 a1_1 a2_0 a2_1 a3_0 a3_1))) else (some false))) = some r := h
  clear h
  replace H := Option.bind_eq_some_iff.mp H
  obtain ⟨t348, A70, H⟩ := H
  replace H : (if t348 = true then ((interval_Check.f a0_0 a0_1).bind fun t349 => (if t349 = 0 then ((interval_Check.f a1_0 a1_1).bind fun t350 => (if t350 = 0 then ((interval_Check.f a2_0 a2_1).bind fun t351 => (if t351 = 0 then ((interval_Check.f a3_0 a3_1).bind fun t352 => (if t352 = 0 then (lamplighterlaw19_IntervalGrows.j0 k a4 l5 (decide ((l5.length : Int) > 60)) a0_0 a0_1 a1_0 a1_1 a2_0 a2_1 a3_0 a3_1) else (lamplighterlaw19_IntervalGrows.j0 k a4 l5 true a0_0 a0_1 a1_0 a1_1 a2_0 a2_1 a3_0 a3_1))) else (lamplighterlaw19_IntervalGrows.j0 k a4 l5 true a0_0 a0_1 a1_0 a1_1 a2_0 a2_1 a3_0 a3_1))) else (lamplighterlaw19_IntervalGrows.j0 k a4 l5 true a0_0 a0_1 a1_0 a1_1 a2_0 a2_1 a3_0 a3_1))) else (lamplighterlaw19_IntervalGrows.j0 k a4 l5 true a0_0 a0_1 a1_0 a1_1 a2_0 a2_1 a3_0 a3_1))) else (some false)) = some r := H
  have A7 := am A70
  clear A70
  by_cases c8 : t348 = true
  · subst c8
    have H1 : ((interval_Check.f a0_0 a0_1).bind fun t349 => (if t349 = 0 then ((interval_Check.f a1_0 a1_1).bind fun t350 => (if t350 = 0 then ((interval_Check.f a2_0 a2_1).bind fun t351 => (if t351 = 0 then ((interval_Check.f a3_0 a3_1).bind fun t352 => (if t352 = 0 then (lamplighterlaw19_IntervalGrows.j0 k a4 l5 (decide ((l5.length : Int) > 60)) a0_0 a0_1 a1_0 a1_1 a2_0 a2_1 a3_0 a3_1) else (lamplighterlaw19_IntervalGrows.j0 k a4 l5 true a0_0 a0_1 a1_0 a1_1 a2_0 a2_1 a3_0 a3_1))) else (lamplighterlaw19_IntervalGrows.j0 k a4 l5 true a0_0 a0_1 a1_0 a1_1 a2_0 a2_1 a3_0 a3_1))) else (lamplighterlaw19_IntervalGrows.j0 k a4 l5 true a0_0 a0_1 a1_0 a1_1 a2_0 a2_1 a3_0 a3_1))) else (lamplighterlaw19_IntervalGrows.j0 k a4 l5 true a0_0 a0_1 a1_0 a1_1 a2_0 a2_1 a3_0 a3_1))) = some r := by rw [if_pos rfl] at H; exact H
    clear H
    have H := H1
    clear H1
    have HC9 := am H
    clear H
    go_enter Try.func3, Try.ntmps3
    go_upto_region 3 with (first | ((with_reducible refine gate_dst (N := 6) rfl ?_); (try (refine gate_guard (by rfl) ?_; dsimp only)); refine bxE 6 #[.int .u32 a0_0, .int .u32 a0_1] 24 ?_; intro gb344 hg w10 hbox hb; have n0_ := am (below_step (hbA HB) hb); have n1_ := am (hbox); have n2_ := gwA hg HB; have n3_ := gwA hg HB; clear HB; have HB := n0_; have BK344 := n1_; have GW344 := n2_; have GE344 := n3_; clear n0_ n1_ n2_ n3_; clear hb hbox hg) | ((with_reducible refine gate_dst (N := 7) rfl ?_); (try (refine gate_guard (by rfl) ?_; dsimp only)); refine bxE 7 #[.int .u32 a1_0, .int .u32 a1_1] 24 ?_; intro gb345 hg w11 hbox hb; have n0_ := am (blk_below (g := gb344) (o := .cells #[.int .u32 a0_0, .int .u32 a0_1] 24 (0, 0)) (bkA BK344) hb); have n1_ := am (below_step (hbA HB) hb); have n2_ := am (hbox); have n3_ := gwA hg HB; have n4_ := gwA hg HB; have n5_ := ltA hg BK344; have n6_ := gtA hg BK344; clear BK344; clear HB; have BK344 := n0_; have HB := n1_; have BK345 := n2_; have GW345 := n3_; have GE345 := n4_; have NB344_345 := n5_; have NB345_344 := n6_; clear n0_ n1_ n2_ n3_ n4_ n5_ n6_; clear hb hbox hg) | ((with_reducible refine gate_dst (N := 8) rfl ?_); (try (refine gate_guard (by rfl) ?_; dsimp only)); refine bxE 8 #[.int .u32 a2_0, .int .u32 a2_1] 24 ?_; intro gb346 hg w12 hbox hb; have n0_ := am (blk_below (g := gb344) (o := .cells #[.int .u32 a0_0, .int .u32 a0_1] 24 (0, 0)) (bkA BK344) hb); have n1_ := am (blk_below (g := gb345) (o := .cells #[.int .u32 a1_0, .int .u32 a1_1] 24 (0, 0)) (bkA BK345) hb); have n2_ := am (below_step (hbA HB) hb); have n3_ := am (hbox); have n4_ := gwA hg HB; have n5_ := gwA hg HB; have n6_ := ltA hg BK344; have n7_ := gtA hg BK344; have n8_ := ltA hg BK345; have n9_ := gtA hg BK345; clear BK344; clear BK345; clear HB; have BK344 := n0_; have BK345 := n1_; have HB := n2_; have BK346 := n3_; have GW346 := n4_; have GE346 := n5_; have NB344_346 := n6_; have NB346_344 := n7_; have NB345_346 := n8_; have NB346_345 := n9_; clear n0_ n1_ n2_ n3_ n4_ n5_ n6_ n7_ n8_ n9_; clear hb hbox hg) | ((with_reducible refine gate_dst (N := 9) rfl ?_); (try (refine gate_guard (by rfl) ?_; dsimp only)); refine bxE 9 #[.int .u32 a3_0, .int .u32 a3_1] 24 ?_; intro gb347 hg w13 hbox hb; have n0_ := am (blk_below (g := gb344) (o := .cells #[.int .u32 a0_0, .int .u32 a0_1] 24 (0, 0)) (bkA BK344) hb); have n1_ := am (blk_below (g := gb345) (o := .cells #[.int .u32 a1_0, .int .u32 a1_1] 24 (0, 0)) (bkA BK345) hb); have n2_ := am (blk_below (g := gb346) (o := .cells #[.int .u32 a2_0, .int .u32 a2_1] 24 (0, 0)) (bkA BK346) hb); have n3_ := am (below_step (hbA HB) hb); have n4_ := am (hbox); have n5_ := gwA hg HB; have n6_ := gwA hg HB; have n7_ := ltA hg BK344; have n8_ := gtA hg BK344; have n9_ := ltA hg BK345; have n10_ := gtA hg BK345; have n11_ := ltA hg BK346; have n12_ := gtA hg BK346; clear BK344; clear BK345; clear BK346; clear HB; have BK344 := n0_; have BK345 := n1_; have BK346 := n2_; have HB := n3_; have BK347 := n4_; have GW347 := n5_; have GE347 := n6_; have NB344_347 := n7_; have NB347_344 := n8_; have NB345_347 := n9_; have NB347_345 := n10_; have NB346_347 := n11_; have NB347_346 := n12_; clear n0_ n1_ n2_ n3_ n4_ n5_ n6_ n7_ n8_ n9_ n10_ n11_ n12_; clear hb hbox hg) | ((with_reducible refine gate_callee (f := 8) rfl ?_); refine goesL_ (some 28) rfl rfl Try.func8 (by kernel_rfl) rfl #[] rfl (by (try simp only [List.map_toArray, List.map_cons, List.map_nil]); first | done | rfl | (simp only [List.length_drop, List.length_take]; rfl)) ?_; (with_reducible refine (lamplighterlaw19_lives.calls k  true _ A7.out ⟨rfl⟩).mono ?_); rintro e w14 ⟨rfl, hb⟩; refine ⟨_, rfl, ?_⟩; have n0_ := am (blk_below (g := gb344) (o := .cells #[.int .u32 a0_0, .int .u32 a0_1] 24 (0, 0)) (bkA BK344) hb); have n1_ := am (blk_below (g := gb345) (o := .cells #[.int .u32 a1_0, .int .u32 a1_1] 24 (0, 0)) (bkA BK345) hb); have n2_ := am (blk_below (g := gb346) (o := .cells #[.int .u32 a2_0, .int .u32 a2_1] 24 (0, 0)) (bkA BK346) hb); have n3_ := am (blk_below (g := gb347) (o := .cells #[.int .u32 a3_0, .int .u32 a3_1] 24 (0, 0)) (bkA BK347) hb); have n4_ := am (below_step (hbA HB) hb); clear BK344; clear BK345; clear BK346; clear BK347; clear HB; have BK344 := n0_; have BK345 := n1_; have BK346 := n2_; have BK347 := n3_; have HB := n4_; clear n0_ n1_ n2_ n3_ n4_; (try clear hb); (try clear hb2); (try clear hk); (try clear hi)))
    (try simp only [Act.put, List.setIfInBounds_toArray, List.set_cons_zero, List.set_cons_succ])
    go_cut [52] (fun v52 wc => ∃ (kq : Nat) (x52_8 : Bool), v52 = .bool x52_8 ∧ Aside0 (lamplighterlaw19_IntervalGrows.j0 kq a4 l5 x52_8 a0_0 a0_1 a1_0 a1_1 a2_0 a2_1 a3_0 a3_1 = some r) ∧ Aside0 (kq ≤ k) ∧ Aside0 (wc.heap[gb344]? = some (.cells #[.int .u32 a0_0, .int .u32 a0_1] 24 (0, 0))) ∧ Aside0 (wc.heap[gb345]? = some (.cells #[.int .u32 a1_0, .int .u32 a1_1] 24 (0, 0))) ∧ Aside0 (wc.heap[gb346]? = some (.cells #[.int .u32 a2_0, .int .u32 a2_1] 24 (0, 0))) ∧ Aside0 (wc.heap[gb347]? = some (.cells #[.int .u32 a3_0, .int .u32 a3_1] 24 (0, 0))) ∧ Aside0 (Below w.heap.size w wc))
    case first =>
      have H := HC9.out
      clear HC9
      replace H := Option.bind_eq_some_iff.mp H
      obtain ⟨t349, A150, H⟩ := H
      replace H : (if t349 = 0 then ((interval_Check.f a1_0 a1_1).bind fun t350 => (if t350 = 0 then ((interval_Check.f a2_0 a2_1).bind fun t351 => (if t351 = 0 then ((interval_Check.f a3_0 a3_1).bind fun t352 => (if t352 = 0 then (lamplighterlaw19_IntervalGrows.j0 k a4 l5 (decide ((l5.length : Int) > 60)) a0_0 a0_1 a1_0 a1_1 a2_0 a2_1 a3_0 a3_1) else (lamplighterlaw19_IntervalGrows.j0 k a4 l5 true a0_0 a0_1 a1_0 a1_1 a2_0 a2_1 a3_0 a3_1))) else (lamplighterlaw19_IntervalGrows.j0 k a4 l5 true a0_0 a0_1 a1_0 a1_1 a2_0 a2_1 a3_0 a3_1))) else (lamplighterlaw19_IntervalGrows.j0 k a4 l5 true a0_0 a0_1 a1_0 a1_1 a2_0 a2_1 a3_0 a3_1))) else (lamplighterlaw19_IntervalGrows.j0 k a4 l5 true a0_0 a0_1 a1_0 a1_1 a2_0 a2_1 a3_0 a3_1)) = some r := H
      have A15 := am A150
      clear A150
      by_cases c16 : t349 = 0
      · rw [if_pos c16] at H
        have c16b0 : (t349 == 0) = true := beq_iff_eq.mpr c16
        have c16b1 : (t349 != 0) = false := bne_eq_false_iff_eq.mpr c16
        clear c16
        (first | rw [c16b0] | (simp only [i64_w, i32_w]; rw [c16b0]) | skip)
        replace H := Option.bind_eq_some_iff.mp H
        obtain ⟨t350, A170, H⟩ := H
        replace H : (if t350 = 0 then ((interval_Check.f a2_0 a2_1).bind fun t351 => (if t351 = 0 then ((interval_Check.f a3_0 a3_1).bind fun t352 => (if t352 = 0 then (lamplighterlaw19_IntervalGrows.j0 k a4 l5 (decide ((l5.length : Int) > 60)) a0_0 a0_1 a1_0 a1_1 a2_0 a2_1 a3_0 a3_1) else (lamplighterlaw19_IntervalGrows.j0 k a4 l5 true a0_0 a0_1 a1_0 a1_1 a2_0 a2_1 a3_0 a3_1))) else (lamplighterlaw19_IntervalGrows.j0 k a4 l5 true a0_0 a0_1 a1_0 a1_1 a2_0 a2_1 a3_0 a3_1))) else (lamplighterlaw19_IntervalGrows.j0 k a4 l5 true a0_0 a0_1 a1_0 a1_1 a2_0 a2_1 a3_0 a3_1)) = some r := H
        have A17 := am A170
        clear A170
        by_cases c18 : t350 = 0
        · rw [if_pos c18] at H
          have c18b0 : (t350 == 0) = true := beq_iff_eq.mpr c18
          have c18b1 : (t350 != 0) = false := bne_eq_false_iff_eq.mpr c18
          clear c18
          replace H := Option.bind_eq_some_iff.mp H
          obtain ⟨t351, A190, H⟩ := H
          replace H : (if t351 = 0 then ((interval_Check.f a3_0 a3_1).bind fun t352 => (if t352 = 0 then (lamplighterlaw19_IntervalGrows.j0 k a4 l5 (decide ((l5.length : Int) > 60)) a0_0 a0_1 a1_0 a1_1 a2_0 a2_1 a3_0 a3_1) else (lamplighterlaw19_IntervalGrows.j0 k a4 l5 true a0_0 a0_1 a1_0 a1_1 a2_0 a2_1 a3_0 a3_1))) else (lamplighterlaw19_IntervalGrows.j0 k a4 l5 true a0_0 a0_1 a1_0 a1_1 a2_0 a2_1 a3_0 a3_1)) = some r := H
          have A19 := am A190
          clear A190
          by_cases c20 : t351 = 0
          · rw [if_pos c20] at H
            have c20b0 : (t351 == 0) = true := beq_iff_eq.mpr c20
            have c20b1 : (t351 != 0) = false := bne_eq_false_iff_eq.mpr c20
            clear c20
            replace H := Option.bind_eq_some_iff.mp H
            obtain ⟨t352, A210, H⟩ := H
            replace H : (if t352 = 0 then (lamplighterlaw19_IntervalGrows.j0 k a4 l5 (decide ((l5.length : Int) > 60)) a0_0 a0_1 a1_0 a1_1 a2_0 a2_1 a3_0 a3_1) else (lamplighterlaw19_IntervalGrows.j0 k a4 l5 true a0_0 a0_1 a1_0 a1_1 a2_0 a2_1 a3_0 a3_1)) = some r := H
            have A21 := am A210
            clear A210
            by_cases c22 : t352 = 0
            · rw [if_pos c22] at H
              have c22b0 : (t352 == 0) = true := beq_iff_eq.mpr c22
              have c22b1 : (t352 != 0) = false := bne_eq_false_iff_eq.mpr c22
              clear c22
              have H' := am H
              clear H
              have hnb23 := NB344_345.out
              have hnc23 := NB345_344.out
              have hnb24 := NB344_346.out
              have hnc24 := NB346_344.out
              have hnb25 := NB344_347.out
              have hnc25 := NB347_344.out
              have hcz26_0 : w14.cell? ⟨gb344, 0, none⟩ = some (.int .u32 a0_0) := cz BK344
              have hcz26_1 : w14.cell? ⟨gb344, 1, none⟩ = some (.int .u32 a0_1) := cz BK344
              have hfz26_0 := blk_frozen BK344.out 0
              have hfz26_1 := blk_frozen BK344.out 1
              go_wp2_with (first | ((with_reducible refine gate_callee (f := 9) rfl ?_); refine goesL_ (some 31) rfl rfl Try.func9 (by kernel_rfl) rfl #[.agg #[.int .u32 a0_0, .int .u32 a0_1]] rfl (by (try simp only [List.map_toArray, List.map_cons, List.map_nil]); first | done | rfl | (simp only [List.length_drop, List.length_take]; rfl)) ?_; (with_reducible refine (interval_Check.calls a0_0 a0_1 t349 _ A15.out).mono ?_); rintro e w27 ⟨rfl, hb⟩; refine ⟨_, rfl, ?_⟩; have n0_ := am (blk_below (g := gb344) (o := .cells #[.int .u32 a0_0, .int .u32 a0_1] 24 (0, 0)) (bkA BK344) hb); have n1_ := am (blk_below (g := gb345) (o := .cells #[.int .u32 a1_0, .int .u32 a1_1] 24 (0, 0)) (bkA BK345) hb); have n2_ := am (blk_below (g := gb346) (o := .cells #[.int .u32 a2_0, .int .u32 a2_1] 24 (0, 0)) (bkA BK346) hb); have n3_ := am (blk_below (g := gb347) (o := .cells #[.int .u32 a3_0, .int .u32 a3_1] 24 (0, 0)) (bkA BK347) hb); have n4_ := am (below_step (hbA HB) hb); clear BK344; clear BK345; clear BK346; clear BK347; clear HB; have BK344 := n0_; have BK345 := n1_; have BK346 := n2_; have BK347 := n3_; have HB := n4_; clear n0_ n1_ n2_ n3_ n4_; (try clear hb); (try clear hb2); (try clear hk); (try clear hi); have hnb28 := NB345_346.out; have hnc28 := NB346_345.out; have hnb29 := NB345_347.out; have hnc29 := NB347_345.out; have hcz30_0 : w27.cell? ⟨gb345, 0, none⟩ = some (.int .u32 a1_0) := cz BK345; have hcz30_1 : w27.cell? ⟨gb345, 1, none⟩ = some (.int .u32 a1_1) := cz BK345; have hfz30_0 := blk_frozen BK345.out 0; have hfz30_1 := blk_frozen BK345.out 1) | (go_at_call 9; (with_reducible refine (interval_Check.calls a1_0 a1_1 t350 _ A17.out).mono ?_); rintro e w31 ⟨rfl, hb⟩; have n0_ := am (blk_below (g := gb344) (o := .cells #[.int .u32 a0_0, .int .u32 a0_1] 24 (0, 0)) (bkA BK344) hb); have n1_ := am (blk_below (g := gb345) (o := .cells #[.int .u32 a1_0, .int .u32 a1_1] 24 (0, 0)) (bkA BK345) hb); have n2_ := am (blk_below (g := gb346) (o := .cells #[.int .u32 a2_0, .int .u32 a2_1] 24 (0, 0)) (bkA BK346) hb); have n3_ := am (blk_below (g := gb347) (o := .cells #[.int .u32 a3_0, .int .u32 a3_1] 24 (0, 0)) (bkA BK347) hb); have n4_ := am (below_step (hbA HB) hb); clear BK344; clear BK345; clear BK346; clear BK347; clear HB; have BK344 := n0_; have BK345 := n1_; have BK346 := n2_; have BK347 := n3_; have HB := n4_; clear n0_ n1_ n2_ n3_ n4_; (try clear hb); (try clear hb2); (try clear hk); (try clear hi); have hnb32 := NB346_347.out; have hnc32 := NB347_346.out; have hcz33_0 : w31.cell? ⟨gb346, 0, none⟩ = some (.int .u32 a2_0) := cz BK346; have hcz33_1 : w31.cell? ⟨gb346, 1, none⟩ = some (.int .u32 a2_1) := cz BK346; have hfz33_0 := blk_frozen BK346.out 0; have hfz33_1 := blk_frozen BK346.out 1) | (go_at_call 9; (with_reducible refine (interval_Check.calls a2_0 a2_1 t351 _ A19.out).mono ?_); rintro e w34 ⟨rfl, hb⟩; have n0_ := am (blk_below (g := gb344) (o := .cells #[.int .u32 a0_0, .int .u32 a0_1] 24 (0, 0)) (bkA BK344) hb); have n1_ := am (blk_below (g := gb345) (o := .cells #[.int .u32 a1_0, .int .u32 a1_1] 24 (0, 0)) (bkA BK345) hb); have n2_ := am (blk_below (g := gb346) (o := .cells #[.int .u32 a2_0, .int .u32 a2_1] 24 (0, 0)) (bkA BK346) hb); have n3_ := am (blk_below (g := gb347) (o := .cells #[.int .u32 a3_0, .int .u32 a3_1] 24 (0, 0)) (bkA BK347) hb); have n4_ := am (below_step (hbA HB) hb); clear BK344; clear BK345; clear BK346; clear BK347; clear HB; have BK344 := n0_; have BK345 := n1_; have BK346 := n2_; have BK347 := n3_; have HB := n4_; clear n0_ n1_ n2_ n3_ n4_; (try clear hb); (try clear hb2); (try clear hk); (try clear hi); have hcz35_0 : w34.cell? ⟨gb347, 0, none⟩ = some (.int .u32 a3_0) := cz BK347; have hcz35_1 : w34.cell? ⟨gb347, 1, none⟩ = some (.int .u32 a3_1) := cz BK347; have hfz35_0 := blk_frozen BK347.out 0; have hfz35_1 := blk_frozen BK347.out 1) | (go_at_call 9; (with_reducible refine (interval_Check.calls a3_0 a3_1 t352 _ A21.out).mono ?_); rintro e w36 ⟨rfl, hb⟩; have n0_ := am (blk_below (g := gb344) (o := .cells #[.int .u32 a0_0, .int .u32 a0_1] 24 (0, 0)) (bkA BK344) hb); have n1_ := am (blk_below (g := gb345) (o := .cells #[.int .u32 a1_0, .int .u32 a1_1] 24 (0, 0)) (bkA BK345) hb); have n2_ := am (blk_below (g := gb346) (o := .cells #[.int .u32 a2_0, .int .u32 a2_1] 24 (0, 0)) (bkA BK346) hb); have n3_ := am (blk_below (g := gb347) (o := .cells #[.int .u32 a3_0, .int .u32 a3_1] 24 (0, 0)) (bkA BK347) hb); have n4_ := am (below_step (hbA HB) hb); clear BK344; clear BK345; clear BK346; clear BK347; clear HB; have BK344 := n0_; have BK345 := n1_; have BK346 := n2_; have BK347 := n3_; have HB := n4_; clear n0_ n1_ n2_ n3_ n4_; (try clear hb); (try clear hb2); (try clear hk); (try clear hi)))
              go_meet
              case rel => exact ⟨_, (decide ((l5.length : Int) > 60)), (by first | rfl | (simp; done) | (simp [*]; done)), H', ⟨by first | omega | exact Nat.le_refl _⟩, ⟨by refine bkT ?_; exact BK344.out⟩, ⟨by refine bkT ?_; exact BK345.out⟩, ⟨by refine bkT ?_; exact BK346.out⟩, ⟨by refine bkT ?_; exact BK347.out⟩, ⟨by repeat (first | (with_reducible first | exact HB.out | apply below_alloc | apply pw_below_drewN | apply below_drew1 | refine below_set ?_ GE344.out | refine below_set ?_ GE345.out | refine below_set ?_ GE346.out | refine below_set ?_ GE347.out) | exact HB.out)⟩⟩
            · rw [if_neg c22] at H
              have c22b0 : (t352 == 0) = false := beq_eq_false_iff_ne.mpr c22
              have c22b1 : (t352 != 0) = true := bne_iff_ne.mpr c22
              have H' := am H
              clear H
              have hnb37 := NB344_345.out
              have hnc37 := NB345_344.out
              have hnb38 := NB344_346.out
              have hnc38 := NB346_344.out
              have hnb39 := NB344_347.out
              have hnc39 := NB347_344.out
              have hcz40_0 : w14.cell? ⟨gb344, 0, none⟩ = some (.int .u32 a0_0) := cz BK344
              have hcz40_1 : w14.cell? ⟨gb344, 1, none⟩ = some (.int .u32 a0_1) := cz BK344
              have hfz40_0 := blk_frozen BK344.out 0
              have hfz40_1 := blk_frozen BK344.out 1
              go_wp2_with (first | ((with_reducible refine gate_callee (f := 9) rfl ?_); refine goesL_ (some 31) rfl rfl Try.func9 (by kernel_rfl) rfl #[.agg #[.int .u32 a0_0, .int .u32 a0_1]] rfl (by (try simp only [List.map_toArray, List.map_cons, List.map_nil]); first | done | rfl | (simp only [List.length_drop, List.length_take]; rfl)) ?_; (with_reducible refine (interval_Check.calls a0_0 a0_1 t349 _ A15.out).mono ?_); rintro e w41 ⟨rfl, hb⟩; refine ⟨_, rfl, ?_⟩; have n0_ := am (blk_below (g := gb344) (o := .cells #[.int .u32 a0_0, .int .u32 a0_1] 24 (0, 0)) (bkA BK344) hb); have n1_ := am (blk_below (g := gb345) (o := .cells #[.int .u32 a1_0, .int .u32 a1_1] 24 (0, 0)) (bkA BK345) hb); have n2_ := am (blk_below (g := gb346) (o := .cells #[.int .u32 a2_0, .int .u32 a2_1] 24 (0, 0)) (bkA BK346) hb); have n3_ := am (blk_below (g := gb347) (o := .cells #[.int .u32 a3_0, .int .u32 a3_1] 24 (0, 0)) (bkA BK347) hb); have n4_ := am (below_step (hbA HB) hb); clear BK344; clear BK345; clear BK346; clear BK347; clear HB; have BK344 := n0_; have BK345 := n1_; have BK346 := n2_; have BK347 := n3_; have HB := n4_; clear n0_ n1_ n2_ n3_ n4_; (try clear hb); (try clear hb2); (try clear hk); (try clear hi); have hnb42 := NB345_346.out; have hnc42 := NB346_345.out; have hnb43 := NB345_347.out; have hnc43 := NB347_345.out; have hcz44_0 : w41.cell? ⟨gb345, 0, none⟩ = some (.int .u32 a1_0) := cz BK345; have hcz44_1 : w41.cell? ⟨gb345, 1, none⟩ = some (.int .u32 a1_1) := cz BK345; have hfz44_0 := blk_frozen BK345.out 0; have hfz44_1 := blk_frozen BK345.out 1) | (go_at_call 9; (with_reducible refine (interval_Check.calls a1_0 a1_1 t350 _ A17.out).mono ?_); rintro e w45 ⟨rfl, hb⟩; have n0_ := am (blk_below (g := gb344) (o := .cells #[.int .u32 a0_0, .int .u32 a0_1] 24 (0, 0)) (bkA BK344) hb); have n1_ := am (blk_below (g := gb345) (o := .cells #[.int .u32 a1_0, .int .u32 a1_1] 24 (0, 0)) (bkA BK345) hb); have n2_ := am (blk_below (g := gb346) (o := .cells #[.int .u32 a2_0, .int .u32 a2_1] 24 (0, 0)) (bkA BK346) hb); have n3_ := am (blk_below (g := gb347) (o := .cells #[.int .u32 a3_0, .int .u32 a3_1] 24 (0, 0)) (bkA BK347) hb); have n4_ := am (below_step (hbA HB) hb); clear BK344; clear BK345; clear BK346; clear BK347; clear HB; have BK344 := n0_; have BK345 := n1_; have BK346 := n2_; have BK347 := n3_; have HB := n4_; clear n0_ n1_ n2_ n3_ n4_; (try clear hb); (try clear hb2); (try clear hk); (try clear hi); have hnb46 := NB346_347.out; have hnc46 := NB347_346.out; have hcz47_0 : w45.cell? ⟨gb346, 0, none⟩ = some (.int .u32 a2_0) := cz BK346; have hcz47_1 : w45.cell? ⟨gb346, 1, none⟩ = some (.int .u32 a2_1) := cz BK346; have hfz47_0 := blk_frozen BK346.out 0; have hfz47_1 := blk_frozen BK346.out 1) | (go_at_call 9; (with_reducible refine (interval_Check.calls a2_0 a2_1 t351 _ A19.out).mono ?_); rintro e w48 ⟨rfl, hb⟩; have n0_ := am (blk_below (g := gb344) (o := .cells #[.int .u32 a0_0, .int .u32 a0_1] 24 (0, 0)) (bkA BK344) hb); have n1_ := am (blk_below (g := gb345) (o := .cells #[.int .u32 a1_0, .int .u32 a1_1] 24 (0, 0)) (bkA BK345) hb); have n2_ := am (blk_below (g := gb346) (o := .cells #[.int .u32 a2_0, .int .u32 a2_1] 24 (0, 0)) (bkA BK346) hb); have n3_ := am (blk_below (g := gb347) (o := .cells #[.int .u32 a3_0, .int .u32 a3_1] 24 (0, 0)) (bkA BK347) hb); have n4_ := am (below_step (hbA HB) hb); clear BK344; clear BK345; clear BK346; clear BK347; clear HB; have BK344 := n0_; have BK345 := n1_; have BK346 := n2_; have BK347 := n3_; have HB := n4_; clear n0_ n1_ n2_ n3_ n4_; (try clear hb); (try clear hb2); (try clear hk); (try clear hi); have hcz49_0 : w48.cell? ⟨gb347, 0, none⟩ = some (.int .u32 a3_0) := cz BK347; have hcz49_1 : w48.cell? ⟨gb347, 1, none⟩ = some (.int .u32 a3_1) := cz BK347; have hfz49_0 := blk_frozen BK347.out 0; have hfz49_1 := blk_frozen BK347.out 1) | (go_at_call 9; (with_reducible refine (interval_Check.calls a3_0 a3_1 t352 _ A21.out).mono ?_); rintro e w50 ⟨rfl, hb⟩; have n0_ := am (blk_below (g := gb344) (o := .cells #[.int .u32 a0_0, .int .u32 a0_1] 24 (0, 0)) (bkA BK344) hb); have n1_ := am (blk_below (g := gb345) (o := .cells #[.int .u32 a1_0, .int .u32 a1_1] 24 (0, 0)) (bkA BK345) hb); have n2_ := am (blk_below (g := gb346) (o := .cells #[.int .u32 a2_0, .int .u32 a2_1] 24 (0, 0)) (bkA BK346) hb); have n3_ := am (blk_below (g := gb347) (o := .cells #[.int .u32 a3_0, .int .u32 a3_1] 24 (0, 0)) (bkA BK347) hb); have n4_ := am (below_step (hbA HB) hb); clear BK344; clear BK345; clear BK346; clear BK347; clear HB; have BK344 := n0_; have BK345 := n1_; have BK346 := n2_; have BK347 := n3_; have HB := n4_; clear n0_ n1_ n2_ n3_ n4_; (try clear hb); (try clear hb2); (try clear hk); (try clear hi)))
              go_meet
              case rel => exact ⟨_, (true), (by first | rfl | (simp; done) | (simp [*]; done)), H', ⟨by first | omega | exact Nat.le_refl _⟩, ⟨by refine bkT ?_; exact BK344.out⟩, ⟨by refine bkT ?_; exact BK345.out⟩, ⟨by refine bkT ?_; exact BK346.out⟩, ⟨by refine bkT ?_; exact BK347.out⟩, ⟨by repeat (first | (with_reducible first | exact HB.out | apply below_alloc | apply pw_below_drewN | apply below_drew1 | refine below_set ?_ GE344.out | refine below_set ?_ GE345.out | refine below_set ?_ GE346.out | refine below_set ?_ GE347.out) | exact HB.out)⟩⟩
          · rw [if_neg c20] at H
            have c20b0 : (t351 == 0) = false := beq_eq_false_iff_ne.mpr c20
            have c20b1 : (t351 != 0) = true := bne_iff_ne.mpr c20
            have H' := am H
            clear H
            have hnb51 := NB344_345.out
            have hnc51 := NB345_344.out
            have hnb52 := NB344_346.out
            have hnc52 := NB346_344.out
            have hnb53 := NB344_347.out
            have hnc53 := NB347_344.out
            have hcz54_0 : w14.cell? ⟨gb344, 0, none⟩ = some (.int .u32 a0_0) := cz BK344
            have hcz54_1 : w14.cell? ⟨gb344, 1, none⟩ = some (.int .u32 a0_1) := cz BK344
            have hfz54_0 := blk_frozen BK344.out 0
            have hfz54_1 := blk_frozen BK344.out 1
            go_wp2_with (first | ((with_reducible refine gate_callee (f := 9) rfl ?_); refine goesL_ (some 31) rfl rfl Try.func9 (by kernel_rfl) rfl #[.agg #[.int .u32 a0_0, .int .u32 a0_1]] rfl (by (try simp only [List.map_toArray, List.map_cons, List.map_nil]); first | done | rfl | (simp only [List.length_drop, List.length_take]; rfl)) ?_; (with_reducible refine (interval_Check.calls a0_0 a0_1 t349 _ A15.out).mono ?_); rintro e w55 ⟨rfl, hb⟩; refine ⟨_, rfl, ?_⟩; have n0_ := am (blk_below (g := gb344) (o := .cells #[.int .u32 a0_0, .int .u32 a0_1] 24 (0, 0)) (bkA BK344) hb); have n1_ := am (blk_below (g := gb345) (o := .cells #[.int .u32 a1_0, .int .u32 a1_1] 24 (0, 0)) (bkA BK345) hb); have n2_ := am (blk_below (g := gb346) (o := .cells #[.int .u32 a2_0, .int .u32 a2_1] 24 (0, 0)) (bkA BK346) hb); have n3_ := am (blk_below (g := gb347) (o := .cells #[.int .u32 a3_0, .int .u32 a3_1] 24 (0, 0)) (bkA BK347) hb); have n4_ := am (below_step (hbA HB) hb); clear BK344; clear BK345; clear BK346; clear BK347; clear HB; have BK344 := n0_; have BK345 := n1_; have BK346 := n2_; have BK347 := n3_; have HB := n4_; clear n0_ n1_ n2_ n3_ n4_; (try clear hb); (try clear hb2); (try clear hk); (try clear hi); have hnb56 := NB345_346.out; have hnc56 := NB346_345.out; have hnb57 := NB345_347.out; have hnc57 := NB347_345.out; have hcz58_0 : w55.cell? ⟨gb345, 0, none⟩ = some (.int .u32 a1_0) := cz BK345; have hcz58_1 : w55.cell? ⟨gb345, 1, none⟩ = some (.int .u32 a1_1) := cz BK345; have hfz58_0 := blk_frozen BK345.out 0; have hfz58_1 := blk_frozen BK345.out 1) | (go_at_call 9; (with_reducible refine (interval_Check.calls a1_0 a1_1 t350 _ A17.out).mono ?_); rintro e w59 ⟨rfl, hb⟩; have n0_ := am (blk_below (g := gb344) (o := .cells #[.int .u32 a0_0, .int .u32 a0_1] 24 (0, 0)) (bkA BK344) hb); have n1_ := am (blk_below (g := gb345) (o := .cells #[.int .u32 a1_0, .int .u32 a1_1] 24 (0, 0)) (bkA BK345) hb); have n2_ := am (blk_below (g := gb346) (o := .cells #[.int .u32 a2_0, .int .u32 a2_1] 24 (0, 0)) (bkA BK346) hb); have n3_ := am (blk_below (g := gb347) (o := .cells #[.int .u32 a3_0, .int .u32 a3_1] 24 (0, 0)) (bkA BK347) hb); have n4_ := am (below_step (hbA HB) hb); clear BK344; clear BK345; clear BK346; clear BK347; clear HB; have BK344 := n0_; have BK345 := n1_; have BK346 := n2_; have BK347 := n3_; have HB := n4_; clear n0_ n1_ n2_ n3_ n4_; (try clear hb); (try clear hb2); (try clear hk); (try clear hi); have hnb60 := NB346_347.out; have hnc60 := NB347_346.out; have hcz61_0 : w59.cell? ⟨gb346, 0, none⟩ = some (.int .u32 a2_0) := cz BK346; have hcz61_1 : w59.cell? ⟨gb346, 1, none⟩ = some (.int .u32 a2_1) := cz BK346; have hfz61_0 := blk_frozen BK346.out 0; have hfz61_1 := blk_frozen BK346.out 1) | (go_at_call 9; (with_reducible refine (interval_Check.calls a2_0 a2_1 t351 _ A19.out).mono ?_); rintro e w62 ⟨rfl, hb⟩; have n0_ := am (blk_below (g := gb344) (o := .cells #[.int .u32 a0_0, .int .u32 a0_1] 24 (0, 0)) (bkA BK344) hb); have n1_ := am (blk_below (g := gb345) (o := .cells #[.int .u32 a1_0, .int .u32 a1_1] 24 (0, 0)) (bkA BK345) hb); have n2_ := am (blk_below (g := gb346) (o := .cells #[.int .u32 a2_0, .int .u32 a2_1] 24 (0, 0)) (bkA BK346) hb); have n3_ := am (blk_below (g := gb347) (o := .cells #[.int .u32 a3_0, .int .u32 a3_1] 24 (0, 0)) (bkA BK347) hb); have n4_ := am (below_step (hbA HB) hb); clear BK344; clear BK345; clear BK346; clear BK347; clear HB; have BK344 := n0_; have BK345 := n1_; have BK346 := n2_; have BK347 := n3_; have HB := n4_; clear n0_ n1_ n2_ n3_ n4_; (try clear hb); (try clear hb2); (try clear hk); (try clear hi)))
            go_meet
            case rel => exact ⟨_, (true), (by first | rfl | (simp; done) | (simp [*]; done)), H', ⟨by first | omega | exact Nat.le_refl _⟩, ⟨by refine bkT ?_; exact BK344.out⟩, ⟨by refine bkT ?_; exact BK345.out⟩, ⟨by refine bkT ?_; exact BK346.out⟩, ⟨by refine bkT ?_; exact BK347.out⟩, ⟨by repeat (first | (with_reducible first | exact HB.out | apply below_alloc | apply pw_below_drewN | apply below_drew1 | refine below_set ?_ GE344.out | refine below_set ?_ GE345.out | refine below_set ?_ GE346.out | refine below_set ?_ GE347.out) | exact HB.out)⟩⟩
        · rw [if_neg c18] at H
          have c18b0 : (t350 == 0) = false := beq_eq_false_iff_ne.mpr c18
          have c18b1 : (t350 != 0) = true := bne_iff_ne.mpr c18
          have H' := am H
          clear H
          have hnb63 := NB344_345.out
          have hnc63 := NB345_344.out
          have hnb64 := NB344_346.out
          have hnc64 := NB346_344.out
          have hnb65 := NB344_347.out
          have hnc65 := NB347_344.out
          have hcz66_0 : w14.cell? ⟨gb344, 0, none⟩ = some (.int .u32 a0_0) := cz BK344
          have hcz66_1 : w14.cell? ⟨gb344, 1, none⟩ = some (.int .u32 a0_1) := cz BK344
          have hfz66_0 := blk_frozen BK344.out 0
          have hfz66_1 := blk_frozen BK344.out 1
          go_wp2_with (first | ((with_reducible refine gate_callee (f := 9) rfl ?_); refine goesL_ (some 31) rfl rfl Try.func9 (by kernel_rfl) rfl #[.agg #[.int .u32 a0_0, .int .u32 a0_1]] rfl (by (try simp only [List.map_toArray, List.map_cons, List.map_nil]); first | done | rfl | (simp only [List.length_drop, List.length_take]; rfl)) ?_; (with_reducible refine (interval_Check.calls a0_0 a0_1 t349 _ A15.out).mono ?_); rintro e w67 ⟨rfl, hb⟩; refine ⟨_, rfl, ?_⟩; have n0_ := am (blk_below (g := gb344) (o := .cells #[.int .u32 a0_0, .int .u32 a0_1] 24 (0, 0)) (bkA BK344) hb); have n1_ := am (blk_below (g := gb345) (o := .cells #[.int .u32 a1_0, .int .u32 a1_1] 24 (0, 0)) (bkA BK345) hb); have n2_ := am (blk_below (g := gb346) (o := .cells #[.int .u32 a2_0, .int .u32 a2_1] 24 (0, 0)) (bkA BK346) hb); have n3_ := am (blk_below (g := gb347) (o := .cells #[.int .u32 a3_0, .int .u32 a3_1] 24 (0, 0)) (bkA BK347) hb); have n4_ := am (below_step (hbA HB) hb); clear BK344; clear BK345; clear BK346; clear BK347; clear HB; have BK344 := n0_; have BK345 := n1_; have BK346 := n2_; have BK347 := n3_; have HB := n4_; clear n0_ n1_ n2_ n3_ n4_; (try clear hb); (try clear hb2); (try clear hk); (try clear hi); have hnb68 := NB345_346.out; have hnc68 := NB346_345.out; have hnb69 := NB345_347.out; have hnc69 := NB347_345.out; have hcz70_0 : w67.cell? ⟨gb345, 0, none⟩ = some (.int .u32 a1_0) := cz BK345; have hcz70_1 : w67.cell? ⟨gb345, 1, none⟩ = some (.int .u32 a1_1) := cz BK345; have hfz70_0 := blk_frozen BK345.out 0; have hfz70_1 := blk_frozen BK345.out 1) | (go_at_call 9; (with_reducible refine (interval_Check.calls a1_0 a1_1 t350 _ A17.out).mono ?_); rintro e w71 ⟨rfl, hb⟩; have n0_ := am (blk_below (g := gb344) (o := .cells #[.int .u32 a0_0, .int .u32 a0_1] 24 (0, 0)) (bkA BK344) hb); have n1_ := am (blk_below (g := gb345) (o := .cells #[.int .u32 a1_0, .int .u32 a1_1] 24 (0, 0)) (bkA BK345) hb); have n2_ := am (blk_below (g := gb346) (o := .cells #[.int .u32 a2_0, .int .u32 a2_1] 24 (0, 0)) (bkA BK346) hb); have n3_ := am (blk_below (g := gb347) (o := .cells #[.int .u32 a3_0, .int .u32 a3_1] 24 (0, 0)) (bkA BK347) hb); have n4_ := am (below_step (hbA HB) hb); clear BK344; clear BK345; clear BK346; clear BK347; clear HB; have BK344 := n0_; have BK345 := n1_; have BK346 := n2_; have BK347 := n3_; have HB := n4_; clear n0_ n1_ n2_ n3_ n4_; (try clear hb); (try clear hb2); (try clear hk); (try clear hi)))
          go_meet
          case rel => exact ⟨_, (true), (by first | rfl | (simp; done) | (simp [*]; done)), H', ⟨by first | omega | exact Nat.le_refl _⟩, ⟨by refine bkT ?_; exact BK344.out⟩, ⟨by refine bkT ?_; exact BK345.out⟩, ⟨by refine bkT ?_; exact BK346.out⟩, ⟨by refine bkT ?_; exact BK347.out⟩, ⟨by repeat (first | (with_reducible first | exact HB.out | apply below_alloc | apply pw_below_drewN | apply below_drew1 | refine below_set ?_ GE344.out | refine below_set ?_ GE345.out | refine below_set ?_ GE346.out | refine below_set ?_ GE347.out) | exact HB.out)⟩⟩
      · rw [if_neg c16] at H
        have c16b0 : (t349 == 0) = false := beq_eq_false_iff_ne.mpr c16
        have c16b1 : (t349 != 0) = true := bne_iff_ne.mpr c16
        (first | rw [c16b0] | (simp only [i64_w, i32_w]; rw [c16b0]) | skip)
        have H' := am H
        clear H
        have hnb72 := NB344_345.out
        have hnc72 := NB345_344.out
        have hnb73 := NB344_346.out
        have hnc73 := NB346_344.out
        have hnb74 := NB344_347.out
        have hnc74 := NB347_344.out
        have hcz75_0 : w14.cell? ⟨gb344, 0, none⟩ = some (.int .u32 a0_0) := cz BK344
        have hcz75_1 : w14.cell? ⟨gb344, 1, none⟩ = some (.int .u32 a0_1) := cz BK344
        have hfz75_0 := blk_frozen BK344.out 0
        have hfz75_1 := blk_frozen BK344.out 1
        go_wp2_with (first | ((with_reducible refine gate_callee (f := 9) rfl ?_); refine goesL_ (some 31) rfl rfl Try.func9 (by kernel_rfl) rfl #[.agg #[.int .u32 a0_0, .int .u32 a0_1]] rfl (by (try simp only [List.map_toArray, List.map_cons, List.map_nil]); first | done | rfl | (simp only [List.length_drop, List.length_take]; rfl)) ?_; (with_reducible refine (interval_Check.calls a0_0 a0_1 t349 _ A15.out).mono ?_); rintro e w76 ⟨rfl, hb⟩; refine ⟨_, rfl, ?_⟩; have n0_ := am (blk_below (g := gb344) (o := .cells #[.int .u32 a0_0, .int .u32 a0_1] 24 (0, 0)) (bkA BK344) hb); have n1_ := am (blk_below (g := gb345) (o := .cells #[.int .u32 a1_0, .int .u32 a1_1] 24 (0, 0)) (bkA BK345) hb); have n2_ := am (blk_below (g := gb346) (o := .cells #[.int .u32 a2_0, .int .u32 a2_1] 24 (0, 0)) (bkA BK346) hb); have n3_ := am (blk_below (g := gb347) (o := .cells #[.int .u32 a3_0, .int .u32 a3_1] 24 (0, 0)) (bkA BK347) hb); have n4_ := am (below_step (hbA HB) hb); clear BK344; clear BK345; clear BK346; clear BK347; clear HB; have BK344 := n0_; have BK345 := n1_; have BK346 := n2_; have BK347 := n3_; have HB := n4_; clear n0_ n1_ n2_ n3_ n4_; (try clear hb); (try clear hb2); (try clear hk); (try clear hi)))
        go_meet
        case rel => exact ⟨_, (true), (by first | rfl | (simp; done) | (simp [*]; done)), H', ⟨by first | omega | exact Nat.le_refl _⟩, ⟨by refine bkT ?_; exact BK344.out⟩, ⟨by refine bkT ?_; exact BK345.out⟩, ⟨by refine bkT ?_; exact BK346.out⟩, ⟨by refine bkT ?_; exact BK347.out⟩, ⟨by repeat (first | (with_reducible first | exact HB.out | apply below_alloc | apply pw_below_drewN | apply below_drew1 | refine below_set ?_ GE344.out | refine below_set ?_ GE345.out | refine below_set ?_ GE346.out | refine below_set ?_ GE347.out) | exact HB.out)⟩⟩
    case rest =>
      clear HC9
      try clear c1
      try clear c2
      try clear p2
      try clear c3
      try clear c4
      try clear c5
      try clear c6
      try clear c7
      try clear c8
      try clear c9
      try clear c16
      try clear c16b0
      try clear c16b1
      try clear c18
      try clear c18b0
      try clear c18b1
      try clear c20
      try clear c20b0
      try clear c20b1
      try clear c22
      try clear c22b0
      try clear c22b1
      try clear c23
      try clear c24
      try clear c25
      try clear c28
      try clear c29
      try clear c32
      try clear c37
      try clear c38
      try clear c39
      try clear c42
      try clear c43
      try clear c46
      try clear c51
      try clear c52
      try clear c53
      try clear c56
      try clear c57
      try clear c60
      try clear c63
      try clear c64
      try clear c65
      try clear c68
      try clear c69
      try clear c72
      try clear c73
      try clear c74
      try clear hcz26_0
      try clear hcz26_1
      try clear hcz30_0
      try clear hcz30_1
      try clear hcz33_0
      try clear hcz33_1
      try clear hcz35_0
      try clear hcz35_1
      try clear hcz40_0
      try clear hcz40_1
      try clear hcz44_0
      try clear hcz44_1
      try clear hcz47_0
      try clear hcz47_1
      try clear hcz49_0
      try clear hcz49_1
      try clear hcz54_0
      try clear hcz54_1
      try clear hcz58_0
      try clear hcz58_1
      try clear hcz61_0
      try clear hcz61_1
      try clear hcz66_0
      try clear hcz66_1
      try clear hcz70_0
      try clear hcz70_1
      try clear hcz75_0
      try clear hcz75_1
      try clear hfz26_0
      try clear hfz26_1
      try clear hfz30_0
      try clear hfz30_1
      try clear hfz33_0
      try clear hfz33_1
      try clear hfz35_0
      try clear hfz35_1
      try clear hfz40_0
      try clear hfz40_1
      try clear hfz44_0
      try clear hfz44_1
      try clear hfz47_0
      try clear hfz47_1
      try clear hfz49_0
      try clear hfz49_1
      try clear hfz54_0
      try clear hfz54_1
      try clear hfz58_0
      try clear hfz58_1
      try clear hfz61_0
      try clear hfz61_1
      try clear hfz66_0
      try clear hfz66_1
      try clear hfz70_0
      try clear hfz70_1
      try clear hfz75_0
      try clear hfz75_1
      obtain ⟨kq, x52_8, rfl, HA, HJ8, BK344, BK345, BK346, BK347, HB⟩ := hcut
      cases kq with
      | zero => exact absurd HA.out (by simp [lamplighterlaw19_IntervalGrows.j0])
      | succ kj8 =>
        have H := HA.out
        clear HA
        simp only [lamplighterlaw19_IntervalGrows.j0] at H
        by_cases c77 : x52_8 = true
        · subst c77
          have H1 : (some true) = some r := by rw [if_pos rfl] at H; exact H
          clear H
          have H := H1
          clear H1
          obtain rfl := Option.some.inj H
          go_wp2
          go_ret
          exact ⟨by first | rfl | (simp [errW_none, errW_some] <;> rfl) | (simp [*, errW_none, errW_some] <;> rfl), hbA HB⟩
        · replace c77 := Bool.eq_false_iff.mpr c77
          subst c77
          have H1 : ((lamplighterkit_Pick.f a4 19).bind fun t353 => ((interval_Do.f kj8 (wrap64 (1 + t353)) a0_0 a0_1 a1_0 a1_1).bind fun bt354 => ((interval_Join.f kj8 a0_0 a0_1 a2_0 a2_1).bind fun bt359 => ((interval_Join.f kj8 a1_0 a1_1 a3_0 a3_1).bind fun bt361 => ((interval_Do.f kj8 (wrap64 (1 + t353)) bt359.1 bt359.2 bt361.1 bt361.2).bind fun bt363 => (if bt354.2.2.1 = true then (if bt363.2.2.1 = true then ((interval_Within.f kj8 bt354.1 bt354.2.1 bt363.1 bt363.2.1).bind fun t368 => (lamplighterlaw19_IntervalGrows.j1 kj8 (wrap64 (1 + t353)) l5 (!t368) a0_0 a0_1 a2_0 a2_1)) else (lamplighterlaw19_IntervalGrows.j1 kj8 (wrap64 (1 + t353)) l5 true a0_0 a0_1 a2_0 a2_1)) else (lamplighterlaw19_IntervalGrows.j1 kj8 (wrap64 (1 + t353)) l5 false a0_0 a0_1 a2_0 a2_1))))))) = some r := by rw [if_neg (show ¬ (false = true) by decide)] at H; exact H
          clear H
          have H := H1
          clear H1
          replace H := Option.bind_eq_some_iff.mp H
          obtain ⟨t353, A780, H⟩ := H
          replace H : ((interval_Do.f kj8 (wrap64 (1 + t353)) a0_0 a0_1 a1_0 a1_1).bind fun bt354 => ((interval_Join.f kj8 a0_0 a0_1 a2_0 a2_1).bind fun bt359 => ((interval_Join.f kj8 a1_0 a1_1 a3_0 a3_1).bind fun bt361 => ((interval_Do.f kj8 (wrap64 (1 + t353)) bt359.1 bt359.2 bt361.1 bt361.2).bind fun bt363 => (if bt354.2.2.1 = true then (if bt363.2.2.1 = true then ((interval_Within.f kj8 bt354.1 bt354.2.1 bt363.1 bt363.2.1).bind fun t368 => (lamplighterlaw19_IntervalGrows.j1 kj8 (wrap64 (1 + t353)) l5 (!t368) a0_0 a0_1 a2_0 a2_1)) else (lamplighterlaw19_IntervalGrows.j1 kj8 (wrap64 (1 + t353)) l5 true a0_0 a0_1 a2_0 a2_1)) else (lamplighterlaw19_IntervalGrows.j1 kj8 (wrap64 (1 + t353)) l5 false a0_0 a0_1 a2_0 a2_1)))))) = some r := H
          have A78 := am A780
          clear A780
          replace H := Option.bind_eq_some_iff.mp H
          obtain ⟨⟨t354, t355, t356, t357⟩, A790, H⟩ := H
          replace H : ((interval_Join.f kj8 a0_0 a0_1 a2_0 a2_1).bind fun bt359 => ((interval_Join.f kj8 a1_0 a1_1 a3_0 a3_1).bind fun bt361 => ((interval_Do.f kj8 (wrap64 (1 + t353)) bt359.1 bt359.2 bt361.1 bt361.2).bind fun bt363 => (if t356 = true then (if bt363.2.2.1 = true then ((interval_Within.f kj8 t354 t355 bt363.1 bt363.2.1).bind fun t368 => (lamplighterlaw19_IntervalGrows.j1 kj8 (wrap64 (1 + t353)) l5 (!t368) a0_0 a0_1 a2_0 a2_1)) else (lamplighterlaw19_IntervalGrows.j1 kj8 (wrap64 (1 + t353)) l5 true a0_0 a0_1 a2_0 a2_1)) else (lamplighterlaw19_IntervalGrows.j1 kj8 (wrap64 (1 + t353)) l5 false a0_0 a0_1 a2_0 a2_1))))) = some r := H
          have A79 := am A790
          clear A790
          replace H := Option.bind_eq_some_iff.mp H
          obtain ⟨⟨t359, t360⟩, A800, H⟩ := H
          replace H : ((interval_Join.f kj8 a1_0 a1_1 a3_0 a3_1).bind fun bt361 => ((interval_Do.f kj8 (wrap64 (1 + t353)) t359 t360 bt361.1 bt361.2).bind fun bt363 => (if t356 = true then (if bt363.2.2.1 = true then ((interval_Within.f kj8 t354 t355 bt363.1 bt363.2.1).bind fun t368 => (lamplighterlaw19_IntervalGrows.j1 kj8 (wrap64 (1 + t353)) l5 (!t368) a0_0 a0_1 a2_0 a2_1)) else (lamplighterlaw19_IntervalGrows.j1 kj8 (wrap64 (1 + t353)) l5 true a0_0 a0_1 a2_0 a2_1)) else (lamplighterlaw19_IntervalGrows.j1 kj8 (wrap64 (1 + t353)) l5 false a0_0 a0_1 a2_0 a2_1)))) = some r := H
          have A80 := am A800
          clear A800
          replace H := Option.bind_eq_some_iff.mp H
          obtain ⟨⟨t361, t362⟩, A810, H⟩ := H
          replace H : ((interval_Do.f kj8 (wrap64 (1 + t353)) t359 t360 t361 t362).bind fun bt363 => (if t356 = true then (if bt363.2.2.1 = true then ((interval_Within.f kj8 t354 t355 bt363.1 bt363.2.1).bind fun t368 => (lamplighterlaw19_IntervalGrows.j1 kj8 (wrap64 (1 + t353)) l5 (!t368) a0_0 a0_1 a2_0 a2_1)) else (lamplighterlaw19_IntervalGrows.j1 kj8 (wrap64 (1 + t353)) l5 true a0_0 a0_1 a2_0 a2_1)) else (lamplighterlaw19_IntervalGrows.j1 kj8 (wrap64 (1 + t353)) l5 false a0_0 a0_1 a2_0 a2_1))) = some r := H
          have A81 := am A810
          clear A810
          replace H := Option.bind_eq_some_iff.mp H
          obtain ⟨⟨t363, t364, t365, t366⟩, A820, H⟩ := H
          replace H : (if t356 = true then (if t365 = true then ((interval_Within.f kj8 t354 t355 t363 t364).bind fun t368 => (lamplighterlaw19_IntervalGrows.j1 kj8 (wrap64 (1 + t353)) l5 (!t368) a0_0 a0_1 a2_0 a2_1)) else (lamplighterlaw19_IntervalGrows.j1 kj8 (wrap64 (1 + t353)) l5 true a0_0 a0_1 a2_0 a2_1)) else (lamplighterlaw19_IntervalGrows.j1 kj8 (wrap64 (1 + t353)) l5 false a0_0 a0_1 a2_0 a2_1)) = some r := H
          have A82 := am A820
          clear A820
          have HC83 := am H
          clear H
          try go_wp2_with (first | ((with_reducible refine gate_callee (f := 10) rfl ?_); refine goesL_ (some 54) rfl rfl Try.func10 (by kernel_rfl) rfl #[.int .i64 a4, .int .i64 19] rfl (by (try simp only [List.map_toArray, List.map_cons, List.map_nil]); first | done | rfl | (simp only [List.length_drop, List.length_take]; rfl)) ?_; (with_reducible refine (lamplighterkit_Pick.calls a4 19 t353 _ A78.out).mono ?_); rintro e w' ⟨rfl, ⟨nd, rfl⟩⟩; refine ⟨_, rfl, ?_⟩; (try (rw [drewN_self wc]; generalize hq_ : World.drewN wc _ = wc; have n0_ : Aside0 (wc.heap[gb344]? = some (.cells #[.int .u32 a0_0, .int .u32 a0_1] 24 (0, 0))) := ⟨by rw [← hq_]; exact (bkA BK344)⟩; have n1_ : Aside0 (wc.heap[gb345]? = some (.cells #[.int .u32 a1_0, .int .u32 a1_1] 24 (0, 0))) := ⟨by rw [← hq_]; exact (bkA BK345)⟩; have n2_ : Aside0 (wc.heap[gb346]? = some (.cells #[.int .u32 a2_0, .int .u32 a2_1] 24 (0, 0))) := ⟨by rw [← hq_]; exact (bkA BK346)⟩; have n3_ : Aside0 (wc.heap[gb347]? = some (.cells #[.int .u32 a3_0, .int .u32 a3_1] 24 (0, 0))) := ⟨by rw [← hq_]; exact (bkA BK347)⟩; have n4_ : Aside0 (Below w.heap.size w wc) := ⟨by rw [← hq_]; exact (hbA HB)⟩; clear BK344 BK345 BK346 BK347 HB hq_; have BK344 := n0_; have BK345 := n1_; have BK346 := n2_; have BK347 := n3_; have HB := n4_; clear n0_ n1_ n2_ n3_ n4_)); have hnb84 := NB344_345.out; have hnc84 := NB345_344.out; have hnb85 := NB344_346.out; have hnc85 := NB346_344.out; have hnb86 := NB344_347.out; have hnc86 := NB347_344.out; have hcz87_0 : wc.cell? ⟨gb344, 0, none⟩ = some (.int .u32 a0_0) := cz BK344; have hcz87_1 : wc.cell? ⟨gb344, 1, none⟩ = some (.int .u32 a0_1) := cz BK344; have hfz87_0 := blk_frozen BK344.out 0; have hfz87_1 := blk_frozen BK344.out 1; have hnb88 := NB345_346.out; have hnc88 := NB346_345.out; have hnb89 := NB345_347.out; have hnc89 := NB347_345.out; have hcz90_0 : wc.cell? ⟨gb345, 0, none⟩ = some (.int .u32 a1_0) := cz BK345; have hcz90_1 : wc.cell? ⟨gb345, 1, none⟩ = some (.int .u32 a1_1) := cz BK345; have hfz90_0 := blk_frozen BK345.out 0; have hfz90_1 := blk_frozen BK345.out 1) | ((with_reducible refine gate_callee (f := 11) rfl ?_); refine goesL_ (some 60) rfl rfl Try.func11 (by kernel_rfl) rfl #[.int .i64 (wrap64 (1 + t353)), .agg #[.int .u32 a0_0, .int .u32 a0_1], .agg #[.int .u32 a1_0, .int .u32 a1_1]] rfl (by (try simp only [List.map_toArray, List.map_cons, List.map_nil]); first | done | rfl | (simp only [List.length_drop, List.length_take]; rfl)) ?_; (with_reducible refine (interval_Do.calls kj8 (wrap64 (1 + t353)) a0_0 a0_1 a1_0 a1_1 t354 t355 t356 t357 _ A79.out).mono ?_); rintro e w91 ⟨rfl, hb⟩; refine ⟨_, rfl, ?_⟩; have n0_ := am (blk_below (g := gb344) (o := .cells #[.int .u32 a0_0, .int .u32 a0_1] 24 (0, 0)) (bkA BK344) hb); have n1_ := am (blk_below (g := gb345) (o := .cells #[.int .u32 a1_0, .int .u32 a1_1] 24 (0, 0)) (bkA BK345) hb); have n2_ := am (blk_below (g := gb346) (o := .cells #[.int .u32 a2_0, .int .u32 a2_1] 24 (0, 0)) (bkA BK346) hb); have n3_ := am (blk_below (g := gb347) (o := .cells #[.int .u32 a3_0, .int .u32 a3_1] 24 (0, 0)) (bkA BK347) hb); have n4_ := am (below_step (hbA HB) hb); clear BK344; clear BK345; clear BK346; clear BK347; clear HB; have BK344 := n0_; have BK345 := n1_; have BK346 := n2_; have BK347 := n3_; have HB := n4_; clear n0_ n1_ n2_ n3_ n4_; (try clear hb); (try clear hb2); (try clear hk); (try clear hi)) | ((with_reducible refine gate_dst (N := 13) rfl ?_); (try (refine gate_guard (by rfl) ?_; dsimp only)); refine bxE 13 #[.int .u32 0, .int .u32 0] 24 ?_; intro gb358 hg w92 hbox hb; have n0_ := am (blk_below (g := gb344) (o := .cells #[.int .u32 a0_0, .int .u32 a0_1] 24 (0, 0)) (bkA BK344) hb); have n1_ := am (blk_below (g := gb345) (o := .cells #[.int .u32 a1_0, .int .u32 a1_1] 24 (0, 0)) (bkA BK345) hb); have n2_ := am (blk_below (g := gb346) (o := .cells #[.int .u32 a2_0, .int .u32 a2_1] 24 (0, 0)) (bkA BK346) hb); have n3_ := am (blk_below (g := gb347) (o := .cells #[.int .u32 a3_0, .int .u32 a3_1] 24 (0, 0)) (bkA BK347) hb); have n4_ := am (below_step (hbA HB) hb); have n5_ := am (hbox); have n6_ := gwA hg HB; have n7_ := gwA hg HB; have n8_ := ltA hg BK344; have n9_ := gtA hg BK344; have n10_ := ltA hg BK345; have n11_ := gtA hg BK345; have n12_ := ltA hg BK346; have n13_ := gtA hg BK346; have n14_ := ltA hg BK347; have n15_ := gtA hg BK347; clear BK344; clear BK345; clear BK346; clear BK347; clear HB; have BK344 := n0_; have BK345 := n1_; have BK346 := n2_; have BK347 := n3_; have HB := n4_; have BK358 := n5_; have GW358 := n6_; have GE358 := n7_; have NB344_358 := n8_; have NB358_344 := n9_; have NB345_358 := n10_; have NB358_345 := n11_; have NB346_358 := n12_; have NB358_346 := n13_; have NB347_358 := n14_; have NB358_347 := n15_; clear n0_ n1_ n2_ n3_ n4_ n5_ n6_ n7_ n8_ n9_ n10_ n11_ n12_ n13_ n14_ n15_; clear hb hbox hg; have hnb93 := NB358_344.out; have hnc93 := NB344_358.out; have hnb94 := NB358_345.out; have hnc94 := NB345_358.out; have hnb95 := NB358_346.out; have hnc95 := NB346_358.out; have hnb96 := NB358_347.out; have hnc96 := NB347_358.out; have hcz97_0 : w92.cell? ⟨gb358, 0, none⟩ = some (.int .u32 0) := cz BK358; have hcz97_1 : w92.cell? ⟨gb358, 1, none⟩ = some (.int .u32 0) := cz BK358; have hfz97_0 := blk_frozen BK358.out 0; have hfz97_1 := blk_frozen BK358.out 1))
          have n0_ : Aside0 (((w92.setCell ⟨gb358, 0, none⟩ (.int .u32 t354)).setCell ⟨gb358, 1, none⟩ (.int .u32 t355)).heap[gb344]? = some (.cells #[.int .u32 a0_0, .int .u32 a0_1] 24 (0, 0))) := ⟨by refine bkT ?_; refine blk_far ?_ NB344_358.out _; refine bkT ?_; refine blk_far ?_ NB344_358.out _; refine bkT ?_; exact BK344.out⟩
          have n1_ : Aside0 (((w92.setCell ⟨gb358, 0, none⟩ (.int .u32 t354)).setCell ⟨gb358, 1, none⟩ (.int .u32 t355)).heap[gb345]? = some (.cells #[.int .u32 a1_0, .int .u32 a1_1] 24 (0, 0))) := ⟨by refine bkT ?_; refine blk_far ?_ NB345_358.out _; refine bkT ?_; refine blk_far ?_ NB345_358.out _; refine bkT ?_; exact BK345.out⟩
          have n2_ : Aside0 (((w92.setCell ⟨gb358, 0, none⟩ (.int .u32 t354)).setCell ⟨gb358, 1, none⟩ (.int .u32 t355)).heap[gb346]? = some (.cells #[.int .u32 a2_0, .int .u32 a2_1] 24 (0, 0))) := ⟨by refine bkT ?_; refine blk_far ?_ NB346_358.out _; refine bkT ?_; refine blk_far ?_ NB346_358.out _; refine bkT ?_; exact BK346.out⟩
          have n3_ : Aside0 (((w92.setCell ⟨gb358, 0, none⟩ (.int .u32 t354)).setCell ⟨gb358, 1, none⟩ (.int .u32 t355)).heap[gb347]? = some (.cells #[.int .u32 a3_0, .int .u32 a3_1] 24 (0, 0))) := ⟨by refine bkT ?_; refine blk_far ?_ NB347_358.out _; refine bkT ?_; refine blk_far ?_ NB347_358.out _; refine bkT ?_; exact BK347.out⟩
          have n4_ : Aside0 (((w92.setCell ⟨gb358, 0, none⟩ (.int .u32 t354)).setCell ⟨gb358, 1, none⟩ (.int .u32 t355)).heap[gb358]? = some (.cells #[.int .u32 t354, .int .u32 t355] 24 (0, 0))) := ⟨by refine bkT ?_; refine blk_put (cs := #[.int .u32 t354, .int .u32 0]) ?_ 1 _ rfl; refine bkT ?_; refine blk_put (cs := #[.int .u32 0, .int .u32 0]) ?_ 0 _ rfl; refine bkT ?_; exact BK358.out⟩
          have n5_ : Aside0 (Below w.heap.size w ((w92.setCell ⟨gb358, 0, none⟩ (.int .u32 t354)).setCell ⟨gb358, 1, none⟩ (.int .u32 t355))) := ⟨by repeat (first | (with_reducible first | exact HB.out | apply below_alloc | apply pw_below_drewN | apply below_drew1 | refine below_set ?_ GE344.out | refine below_set ?_ GE345.out | refine below_set ?_ GE346.out | refine below_set ?_ GE347.out | refine below_set ?_ GE358.out) | exact HB.out)⟩
          (try clear BK344)
          (try clear BK345)
          (try clear BK346)
          (try clear BK347)
          (try clear BK358)
          (try clear HB)
          generalize ((w92.setCell ⟨gb358, 0, none⟩ (.int .u32 t354)).setCell ⟨gb358, 1, none⟩ (.int .u32 t355)) = w98 at n0_ n1_ n2_ n3_ n4_ n5_ ⊢
          have BK344 := n0_
          have BK345 := n1_
          have BK346 := n2_
          have BK347 := n3_
          have BK358 := n4_
          have HB := n5_
          clear n0_ n1_ n2_ n3_ n4_ n5_
          have n0_ := am (blk_drew BK344.out)
          have n1_ := am (blk_drew BK345.out)
          have n2_ := am (blk_drew BK346.out)
          have n3_ := am (blk_drew BK347.out)
          have n4_ := am (blk_drew BK358.out)
          have n5_ := am (below_drew1 HB.out)
          clear BK344
          clear BK345
          clear BK346
          clear BK347
          clear BK358
          clear HB
          have BK344 := n0_
          have BK345 := n1_
          have BK346 := n2_
          have BK347 := n3_
          have BK358 := n4_
          have HB := n5_
          clear n0_ n1_ n2_ n3_ n4_ n5_
          refine start_ (n := 16) (S := fun w' => w'.cell? ⟨gb344, 0, none⟩ = some (.int .u32 a0_0) ∧ w'.cell? ⟨gb344, 1, none⟩ = some (.int .u32 a0_1) ∧ w'.cell? ⟨gb346, 0, none⟩ = some (.int .u32 a2_0) ∧ w'.cell? ⟨gb346, 1, none⟩ = some (.int .u32 a2_1) ∧ w'.cell? ⟨gb345, 0, none⟩ = some (.int .u32 a1_0) ∧ w'.cell? ⟨gb345, 1, none⟩ = some (.int .u32 a1_1) ∧ w'.cell? ⟨gb347, 0, none⟩ = some (.int .u32 a3_0) ∧ w'.cell? ⟨gb347, 1, none⟩ = some (.int .u32 a3_1)) (ds := []) #[false, false, false, false, false, false, false, false, false, false, false, false, false, false, false, false] (by kernel_rfl) rfl rfl ⟨(blk_cell BK344.out 0).trans rfl, (blk_cell BK344.out 1).trans rfl, (blk_cell BK346.out 0).trans rfl, (blk_cell BK346.out 1).trans rfl, (blk_cell BK345.out 0).trans rfl, (blk_cell BK345.out 1).trans rfl, (blk_cell BK347.out 0).trans rfl, (blk_cell BK347.out 1).trans rfl⟩ (fun hHeld => ?_); refine with_tabW lamplighterlaw19_IntervalGrows.tab7 lamplighterlaw19_IntervalGrows.bits7 (fun HT_ HW_ => ?_)
          generalize w98.drew = w99 at BK344 BK345 BK346 BK347 BK358 HB hHeld ⊢
          refine pure_ (i := 0) (N := some 65) (v := ?_) (a' := ?_) #[true, false, false, false, false, false, false, false, false, false, false, false, false, false, false, false] rfl rfl (any_of HT_.out (by kernel_rfl)) (fun _ _ _ h => h) (Or.inl ⟨by rfl, ?_⟩) ?_ ?_
          rotate_left
          · intro w'
            go_simp
            with_reducible rfl
          rotate_left
          · simp only [Act.put, List.setIfInBounds_toArray, List.set_cons_zero, List.set_cons_succ, i64_w, i32_w]
            rfl
          refine take_ (i := 1) (N := some 66) (v := ?_) (a' := ?_) #[true, true, false, false, false, false, false, false, false, false, false, false, false, false, false, false] rfl rfl (take_ofW HT_.out HW_.out (by kernel_rfl)) (fun _ _ _ h => h) (Or.inl ⟨by rfl, ?_⟩) hHeld ?_ ?_
          rotate_left
          · rintro w' ⟨s0, s1, s2, s3, s4, s5, s6, s7⟩
            go_simp
            with_reducible rfl
          rotate_left
          · simp only [Act.put, List.setIfInBounds_toArray, List.set_cons_zero, List.set_cons_succ, i64_w, i32_w]
            rfl
          refine take_ (i := 2) (N := some 67) (v := ?_) (a' := ?_) #[true, true, true, false, false, false, false, false, false, false, false, false, false, false, false, false] rfl rfl (take_ofW HT_.out HW_.out (by kernel_rfl)) (fun _ _ _ h => h) (Or.inl ⟨by rfl, ?_⟩) hHeld ?_ ?_
          rotate_left
          · rintro w' ⟨s0, s1, s2, s3, s4, s5, s6, s7⟩
            go_simp
            with_reducible rfl
          rotate_left
          · simp only [Act.put, List.setIfInBounds_toArray, List.set_cons_zero, List.set_cons_succ, i64_w, i32_w]
            rfl
          refine take_ (i := 4) (N := some 69) (v := ?_) (a' := ?_) #[true, true, true, false, true, false, false, false, false, false, false, false, false, false, false, false] rfl rfl (take_ofW HT_.out HW_.out (by kernel_rfl)) (fun _ _ _ h => h) (Or.inl ⟨by rfl, ?_⟩) hHeld ?_ ?_
          rotate_left
          · rintro w' ⟨s0, s1, s2, s3, s4, s5, s6, s7⟩
            go_simp
            with_reducible rfl
          rotate_left
          · simp only [Act.put, List.setIfInBounds_toArray, List.set_cons_zero, List.set_cons_succ, i64_w, i32_w]
            rfl
          refine take_ (i := 5) (N := some 70) (v := ?_) (a' := ?_) #[true, true, true, false, true, true, false, false, false, false, false, false, false, false, false, false] rfl rfl (take_ofW HT_.out HW_.out (by kernel_rfl)) (fun _ _ _ h => h) (Or.inl ⟨by rfl, ?_⟩) hHeld ?_ ?_
          rotate_left
          · rintro w' ⟨s0, s1, s2, s3, s4, s5, s6, s7⟩
            go_simp
            with_reducible rfl
          rotate_left
          · simp only [Act.put, List.setIfInBounds_toArray, List.set_cons_zero, List.set_cons_succ, i64_w, i32_w]
            rfl
          refine join_ (σ := Nat) 3 #[true, true, true, true, true, true, true, true, true, true, true, true, true, false, false, false] (fun s_ => [(68, .agg #[.int .u32 t359, .int .u32 t360]), (71, .agg #[.int .u32 t361, .int .u32 t362]), (72, .tuple #[.agg #[.int .u32 t363, .int .u32 t364], .bool t365, .int .i64 t366]), (16, .pointer (some ⟨s_, 0, none⟩)), (64, .tuple #[.agg #[.int .u32 t363, .int .u32 t364], .bool t365, .int .i64 t366]), (73, .agg #[.int .u32 t363, .int .u32 t364]), (74, .bool t365), (75, .int .i64 t366)]) (fun s_ w' => (w'.cell? ⟨gb344, 0, none⟩ = some (.int .u32 a0_0) ∧ w'.cell? ⟨gb344, 1, none⟩ = some (.int .u32 a0_1) ∧ w'.cell? ⟨gb346, 0, none⟩ = some (.int .u32 a2_0) ∧ w'.cell? ⟨gb346, 1, none⟩ = some (.int .u32 a2_1) ∧ w'.cell? ⟨gb345, 0, none⟩ = some (.int .u32 a1_0) ∧ w'.cell? ⟨gb345, 1, none⟩ = some (.int .u32 a1_1) ∧ w'.cell? ⟨gb347, 0, none⟩ = some (.int .u32 a3_0) ∧ w'.cell? ⟨gb347, 1, none⟩ = some (.int .u32 a3_1)) ∧ (w'.heap[gb344]? = some (.cells #[.int .u32 a0_0, .int .u32 a0_1] 24 (0, 0))) ∧ (w'.heap[gb345]? = some (.cells #[.int .u32 a1_0, .int .u32 a1_1] 24 (0, 0))) ∧ (w'.heap[gb346]? = some (.cells #[.int .u32 a2_0, .int .u32 a2_1] 24 (0, 0))) ∧ (w'.heap[gb347]? = some (.cells #[.int .u32 a3_0, .int .u32 a3_1] 24 (0, 0))) ∧ (w'.heap[gb358]? = some (.cells #[.int .u32 t354, .int .u32 t355] 24 (0, 0))) ∧ (w'.heap[s_]? = some (.cells #[.int .u32 0, .int .u32 0] 24 (0, 0))) ∧ (w.heap.size ≤ s_) ∧ (w.heap.size ≤ s_) ∧ (gb344 ≠ s_) ∧ (s_ ≠ gb344) ∧ (gb345 ≠ s_) ∧ (s_ ≠ gb345) ∧ (gb346 ≠ s_) ∧ (s_ ≠ gb346) ∧ (gb347 ≠ s_) ∧ (s_ ≠ gb347) ∧ (gb358 ≠ s_) ∧ (s_ ≠ gb358) ∧ (Below w.heap.size w w')) ?_ ?_
          rotate_left
          · intro hCont
            refine two_ (i := 3) (j := 12) (Ni := some 68) (Nj := some 16) #[true, true, true, true, true, true, false, false, false, false, false, false, false, false, false, false] #[true, true, true, false, true, true, false, false, false, false, false, false, true, false, false, false] rfl rfl rfl rfl (two_of HT_.out (by kernel_rfl)) (by decide) (by decide) (fun K hK => ?_) (fun K hK => ?_)
            · skip
              refine goes_ Try.func12 (by kernel_rfl) rfl #[.agg #[.int .u32 a0_0, .int .u32 a0_1], .agg #[.int .u32 a2_0, .int .u32 a2_1]] (by rfl) rfl rfl (by (try simp only [List.map_toArray, List.map_cons, List.map_nil]); first | done | rfl | (simp only [List.length_drop, List.length_take]; rfl)) ?_
              with_reducible refine (interval_Join.calls kj8 a0_0 a0_1 a2_0 a2_1 t359 t360 _ A80.out).mono ?_
              rintro e w100 ⟨rfl, hb⟩
              refine ⟨_, rfl, ?_⟩
              have n0_ := am (blk_below (g := gb344) (o := .cells #[.int .u32 a0_0, .int .u32 a0_1] 24 (0, 0)) (bkA BK344) hb)
              have n1_ := am (blk_below (g := gb345) (o := .cells #[.int .u32 a1_0, .int .u32 a1_1] 24 (0, 0)) (bkA BK345) hb)
              have n2_ := am (blk_below (g := gb346) (o := .cells #[.int .u32 a2_0, .int .u32 a2_1] 24 (0, 0)) (bkA BK346) hb)
              have n3_ := am (blk_below (g := gb347) (o := .cells #[.int .u32 a3_0, .int .u32 a3_1] 24 (0, 0)) (bkA BK347) hb)
              have n4_ := am (blk_below (g := gb358) (o := .cells #[.int .u32 t354, .int .u32 t355] 24 (0, 0)) (bkA BK358) hb)
              have n5_ := am (below_step (hbA HB) hb)
              clear BK344
              clear BK345
              clear BK346
              clear BK347
              clear BK358
              clear HB
              have BK344 := n0_
              have BK345 := n1_
              have BK346 := n2_
              have BK347 := n3_
              have BK358 := n4_
              have HB := n5_
              clear n0_ n1_ n2_ n3_ n4_ n5_
              (try clear hb)
              (try clear hb2)
              (try clear hk)
              (try clear hi)
              refine hK.out _ _ ⟨(blk_cell BK344.out 0).trans rfl, (blk_cell BK344.out 1).trans rfl, (blk_cell BK346.out 0).trans rfl, (blk_cell BK346.out 1).trans rfl, (blk_cell BK345.out 0).trans rfl, (blk_cell BK345.out 1).trans rfl, (blk_cell BK347.out 0).trans rfl, (blk_cell BK347.out 1).trans rfl⟩ (fun hHeld => ?_)
              clear hK K
              refine norm_ (a' := ?_) ?_ ?_
              rotate_left
              · show Act.put _ (some 68) _ = _
                simp only [Act.put, List.setIfInBounds_toArray, List.set_cons_zero, List.set_cons_succ, i64_w, i32_w]
                rfl
              refine two_ (i := 6) (j := 12) (Ni := some 71) (Nj := some 16) #[true, true, true, true, true, true, true, false, false, false, false, false, false, false, false, false] #[true, true, true, true, true, true, false, false, false, false, false, false, true, false, false, false] rfl rfl rfl rfl (two_of HT_.out (by kernel_rfl)) (by decide) (by decide) (fun K hK => ?_) (fun K hK => ?_)
              · skip
                refine goes_ Try.func12 (by kernel_rfl) rfl #[.agg #[.int .u32 a1_0, .int .u32 a1_1], .agg #[.int .u32 a3_0, .int .u32 a3_1]] (by rfl) rfl rfl (by (try simp only [List.map_toArray, List.map_cons, List.map_nil]); first | done | rfl | (simp only [List.length_drop, List.length_take]; rfl)) ?_
                with_reducible refine (interval_Join.calls kj8 a1_0 a1_1 a3_0 a3_1 t361 t362 _ A81.out).mono ?_
                rintro e w101 ⟨rfl, hb⟩
                refine ⟨_, rfl, ?_⟩
                have n0_ := am (blk_below (g := gb344) (o := .cells #[.int .u32 a0_0, .int .u32 a0_1] 24 (0, 0)) (bkA BK344) hb)
                have n1_ := am (blk_below (g := gb345) (o := .cells #[.int .u32 a1_0, .int .u32 a1_1] 24 (0, 0)) (bkA BK345) hb)
                have n2_ := am (blk_below (g := gb346) (o := .cells #[.int .u32 a2_0, .int .u32 a2_1] 24 (0, 0)) (bkA BK346) hb)
                have n3_ := am (blk_below (g := gb347) (o := .cells #[.int .u32 a3_0, .int .u32 a3_1] 24 (0, 0)) (bkA BK347) hb)
                have n4_ := am (blk_below (g := gb358) (o := .cells #[.int .u32 t354, .int .u32 t355] 24 (0, 0)) (bkA BK358) hb)
                have n5_ := am (below_step (hbA HB) hb)
                clear BK344
                clear BK345
                clear BK346
                clear BK347
                clear BK358
                clear HB
                have BK344 := n0_
                have BK345 := n1_
                have BK346 := n2_
                have BK347 := n3_
                have BK358 := n4_
                have HB := n5_
                clear n0_ n1_ n2_ n3_ n4_ n5_
                (try clear hb)
                (try clear hb2)
                (try clear hk)
                (try clear hi)
                refine hK.out _ _ ⟨(blk_cell BK344.out 0).trans rfl, (blk_cell BK344.out 1).trans rfl, (blk_cell BK346.out 0).trans rfl, (blk_cell BK346.out 1).trans rfl, (blk_cell BK345.out 0).trans rfl, (blk_cell BK345.out 1).trans rfl, (blk_cell BK347.out 0).trans rfl, (blk_cell BK347.out 1).trans rfl⟩ (fun hHeld => ?_)
                clear hK K
                refine norm_ (a' := ?_) ?_ ?_
                rotate_left
                · show Act.put _ (some 71) _ = _
                  simp only [Act.put, List.setIfInBounds_toArray, List.set_cons_zero, List.set_cons_succ, i64_w, i32_w]
                  rfl
                refine two_ (i := 7) (j := 12) (Ni := some 72) (Nj := some 16) #[true, true, true, true, true, true, true, true, false, false, false, false, false, false, false, false] #[true, true, true, true, true, true, true, false, false, false, false, false, true, false, false, false] rfl rfl rfl rfl (two_of HT_.out (by kernel_rfl)) (by decide) (by decide) (fun K hK => ?_) (fun K hK => ?_)
                · skip
                  refine goes_ Try.func11 (by kernel_rfl) rfl #[.int .i64 (wrap64 (1 + t353)), .agg #[.int .u32 t359, .int .u32 t360], .agg #[.int .u32 t361, .int .u32 t362]] (by rfl) rfl rfl (by (try simp only [List.map_toArray, List.map_cons, List.map_nil]); first | done | rfl | (simp only [List.length_drop, List.length_take]; rfl)) ?_
                  with_reducible refine (interval_Do.calls kj8 (wrap64 (1 + t353)) t359 t360 t361 t362 t363 t364 t365 t366 _ A82.out).mono ?_
                  rintro e w102 ⟨rfl, hb⟩
                  refine ⟨_, rfl, ?_⟩
                  have n0_ := am (blk_below (g := gb344) (o := .cells #[.int .u32 a0_0, .int .u32 a0_1] 24 (0, 0)) (bkA BK344) hb)
                  have n1_ := am (blk_below (g := gb345) (o := .cells #[.int .u32 a1_0, .int .u32 a1_1] 24 (0, 0)) (bkA BK345) hb)
                  have n2_ := am (blk_below (g := gb346) (o := .cells #[.int .u32 a2_0, .int .u32 a2_1] 24 (0, 0)) (bkA BK346) hb)
                  have n3_ := am (blk_below (g := gb347) (o := .cells #[.int .u32 a3_0, .int .u32 a3_1] 24 (0, 0)) (bkA BK347) hb)
                  have n4_ := am (blk_below (g := gb358) (o := .cells #[.int .u32 t354, .int .u32 t355] 24 (0, 0)) (bkA BK358) hb)
                  have n5_ := am (below_step (hbA HB) hb)
                  clear BK344
                  clear BK345
                  clear BK346
                  clear BK347
                  clear BK358
                  clear HB
                  have BK344 := n0_
                  have BK345 := n1_
                  have BK346 := n2_
                  have BK347 := n3_
                  have BK358 := n4_
                  have HB := n5_
                  clear n0_ n1_ n2_ n3_ n4_ n5_
                  (try clear hb)
                  (try clear hb2)
                  (try clear hk)
                  (try clear hi)
                  refine hK.out _ _ ⟨(blk_cell BK344.out 0).trans rfl, (blk_cell BK344.out 1).trans rfl, (blk_cell BK346.out 0).trans rfl, (blk_cell BK346.out 1).trans rfl, (blk_cell BK345.out 0).trans rfl, (blk_cell BK345.out 1).trans rfl, (blk_cell BK347.out 0).trans rfl, (blk_cell BK347.out 1).trans rfl⟩ (fun hHeld => ?_)
                  clear hK K
                  refine norm_ (a' := ?_) ?_ ?_
                  rotate_left
                  · show Act.put _ (some 72) _ = _
                    simp only [Act.put, List.setIfInBounds_toArray, List.set_cons_zero, List.set_cons_succ, i64_w, i32_w]
                    rfl
                  refine pure_ (i := 8) (N := some 64) (v := ?_) (a' := ?_) #[true, true, true, true, true, true, true, true, true, false, false, false, false, false, false, false] rfl rfl (any_of HT_.out (by kernel_rfl)) (fun _ _ _ h => h) (Or.inl ⟨by rfl, ?_⟩) ?_ ?_
                  rotate_left
                  · intro w'
                    go_simp
                    with_reducible rfl
                  rotate_left
                  · simp only [Act.put, List.setIfInBounds_toArray, List.set_cons_zero, List.set_cons_succ, i64_w, i32_w]
                    rfl
                  refine pure_ (i := 9) (N := some 73) (v := ?_) (a' := ?_) #[true, true, true, true, true, true, true, true, true, true, false, false, false, false, false, false] rfl rfl (any_of HT_.out (by kernel_rfl)) (fun _ _ _ h => h) (Or.inl ⟨by rfl, ?_⟩) ?_ ?_
                  rotate_left
                  · intro w'
                    go_simp
                    with_reducible rfl
                  rotate_left
                  · simp only [Act.put, List.setIfInBounds_toArray, List.set_cons_zero, List.set_cons_succ, i64_w, i32_w]
                    rfl
                  refine pure_ (i := 10) (N := some 74) (v := ?_) (a' := ?_) #[true, true, true, true, true, true, true, true, true, true, true, false, false, false, false, false] rfl rfl (any_of HT_.out (by kernel_rfl)) (fun _ _ _ h => h) (Or.inl ⟨by rfl, ?_⟩) ?_ ?_
                  rotate_left
                  · intro w'
                    go_simp
                    with_reducible rfl
                  rotate_left
                  · simp only [Act.put, List.setIfInBounds_toArray, List.set_cons_zero, List.set_cons_succ, i64_w, i32_w]
                    rfl
                  refine pure_ (i := 11) (N := some 75) (v := ?_) (a' := ?_) #[true, true, true, true, true, true, true, true, true, true, true, true, false, false, false, false] rfl rfl (any_of HT_.out (by kernel_rfl)) (fun _ _ _ h => h) (Or.inl ⟨by rfl, ?_⟩) ?_ ?_
                  rotate_left
                  · intro w'
                    go_simp
                    with_reducible rfl
                  rotate_left
                  · simp only [Act.put, List.setIfInBounds_toArray, List.set_cons_zero, List.set_cons_succ, i64_w, i32_w]
                    rfl
                  refine one_ (i := 12) (N := some 16) #[true, true, true, true, true, true, true, true, true, true, true, true, true, false, false, false] rfl rfl (one_of HT_.out (by kernel_rfl)) (by decide) (fun K hK => ?_)
                  refine box_step ?hg (N := 16) ?hd (cs := #[.int .u32 0, .int .u32 0]) (t := 24) ?hr ?_; (case hd => rfl); (case hg => rfl); (case hr => first | (go_simp; done) | (go_simp; rfl))
                  intro gb367 hg w103 hbox hb
                  have n0_ := am (blk_below (g := gb344) (o := .cells #[.int .u32 a0_0, .int .u32 a0_1] 24 (0, 0)) (bkA BK344) hb)
                  have n1_ := am (blk_below (g := gb345) (o := .cells #[.int .u32 a1_0, .int .u32 a1_1] 24 (0, 0)) (bkA BK345) hb)
                  have n2_ := am (blk_below (g := gb346) (o := .cells #[.int .u32 a2_0, .int .u32 a2_1] 24 (0, 0)) (bkA BK346) hb)
                  have n3_ := am (blk_below (g := gb347) (o := .cells #[.int .u32 a3_0, .int .u32 a3_1] 24 (0, 0)) (bkA BK347) hb)
                  have n4_ := am (blk_below (g := gb358) (o := .cells #[.int .u32 t354, .int .u32 t355] 24 (0, 0)) (bkA BK358) hb)
                  have n5_ := am (below_step (hbA HB) hb)
                  have n6_ := am (hbox)
                  have n7_ := gwA hg HB
                  have n8_ := gwA hg HB
                  have n9_ := ltA hg BK344
                  have n10_ := gtA hg BK344
                  have n11_ := ltA hg BK345
                  have n12_ := gtA hg BK345
                  have n13_ := ltA hg BK346
                  have n14_ := gtA hg BK346
                  have n15_ := ltA hg BK347
                  have n16_ := gtA hg BK347
                  have n17_ := ltA hg BK358
                  have n18_ := gtA hg BK358
                  clear BK344
                  clear BK345
                  clear BK346
                  clear BK347
                  clear BK358
                  clear HB
                  have BK344 := n0_
                  have BK345 := n1_
                  have BK346 := n2_
                  have BK347 := n3_
                  have BK358 := n4_
                  have HB := n5_
                  have BK367 := n6_
                  have GW367 := n7_
                  have GE367 := n8_
                  have NB344_367 := n9_
                  have NB367_344 := n10_
                  have NB345_367 := n11_
                  have NB367_345 := n12_
                  have NB346_367 := n13_
                  have NB367_346 := n14_
                  have NB347_367 := n15_
                  have NB367_347 := n16_
                  have NB358_367 := n17_
                  have NB367_358 := n18_
                  clear n0_ n1_ n2_ n3_ n4_ n5_ n6_ n7_ n8_ n9_ n10_ n11_ n12_ n13_ n14_ n15_ n16_ n17_ n18_
                  clear hb hbox hg
                  refine hK.out _ _ ⟨(blk_cell BK344.out 0).trans rfl, (blk_cell BK344.out 1).trans rfl, (blk_cell BK346.out 0).trans rfl, (blk_cell BK346.out 1).trans rfl, (blk_cell BK345.out 0).trans rfl, (blk_cell BK345.out 1).trans rfl, (blk_cell BK347.out 0).trans rfl, (blk_cell BK347.out 1).trans rfl⟩ (fun hHeld => ?_)
                  clear hK K
                  refine norm_ (a' := ?_) ?_ ?_
                  rotate_left
                  · show Act.put _ (some 16) _ = _
                    simp only [Act.put, List.setIfInBounds_toArray, List.set_cons_zero, List.set_cons_succ, i64_w, i32_w]
                    rfl
                  exact norm_ (by simp only [putAll, Act.put, List.setIfInBounds_toArray, List.set_cons_zero, List.set_cons_succ]) (hCont (gb367) _ ⟨hHeld, (bkA BK344), (bkA BK345), (bkA BK346), (bkA BK347), (bkA BK358), (bkA BK367), GW367.out, GE367.out, NB344_367.out, NB367_344.out, NB345_367.out, NB367_345.out, NB346_367.out, NB367_346.out, NB347_367.out, NB367_347.out, NB358_367.out, NB367_358.out, (hbA HB)⟩)
                · skip
                  refine box_step ?hg (N := 16) ?hd (cs := #[.int .u32 0, .int .u32 0]) (t := 24) ?hr ?_; (case hd => rfl); (case hg => rfl); (case hr => first | (go_simp; done) | (go_simp; rfl))
                  intro gb367 hg w102 hbox hb
                  have n0_ := am (blk_below (g := gb344) (o := .cells #[.int .u32 a0_0, .int .u32 a0_1] 24 (0, 0)) (bkA BK344) hb)
                  have n1_ := am (blk_below (g := gb345) (o := .cells #[.int .u32 a1_0, .int .u32 a1_1] 24 (0, 0)) (bkA BK345) hb)
                  have n2_ := am (blk_below (g := gb346) (o := .cells #[.int .u32 a2_0, .int .u32 a2_1] 24 (0, 0)) (bkA BK346) hb)
                  have n3_ := am (blk_below (g := gb347) (o := .cells #[.int .u32 a3_0, .int .u32 a3_1] 24 (0, 0)) (bkA BK347) hb)
                  have n4_ := am (blk_below (g := gb358) (o := .cells #[.int .u32 t354, .int .u32 t355] 24 (0, 0)) (bkA BK358) hb)
                  have n5_ := am (below_step (hbA HB) hb)
                  have n6_ := am (hbox)
                  have n7_ := gwA hg HB
                  have n8_ := gwA hg HB
                  have n9_ := ltA hg BK344
                  have n10_ := gtA hg BK344
                  have n11_ := ltA hg BK345
                  have n12_ := gtA hg BK345
                  have n13_ := ltA hg BK346
                  have n14_ := gtA hg BK346
                  have n15_ := ltA hg BK347
                  have n16_ := gtA hg BK347
                  have n17_ := ltA hg BK358
                  have n18_ := gtA hg BK358
                  clear BK344
                  clear BK345
                  clear BK346
                  clear BK347
                  clear BK358
                  clear HB
                  have BK344 := n0_
                  have BK345 := n1_
                  have BK346 := n2_
                  have BK347 := n3_
                  have BK358 := n4_
                  have HB := n5_
                  have BK367 := n6_
                  have GW367 := n7_
                  have GE367 := n8_
                  have NB344_367 := n9_
                  have NB367_344 := n10_
                  have NB345_367 := n11_
                  have NB367_345 := n12_
                  have NB346_367 := n13_
                  have NB367_346 := n14_
                  have NB347_367 := n15_
                  have NB367_347 := n16_
                  have NB358_367 := n17_
                  have NB367_358 := n18_
                  clear n0_ n1_ n2_ n3_ n4_ n5_ n6_ n7_ n8_ n9_ n10_ n11_ n12_ n13_ n14_ n15_ n16_ n17_ n18_
                  clear hb hbox hg
                  refine hK.out _ _ ⟨(blk_cell BK344.out 0).trans rfl, (blk_cell BK344.out 1).trans rfl, (blk_cell BK346.out 0).trans rfl, (blk_cell BK346.out 1).trans rfl, (blk_cell BK345.out 0).trans rfl, (blk_cell BK345.out 1).trans rfl, (blk_cell BK347.out 0).trans rfl, (blk_cell BK347.out 1).trans rfl⟩ (fun hHeld => ?_)
                  clear hK K
                  refine norm_ (a' := ?_) ?_ ?_
                  rotate_left
                  · show Act.put _ (some 16) _ = _
                    simp only [Act.put, List.setIfInBounds_toArray, List.set_cons_zero, List.set_cons_succ, i64_w, i32_w]
                    rfl
                  refine one_ (i := 7) (N := some 72) #[true, true, true, true, true, true, true, true, false, false, false, false, true, false, false, false] rfl rfl (one_of HT_.out (by kernel_rfl)) (by decide) (fun K hK => ?_)
                  refine goes_ Try.func11 (by kernel_rfl) rfl #[.int .i64 (wrap64 (1 + t353)), .agg #[.int .u32 t359, .int .u32 t360], .agg #[.int .u32 t361, .int .u32 t362]] (by rfl) rfl rfl (by (try simp only [List.map_toArray, List.map_cons, List.map_nil]); first | done | rfl | (simp only [List.length_drop, List.length_take]; rfl)) ?_
                  with_reducible refine (interval_Do.calls kj8 (wrap64 (1 + t353)) t359 t360 t361 t362 t363 t364 t365 t366 _ A82.out).mono ?_
                  rintro e w103 ⟨rfl, hb⟩
                  refine ⟨_, rfl, ?_⟩
                  have n0_ := am (blk_below (g := gb344) (o := .cells #[.int .u32 a0_0, .int .u32 a0_1] 24 (0, 0)) (bkA BK344) hb)
                  have n1_ := am (blk_below (g := gb345) (o := .cells #[.int .u32 a1_0, .int .u32 a1_1] 24 (0, 0)) (bkA BK345) hb)
                  have n2_ := am (blk_below (g := gb346) (o := .cells #[.int .u32 a2_0, .int .u32 a2_1] 24 (0, 0)) (bkA BK346) hb)
                  have n3_ := am (blk_below (g := gb347) (o := .cells #[.int .u32 a3_0, .int .u32 a3_1] 24 (0, 0)) (bkA BK347) hb)
                  have n4_ := am (blk_below (g := gb358) (o := .cells #[.int .u32 t354, .int .u32 t355] 24 (0, 0)) (bkA BK358) hb)
                  have n5_ := am (blk_below (g := gb367) (o := .cells #[.int .u32 0, .int .u32 0] 24 (0, 0)) (bkA BK367) hb)
                  have n6_ := am (below_step (hbA HB) hb)
                  clear BK344
                  clear BK345
                  clear BK346
                  clear BK347
                  clear BK358
                  clear BK367
                  clear HB
                  have BK344 := n0_
                  have BK345 := n1_
                  have BK346 := n2_
                  have BK347 := n3_
                  have BK358 := n4_
                  have BK367 := n5_
                  have HB := n6_
                  clear n0_ n1_ n2_ n3_ n4_ n5_ n6_
                  (try clear hb)
                  (try clear hb2)
                  (try clear hk)
                  (try clear hi)
                  refine hK.out _ _ ⟨(blk_cell BK344.out 0).trans rfl, (blk_cell BK344.out 1).trans rfl, (blk_cell BK346.out 0).trans rfl, (blk_cell BK346.out 1).trans rfl, (blk_cell BK345.out 0).trans rfl, (blk_cell BK345.out 1).trans rfl, (blk_cell BK347.out 0).trans rfl, (blk_cell BK347.out 1).trans rfl⟩ (fun hHeld => ?_)
                  clear hK K
                  refine norm_ (a' := ?_) ?_ ?_
                  rotate_left
                  · show Act.put _ (some 72) _ = _
                    simp only [Act.put, List.setIfInBounds_toArray, List.set_cons_zero, List.set_cons_succ, i64_w, i32_w]
                    rfl
                  refine pure_ (i := 8) (N := some 64) (v := ?_) (a' := ?_) #[true, true, true, true, true, true, true, true, true, false, false, false, true, false, false, false] rfl rfl (any_of HT_.out (by kernel_rfl)) (fun _ _ _ h => h) (Or.inl ⟨by rfl, ?_⟩) ?_ ?_
                  rotate_left
                  · intro w'
                    go_simp
                    with_reducible rfl
                  rotate_left
                  · simp only [Act.put, List.setIfInBounds_toArray, List.set_cons_zero, List.set_cons_succ, i64_w, i32_w]
                    rfl
                  refine pure_ (i := 9) (N := some 73) (v := ?_) (a' := ?_) #[true, true, true, true, true, true, true, true, true, true, false, false, true, false, false, false] rfl rfl (any_of HT_.out (by kernel_rfl)) (fun _ _ _ h => h) (Or.inl ⟨by rfl, ?_⟩) ?_ ?_
                  rotate_left
                  · intro w'
                    go_simp
                    with_reducible rfl
                  rotate_left
                  · simp only [Act.put, List.setIfInBounds_toArray, List.set_cons_zero, List.set_cons_succ, i64_w, i32_w]
                    rfl
                  refine pure_ (i := 10) (N := some 74) (v := ?_) (a' := ?_) #[true, true, true, true, true, true, true, true, true, true, true, false, true, false, false, false] rfl rfl (any_of HT_.out (by kernel_rfl)) (fun _ _ _ h => h) (Or.inl ⟨by rfl, ?_⟩) ?_ ?_
                  rotate_left
                  · intro w'
                    go_simp
                    with_reducible rfl
                  rotate_left
                  · simp only [Act.put, List.setIfInBounds_toArray, List.set_cons_zero, List.set_cons_succ, i64_w, i32_w]
                    rfl
                  refine pure_ (i := 11) (N := some 75) (v := ?_) (a' := ?_) #[true, true, true, true, true, true, true, true, true, true, true, true, true, false, false, false] rfl rfl (any_of HT_.out (by kernel_rfl)) (fun _ _ _ h => h) (Or.inl ⟨by rfl, ?_⟩) ?_ ?_
                  rotate_left
                  · intro w'
                    go_simp
                    with_reducible rfl
                  rotate_left
                  · simp only [Act.put, List.setIfInBounds_toArray, List.set_cons_zero, List.set_cons_succ, i64_w, i32_w]
                    rfl
                  exact norm_ (by simp only [putAll, Act.put, List.setIfInBounds_toArray, List.set_cons_zero, List.set_cons_succ]) (hCont (gb367) _ ⟨hHeld, (bkA BK344), (bkA BK345), (bkA BK346), (bkA BK347), (bkA BK358), (bkA BK367), GW367.out, GE367.out, NB344_367.out, NB367_344.out, NB345_367.out, NB367_345.out, NB346_367.out, NB367_346.out, NB347_367.out, NB367_347.out, NB358_367.out, NB367_358.out, (hbA HB)⟩)
              · skip
                refine box_step ?hg (N := 16) ?hd (cs := #[.int .u32 0, .int .u32 0]) (t := 24) ?hr ?_; (case hd => rfl); (case hg => rfl); (case hr => first | (go_simp; done) | (go_simp; rfl))
                intro gb367 hg w101 hbox hb
                have n0_ := am (blk_below (g := gb344) (o := .cells #[.int .u32 a0_0, .int .u32 a0_1] 24 (0, 0)) (bkA BK344) hb)
                have n1_ := am (blk_below (g := gb345) (o := .cells #[.int .u32 a1_0, .int .u32 a1_1] 24 (0, 0)) (bkA BK345) hb)
                have n2_ := am (blk_below (g := gb346) (o := .cells #[.int .u32 a2_0, .int .u32 a2_1] 24 (0, 0)) (bkA BK346) hb)
                have n3_ := am (blk_below (g := gb347) (o := .cells #[.int .u32 a3_0, .int .u32 a3_1] 24 (0, 0)) (bkA BK347) hb)
                have n4_ := am (blk_below (g := gb358) (o := .cells #[.int .u32 t354, .int .u32 t355] 24 (0, 0)) (bkA BK358) hb)
                have n5_ := am (below_step (hbA HB) hb)
                have n6_ := am (hbox)
                have n7_ := gwA hg HB
                have n8_ := gwA hg HB
                have n9_ := ltA hg BK344
                have n10_ := gtA hg BK344
                have n11_ := ltA hg BK345
                have n12_ := gtA hg BK345
                have n13_ := ltA hg BK346
                have n14_ := gtA hg BK346
                have n15_ := ltA hg BK347
                have n16_ := gtA hg BK347
                have n17_ := ltA hg BK358
                have n18_ := gtA hg BK358
                clear BK344
                clear BK345
                clear BK346
                clear BK347
                clear BK358
                clear HB
                have BK344 := n0_
                have BK345 := n1_
                have BK346 := n2_
                have BK347 := n3_
                have BK358 := n4_
                have HB := n5_
                have BK367 := n6_
                have GW367 := n7_
                have GE367 := n8_
                have NB344_367 := n9_
                have NB367_344 := n10_
                have NB345_367 := n11_
                have NB367_345 := n12_
                have NB346_367 := n13_
                have NB367_346 := n14_
                have NB347_367 := n15_
                have NB367_347 := n16_
                have NB358_367 := n17_
                have NB367_358 := n18_
                clear n0_ n1_ n2_ n3_ n4_ n5_ n6_ n7_ n8_ n9_ n10_ n11_ n12_ n13_ n14_ n15_ n16_ n17_ n18_
                clear hb hbox hg
                refine hK.out _ _ ⟨(blk_cell BK344.out 0).trans rfl, (blk_cell BK344.out 1).trans rfl, (blk_cell BK346.out 0).trans rfl, (blk_cell BK346.out 1).trans rfl, (blk_cell BK345.out 0).trans rfl, (blk_cell BK345.out 1).trans rfl, (blk_cell BK347.out 0).trans rfl, (blk_cell BK347.out 1).trans rfl⟩ (fun hHeld => ?_)
                clear hK K
                refine norm_ (a' := ?_) ?_ ?_
                rotate_left
                · show Act.put _ (some 16) _ = _
                  simp only [Act.put, List.setIfInBounds_toArray, List.set_cons_zero, List.set_cons_succ, i64_w, i32_w]
                  rfl
                refine one_ (i := 6) (N := some 71) #[true, true, true, true, true, true, true, false, false, false, false, false, true, false, false, false] rfl rfl (one_of HT_.out (by kernel_rfl)) (by decide) (fun K hK => ?_)
                refine goes_ Try.func12 (by kernel_rfl) rfl #[.agg #[.int .u32 a1_0, .int .u32 a1_1], .agg #[.int .u32 a3_0, .int .u32 a3_1]] (by rfl) rfl rfl (by (try simp only [List.map_toArray, List.map_cons, List.map_nil]); first | done | rfl | (simp only [List.length_drop, List.length_take]; rfl)) ?_
                with_reducible refine (interval_Join.calls kj8 a1_0 a1_1 a3_0 a3_1 t361 t362 _ A81.out).mono ?_
                rintro e w102 ⟨rfl, hb⟩
                refine ⟨_, rfl, ?_⟩
                have n0_ := am (blk_below (g := gb344) (o := .cells #[.int .u32 a0_0, .int .u32 a0_1] 24 (0, 0)) (bkA BK344) hb)
                have n1_ := am (blk_below (g := gb345) (o := .cells #[.int .u32 a1_0, .int .u32 a1_1] 24 (0, 0)) (bkA BK345) hb)
                have n2_ := am (blk_below (g := gb346) (o := .cells #[.int .u32 a2_0, .int .u32 a2_1] 24 (0, 0)) (bkA BK346) hb)
                have n3_ := am (blk_below (g := gb347) (o := .cells #[.int .u32 a3_0, .int .u32 a3_1] 24 (0, 0)) (bkA BK347) hb)
                have n4_ := am (blk_below (g := gb358) (o := .cells #[.int .u32 t354, .int .u32 t355] 24 (0, 0)) (bkA BK358) hb)
                have n5_ := am (blk_below (g := gb367) (o := .cells #[.int .u32 0, .int .u32 0] 24 (0, 0)) (bkA BK367) hb)
                have n6_ := am (below_step (hbA HB) hb)
                clear BK344
                clear BK345
                clear BK346
                clear BK347
                clear BK358
                clear BK367
                clear HB
                have BK344 := n0_
                have BK345 := n1_
                have BK346 := n2_
                have BK347 := n3_
                have BK358 := n4_
                have BK367 := n5_
                have HB := n6_
                clear n0_ n1_ n2_ n3_ n4_ n5_ n6_
                (try clear hb)
                (try clear hb2)
                (try clear hk)
                (try clear hi)
                refine hK.out _ _ ⟨(blk_cell BK344.out 0).trans rfl, (blk_cell BK344.out 1).trans rfl, (blk_cell BK346.out 0).trans rfl, (blk_cell BK346.out 1).trans rfl, (blk_cell BK345.out 0).trans rfl, (blk_cell BK345.out 1).trans rfl, (blk_cell BK347.out 0).trans rfl, (blk_cell BK347.out 1).trans rfl⟩ (fun hHeld => ?_)
                clear hK K
                refine norm_ (a' := ?_) ?_ ?_
                rotate_left
                · show Act.put _ (some 71) _ = _
                  simp only [Act.put, List.setIfInBounds_toArray, List.set_cons_zero, List.set_cons_succ, i64_w, i32_w]
                  rfl
                refine one_ (i := 7) (N := some 72) #[true, true, true, true, true, true, true, true, false, false, false, false, true, false, false, false] rfl rfl (one_of HT_.out (by kernel_rfl)) (by decide) (fun K hK => ?_)
                refine goes_ Try.func11 (by kernel_rfl) rfl #[.int .i64 (wrap64 (1 + t353)), .agg #[.int .u32 t359, .int .u32 t360], .agg #[.int .u32 t361, .int .u32 t362]] (by rfl) rfl rfl (by (try simp only [List.map_toArray, List.map_cons, List.map_nil]); first | done | rfl | (simp only [List.length_drop, List.length_take]; rfl)) ?_
                with_reducible refine (interval_Do.calls kj8 (wrap64 (1 + t353)) t359 t360 t361 t362 t363 t364 t365 t366 _ A82.out).mono ?_
                rintro e w103 ⟨rfl, hb⟩
                refine ⟨_, rfl, ?_⟩
                have n0_ := am (blk_below (g := gb344) (o := .cells #[.int .u32 a0_0, .int .u32 a0_1] 24 (0, 0)) (bkA BK344) hb)
                have n1_ := am (blk_below (g := gb345) (o := .cells #[.int .u32 a1_0, .int .u32 a1_1] 24 (0, 0)) (bkA BK345) hb)
                have n2_ := am (blk_below (g := gb346) (o := .cells #[.int .u32 a2_0, .int .u32 a2_1] 24 (0, 0)) (bkA BK346) hb)
                have n3_ := am (blk_below (g := gb347) (o := .cells #[.int .u32 a3_0, .int .u32 a3_1] 24 (0, 0)) (bkA BK347) hb)
                have n4_ := am (blk_below (g := gb358) (o := .cells #[.int .u32 t354, .int .u32 t355] 24 (0, 0)) (bkA BK358) hb)
                have n5_ := am (blk_below (g := gb367) (o := .cells #[.int .u32 0, .int .u32 0] 24 (0, 0)) (bkA BK367) hb)
                have n6_ := am (below_step (hbA HB) hb)
                clear BK344
                clear BK345
                clear BK346
                clear BK347
                clear BK358
                clear BK367
                clear HB
                have BK344 := n0_
                have BK345 := n1_
                have BK346 := n2_
                have BK347 := n3_
                have BK358 := n4_
                have BK367 := n5_
                have HB := n6_
                clear n0_ n1_ n2_ n3_ n4_ n5_ n6_
                (try clear hb)
                (try clear hb2)
                (try clear hk)
                (try clear hi)
                refine hK.out _ _ ⟨(blk_cell BK344.out 0).trans rfl, (blk_cell BK344.out 1).trans rfl, (blk_cell BK346.out 0).trans rfl, (blk_cell BK346.out 1).trans rfl, (blk_cell BK345.out 0).trans rfl, (blk_cell BK345.out 1).trans rfl, (blk_cell BK347.out 0).trans rfl, (blk_cell BK347.out 1).trans rfl⟩ (fun hHeld => ?_)
                clear hK K
                refine norm_ (a' := ?_) ?_ ?_
                rotate_left
                · show Act.put _ (some 72) _ = _
                  simp only [Act.put, List.setIfInBounds_toArray, List.set_cons_zero, List.set_cons_succ, i64_w, i32_w]
                  rfl
                refine pure_ (i := 8) (N := some 64) (v := ?_) (a' := ?_) #[true, true, true, true, true, true, true, true, true, false, false, false, true, false, false, false] rfl rfl (any_of HT_.out (by kernel_rfl)) (fun _ _ _ h => h) (Or.inl ⟨by rfl, ?_⟩) ?_ ?_
                rotate_left
                · intro w'
                  go_simp
                  with_reducible rfl
                rotate_left
                · simp only [Act.put, List.setIfInBounds_toArray, List.set_cons_zero, List.set_cons_succ, i64_w, i32_w]
                  rfl
                refine pure_ (i := 9) (N := some 73) (v := ?_) (a' := ?_) #[true, true, true, true, true, true, true, true, true, true, false, false, true, false, false, false] rfl rfl (any_of HT_.out (by kernel_rfl)) (fun _ _ _ h => h) (Or.inl ⟨by rfl, ?_⟩) ?_ ?_
                rotate_left
                · intro w'
                  go_simp
                  with_reducible rfl
                rotate_left
                · simp only [Act.put, List.setIfInBounds_toArray, List.set_cons_zero, List.set_cons_succ, i64_w, i32_w]
                  rfl
                refine pure_ (i := 10) (N := some 74) (v := ?_) (a' := ?_) #[true, true, true, true, true, true, true, true, true, true, true, false, true, false, false, false] rfl rfl (any_of HT_.out (by kernel_rfl)) (fun _ _ _ h => h) (Or.inl ⟨by rfl, ?_⟩) ?_ ?_
                rotate_left
                · intro w'
                  go_simp
                  with_reducible rfl
                rotate_left
                · simp only [Act.put, List.setIfInBounds_toArray, List.set_cons_zero, List.set_cons_succ, i64_w, i32_w]
                  rfl
                refine pure_ (i := 11) (N := some 75) (v := ?_) (a' := ?_) #[true, true, true, true, true, true, true, true, true, true, true, true, true, false, false, false] rfl rfl (any_of HT_.out (by kernel_rfl)) (fun _ _ _ h => h) (Or.inl ⟨by rfl, ?_⟩) ?_ ?_
                rotate_left
                · intro w'
                  go_simp
                  with_reducible rfl
                rotate_left
                · simp only [Act.put, List.setIfInBounds_toArray, List.set_cons_zero, List.set_cons_succ, i64_w, i32_w]
                  rfl
                exact norm_ (by simp only [putAll, Act.put, List.setIfInBounds_toArray, List.set_cons_zero, List.set_cons_succ]) (hCont (gb367) _ ⟨hHeld, (bkA BK344), (bkA BK345), (bkA BK346), (bkA BK347), (bkA BK358), (bkA BK367), GW367.out, GE367.out, NB344_367.out, NB367_344.out, NB345_367.out, NB367_345.out, NB346_367.out, NB367_346.out, NB347_367.out, NB367_347.out, NB358_367.out, NB367_358.out, (hbA HB)⟩)
            · skip
              refine box_step ?hg (N := 16) ?hd (cs := #[.int .u32 0, .int .u32 0]) (t := 24) ?hr ?_; (case hd => rfl); (case hg => rfl); (case hr => first | (go_simp; done) | (go_simp; rfl))
              intro gb367 hg w100 hbox hb
              have n0_ := am (blk_below (g := gb344) (o := .cells #[.int .u32 a0_0, .int .u32 a0_1] 24 (0, 0)) (bkA BK344) hb)
              have n1_ := am (blk_below (g := gb345) (o := .cells #[.int .u32 a1_0, .int .u32 a1_1] 24 (0, 0)) (bkA BK345) hb)
              have n2_ := am (blk_below (g := gb346) (o := .cells #[.int .u32 a2_0, .int .u32 a2_1] 24 (0, 0)) (bkA BK346) hb)
              have n3_ := am (blk_below (g := gb347) (o := .cells #[.int .u32 a3_0, .int .u32 a3_1] 24 (0, 0)) (bkA BK347) hb)
              have n4_ := am (blk_below (g := gb358) (o := .cells #[.int .u32 t354, .int .u32 t355] 24 (0, 0)) (bkA BK358) hb)
              have n5_ := am (below_step (hbA HB) hb)
              have n6_ := am (hbox)
              have n7_ := gwA hg HB
              have n8_ := gwA hg HB
              have n9_ := ltA hg BK344
              have n10_ := gtA hg BK344
              have n11_ := ltA hg BK345
              have n12_ := gtA hg BK345
              have n13_ := ltA hg BK346
              have n14_ := gtA hg BK346
              have n15_ := ltA hg BK347
              have n16_ := gtA hg BK347
              have n17_ := ltA hg BK358
              have n18_ := gtA hg BK358
              clear BK344
              clear BK345
              clear BK346
              clear BK347
              clear BK358
              clear HB
              have BK344 := n0_
              have BK345 := n1_
              have BK346 := n2_
              have BK347 := n3_
              have BK358 := n4_
              have HB := n5_
              have BK367 := n6_
              have GW367 := n7_
              have GE367 := n8_
              have NB344_367 := n9_
              have NB367_344 := n10_
              have NB345_367 := n11_
              have NB367_345 := n12_
              have NB346_367 := n13_
              have NB367_346 := n14_
              have NB347_367 := n15_
              have NB367_347 := n16_
              have NB358_367 := n17_
              have NB367_358 := n18_
              clear n0_ n1_ n2_ n3_ n4_ n5_ n6_ n7_ n8_ n9_ n10_ n11_ n12_ n13_ n14_ n15_ n16_ n17_ n18_
              clear hb hbox hg
              refine hK.out _ _ ⟨(blk_cell BK344.out 0).trans rfl, (blk_cell BK344.out 1).trans rfl, (blk_cell BK346.out 0).trans rfl, (blk_cell BK346.out 1).trans rfl, (blk_cell BK345.out 0).trans rfl, (blk_cell BK345.out 1).trans rfl, (blk_cell BK347.out 0).trans rfl, (blk_cell BK347.out 1).trans rfl⟩ (fun hHeld => ?_)
              clear hK K
              refine norm_ (a' := ?_) ?_ ?_
              rotate_left
              · show Act.put _ (some 16) _ = _
                simp only [Act.put, List.setIfInBounds_toArray, List.set_cons_zero, List.set_cons_succ, i64_w, i32_w]
                rfl
              refine one_ (i := 3) (N := some 68) #[true, true, true, true, true, true, false, false, false, false, false, false, true, false, false, false] rfl rfl (one_of HT_.out (by kernel_rfl)) (by decide) (fun K hK => ?_)
              refine goes_ Try.func12 (by kernel_rfl) rfl #[.agg #[.int .u32 a0_0, .int .u32 a0_1], .agg #[.int .u32 a2_0, .int .u32 a2_1]] (by rfl) rfl rfl (by (try simp only [List.map_toArray, List.map_cons, List.map_nil]); first | done | rfl | (simp only [List.length_drop, List.length_take]; rfl)) ?_
              with_reducible refine (interval_Join.calls kj8 a0_0 a0_1 a2_0 a2_1 t359 t360 _ A80.out).mono ?_
              rintro e w101 ⟨rfl, hb⟩
              refine ⟨_, rfl, ?_⟩
              have n0_ := am (blk_below (g := gb344) (o := .cells #[.int .u32 a0_0, .int .u32 a0_1] 24 (0, 0)) (bkA BK344) hb)
              have n1_ := am (blk_below (g := gb345) (o := .cells #[.int .u32 a1_0, .int .u32 a1_1] 24 (0, 0)) (bkA BK345) hb)
              have n2_ := am (blk_below (g := gb346) (o := .cells #[.int .u32 a2_0, .int .u32 a2_1] 24 (0, 0)) (bkA BK346) hb)
              have n3_ := am (blk_below (g := gb347) (o := .cells #[.int .u32 a3_0, .int .u32 a3_1] 24 (0, 0)) (bkA BK347) hb)
              have n4_ := am (blk_below (g := gb358) (o := .cells #[.int .u32 t354, .int .u32 t355] 24 (0, 0)) (bkA BK358) hb)
              have n5_ := am (blk_below (g := gb367) (o := .cells #[.int .u32 0, .int .u32 0] 24 (0, 0)) (bkA BK367) hb)
              have n6_ := am (below_step (hbA HB) hb)
              clear BK344
              clear BK345
              clear BK346
              clear BK347
              clear BK358
              clear BK367
              clear HB
              have BK344 := n0_
              have BK345 := n1_
              have BK346 := n2_
              have BK347 := n3_
              have BK358 := n4_
              have BK367 := n5_
              have HB := n6_
              clear n0_ n1_ n2_ n3_ n4_ n5_ n6_
              (try clear hb)
              (try clear hb2)
              (try clear hk)
              (try clear hi)
              refine hK.out _ _ ⟨(blk_cell BK344.out 0).trans rfl, (blk_cell BK344.out 1).trans rfl, (blk_cell BK346.out 0).trans rfl, (blk_cell BK346.out 1).trans rfl, (blk_cell BK345.out 0).trans rfl, (blk_cell BK345.out 1).trans rfl, (blk_cell BK347.out 0).trans rfl, (blk_cell BK347.out 1).trans rfl⟩ (fun hHeld => ?_)
              clear hK K
              refine norm_ (a' := ?_) ?_ ?_
              rotate_left
              · show Act.put _ (some 68) _ = _
                simp only [Act.put, List.setIfInBounds_toArray, List.set_cons_zero, List.set_cons_succ, i64_w, i32_w]
                rfl
              refine one_ (i := 6) (N := some 71) #[true, true, true, true, true, true, true, false, false, false, false, false, true, false, false, false] rfl rfl (one_of HT_.out (by kernel_rfl)) (by decide) (fun K hK => ?_)
              refine goes_ Try.func12 (by kernel_rfl) rfl #[.agg #[.int .u32 a1_0, .int .u32 a1_1], .agg #[.int .u32 a3_0, .int .u32 a3_1]] (by rfl) rfl rfl (by (try simp only [List.map_toArray, List.map_cons, List.map_nil]); first | done | rfl | (simp only [List.length_drop, List.length_take]; rfl)) ?_
              with_reducible refine (interval_Join.calls kj8 a1_0 a1_1 a3_0 a3_1 t361 t362 _ A81.out).mono ?_
              rintro e w102 ⟨rfl, hb⟩
              refine ⟨_, rfl, ?_⟩
              have n0_ := am (blk_below (g := gb344) (o := .cells #[.int .u32 a0_0, .int .u32 a0_1] 24 (0, 0)) (bkA BK344) hb)
              have n1_ := am (blk_below (g := gb345) (o := .cells #[.int .u32 a1_0, .int .u32 a1_1] 24 (0, 0)) (bkA BK345) hb)
              have n2_ := am (blk_below (g := gb346) (o := .cells #[.int .u32 a2_0, .int .u32 a2_1] 24 (0, 0)) (bkA BK346) hb)
              have n3_ := am (blk_below (g := gb347) (o := .cells #[.int .u32 a3_0, .int .u32 a3_1] 24 (0, 0)) (bkA BK347) hb)
              have n4_ := am (blk_below (g := gb358) (o := .cells #[.int .u32 t354, .int .u32 t355] 24 (0, 0)) (bkA BK358) hb)
              have n5_ := am (blk_below (g := gb367) (o := .cells #[.int .u32 0, .int .u32 0] 24 (0, 0)) (bkA BK367) hb)
              have n6_ := am (below_step (hbA HB) hb)
              clear BK344
              clear BK345
              clear BK346
              clear BK347
              clear BK358
              clear BK367
              clear HB
              have BK344 := n0_
              have BK345 := n1_
              have BK346 := n2_
              have BK347 := n3_
              have BK358 := n4_
              have BK367 := n5_
              have HB := n6_
              clear n0_ n1_ n2_ n3_ n4_ n5_ n6_
              (try clear hb)
              (try clear hb2)
              (try clear hk)
              (try clear hi)
              refine hK.out _ _ ⟨(blk_cell BK344.out 0).trans rfl, (blk_cell BK344.out 1).trans rfl, (blk_cell BK346.out 0).trans rfl, (blk_cell BK346.out 1).trans rfl, (blk_cell BK345.out 0).trans rfl, (blk_cell BK345.out 1).trans rfl, (blk_cell BK347.out 0).trans rfl, (blk_cell BK347.out 1).trans rfl⟩ (fun hHeld => ?_)
              clear hK K
              refine norm_ (a' := ?_) ?_ ?_
              rotate_left
              · show Act.put _ (some 71) _ = _
                simp only [Act.put, List.setIfInBounds_toArray, List.set_cons_zero, List.set_cons_succ, i64_w, i32_w]
                rfl
              refine one_ (i := 7) (N := some 72) #[true, true, true, true, true, true, true, true, false, false, false, false, true, false, false, false] rfl rfl (one_of HT_.out (by kernel_rfl)) (by decide) (fun K hK => ?_)
              refine goes_ Try.func11 (by kernel_rfl) rfl #[.int .i64 (wrap64 (1 + t353)), .agg #[.int .u32 t359, .int .u32 t360], .agg #[.int .u32 t361, .int .u32 t362]] (by rfl) rfl rfl (by (try simp only [List.map_toArray, List.map_cons, List.map_nil]); first | done | rfl | (simp only [List.length_drop, List.length_take]; rfl)) ?_
              with_reducible refine (interval_Do.calls kj8 (wrap64 (1 + t353)) t359 t360 t361 t362 t363 t364 t365 t366 _ A82.out).mono ?_
              rintro e w103 ⟨rfl, hb⟩
              refine ⟨_, rfl, ?_⟩
              have n0_ := am (blk_below (g := gb344) (o := .cells #[.int .u32 a0_0, .int .u32 a0_1] 24 (0, 0)) (bkA BK344) hb)
              have n1_ := am (blk_below (g := gb345) (o := .cells #[.int .u32 a1_0, .int .u32 a1_1] 24 (0, 0)) (bkA BK345) hb)
              have n2_ := am (blk_below (g := gb346) (o := .cells #[.int .u32 a2_0, .int .u32 a2_1] 24 (0, 0)) (bkA BK346) hb)
              have n3_ := am (blk_below (g := gb347) (o := .cells #[.int .u32 a3_0, .int .u32 a3_1] 24 (0, 0)) (bkA BK347) hb)
              have n4_ := am (blk_below (g := gb358) (o := .cells #[.int .u32 t354, .int .u32 t355] 24 (0, 0)) (bkA BK358) hb)
              have n5_ := am (blk_below (g := gb367) (o := .cells #[.int .u32 0, .int .u32 0] 24 (0, 0)) (bkA BK367) hb)
              have n6_ := am (below_step (hbA HB) hb)
              clear BK344
              clear BK345
              clear BK346
              clear BK347
              clear BK358
              clear BK367
              clear HB
              have BK344 := n0_
              have BK345 := n1_
              have BK346 := n2_
              have BK347 := n3_
              have BK358 := n4_
              have BK367 := n5_
              have HB := n6_
              clear n0_ n1_ n2_ n3_ n4_ n5_ n6_
              (try clear hb)
              (try clear hb2)
              (try clear hk)
              (try clear hi)
              refine hK.out _ _ ⟨(blk_cell BK344.out 0).trans rfl, (blk_cell BK344.out 1).trans rfl, (blk_cell BK346.out 0).trans rfl, (blk_cell BK346.out 1).trans rfl, (blk_cell BK345.out 0).trans rfl, (blk_cell BK345.out 1).trans rfl, (blk_cell BK347.out 0).trans rfl, (blk_cell BK347.out 1).trans rfl⟩ (fun hHeld => ?_)
              clear hK K
              refine norm_ (a' := ?_) ?_ ?_
              rotate_left
              · show Act.put _ (some 72) _ = _
                simp only [Act.put, List.setIfInBounds_toArray, List.set_cons_zero, List.set_cons_succ, i64_w, i32_w]
                rfl
              refine pure_ (i := 8) (N := some 64) (v := ?_) (a' := ?_) #[true, true, true, true, true, true, true, true, true, false, false, false, true, false, false, false] rfl rfl (any_of HT_.out (by kernel_rfl)) (fun _ _ _ h => h) (Or.inl ⟨by rfl, ?_⟩) ?_ ?_
              rotate_left
              · intro w'
                go_simp
                with_reducible rfl
              rotate_left
              · simp only [Act.put, List.setIfInBounds_toArray, List.set_cons_zero, List.set_cons_succ, i64_w, i32_w]
                rfl
              refine pure_ (i := 9) (N := some 73) (v := ?_) (a' := ?_) #[true, true, true, true, true, true, true, true, true, true, false, false, true, false, false, false] rfl rfl (any_of HT_.out (by kernel_rfl)) (fun _ _ _ h => h) (Or.inl ⟨by rfl, ?_⟩) ?_ ?_
              rotate_left
              · intro w'
                go_simp
                with_reducible rfl
              rotate_left
              · simp only [Act.put, List.setIfInBounds_toArray, List.set_cons_zero, List.set_cons_succ, i64_w, i32_w]
                rfl
              refine pure_ (i := 10) (N := some 74) (v := ?_) (a' := ?_) #[true, true, true, true, true, true, true, true, true, true, true, false, true, false, false, false] rfl rfl (any_of HT_.out (by kernel_rfl)) (fun _ _ _ h => h) (Or.inl ⟨by rfl, ?_⟩) ?_ ?_
              rotate_left
              · intro w'
                go_simp
                with_reducible rfl
              rotate_left
              · simp only [Act.put, List.setIfInBounds_toArray, List.set_cons_zero, List.set_cons_succ, i64_w, i32_w]
                rfl
              refine pure_ (i := 11) (N := some 75) (v := ?_) (a' := ?_) #[true, true, true, true, true, true, true, true, true, true, true, true, true, false, false, false] rfl rfl (any_of HT_.out (by kernel_rfl)) (fun _ _ _ h => h) (Or.inl ⟨by rfl, ?_⟩) ?_ ?_
              rotate_left
              · intro w'
                go_simp
                with_reducible rfl
              rotate_left
              · simp only [Act.put, List.setIfInBounds_toArray, List.set_cons_zero, List.set_cons_succ, i64_w, i32_w]
                rfl
              exact norm_ (by simp only [putAll, Act.put, List.setIfInBounds_toArray, List.set_cons_zero, List.set_cons_succ]) (hCont (gb367) _ ⟨hHeld, (bkA BK344), (bkA BK345), (bkA BK346), (bkA BK347), (bkA BK358), (bkA BK367), GW367.out, GE367.out, NB344_367.out, NB367_344.out, NB345_367.out, NB367_345.out, NB346_367.out, NB367_346.out, NB347_367.out, NB367_347.out, NB358_367.out, NB367_358.out, (hbA HB)⟩)
          rintro gb367 w104 ⟨hS_, h0_, h1_, h2_, h3_, h4_, h5_, h6_, h7_, h8_, h9_, h10_, h11_, h12_, h13_, h14_, h15_, h16_, h17_, h18_⟩
          have n0_ : Aside0 (w104.heap[gb344]? = some (.cells #[.int .u32 a0_0, .int .u32 a0_1] 24 (0, 0))) := ⟨h0_⟩
          have n1_ : Aside0 (w104.heap[gb345]? = some (.cells #[.int .u32 a1_0, .int .u32 a1_1] 24 (0, 0))) := ⟨h1_⟩
          have n2_ : Aside0 (w104.heap[gb346]? = some (.cells #[.int .u32 a2_0, .int .u32 a2_1] 24 (0, 0))) := ⟨h2_⟩
          have n3_ : Aside0 (w104.heap[gb347]? = some (.cells #[.int .u32 a3_0, .int .u32 a3_1] 24 (0, 0))) := ⟨h3_⟩
          have n4_ : Aside0 (w104.heap[gb358]? = some (.cells #[.int .u32 t354, .int .u32 t355] 24 (0, 0))) := ⟨h4_⟩
          have n5_ : Aside0 (w104.heap[gb367]? = some (.cells #[.int .u32 0, .int .u32 0] 24 (0, 0))) := ⟨h5_⟩
          have n6_ : Aside0 (w.heap.size ≤ gb367) := ⟨h6_⟩
          have n7_ : Aside0 (w.heap.size ≤ gb367) := ⟨h7_⟩
          have n8_ : Aside0 (gb344 ≠ gb367) := ⟨h8_⟩
          have n9_ : Aside0 (gb367 ≠ gb344) := ⟨h9_⟩
          have n10_ : Aside0 (gb345 ≠ gb367) := ⟨h10_⟩
          have n11_ : Aside0 (gb367 ≠ gb345) := ⟨h11_⟩
          have n12_ : Aside0 (gb346 ≠ gb367) := ⟨h12_⟩
          have n13_ : Aside0 (gb367 ≠ gb346) := ⟨h13_⟩
          have n14_ : Aside0 (gb347 ≠ gb367) := ⟨h14_⟩
          have n15_ : Aside0 (gb367 ≠ gb347) := ⟨h15_⟩
          have n16_ : Aside0 (gb358 ≠ gb367) := ⟨h16_⟩
          have n17_ : Aside0 (gb367 ≠ gb358) := ⟨h17_⟩
          have n18_ : Aside0 (Below w.heap.size w w104) := ⟨h18_⟩
          clear BK344
          clear BK345
          clear BK346
          clear BK347
          clear BK358
          clear HB
          clear h0_ h1_ h2_ h3_ h4_ h5_ h6_ h7_ h8_ h9_ h10_ h11_ h12_ h13_ h14_ h15_ h16_ h17_ h18_
          have BK344 := n0_
          have BK345 := n1_
          have BK346 := n2_
          have BK347 := n3_
          have BK358 := n4_
          have BK367 := n5_
          have GW367 := n6_
          have GE367 := n7_
          have NB344_367 := n8_
          have NB367_344 := n9_
          have NB345_367 := n10_
          have NB367_345 := n11_
          have NB346_367 := n12_
          have NB367_346 := n13_
          have NB347_367 := n14_
          have NB367_347 := n15_
          have NB358_367 := n16_
          have NB367_358 := n17_
          have HB := n18_
          clear n0_ n1_ n2_ n3_ n4_ n5_ n6_ n7_ n8_ n9_ n10_ n11_ n12_ n13_ n14_ n15_ n16_ n17_ n18_
          have hHeld : w104.cell? ⟨gb344, 0, none⟩ = some (.int .u32 a0_0) ∧ w104.cell? ⟨gb344, 1, none⟩ = some (.int .u32 a0_1) ∧ w104.cell? ⟨gb346, 0, none⟩ = some (.int .u32 a2_0) ∧ w104.cell? ⟨gb346, 1, none⟩ = some (.int .u32 a2_1) ∧ w104.cell? ⟨gb345, 0, none⟩ = some (.int .u32 a1_0) ∧ w104.cell? ⟨gb345, 1, none⟩ = some (.int .u32 a1_1) ∧ w104.cell? ⟨gb347, 0, none⟩ = some (.int .u32 a3_0) ∧ w104.cell? ⟨gb347, 1, none⟩ = some (.int .u32 a3_1) := hS_
          refine norm_ (a' := ?_) ?_ ?_
          rotate_left
          · simp only [putAll, Act.put, List.setIfInBounds_toArray, List.set_cons_zero, List.set_cons_succ]
            rfl
          refine one_ (i := 13) (N := none) #[true, true, true, true, true, true, true, true, true, true, true, true, true, true, false, false] rfl rfl (one_of HT_.out (by kernel_rfl)) (by decide) (fun K hK => ?_)
          have hs105 : w104.cell? ⟨gb367, 0, none⟩ = some (.int .u32 0) := cz BK367
          have hfs105 := blk_frozen BK367.out 0
          have hns105_0 := NB344_367.out
          have hns105_1 := NB345_367.out
          have hns105_2 := NB346_367.out
          have hns105_3 := NB347_367.out
          have hns105_4 := NB358_367.out
          have hms105_0 := NB367_344.out
          have hms105_1 := NB367_345.out
          have hms105_2 := NB367_346.out
          have hms105_3 := NB367_347.out
          have hms105_4 := NB367_358.out
          have hs106 : w104.cell? ⟨gb367, 1, none⟩ = some (.int .u32 0) := cz BK367
          have hfs106 := blk_frozen BK367.out 1
          have hns106_0 := NB344_367.out
          have hns106_1 := NB345_367.out
          have hns106_2 := NB346_367.out
          have hns106_3 := NB347_367.out
          have hns106_4 := NB358_367.out
          have hms106_0 := NB367_344.out
          have hms106_1 := NB367_345.out
          have hms106_2 := NB367_346.out
          have hms106_3 := NB367_347.out
          have hms106_4 := NB367_358.out
          refine skip_ (w1 := ?_) (by rfl) rfl ?_ ?_
          rotate_left
          · go_simp
            rfl
          refine hK.out _ _ ⟨((cell_far (p := ⟨gb367, _, none⟩) NB344_367.out _).trans (((cell_far (p := ⟨gb367, _, none⟩) NB344_367.out _).trans (hHeld.1)))), ((cell_far (p := ⟨gb367, _, none⟩) NB344_367.out _).trans (((cell_far (p := ⟨gb367, _, none⟩) NB344_367.out _).trans (hHeld.2.1)))), ((cell_far (p := ⟨gb367, _, none⟩) NB346_367.out _).trans (((cell_far (p := ⟨gb367, _, none⟩) NB346_367.out _).trans (hHeld.2.2.1)))), ((cell_far (p := ⟨gb367, _, none⟩) NB346_367.out _).trans (((cell_far (p := ⟨gb367, _, none⟩) NB346_367.out _).trans (hHeld.2.2.2.1)))), ((cell_far (p := ⟨gb367, _, none⟩) NB345_367.out _).trans (((cell_far (p := ⟨gb367, _, none⟩) NB345_367.out _).trans (hHeld.2.2.2.2.1)))), ((cell_far (p := ⟨gb367, _, none⟩) NB345_367.out _).trans (((cell_far (p := ⟨gb367, _, none⟩) NB345_367.out _).trans (hHeld.2.2.2.2.2.1)))), ((cell_far (p := ⟨gb367, _, none⟩) NB347_367.out _).trans (((cell_far (p := ⟨gb367, _, none⟩) NB347_367.out _).trans (hHeld.2.2.2.2.2.2.1)))), ((cell_far (p := ⟨gb367, _, none⟩) NB347_367.out _).trans (((cell_far (p := ⟨gb367, _, none⟩) NB347_367.out _).trans (hHeld.2.2.2.2.2.2.2))))⟩ (fun hHeld => ?_)
          clear hK K
          refine pure_ (i := 14) (N := some 17) (v := ?_) (a' := ?_) #[true, true, true, true, true, true, true, true, true, true, true, true, true, true, true, false] rfl rfl (any_of HT_.out (by kernel_rfl)) (fun _ _ _ h => h) (Or.inl ⟨by rfl, ?_⟩) ?_ ?_
          rotate_left
          · intro w'
            go_simp
            with_reducible rfl
          rotate_left
          · simp only [Act.put, List.setIfInBounds_toArray, List.set_cons_zero, List.set_cons_succ, i64_w, i32_w]
            rfl
          refine pure_ (i := 15) (N := some 18) (v := ?_) (a' := ?_) #[true, true, true, true, true, true, true, true, true, true, true, true, true, true, true, true] rfl rfl (any_of HT_.out (by kernel_rfl)) (fun _ _ _ h => h) (Or.inl ⟨by rfl, ?_⟩) ?_ ?_
          rotate_left
          · intro w'
            go_simp
            with_reducible rfl
          rotate_left
          · simp only [Act.put, List.setIfInBounds_toArray, List.set_cons_zero, List.set_cons_succ, i64_w, i32_w]
            rfl
          refine done_ (done_of HT_.out (by kernel_rfl)) ?_
          go_upto_region 8 with (fail)
          go_cut [86] (fun v86 wc => ∃ (kq : Nat) (x86_82 : Bool), v86 = .bool x86_82 ∧ Aside0 (lamplighterlaw19_IntervalGrows.j1 kq (wrap64 (1 + t353)) l5 x86_82 a0_0 a0_1 a2_0 a2_1 = some r) ∧ Aside0 (kq ≤ kj8) ∧ Aside0 (wc.heap[gb344]? = some (.cells #[.int .u32 a0_0, .int .u32 a0_1] 24 (0, 0))) ∧ Aside0 (wc.heap[gb345]? = some (.cells #[.int .u32 a1_0, .int .u32 a1_1] 24 (0, 0))) ∧ Aside0 (wc.heap[gb346]? = some (.cells #[.int .u32 a2_0, .int .u32 a2_1] 24 (0, 0))) ∧ Aside0 (wc.heap[gb347]? = some (.cells #[.int .u32 a3_0, .int .u32 a3_1] 24 (0, 0))) ∧ Aside0 (wc.heap[gb358]? = some (.cells #[.int .u32 t354, .int .u32 t355] 24 (0, 0))) ∧ Aside0 (wc.heap[gb367]? = some (.cells #[.int .u32 t363, .int .u32 t364] 24 (0, 0))) ∧ Aside0 (Below w.heap.size w wc))
          case first =>
            have H := HC83.out
            clear HC83
            by_cases c107 : t356 = true
            · subst c107
              have H1 : (if t365 = true then ((interval_Within.f kj8 t354 t355 t363 t364).bind fun t368 => (lamplighterlaw19_IntervalGrows.j1 kj8 (wrap64 (1 + t353)) l5 (!t368) a0_0 a0_1 a2_0 a2_1)) else (lamplighterlaw19_IntervalGrows.j1 kj8 (wrap64 (1 + t353)) l5 true a0_0 a0_1 a2_0 a2_1)) = some r := by rw [if_pos rfl] at H; exact H
              clear H
              have H := H1
              clear H1
              by_cases c108 : t365 = true
              · subst c108
                have H1 : ((interval_Within.f kj8 t354 t355 t363 t364).bind fun t368 => (lamplighterlaw19_IntervalGrows.j1 kj8 (wrap64 (1 + t353)) l5 (!t368) a0_0 a0_1 a2_0 a2_1)) = some r := by rw [if_pos rfl] at H; exact H
                clear H
                have H := H1
                clear H1
                replace H := Option.bind_eq_some_iff.mp H
                obtain ⟨t368, A1090, H⟩ := H
                replace H : (lamplighterlaw19_IntervalGrows.j1 kj8 (wrap64 (1 + t353)) l5 (!t368) a0_0 a0_1 a2_0 a2_1) = some r := H
                have A109 := am A1090
                clear A1090
                have H' := am H
                clear H
                have hnb110 := NB358_344.out
                have hnc110 := NB344_358.out
                have hnb111 := NB358_345.out
                have hnc111 := NB345_358.out
                have hnb112 := NB358_346.out
                have hnc112 := NB346_358.out
                have hnb113 := NB358_347.out
                have hnc113 := NB347_358.out
                have hnb114 := NB358_367.out
                have hnc114 := NB367_358.out
                have hcz115_0 : w104.cell? ⟨gb358, 0, none⟩ = some (.int .u32 t354) := cz BK358
                have hcz115_1 : w104.cell? ⟨gb358, 1, none⟩ = some (.int .u32 t355) := cz BK358
                have hfz115_0 := blk_frozen BK358.out 0
                have hfz115_1 := blk_frozen BK358.out 1
                have hnb116 := NB367_344.out
                have hnc116 := NB344_367.out
                have hnb117 := NB367_345.out
                have hnc117 := NB345_367.out
                have hnb118 := NB367_346.out
                have hnc118 := NB346_367.out
                have hnb119 := NB367_347.out
                have hnc119 := NB347_367.out
                have hcz120_0 : w104.cell? ⟨gb367, 0, none⟩ = some (.int .u32 0) := cz BK367
                have hcz120_1 : w104.cell? ⟨gb367, 1, none⟩ = some (.int .u32 0) := cz BK367
                have hfz120_0 := blk_frozen BK367.out 0
                have hfz120_1 := blk_frozen BK367.out 1
                go_wp2_with (first | (go_at_call 13; (with_reducible refine (interval_Within.calls kj8 t354 t355 t363 t364 t368 _ A109.out).mono ?_); rintro e w121 ⟨rfl, hb⟩; have n0_ := am (blk_below (g := gb344) (o := .cells #[.int .u32 a0_0, .int .u32 a0_1] 24 (0, 0)) (by refine bkT ?_; refine blk_far ?_ NB344_367.out _; refine bkT ?_; refine blk_far ?_ NB344_367.out _; refine bkT ?_; exact BK344.out) hb); have n1_ := am (blk_below (g := gb345) (o := .cells #[.int .u32 a1_0, .int .u32 a1_1] 24 (0, 0)) (by refine bkT ?_; refine blk_far ?_ NB345_367.out _; refine bkT ?_; refine blk_far ?_ NB345_367.out _; refine bkT ?_; exact BK345.out) hb); have n2_ := am (blk_below (g := gb346) (o := .cells #[.int .u32 a2_0, .int .u32 a2_1] 24 (0, 0)) (by refine bkT ?_; refine blk_far ?_ NB346_367.out _; refine bkT ?_; refine blk_far ?_ NB346_367.out _; refine bkT ?_; exact BK346.out) hb); have n3_ := am (blk_below (g := gb347) (o := .cells #[.int .u32 a3_0, .int .u32 a3_1] 24 (0, 0)) (by refine bkT ?_; refine blk_far ?_ NB347_367.out _; refine bkT ?_; refine blk_far ?_ NB347_367.out _; refine bkT ?_; exact BK347.out) hb); have n4_ := am (blk_below (g := gb358) (o := .cells #[.int .u32 t354, .int .u32 t355] 24 (0, 0)) (by refine bkT ?_; refine blk_far ?_ NB358_367.out _; refine bkT ?_; refine blk_far ?_ NB358_367.out _; refine bkT ?_; exact BK358.out) hb); have n5_ := am (blk_below (g := gb367) (o := .cells #[.int .u32 t363, .int .u32 t364] 24 (0, 0)) (by refine bkT ?_; refine blk_put (cs := #[.int .u32 t363, .int .u32 0]) ?_ 1 _ rfl; refine bkT ?_; refine blk_put (cs := #[.int .u32 0, .int .u32 0]) ?_ 0 _ rfl; refine bkT ?_; exact BK367.out) hb); have n6_ := am (below_step (hbA HB) hb); clear BK344; clear BK345; clear BK346; clear BK347; clear BK358; clear BK367; clear HB; have BK344 := n0_; have BK345 := n1_; have BK346 := n2_; have BK347 := n3_; have BK358 := n4_; have BK367 := n5_; have HB := n6_; clear n0_ n1_ n2_ n3_ n4_ n5_ n6_; (try clear hb); (try clear hb2); (try clear hk); (try clear hi)))
                go_meet
                case rel => exact ⟨_, (!t368), (by first | rfl | (simp; done) | (simp [*]; done)), H', ⟨by have := HJ8.out; first | omega | exact Nat.le_refl _⟩, ⟨by refine bkT ?_; exact BK344.out⟩, ⟨by refine bkT ?_; exact BK345.out⟩, ⟨by refine bkT ?_; exact BK346.out⟩, ⟨by refine bkT ?_; exact BK347.out⟩, ⟨by refine bkT ?_; exact BK358.out⟩, ⟨by refine bkT ?_; exact BK367.out⟩, ⟨by repeat (first | (with_reducible first | exact HB.out | apply below_alloc | apply pw_below_drewN | apply below_drew1 | refine below_set ?_ GE344.out | refine below_set ?_ GE345.out | refine below_set ?_ GE346.out | refine below_set ?_ GE347.out | refine below_set ?_ GE358.out | refine below_set ?_ GE367.out) | exact HB.out)⟩⟩
              · replace c108 := Bool.eq_false_iff.mpr c108
                subst c108
                have H1 : (lamplighterlaw19_IntervalGrows.j1 kj8 (wrap64 (1 + t353)) l5 true a0_0 a0_1 a2_0 a2_1) = some r := by rw [if_neg (show ¬ (false = true) by decide)] at H; exact H
                clear H
                have H := H1
                clear H1
                have H' := am H
                clear H
                go_wp2
                go_meet
                case rel => exact ⟨_, (true), (by first | rfl | (simp; done) | (simp [*]; done)), H', ⟨by have := HJ8.out; first | omega | exact Nat.le_refl _⟩, ⟨by refine bkT ?_; refine blk_far ?_ NB344_367.out _; refine bkT ?_; refine blk_far ?_ NB344_367.out _; refine bkT ?_; exact BK344.out⟩, ⟨by refine bkT ?_; refine blk_far ?_ NB345_367.out _; refine bkT ?_; refine blk_far ?_ NB345_367.out _; refine bkT ?_; exact BK345.out⟩, ⟨by refine bkT ?_; refine blk_far ?_ NB346_367.out _; refine bkT ?_; refine blk_far ?_ NB346_367.out _; refine bkT ?_; exact BK346.out⟩, ⟨by refine bkT ?_; refine blk_far ?_ NB347_367.out _; refine bkT ?_; refine blk_far ?_ NB347_367.out _; refine bkT ?_; exact BK347.out⟩, ⟨by refine bkT ?_; refine blk_far ?_ NB358_367.out _; refine bkT ?_; refine blk_far ?_ NB358_367.out _; refine bkT ?_; exact BK358.out⟩, ⟨by refine bkT ?_; refine blk_put (cs := #[.int .u32 t363, .int .u32 0]) ?_ 1 _ rfl; refine bkT ?_; refine blk_put (cs := #[.int .u32 0, .int .u32 0]) ?_ 0 _ rfl; refine bkT ?_; exact BK367.out⟩, ⟨by repeat (first | (with_reducible first | exact HB.out | apply below_alloc | apply pw_below_drewN | apply below_drew1 | refine below_set ?_ GE344.out | refine below_set ?_ GE345.out | refine below_set ?_ GE346.out | refine below_set ?_ GE347.out | refine below_set ?_ GE358.out | refine below_set ?_ GE367.out) | exact HB.out)⟩⟩
            · replace c107 := Bool.eq_false_iff.mpr c107
              subst c107
              have H1 : (lamplighterlaw19_IntervalGrows.j1 kj8 (wrap64 (1 + t353)) l5 false a0_0 a0_1 a2_0 a2_1) = some r := by rw [if_neg (show ¬ (false = true) by decide)] at H; exact H
              clear H
              have H := H1
              clear H1
              have H' := am H
              clear H
              go_wp2
              go_meet
              case rel => exact ⟨_, (false), (by first | rfl | (simp; done) | (simp [*]; done)), H', ⟨by have := HJ8.out; first | omega | exact Nat.le_refl _⟩, ⟨by refine bkT ?_; refine blk_far ?_ NB344_367.out _; refine bkT ?_; refine blk_far ?_ NB344_367.out _; refine bkT ?_; exact BK344.out⟩, ⟨by refine bkT ?_; refine blk_far ?_ NB345_367.out _; refine bkT ?_; refine blk_far ?_ NB345_367.out _; refine bkT ?_; exact BK345.out⟩, ⟨by refine bkT ?_; refine blk_far ?_ NB346_367.out _; refine bkT ?_; refine blk_far ?_ NB346_367.out _; refine bkT ?_; exact BK346.out⟩, ⟨by refine bkT ?_; refine blk_far ?_ NB347_367.out _; refine bkT ?_; refine blk_far ?_ NB347_367.out _; refine bkT ?_; exact BK347.out⟩, ⟨by refine bkT ?_; refine blk_far ?_ NB358_367.out _; refine bkT ?_; refine blk_far ?_ NB358_367.out _; refine bkT ?_; exact BK358.out⟩, ⟨by refine bkT ?_; refine blk_put (cs := #[.int .u32 t363, .int .u32 0]) ?_ 1 _ rfl; refine bkT ?_; refine blk_put (cs := #[.int .u32 0, .int .u32 0]) ?_ 0 _ rfl; refine bkT ?_; exact BK367.out⟩, ⟨by repeat (first | (with_reducible first | exact HB.out | apply below_alloc | apply pw_below_drewN | apply below_drew1 | refine below_set ?_ GE344.out | refine below_set ?_ GE345.out | refine below_set ?_ GE346.out | refine below_set ?_ GE347.out | refine below_set ?_ GE358.out | refine below_set ?_ GE367.out) | exact HB.out)⟩⟩
          case rest =>
            clear HC83
            try clear c1
            try clear p2
            try clear p6
            try clear c10
            try clear c11
            try clear c12
            try clear p64
            try clear c107
            try clear c108
            try clear c110
            try clear c111
            try clear c112
            try clear c113
            try clear c114
            try clear c116
            try clear c117
            try clear c118
            try clear c119
            try clear hcz115_0
            try clear hcz115_1
            try clear hcz120_0
            try clear hcz120_1
            try clear hfz115_0
            try clear hfz115_1
            try clear hfz120_0
            try clear hfz120_1
            obtain ⟨kq, x86_82, rfl, HA, HJ82, BK344, BK345, BK346, BK347, BK358, BK367, HB⟩ := hcut
            cases kq with
            | zero => exact absurd HA.out (by simp [lamplighterlaw19_IntervalGrows.j1])
            | succ kj82 =>
              have H := HA.out
              clear HA
              simp only [lamplighterlaw19_IntervalGrows.j1] at H
              by_cases c122 : x86_82 = true
              · subst c122
                have H1 : (some false) = some r := by rw [if_pos rfl] at H; exact H
                clear H
                have H := H1
                clear H1
                exact absurd ((Option.some.inj H).trans hr_.out) (by decide)
              · replace c122 := Bool.eq_false_iff.mpr c122
                subst c122
                have H1 : ((lamplighterkit_Pick.f (wrap64 (1 + t353)) 3).bind fun t369 => ((interval_Un.f kj82 (wrap64 (1 + t369)) a0_0 a0_1).bind fun bt370 => ((interval_Join.f kj82 a0_0 a0_1 a2_0 a2_1).bind fun bt374 => ((interval_Un.f kj82 (wrap64 (1 + t369)) bt374.1 bt374.2).bind fun bt376 => ((interval_Within.f kj82 bt370.1 bt370.2.1 bt376.1 bt376.2.1).bind fun t380 => (if t380 = true then (lamplighterlaw19_IntervalGrows.l0 kj82 l5 0 0 a0_0 a0_1) else (some false))))))) = some r := by rw [if_neg (show ¬ (false = true) by decide)] at H; exact H
                clear H
                have H := H1
                clear H1
                replace H := Option.bind_eq_some_iff.mp H
                obtain ⟨t369, A1230, H⟩ := H
                replace H : ((interval_Un.f kj82 (wrap64 (1 + t369)) a0_0 a0_1).bind fun bt370 => ((interval_Join.f kj82 a0_0 a0_1 a2_0 a2_1).bind fun bt374 => ((interval_Un.f kj82 (wrap64 (1 + t369)) bt374.1 bt374.2).bind fun bt376 => ((interval_Within.f kj82 bt370.1 bt370.2.1 bt376.1 bt376.2.1).bind fun t380 => (if t380 = true then (lamplighterlaw19_IntervalGrows.l0 kj82 l5 0 0 a0_0 a0_1) else (some false)))))) = some r := H
                have A123 := am A1230
                clear A1230
                replace H := Option.bind_eq_some_iff.mp H
                obtain ⟨⟨t370, t371, t372⟩, A1240, H⟩ := H
                replace H : ((interval_Join.f kj82 a0_0 a0_1 a2_0 a2_1).bind fun bt374 => ((interval_Un.f kj82 (wrap64 (1 + t369)) bt374.1 bt374.2).bind fun bt376 => ((interval_Within.f kj82 t370 t371 bt376.1 bt376.2.1).bind fun t380 => (if t380 = true then (lamplighterlaw19_IntervalGrows.l0 kj82 l5 0 0 a0_0 a0_1) else (some false))))) = some r := H
                have A124 := am A1240
                clear A1240
                replace H := Option.bind_eq_some_iff.mp H
                obtain ⟨⟨t374, t375⟩, A1250, H⟩ := H
                replace H : ((interval_Un.f kj82 (wrap64 (1 + t369)) t374 t375).bind fun bt376 => ((interval_Within.f kj82 t370 t371 bt376.1 bt376.2.1).bind fun t380 => (if t380 = true then (lamplighterlaw19_IntervalGrows.l0 kj82 l5 0 0 a0_0 a0_1) else (some false)))) = some r := H
                have A125 := am A1250
                clear A1250
                replace H := Option.bind_eq_some_iff.mp H
                obtain ⟨⟨t376, t377, t378⟩, A1260, H⟩ := H
                replace H : ((interval_Within.f kj82 t370 t371 t376 t377).bind fun t380 => (if t380 = true then (lamplighterlaw19_IntervalGrows.l0 kj82 l5 0 0 a0_0 a0_1) else (some false))) = some r := H
                have A126 := am A1260
                clear A1260
                replace H := Option.bind_eq_some_iff.mp H
                obtain ⟨t380, A1270, H⟩ := H
                replace H : (if t380 = true then (lamplighterlaw19_IntervalGrows.l0 kj82 l5 0 0 a0_0 a0_1) else (some false)) = some r := H
                have A127 := am A1270
                clear A1270
                by_cases c128 : t380 = true
                · subst c128
                  have H1 : (lamplighterlaw19_IntervalGrows.l0 kj82 l5 0 0 a0_0 a0_1) = some r := by rw [if_pos rfl] at H; exact H
                  clear H
                  have H := H1
                  clear H1
                  have H' := am H
                  clear H
                  go_wp2_with (first | ((with_reducible refine gate_callee (f := 10) rfl ?_); refine goesL_ (some 88) rfl rfl Try.func10 (by kernel_rfl) rfl #[.int .i64 (wrap64 (1 + t353)), .int .i64 3] rfl (by (try simp only [List.map_toArray, List.map_cons, List.map_nil]); first | done | rfl | (simp only [List.length_drop, List.length_take]; rfl)) ?_; (with_reducible refine (lamplighterkit_Pick.calls (wrap64 (1 + t353)) 3 t369 _ A123.out).mono ?_); rintro e w' ⟨rfl, ⟨nd, rfl⟩⟩; refine ⟨_, rfl, ?_⟩; (try (rw [drewN_self wc]; generalize hq_ : World.drewN wc _ = wc; have n0_ : Aside0 (wc.heap[gb344]? = some (.cells #[.int .u32 a0_0, .int .u32 a0_1] 24 (0, 0))) := ⟨by rw [← hq_]; exact (bkA BK344)⟩; have n1_ : Aside0 (wc.heap[gb345]? = some (.cells #[.int .u32 a1_0, .int .u32 a1_1] 24 (0, 0))) := ⟨by rw [← hq_]; exact (bkA BK345)⟩; have n2_ : Aside0 (wc.heap[gb346]? = some (.cells #[.int .u32 a2_0, .int .u32 a2_1] 24 (0, 0))) := ⟨by rw [← hq_]; exact (bkA BK346)⟩; have n3_ : Aside0 (wc.heap[gb347]? = some (.cells #[.int .u32 a3_0, .int .u32 a3_1] 24 (0, 0))) := ⟨by rw [← hq_]; exact (bkA BK347)⟩; have n4_ : Aside0 (wc.heap[gb358]? = some (.cells #[.int .u32 t354, .int .u32 t355] 24 (0, 0))) := ⟨by rw [← hq_]; exact (bkA BK358)⟩; have n5_ : Aside0 (wc.heap[gb367]? = some (.cells #[.int .u32 t363, .int .u32 t364] 24 (0, 0))) := ⟨by rw [← hq_]; exact (bkA BK367)⟩; have n6_ : Aside0 (Below w.heap.size w wc) := ⟨by rw [← hq_]; exact (hbA HB)⟩; clear BK344 BK345 BK346 BK347 BK358 BK367 HB hq_; have BK344 := n0_; have BK345 := n1_; have BK346 := n2_; have BK347 := n3_; have BK358 := n4_; have BK367 := n5_; have HB := n6_; clear n0_ n1_ n2_ n3_ n4_ n5_ n6_)); have hnb129 := NB344_345.out; have hnc129 := NB345_344.out; have hnb130 := NB344_346.out; have hnc130 := NB346_344.out; have hnb131 := NB344_347.out; have hnc131 := NB347_344.out; have hnb132 := NB344_358.out; have hnc132 := NB358_344.out; have hnb133 := NB344_367.out; have hnc133 := NB367_344.out; have hcz134_0 : wc.cell? ⟨gb344, 0, none⟩ = some (.int .u32 a0_0) := cz BK344; have hcz134_1 : wc.cell? ⟨gb344, 1, none⟩ = some (.int .u32 a0_1) := cz BK344; have hfz134_0 := blk_frozen BK344.out 0; have hfz134_1 := blk_frozen BK344.out 1) | ((with_reducible refine gate_callee (f := 14) rfl ?_); refine goesL_ (some 93) rfl rfl Try.func14 (by kernel_rfl) rfl #[.int .i64 (wrap64 (1 + t369)), .agg #[.int .u32 a0_0, .int .u32 a0_1]] rfl (by (try simp only [List.map_toArray, List.map_cons, List.map_nil]); first | done | rfl | (simp only [List.length_drop, List.length_take]; rfl)) ?_; (with_reducible refine (interval_Un.calls kj82 (wrap64 (1 + t369)) a0_0 a0_1 t370 t371 t372 _ A124.out).mono ?_); rintro e w135 ⟨rfl, hb⟩; refine ⟨_, rfl, ?_⟩; have n0_ := am (blk_below (g := gb344) (o := .cells #[.int .u32 a0_0, .int .u32 a0_1] 24 (0, 0)) (bkA BK344) hb); have n1_ := am (blk_below (g := gb345) (o := .cells #[.int .u32 a1_0, .int .u32 a1_1] 24 (0, 0)) (bkA BK345) hb); have n2_ := am (blk_below (g := gb346) (o := .cells #[.int .u32 a2_0, .int .u32 a2_1] 24 (0, 0)) (bkA BK346) hb); have n3_ := am (blk_below (g := gb347) (o := .cells #[.int .u32 a3_0, .int .u32 a3_1] 24 (0, 0)) (bkA BK347) hb); have n4_ := am (blk_below (g := gb358) (o := .cells #[.int .u32 t354, .int .u32 t355] 24 (0, 0)) (bkA BK358) hb); have n5_ := am (blk_below (g := gb367) (o := .cells #[.int .u32 t363, .int .u32 t364] 24 (0, 0)) (bkA BK367) hb); have n6_ := am (below_step (hbA HB) hb); clear BK344; clear BK345; clear BK346; clear BK347; clear BK358; clear BK367; clear HB; have BK344 := n0_; have BK345 := n1_; have BK346 := n2_; have BK347 := n3_; have BK358 := n4_; have BK367 := n5_; have HB := n6_; clear n0_ n1_ n2_ n3_ n4_ n5_ n6_; (try clear hb); (try clear hb2); (try clear hk); (try clear hi)) | ((with_reducible refine gate_dst (N := 20) rfl ?_); (try (refine gate_guard (by rfl) ?_; dsimp only)); refine bxE 20 #[.int .u32 0, .int .u32 0] 24 ?_; intro gb373 hg w136 hbox hb; have n0_ := am (blk_below (g := gb344) (o := .cells #[.int .u32 a0_0, .int .u32 a0_1] 24 (0, 0)) (bkA BK344) hb); have n1_ := am (blk_below (g := gb345) (o := .cells #[.int .u32 a1_0, .int .u32 a1_1] 24 (0, 0)) (bkA BK345) hb); have n2_ := am (blk_below (g := gb346) (o := .cells #[.int .u32 a2_0, .int .u32 a2_1] 24 (0, 0)) (bkA BK346) hb); have n3_ := am (blk_below (g := gb347) (o := .cells #[.int .u32 a3_0, .int .u32 a3_1] 24 (0, 0)) (bkA BK347) hb); have n4_ := am (blk_below (g := gb358) (o := .cells #[.int .u32 t354, .int .u32 t355] 24 (0, 0)) (bkA BK358) hb); have n5_ := am (blk_below (g := gb367) (o := .cells #[.int .u32 t363, .int .u32 t364] 24 (0, 0)) (bkA BK367) hb); have n6_ := am (below_step (hbA HB) hb); have n7_ := am (hbox); have n8_ := gwA hg HB; have n9_ := gwA hg HB; have n10_ := ltA hg BK344; have n11_ := gtA hg BK344; have n12_ := ltA hg BK345; have n13_ := gtA hg BK345; have n14_ := ltA hg BK346; have n15_ := gtA hg BK346; have n16_ := ltA hg BK347; have n17_ := gtA hg BK347; have n18_ := ltA hg BK358; have n19_ := gtA hg BK358; have n20_ := ltA hg BK367; have n21_ := gtA hg BK367; clear BK344; clear BK345; clear BK346; clear BK347; clear BK358; clear BK367; clear HB; have BK344 := n0_; have BK345 := n1_; have BK346 := n2_; have BK347 := n3_; have BK358 := n4_; have BK367 := n5_; have HB := n6_; have BK373 := n7_; have GW373 := n8_; have GE373 := n9_; have NB344_373 := n10_; have NB373_344 := n11_; have NB345_373 := n12_; have NB373_345 := n13_; have NB346_373 := n14_; have NB373_346 := n15_; have NB347_373 := n16_; have NB373_347 := n17_; have NB358_373 := n18_; have NB373_358 := n19_; have NB367_373 := n20_; have NB373_367 := n21_; clear n0_ n1_ n2_ n3_ n4_ n5_ n6_ n7_ n8_ n9_ n10_ n11_ n12_ n13_ n14_ n15_ n16_ n17_ n18_ n19_ n20_ n21_; clear hb hbox hg; have hnb137 := NB373_344.out; have hnc137 := NB344_373.out; have hnb138 := NB373_345.out; have hnc138 := NB345_373.out; have hnb139 := NB373_346.out; have hnc139 := NB346_373.out; have hnb140 := NB373_347.out; have hnc140 := NB347_373.out; have hnb141 := NB373_358.out; have hnc141 := NB358_373.out; have hnb142 := NB373_367.out; have hnc142 := NB367_373.out; have hcz143_0 : w136.cell? ⟨gb373, 0, none⟩ = some (.int .u32 0) := cz BK373; have hcz143_1 : w136.cell? ⟨gb373, 1, none⟩ = some (.int .u32 0) := cz BK373; have hfz143_0 := blk_frozen BK373.out 0; have hfz143_1 := blk_frozen BK373.out 1; have hcz144_0 : w136.cell? ⟨gb344, 0, none⟩ = some (.int .u32 a0_0) := cz BK344; have hcz144_1 : w136.cell? ⟨gb344, 1, none⟩ = some (.int .u32 a0_1) := cz BK344; have hfz144_0 := blk_frozen BK344.out 0; have hfz144_1 := blk_frozen BK344.out 1; have hnb145 := NB346_345.out; have hnc145 := NB345_346.out; have hnb146 := NB346_347.out; have hnc146 := NB347_346.out; have hnb147 := NB346_358.out; have hnc147 := NB358_346.out; have hnb148 := NB346_367.out; have hnc148 := NB367_346.out; have hcz149_0 : w136.cell? ⟨gb346, 0, none⟩ = some (.int .u32 a2_0) := cz BK346; have hcz149_1 : w136.cell? ⟨gb346, 1, none⟩ = some (.int .u32 a2_1) := cz BK346; have hfz149_0 := blk_frozen BK346.out 0; have hfz149_1 := blk_frozen BK346.out 1) | ((with_reducible refine gate_callee (f := 12) rfl ?_); refine goesL_ (some 100) rfl rfl Try.func12 (by kernel_rfl) rfl #[.agg #[.int .u32 a0_0, .int .u32 a0_1], .agg #[.int .u32 a2_0, .int .u32 a2_1]] rfl (by (try simp only [List.map_toArray, List.map_cons, List.map_nil]); first | done | rfl | (simp only [List.length_drop, List.length_take]; rfl)) ?_; (with_reducible refine (interval_Join.calls kj82 a0_0 a0_1 a2_0 a2_1 t374 t375 _ A125.out).mono ?_); rintro e w150 ⟨rfl, hb⟩; refine ⟨_, rfl, ?_⟩; have n0_ := am (blk_below (g := gb344) (o := .cells #[.int .u32 a0_0, .int .u32 a0_1] 24 (0, 0)) (by refine bkT ?_; refine blk_far ?_ NB344_373.out _; refine bkT ?_; refine blk_far ?_ NB344_373.out _; refine bkT ?_; exact BK344.out) hb); have n1_ := am (blk_below (g := gb345) (o := .cells #[.int .u32 a1_0, .int .u32 a1_1] 24 (0, 0)) (by refine bkT ?_; refine blk_far ?_ NB345_373.out _; refine bkT ?_; refine blk_far ?_ NB345_373.out _; refine bkT ?_; exact BK345.out) hb); have n2_ := am (blk_below (g := gb346) (o := .cells #[.int .u32 a2_0, .int .u32 a2_1] 24 (0, 0)) (by refine bkT ?_; refine blk_far ?_ NB346_373.out _; refine bkT ?_; refine blk_far ?_ NB346_373.out _; refine bkT ?_; exact BK346.out) hb); have n3_ := am (blk_below (g := gb347) (o := .cells #[.int .u32 a3_0, .int .u32 a3_1] 24 (0, 0)) (by refine bkT ?_; refine blk_far ?_ NB347_373.out _; refine bkT ?_; refine blk_far ?_ NB347_373.out _; refine bkT ?_; exact BK347.out) hb); have n4_ := am (blk_below (g := gb358) (o := .cells #[.int .u32 t354, .int .u32 t355] 24 (0, 0)) (by refine bkT ?_; refine blk_far ?_ NB358_373.out _; refine bkT ?_; refine blk_far ?_ NB358_373.out _; refine bkT ?_; exact BK358.out) hb); have n5_ := am (blk_below (g := gb367) (o := .cells #[.int .u32 t363, .int .u32 t364] 24 (0, 0)) (by refine bkT ?_; refine blk_far ?_ NB367_373.out _; refine bkT ?_; refine blk_far ?_ NB367_373.out _; refine bkT ?_; exact BK367.out) hb); have n6_ := am (blk_below (g := gb373) (o := .cells #[.int .u32 t370, .int .u32 t371] 24 (0, 0)) (by refine bkT ?_; refine blk_put (cs := #[.int .u32 t370, .int .u32 0]) ?_ 1 _ rfl; refine bkT ?_; refine blk_put (cs := #[.int .u32 0, .int .u32 0]) ?_ 0 _ rfl; refine bkT ?_; exact BK373.out) hb); have n7_ := am (below_step (hbA HB) hb); clear BK344; clear BK345; clear BK346; clear BK347; clear BK358; clear BK367; clear BK373; clear HB; have BK344 := n0_; have BK345 := n1_; have BK346 := n2_; have BK347 := n3_; have BK358 := n4_; have BK367 := n5_; have BK373 := n6_; have HB := n7_; clear n0_ n1_ n2_ n3_ n4_ n5_ n6_ n7_; (try clear hb); (try clear hb2); (try clear hk); (try clear hi)) | ((with_reducible refine gate_callee (f := 14) rfl ?_); refine goesL_ (some 101) rfl rfl Try.func14 (by kernel_rfl) rfl #[.int .i64 (wrap64 (1 + t369)), .agg #[.int .u32 t374, .int .u32 t375]] rfl (by (try simp only [List.map_toArray, List.map_cons, List.map_nil]); first | done | rfl | (simp only [List.length_drop, List.length_take]; rfl)) ?_; (with_reducible refine (interval_Un.calls kj82 (wrap64 (1 + t369)) t374 t375 t376 t377 t378 _ A126.out).mono ?_); rintro e w151 ⟨rfl, hb⟩; refine ⟨_, rfl, ?_⟩; have n0_ := am (blk_below (g := gb344) (o := .cells #[.int .u32 a0_0, .int .u32 a0_1] 24 (0, 0)) (bkA BK344) hb); have n1_ := am (blk_below (g := gb345) (o := .cells #[.int .u32 a1_0, .int .u32 a1_1] 24 (0, 0)) (bkA BK345) hb); have n2_ := am (blk_below (g := gb346) (o := .cells #[.int .u32 a2_0, .int .u32 a2_1] 24 (0, 0)) (bkA BK346) hb); have n3_ := am (blk_below (g := gb347) (o := .cells #[.int .u32 a3_0, .int .u32 a3_1] 24 (0, 0)) (bkA BK347) hb); have n4_ := am (blk_below (g := gb358) (o := .cells #[.int .u32 t354, .int .u32 t355] 24 (0, 0)) (bkA BK358) hb); have n5_ := am (blk_below (g := gb367) (o := .cells #[.int .u32 t363, .int .u32 t364] 24 (0, 0)) (bkA BK367) hb); have n6_ := am (blk_below (g := gb373) (o := .cells #[.int .u32 t370, .int .u32 t371] 24 (0, 0)) (bkA BK373) hb); have n7_ := am (below_step (hbA HB) hb); clear BK344; clear BK345; clear BK346; clear BK347; clear BK358; clear BK367; clear BK373; clear HB; have BK344 := n0_; have BK345 := n1_; have BK346 := n2_; have BK347 := n3_; have BK358 := n4_; have BK367 := n5_; have BK373 := n6_; have HB := n7_; clear n0_ n1_ n2_ n3_ n4_ n5_ n6_ n7_; (try clear hb); (try clear hb2); (try clear hk); (try clear hi)) | ((with_reducible refine gate_dst (N := 22) rfl ?_); (try (refine gate_guard (by rfl) ?_; dsimp only)); refine bxE 22 #[.int .u32 0, .int .u32 0] 24 ?_; intro gb379 hg w152 hbox hb; have n0_ := am (blk_below (g := gb344) (o := .cells #[.int .u32 a0_0, .int .u32 a0_1] 24 (0, 0)) (bkA BK344) hb); have n1_ := am (blk_below (g := gb345) (o := .cells #[.int .u32 a1_0, .int .u32 a1_1] 24 (0, 0)) (bkA BK345) hb); have n2_ := am (blk_below (g := gb346) (o := .cells #[.int .u32 a2_0, .int .u32 a2_1] 24 (0, 0)) (bkA BK346) hb); have n3_ := am (blk_below (g := gb347) (o := .cells #[.int .u32 a3_0, .int .u32 a3_1] 24 (0, 0)) (bkA BK347) hb); have n4_ := am (blk_below (g := gb358) (o := .cells #[.int .u32 t354, .int .u32 t355] 24 (0, 0)) (bkA BK358) hb); have n5_ := am (blk_below (g := gb367) (o := .cells #[.int .u32 t363, .int .u32 t364] 24 (0, 0)) (bkA BK367) hb); have n6_ := am (blk_below (g := gb373) (o := .cells #[.int .u32 t370, .int .u32 t371] 24 (0, 0)) (bkA BK373) hb); have n7_ := am (below_step (hbA HB) hb); have n8_ := am (hbox); have n9_ := gwA hg HB; have n10_ := gwA hg HB; have n11_ := ltA hg BK344; have n12_ := gtA hg BK344; have n13_ := ltA hg BK345; have n14_ := gtA hg BK345; have n15_ := ltA hg BK346; have n16_ := gtA hg BK346; have n17_ := ltA hg BK347; have n18_ := gtA hg BK347; have n19_ := ltA hg BK358; have n20_ := gtA hg BK358; have n21_ := ltA hg BK367; have n22_ := gtA hg BK367; have n23_ := ltA hg BK373; have n24_ := gtA hg BK373; clear BK344; clear BK345; clear BK346; clear BK347; clear BK358; clear BK367; clear BK373; clear HB; have BK344 := n0_; have BK345 := n1_; have BK346 := n2_; have BK347 := n3_; have BK358 := n4_; have BK367 := n5_; have BK373 := n6_; have HB := n7_; have BK379 := n8_; have GW379 := n9_; have GE379 := n10_; have NB344_379 := n11_; have NB379_344 := n12_; have NB345_379 := n13_; have NB379_345 := n14_; have NB346_379 := n15_; have NB379_346 := n16_; have NB347_379 := n17_; have NB379_347 := n18_; have NB358_379 := n19_; have NB379_358 := n20_; have NB367_379 := n21_; have NB379_367 := n22_; have NB373_379 := n23_; have NB379_373 := n24_; clear n0_ n1_ n2_ n3_ n4_ n5_ n6_ n7_ n8_ n9_ n10_ n11_ n12_ n13_ n14_ n15_ n16_ n17_ n18_ n19_ n20_ n21_ n22_ n23_ n24_; clear hb hbox hg; have hnb153 := NB379_344.out; have hnc153 := NB344_379.out; have hnb154 := NB379_345.out; have hnc154 := NB345_379.out; have hnb155 := NB379_346.out; have hnc155 := NB346_379.out; have hnb156 := NB379_347.out; have hnc156 := NB347_379.out; have hnb157 := NB379_358.out; have hnc157 := NB358_379.out; have hnb158 := NB379_367.out; have hnc158 := NB367_379.out; have hnb159 := NB379_373.out; have hnc159 := NB373_379.out; have hcz160_0 : w152.cell? ⟨gb379, 0, none⟩ = some (.int .u32 0) := cz BK379; have hcz160_1 : w152.cell? ⟨gb379, 1, none⟩ = some (.int .u32 0) := cz BK379; have hfz160_0 := blk_frozen BK379.out 0; have hfz160_1 := blk_frozen BK379.out 1; have hcz161_0 : w152.cell? ⟨gb373, 0, none⟩ = some (.int .u32 t370) := cz BK373; have hcz161_1 : w152.cell? ⟨gb373, 1, none⟩ = some (.int .u32 t371) := cz BK373; have hfz161_0 := blk_frozen BK373.out 0; have hfz161_1 := blk_frozen BK373.out 1) | ((with_reducible refine gate_callee (f := 13) rfl ?_); refine goesL_ (some 106) rfl rfl Try.func13 (by kernel_rfl) rfl #[.agg #[.int .u32 t370, .int .u32 t371], .agg #[.int .u32 t376, .int .u32 t377]] rfl (by (try simp only [List.map_toArray, List.map_cons, List.map_nil]); first | done | rfl | (simp only [List.length_drop, List.length_take]; rfl)) ?_; (with_reducible refine (interval_Within.calls kj82 t370 t371 t376 t377 true _ A127.out).mono ?_); rintro e w162 ⟨rfl, hb⟩; refine ⟨_, rfl, ?_⟩; have n0_ := am (blk_below (g := gb344) (o := .cells #[.int .u32 a0_0, .int .u32 a0_1] 24 (0, 0)) (by refine bkT ?_; refine blk_far ?_ NB344_379.out _; refine bkT ?_; refine blk_far ?_ NB344_379.out _; refine bkT ?_; exact BK344.out) hb); have n1_ := am (blk_below (g := gb345) (o := .cells #[.int .u32 a1_0, .int .u32 a1_1] 24 (0, 0)) (by refine bkT ?_; refine blk_far ?_ NB345_379.out _; refine bkT ?_; refine blk_far ?_ NB345_379.out _; refine bkT ?_; exact BK345.out) hb); have n2_ := am (blk_below (g := gb346) (o := .cells #[.int .u32 a2_0, .int .u32 a2_1] 24 (0, 0)) (by refine bkT ?_; refine blk_far ?_ NB346_379.out _; refine bkT ?_; refine blk_far ?_ NB346_379.out _; refine bkT ?_; exact BK346.out) hb); have n3_ := am (blk_below (g := gb347) (o := .cells #[.int .u32 a3_0, .int .u32 a3_1] 24 (0, 0)) (by refine bkT ?_; refine blk_far ?_ NB347_379.out _; refine bkT ?_; refine blk_far ?_ NB347_379.out _; refine bkT ?_; exact BK347.out) hb); have n4_ := am (blk_below (g := gb358) (o := .cells #[.int .u32 t354, .int .u32 t355] 24 (0, 0)) (by refine bkT ?_; refine blk_far ?_ NB358_379.out _; refine bkT ?_; refine blk_far ?_ NB358_379.out _; refine bkT ?_; exact BK358.out) hb); have n5_ := am (blk_below (g := gb367) (o := .cells #[.int .u32 t363, .int .u32 t364] 24 (0, 0)) (by refine bkT ?_; refine blk_far ?_ NB367_379.out _; refine bkT ?_; refine blk_far ?_ NB367_379.out _; refine bkT ?_; exact BK367.out) hb); have n6_ := am (blk_below (g := gb373) (o := .cells #[.int .u32 t370, .int .u32 t371] 24 (0, 0)) (by refine bkT ?_; refine blk_far ?_ NB373_379.out _; refine bkT ?_; refine blk_far ?_ NB373_379.out _; refine bkT ?_; exact BK373.out) hb); have n7_ := am (blk_below (g := gb379) (o := .cells #[.int .u32 t376, .int .u32 t377] 24 (0, 0)) (by refine bkT ?_; refine blk_put (cs := #[.int .u32 t376, .int .u32 0]) ?_ 1 _ rfl; refine bkT ?_; refine blk_put (cs := #[.int .u32 0, .int .u32 0]) ?_ 0 _ rfl; refine bkT ?_; exact BK379.out) hb); have n8_ := am (below_step (hbA HB) hb); clear BK344; clear BK345; clear BK346; clear BK347; clear BK358; clear BK367; clear BK373; clear BK379; clear HB; have BK344 := n0_; have BK345 := n1_; have BK346 := n2_; have BK347 := n3_; have BK358 := n4_; have BK367 := n5_; have BK373 := n6_; have BK379 := n7_; have HB := n8_; clear n0_ n1_ n2_ n3_ n4_ n5_ n6_ n7_ n8_; (try clear hb); (try clear hb2); (try clear hk); (try clear hi); have hcz163_0 : w162.cell? ⟨gb344, 0, none⟩ = some (.int .u32 a0_0) := cz BK344; have hcz163_1 : w162.cell? ⟨gb344, 1, none⟩ = some (.int .u32 a0_1) := cz BK344; have hfz163_0 := blk_frozen BK344.out 0; have hfz163_1 := blk_frozen BK344.out 1) | ((with_reducible refine gate_dst (N := 24) rfl ?_); (try (refine gate_guard (by rfl) ?_; dsimp only)); refine bxE 24 #[.int .u32 0, .int .u32 0] 24 ?_; intro gb381 hg w164 hbox hb; have n0_ := am (blk_below (g := gb344) (o := .cells #[.int .u32 a0_0, .int .u32 a0_1] 24 (0, 0)) (bkA BK344) hb); have n1_ := am (blk_below (g := gb345) (o := .cells #[.int .u32 a1_0, .int .u32 a1_1] 24 (0, 0)) (bkA BK345) hb); have n2_ := am (blk_below (g := gb346) (o := .cells #[.int .u32 a2_0, .int .u32 a2_1] 24 (0, 0)) (bkA BK346) hb); have n3_ := am (blk_below (g := gb347) (o := .cells #[.int .u32 a3_0, .int .u32 a3_1] 24 (0, 0)) (bkA BK347) hb); have n4_ := am (blk_below (g := gb358) (o := .cells #[.int .u32 t354, .int .u32 t355] 24 (0, 0)) (bkA BK358) hb); have n5_ := am (blk_below (g := gb367) (o := .cells #[.int .u32 t363, .int .u32 t364] 24 (0, 0)) (bkA BK367) hb); have n6_ := am (blk_below (g := gb373) (o := .cells #[.int .u32 t370, .int .u32 t371] 24 (0, 0)) (bkA BK373) hb); have n7_ := am (blk_below (g := gb379) (o := .cells #[.int .u32 t376, .int .u32 t377] 24 (0, 0)) (bkA BK379) hb); have n8_ := am (below_step (hbA HB) hb); have n9_ := am (hbox); have n10_ := gwA hg HB; have n11_ := gwA hg HB; have n12_ := ltA hg BK344; have n13_ := gtA hg BK344; have n14_ := ltA hg BK345; have n15_ := gtA hg BK345; have n16_ := ltA hg BK346; have n17_ := gtA hg BK346; have n18_ := ltA hg BK347; have n19_ := gtA hg BK347; have n20_ := ltA hg BK358; have n21_ := gtA hg BK358; have n22_ := ltA hg BK367; have n23_ := gtA hg BK367; have n24_ := ltA hg BK373; have n25_ := gtA hg BK373; have n26_ := ltA hg BK379; have n27_ := gtA hg BK379; clear BK344; clear BK345; clear BK346; clear BK347; clear BK358; clear BK367; clear BK373; clear BK379; clear HB; have BK344 := n0_; have BK345 := n1_; have BK346 := n2_; have BK347 := n3_; have BK358 := n4_; have BK367 := n5_; have BK373 := n6_; have BK379 := n7_; have HB := n8_; have BK381 := n9_; have GW381 := n10_; have GE381 := n11_; have NB344_381 := n12_; have NB381_344 := n13_; have NB345_381 := n14_; have NB381_345 := n15_; have NB346_381 := n16_; have NB381_346 := n17_; have NB347_381 := n18_; have NB381_347 := n19_; have NB358_381 := n20_; have NB381_358 := n21_; have NB367_381 := n22_; have NB381_367 := n23_; have NB373_381 := n24_; have NB381_373 := n25_; have NB379_381 := n26_; have NB381_379 := n27_; clear n0_ n1_ n2_ n3_ n4_ n5_ n6_ n7_ n8_ n9_ n10_ n11_ n12_ n13_ n14_ n15_ n16_ n17_ n18_ n19_ n20_ n21_ n22_ n23_ n24_ n25_ n26_ n27_; clear hb hbox hg; have hnb165 := NB381_344.out; have hnc165 := NB344_381.out; have hnb166 := NB381_345.out; have hnc166 := NB345_381.out; have hnb167 := NB381_346.out; have hnc167 := NB346_381.out; have hnb168 := NB381_347.out; have hnc168 := NB347_381.out; have hnb169 := NB381_358.out; have hnc169 := NB358_381.out; have hnb170 := NB381_367.out; have hnc170 := NB367_381.out; have hnb171 := NB381_373.out; have hnc171 := NB373_381.out; have hnb172 := NB381_379.out; have hnc172 := NB379_381.out; have hcz173_0 : w164.cell? ⟨gb381, 0, none⟩ = some (.int .u32 0) := cz BK381; have hcz173_1 : w164.cell? ⟨gb381, 1, none⟩ = some (.int .u32 0) := cz BK381; have hfz173_0 := blk_frozen BK381.out 0; have hfz173_1 := blk_frozen BK381.out 1))
                  go_loopg [25, 26] kj82 (fun kq v25 v26 w' => ∃ (x25_3 : Int) (x26_3 : Int) (x382000_3 : Int) (x382001_3 : Int), v25 = .int .i64 x25_3 ∧ v26 = .int .i64 x26_3 ∧ Aside0 (lamplighterlaw19_IntervalGrows.l0 kq l5 x25_3 x26_3 x382000_3 x382001_3 = some r) ∧ Aside0 (kq ≤ kj82) ∧ Aside0 (w'.heap[gb344]? = some (.cells #[.int .u32 a0_0, .int .u32 a0_1] 24 (0, 0))) ∧ Aside0 (w'.heap[gb345]? = some (.cells #[.int .u32 a1_0, .int .u32 a1_1] 24 (0, 0))) ∧ Aside0 (w'.heap[gb346]? = some (.cells #[.int .u32 a2_0, .int .u32 a2_1] 24 (0, 0))) ∧ Aside0 (w'.heap[gb347]? = some (.cells #[.int .u32 a3_0, .int .u32 a3_1] 24 (0, 0))) ∧ Aside0 (w'.heap[gb358]? = some (.cells #[.int .u32 t354, .int .u32 t355] 24 (0, 0))) ∧ Aside0 (w'.heap[gb367]? = some (.cells #[.int .u32 t363, .int .u32 t364] 24 (0, 0))) ∧ Aside0 (w'.heap[gb373]? = some (.cells #[.int .u32 t370, .int .u32 t371] 24 (0, 0))) ∧ Aside0 (w'.heap[gb379]? = some (.cells #[.int .u32 t376, .int .u32 t377] 24 (0, 0))) ∧ Aside0 (w'.heap[gb381]? = some (.cells #[.int .u32 x382000_3, .int .u32 x382001_3] 24 (0, 0))) ∧ Aside0 (Below w.heap.size w w'))
                  case atStart => exact ⟨(0), (0), (a0_0), (a0_1), (by first | rfl | (simp; done) | (simp [*]; done)), (by first | rfl | (simp; done) | (simp [*]; done)), H', ⟨Nat.le_refl _⟩, ⟨by refine bkT ?_; refine blk_far ?_ NB344_381.out _; refine bkT ?_; refine blk_far ?_ NB344_381.out _; refine bkT ?_; exact BK344.out⟩, ⟨by refine bkT ?_; refine blk_far ?_ NB345_381.out _; refine bkT ?_; refine blk_far ?_ NB345_381.out _; refine bkT ?_; exact BK345.out⟩, ⟨by refine bkT ?_; refine blk_far ?_ NB346_381.out _; refine bkT ?_; refine blk_far ?_ NB346_381.out _; refine bkT ?_; exact BK346.out⟩, ⟨by refine bkT ?_; refine blk_far ?_ NB347_381.out _; refine bkT ?_; refine blk_far ?_ NB347_381.out _; refine bkT ?_; exact BK347.out⟩, ⟨by refine bkT ?_; refine blk_far ?_ NB358_381.out _; refine bkT ?_; refine blk_far ?_ NB358_381.out _; refine bkT ?_; exact BK358.out⟩, ⟨by refine bkT ?_; refine blk_far ?_ NB367_381.out _; refine bkT ?_; refine blk_far ?_ NB367_381.out _; refine bkT ?_; exact BK367.out⟩, ⟨by refine bkT ?_; refine blk_far ?_ NB373_381.out _; refine bkT ?_; refine blk_far ?_ NB373_381.out _; refine bkT ?_; exact BK373.out⟩, ⟨by refine bkT ?_; refine blk_far ?_ NB379_381.out _; refine bkT ?_; refine blk_far ?_ NB379_381.out _; refine bkT ?_; exact BK379.out⟩, ⟨by refine bkT ?_; refine blk_put (cs := #[.int .u32 a0_0, .int .u32 0]) ?_ 1 _ rfl; refine bkT ?_; refine blk_put (cs := #[.int .u32 0, .int .u32 0]) ?_ 0 _ rfl; refine bkT ?_; exact BK381.out⟩, ⟨by repeat (first | (with_reducible first | exact HB.out | apply below_alloc | apply pw_below_drewN | apply below_drew1 | refine below_set ?_ GE344.out | refine below_set ?_ GE345.out | refine below_set ?_ GE346.out | refine below_set ?_ GE347.out | refine below_set ?_ GE358.out | refine below_set ?_ GE367.out | refine below_set ?_ GE373.out | refine below_set ?_ GE379.out | refine below_set ?_ GE381.out) | exact HB.out)⟩⟩
                  case round =>
                    clear H'
                    try clear c1
                    try clear p2
                    try clear p6
                    try clear c10
                    try clear c11
                    try clear c12
                    try clear c13
                    try clear c14
                    try clear c15
                    try clear c16
                    try clear c17
                    try clear p64
                    try clear c107
                    try clear c108
                    try clear c110
                    try clear c111
                    try clear c112
                    try clear c113
                    try clear c114
                    try clear c116
                    try clear c117
                    try clear c118
                    try clear c119
                    try clear c122
                    try clear c128
                    try clear c129
                    try clear c130
                    try clear c131
                    try clear c132
                    try clear c133
                    try clear c137
                    try clear c138
                    try clear c139
                    try clear c140
                    try clear c141
                    try clear c142
                    try clear c145
                    try clear c146
                    try clear c147
                    try clear c148
                    try clear c153
                    try clear c154
                    try clear c155
                    try clear c156
                    try clear c157
                    try clear c158
                    try clear c159
                    try clear c165
                    try clear c166
                    try clear c167
                    try clear c168
                    try clear c169
                    try clear c170
                    try clear c171
                    try clear c172
                    try clear hcz115_0
                    try clear hcz115_1
                    try clear hcz120_0
                    try clear hcz120_1
                    try clear hcz134_0
                    try clear hcz134_1
                    try clear hcz143_0
                    try clear hcz143_1
                    try clear hcz144_0
                    try clear hcz144_1
                    try clear hcz149_0
                    try clear hcz149_1
                    try clear hcz160_0
                    try clear hcz160_1
                    try clear hcz161_0
                    try clear hcz161_1
                    try clear hcz163_0
                    try clear hcz163_1
                    try clear hcz173_0
                    try clear hcz173_1
                    try clear hfz115_0
                    try clear hfz115_1
                    try clear hfz120_0
                    try clear hfz120_1
                    try clear hfz134_0
                    try clear hfz134_1
                    try clear hfz143_0
                    try clear hfz143_1
                    try clear hfz144_0
                    try clear hfz144_1
                    try clear hfz149_0
                    try clear hfz149_1
                    try clear hfz160_0
                    try clear hfz160_1
                    try clear hfz161_0
                    try clear hfz161_1
                    try clear hfz163_0
                    try clear hfz163_1
                    try clear hfz173_0
                    try clear hfz173_1
                    try clear p2
                    try clear p6
                    try clear p64
                    obtain ⟨x25_3, x26_3, x382000_3, x382001_3, rfl, rfl, HA, HK3, BK344, BK345, BK346, BK347, BK358, BK367, BK373, BK379, BK381, HB⟩ := hrel
                    cases gk with
                    | zero => exact absurd HA.out (by simp [lamplighterlaw19_IntervalGrows.l0])
                    | succ k3 =>
                      have H := HA.out
                      clear HA
                      simp only [lamplighterlaw19_IntervalGrows.l0] at H
                      by_cases c174 : x26_3 < (l5.length : Int)
                      · rw [if_pos c174] at H
                        have c174b0 : decide (x26_3 < (l5.length : Int)) = true := decide_eq_true c174
                        clear c174
                        by_cases c175 : 0 ≤ x26_3
                        · rw [if_pos c175] at H
                          have c175b0 : decide (0 ≤ x26_3) = true := decide_eq_true c175
                          clear c175
                          replace H := Option.bind_eq_some_iff.mp H
                          obtain ⟨t383, A1760, H⟩ := H
                          replace H : (if t383 = 0 then ((interval_Widen.f k3 x382000_3 x382001_3 ((rd_T24 l5 x26_3).f0) ((rd_T24 l5 x26_3).f1)).bind fun bt385 => (if (!(bt385.1 == x382000_3) || (!(bt385.2 == x382001_3))) = true then (lamplighterlaw19_IntervalGrows.j3 k3 l5 (wrap64 (x25_3 + 1)) x26_3 x382000_3 x382001_3 bt385.1 bt385.2) else (lamplighterlaw19_IntervalGrows.j3 k3 l5 x25_3 x26_3 x382000_3 x382001_3 bt385.1 bt385.2))) else (lamplighterlaw19_IntervalGrows.l0 k3 l5 x25_3 (wrap64 (x26_3 + 1)) x382000_3 x382001_3)) = some r := H
                          have A176 := am A1760
                          clear A1760
                          by_cases c177 : t383 = 0
                          · rw [if_pos c177] at H
                            have c177b0 : (t383 == 0) = true := beq_iff_eq.mpr c177
                            have c177b1 : (t383 != 0) = false := bne_eq_false_iff_eq.mpr c177
                            clear c177
                            replace H := Option.bind_eq_some_iff.mp H
                            obtain ⟨⟨t385, t386⟩, A1780, H⟩ := H
                            replace H : (if (!(t385 == x382000_3) || (!(t386 == x382001_3))) = true then (lamplighterlaw19_IntervalGrows.j3 k3 l5 (wrap64 (x25_3 + 1)) x26_3 x382000_3 x382001_3 t385 t386) else (lamplighterlaw19_IntervalGrows.j3 k3 l5 x25_3 x26_3 x382000_3 x382001_3 t385 t386)) = some r := H
                            have A178 := am A1780
                            clear A1780
                            have HC179 := am H
                            clear H
                            have p382 : 0 ≤ (x26_3 : Int) := of_decide_eq_true (by first | (with_reducible assumption) | assumption)
                            have q382 : x26_3 < (l5.length : Int) := of_decide_eq_true (by first | (with_reducible assumption) | assumption)
                            obtain ⟨ad382, e382, hx382_0, hx382_1⟩ := at_T24 HR5.out x26_3 p382 q382
                            cases e382
                            replace hx382_0 := (HB.out.cell (World.block_lt_of_cell? w _ hx382_0)).trans hx382_0
                            replace hx382_1 := (HB.out.cell (World.block_lt_of_cell? w _ hx382_1)).trans hx382_1
                            replace p382 := eq_true p382
                            replace q382 := eq_true q382
                            try go_wp2_with (first | ((with_reducible refine gate_callee (f := 9) rfl ?_); refine goesL_ (some 119) rfl rfl Try.func9 (by kernel_rfl) rfl #[.agg #[.int .u32 ((rd_T24 l5 x26_3).f0), .int .u32 ((rd_T24 l5 x26_3).f1)]] rfl (by (try simp only [List.map_toArray, List.map_cons, List.map_nil]); first | done | rfl | (simp only [List.length_drop, List.length_take]; rfl)) ?_; (with_reducible refine (interval_Check.calls ((rd_T24 l5 x26_3).f0) ((rd_T24 l5 x26_3).f1) t383 _ A176.out).mono ?_); rintro e w180 ⟨rfl, hb⟩; refine ⟨_, rfl, ?_⟩; have n0_ := am (blk_below (g := gb344) (o := .cells #[.int .u32 a0_0, .int .u32 a0_1] 24 (0, 0)) (bkA BK344) hb); have n1_ := am (blk_below (g := gb345) (o := .cells #[.int .u32 a1_0, .int .u32 a1_1] 24 (0, 0)) (bkA BK345) hb); have n2_ := am (blk_below (g := gb346) (o := .cells #[.int .u32 a2_0, .int .u32 a2_1] 24 (0, 0)) (bkA BK346) hb); have n3_ := am (blk_below (g := gb347) (o := .cells #[.int .u32 a3_0, .int .u32 a3_1] 24 (0, 0)) (bkA BK347) hb); have n4_ := am (blk_below (g := gb358) (o := .cells #[.int .u32 t354, .int .u32 t355] 24 (0, 0)) (bkA BK358) hb); have n5_ := am (blk_below (g := gb367) (o := .cells #[.int .u32 t363, .int .u32 t364] 24 (0, 0)) (bkA BK367) hb); have n6_ := am (blk_below (g := gb373) (o := .cells #[.int .u32 t370, .int .u32 t371] 24 (0, 0)) (bkA BK373) hb); have n7_ := am (blk_below (g := gb379) (o := .cells #[.int .u32 t376, .int .u32 t377] 24 (0, 0)) (bkA BK379) hb); have n8_ := am (blk_below (g := gb381) (o := .cells #[.int .u32 x382000_3, .int .u32 x382001_3] 24 (0, 0)) (bkA BK381) hb); have n9_ := am (below_step (hbA HB) hb); clear BK344; clear BK345; clear BK346; clear BK347; clear BK358; clear BK367; clear BK373; clear BK379; clear BK381; clear HB; have BK344 := n0_; have BK345 := n1_; have BK346 := n2_; have BK347 := n3_; have BK358 := n4_; have BK367 := n5_; have BK373 := n6_; have BK379 := n7_; have BK381 := n8_; have HB := n9_; clear n0_ n1_ n2_ n3_ n4_ n5_ n6_ n7_ n8_ n9_; (try clear hb); (try clear hb2); (try clear hk); (try clear hi)))
                            have n0_ := am (blk_drew BK344.out)
                            have n1_ := am (blk_drew BK345.out)
                            have n2_ := am (blk_drew BK346.out)
                            have n3_ := am (blk_drew BK347.out)
                            have n4_ := am (blk_drew BK358.out)
                            have n5_ := am (blk_drew BK367.out)
                            have n6_ := am (blk_drew BK373.out)
                            have n7_ := am (blk_drew BK379.out)
                            have n8_ := am (blk_drew BK381.out)
                            have n9_ := am (below_drew1 HB.out)
                            clear BK344
                            clear BK345
                            clear BK346
                            clear BK347
                            clear BK358
                            clear BK367
                            clear BK373
                            clear BK379
                            clear BK381
                            clear HB
                            have BK344 := n0_
                            have BK345 := n1_
                            have BK346 := n2_
                            have BK347 := n3_
                            have BK358 := n4_
                            have BK367 := n5_
                            have BK373 := n6_
                            have BK379 := n7_
                            have BK381 := n8_
                            have HB := n9_
                            clear n0_ n1_ n2_ n3_ n4_ n5_ n6_ n7_ n8_ n9_
                            have p384 : 0 ≤ (x26_3 : Int) := of_decide_eq_true (by first | (with_reducible assumption) | assumption)
                            have q384 : x26_3 < (l5.length : Int) := of_decide_eq_true (by first | (with_reducible assumption) | assumption)
                            obtain ⟨ad384, e384, hx384_0, hx384_1⟩ := at_T24 HR5.out x26_3 p384 q384
                            have hw384_1 := hx384_1
                            have hw384_0 := hx384_0
                            obtain rfl : ad382 = ad384 := (by injection e384)
                            replace hx384_0 := (HB.out.cell (World.block_lt_of_cell? w _ hx384_0)).trans hx384_0
                            replace hx384_1 := (HB.out.cell (World.block_lt_of_cell? w _ hx384_1)).trans hx384_1
                            replace p384 := eq_true p384
                            replace q384 := eq_true q384
                            refine start_ (n := 8) (S := fun w' => w'.cell? ⟨gb381, 0, none⟩ = some (.int .u32 x382000_3) ∧ w'.cell? ⟨gb381, 1, none⟩ = some (.int .u32 x382001_3) ∧ w'.cell? (ad382.add ((x26_3).toNat * 2)) = some (.int .u32 ((rd_T24 l5 x26_3).f0)) ∧ w'.cell? ⟨(ad382.add ((x26_3).toNat * 2)).block, (ad382.add ((x26_3).toNat * 2)).off + 1, none⟩ = some (.int .u32 ((rd_T24 l5 x26_3).f1))) (ds := []) #[false, false, false, false, false, false, false, false] (by kernel_rfl) rfl rfl ⟨(blk_cell BK381.out 0).trans rfl, (blk_cell BK381.out 1).trans rfl, ((HB.out.cell (World.block_lt_of_cell? w _ hw384_0)).trans hw384_0), ((HB.out.cell (World.block_lt_of_cell? w _ hw384_1)).trans hw384_1)⟩ (fun hHeld => ?_); refine with_tabW lamplighterlaw19_IntervalGrows.tab20 lamplighterlaw19_IntervalGrows.bits20 (fun HT_ HW_ => ?_)
                            generalize w180.drew = w181 at BK344 BK345 BK346 BK347 BK358 BK367 BK373 BK379 BK381 HB hx384_0 hx384_1 hHeld ⊢
                            refine pure_ (i := 1) (N := some 122) (v := ?_) (a' := ?_) #[false, true, false, false, false, false, false, false] rfl rfl (any_of HT_.out (by kernel_rfl)) (fun _ _ _ h => h) (Or.inl ⟨by rfl, ?_⟩) ?_ ?_
                            rotate_left
                            · intro w'
                              go_simp
                              with_reducible rfl
                            rotate_left
                            · simp only [Act.put, List.setIfInBounds_toArray, List.set_cons_zero, List.set_cons_succ, i64_w, i32_w]
                              rfl
                            refine pure_ (i := 2) (N := some 123) (v := ?_) (a' := ?_) #[false, true, true, false, false, false, false, false] rfl rfl (any_of HT_.out (by kernel_rfl)) (fun _ _ _ h => h) (Or.inl ⟨by rfl, ?_⟩) ?_ ?_
                            rotate_left
                            · intro w'
                              go_simp
                              with_reducible rfl
                            rotate_left
                            · simp only [Act.put, List.setIfInBounds_toArray, List.set_cons_zero, List.set_cons_succ, i64_w, i32_w]
                              rfl
                            refine pure_ (i := 3) (N := some 124) (v := ?_) (a' := ?_) #[false, true, true, true, false, false, false, false] rfl rfl (any_of HT_.out (by kernel_rfl)) (fun _ _ _ h => h) (Or.inl ⟨by rfl, ?_⟩) ?_ ?_
                            rotate_left
                            · intro w'
                              go_simp
                              with_reducible rfl
                            rotate_left
                            · simp only [Act.put, List.setIfInBounds_toArray, List.set_cons_zero, List.set_cons_succ, i64_w, i32_w]
                              rfl
                            refine take_ (i := 0) (N := some 121) (v := ?_) (a' := ?_) #[true, true, true, true, false, false, false, false] rfl rfl (take_ofW HT_.out HW_.out (by kernel_rfl)) (fun _ _ _ h => h) (Or.inl ⟨by rfl, ?_⟩) hHeld ?_ ?_
                            rotate_left
                            · rintro w' ⟨s0, s1, s2, s3⟩
                              go_simp
                              with_reducible rfl
                            rotate_left
                            · simp only [Act.put, List.setIfInBounds_toArray, List.set_cons_zero, List.set_cons_succ, i64_w, i32_w]
                              rfl
                            refine take_ (i := 4) (N := some 125) (v := ?_) (a' := ?_) #[true, true, true, true, true, false, false, false] rfl rfl (take_ofW HT_.out HW_.out (by kernel_rfl)) (fun _ _ _ h => h) (Or.inl ⟨by rfl, ?_⟩) hHeld ?_ ?_
                            rotate_left
                            · rintro w' ⟨s0, s1, s2, s3⟩
                              go_simp
                              with_reducible rfl
                            rotate_left
                            · simp only [Act.put, List.setIfInBounds_toArray, List.set_cons_zero, List.set_cons_succ, i64_w, i32_w]
                              rfl
                            refine join_ (σ := Nat) 1 #[true, true, true, true, true, true, true, false] (fun s_ => [(126, .agg #[.int .u32 t385, .int .u32 t386]), (27, .pointer (some ⟨s_, 0, none⟩))]) (fun s_ w' => (w'.cell? ⟨gb381, 0, none⟩ = some (.int .u32 x382000_3) ∧ w'.cell? ⟨gb381, 1, none⟩ = some (.int .u32 x382001_3) ∧ w'.cell? (ad382.add ((x26_3).toNat * 2)) = some (.int .u32 ((rd_T24 l5 x26_3).f0)) ∧ w'.cell? ⟨(ad382.add ((x26_3).toNat * 2)).block, (ad382.add ((x26_3).toNat * 2)).off + 1, none⟩ = some (.int .u32 ((rd_T24 l5 x26_3).f1))) ∧ (w'.heap[gb344]? = some (.cells #[.int .u32 a0_0, .int .u32 a0_1] 24 (0, 0))) ∧ (w'.heap[gb345]? = some (.cells #[.int .u32 a1_0, .int .u32 a1_1] 24 (0, 0))) ∧ (w'.heap[gb346]? = some (.cells #[.int .u32 a2_0, .int .u32 a2_1] 24 (0, 0))) ∧ (w'.heap[gb347]? = some (.cells #[.int .u32 a3_0, .int .u32 a3_1] 24 (0, 0))) ∧ (w'.heap[gb358]? = some (.cells #[.int .u32 t354, .int .u32 t355] 24 (0, 0))) ∧ (w'.heap[gb367]? = some (.cells #[.int .u32 t363, .int .u32 t364] 24 (0, 0))) ∧ (w'.heap[gb373]? = some (.cells #[.int .u32 t370, .int .u32 t371] 24 (0, 0))) ∧ (w'.heap[gb379]? = some (.cells #[.int .u32 t376, .int .u32 t377] 24 (0, 0))) ∧ (w'.heap[gb381]? = some (.cells #[.int .u32 x382000_3, .int .u32 x382001_3] 24 (0, 0))) ∧ (w'.heap[s_]? = some (.cells #[.int .u32 0, .int .u32 0] 24 (0, 0))) ∧ (w.heap.size ≤ s_) ∧ (w.heap.size ≤ s_) ∧ (gb344 ≠ s_) ∧ (s_ ≠ gb344) ∧ (gb345 ≠ s_) ∧ (s_ ≠ gb345) ∧ (gb346 ≠ s_) ∧ (s_ ≠ gb346) ∧ (gb347 ≠ s_) ∧ (s_ ≠ gb347) ∧ (gb358 ≠ s_) ∧ (s_ ≠ gb358) ∧ (gb367 ≠ s_) ∧ (s_ ≠ gb367) ∧ (gb373 ≠ s_) ∧ (s_ ≠ gb373) ∧ (gb379 ≠ s_) ∧ (s_ ≠ gb379) ∧ (gb381 ≠ s_) ∧ (s_ ≠ gb381) ∧ (Below w.heap.size w w')) ?_ ?_
                            rotate_left
                            · intro hCont
                              refine two_ (i := 5) (j := 6) (Ni := some 126) (Nj := some 27) #[true, true, true, true, true, true, false, false] #[true, true, true, true, true, false, true, false] rfl rfl rfl rfl (two_of HT_.out (by kernel_rfl)) (by decide) (by decide) (fun K hK => ?_) (fun K hK => ?_)
                              · skip
                                refine goes_ Try.func15 (by kernel_rfl) rfl #[.agg #[.int .u32 x382000_3, .int .u32 x382001_3], .agg #[.int .u32 ((rd_T24 l5 x26_3).f0), .int .u32 ((rd_T24 l5 x26_3).f1)]] (by rfl) rfl rfl (by (try simp only [List.map_toArray, List.map_cons, List.map_nil]); first | done | rfl | (simp only [List.length_drop, List.length_take]; rfl)) ?_
                                with_reducible refine (interval_Widen.calls k3 x382000_3 x382001_3 ((rd_T24 l5 x26_3).f0) ((rd_T24 l5 x26_3).f1) t385 t386 _ A178.out).mono ?_
                                rintro e w182 ⟨rfl, hb⟩
                                refine ⟨_, rfl, ?_⟩
                                have n0_ := am (blk_below (g := gb344) (o := .cells #[.int .u32 a0_0, .int .u32 a0_1] 24 (0, 0)) (bkA BK344) hb)
                                have n1_ := am (blk_below (g := gb345) (o := .cells #[.int .u32 a1_0, .int .u32 a1_1] 24 (0, 0)) (bkA BK345) hb)
                                have n2_ := am (blk_below (g := gb346) (o := .cells #[.int .u32 a2_0, .int .u32 a2_1] 24 (0, 0)) (bkA BK346) hb)
                                have n3_ := am (blk_below (g := gb347) (o := .cells #[.int .u32 a3_0, .int .u32 a3_1] 24 (0, 0)) (bkA BK347) hb)
                                have n4_ := am (blk_below (g := gb358) (o := .cells #[.int .u32 t354, .int .u32 t355] 24 (0, 0)) (bkA BK358) hb)
                                have n5_ := am (blk_below (g := gb367) (o := .cells #[.int .u32 t363, .int .u32 t364] 24 (0, 0)) (bkA BK367) hb)
                                have n6_ := am (blk_below (g := gb373) (o := .cells #[.int .u32 t370, .int .u32 t371] 24 (0, 0)) (bkA BK373) hb)
                                have n7_ := am (blk_below (g := gb379) (o := .cells #[.int .u32 t376, .int .u32 t377] 24 (0, 0)) (bkA BK379) hb)
                                have n8_ := am (blk_below (g := gb381) (o := .cells #[.int .u32 x382000_3, .int .u32 x382001_3] 24 (0, 0)) (bkA BK381) hb)
                                have n9_ := am (below_step (hbA HB) hb)
                                clear BK344
                                clear BK345
                                clear BK346
                                clear BK347
                                clear BK358
                                clear BK367
                                clear BK373
                                clear BK379
                                clear BK381
                                clear HB
                                have BK344 := n0_
                                have BK345 := n1_
                                have BK346 := n2_
                                have BK347 := n3_
                                have BK358 := n4_
                                have BK367 := n5_
                                have BK373 := n6_
                                have BK379 := n7_
                                have BK381 := n8_
                                have HB := n9_
                                clear n0_ n1_ n2_ n3_ n4_ n5_ n6_ n7_ n8_ n9_
                                (try clear hb)
                                (try clear hb2)
                                (try clear hk)
                                (try clear hi)
                                refine hK.out _ _ ⟨(blk_cell BK381.out 0).trans rfl, (blk_cell BK381.out 1).trans rfl, ((HB.out.cell (World.block_lt_of_cell? w _ hw384_0)).trans hw384_0), ((HB.out.cell (World.block_lt_of_cell? w _ hw384_1)).trans hw384_1)⟩ (fun hHeld => ?_)
                                clear hK K
                                refine norm_ (a' := ?_) ?_ ?_
                                rotate_left
                                · show Act.put _ (some 126) _ = _
                                  simp only [Act.put, List.setIfInBounds_toArray, List.set_cons_zero, List.set_cons_succ, i64_w, i32_w]
                                  rfl
                                refine one_ (i := 6) (N := some 27) #[true, true, true, true, true, true, true, false] rfl rfl (one_of HT_.out (by kernel_rfl)) (by decide) (fun K hK => ?_)
                                refine box_step ?hg (N := 27) ?hd (cs := #[.int .u32 0, .int .u32 0]) (t := 24) ?hr ?_; (case hd => rfl); (case hg => rfl); (case hr => first | (go_simp; done) | (go_simp; rfl))
                                intro gb387 hg w183 hbox hb
                                have n0_ := am (blk_below (g := gb344) (o := .cells #[.int .u32 a0_0, .int .u32 a0_1] 24 (0, 0)) (bkA BK344) hb)
                                have n1_ := am (blk_below (g := gb345) (o := .cells #[.int .u32 a1_0, .int .u32 a1_1] 24 (0, 0)) (bkA BK345) hb)
                                have n2_ := am (blk_below (g := gb346) (o := .cells #[.int .u32 a2_0, .int .u32 a2_1] 24 (0, 0)) (bkA BK346) hb)
                                have n3_ := am (blk_below (g := gb347) (o := .cells #[.int .u32 a3_0, .int .u32 a3_1] 24 (0, 0)) (bkA BK347) hb)
                                have n4_ := am (blk_below (g := gb358) (o := .cells #[.int .u32 t354, .int .u32 t355] 24 (0, 0)) (bkA BK358) hb)
                                have n5_ := am (blk_below (g := gb367) (o := .cells #[.int .u32 t363, .int .u32 t364] 24 (0, 0)) (bkA BK367) hb)
                                have n6_ := am (blk_below (g := gb373) (o := .cells #[.int .u32 t370, .int .u32 t371] 24 (0, 0)) (bkA BK373) hb)
                                have n7_ := am (blk_below (g := gb379) (o := .cells #[.int .u32 t376, .int .u32 t377] 24 (0, 0)) (bkA BK379) hb)
                                have n8_ := am (blk_below (g := gb381) (o := .cells #[.int .u32 x382000_3, .int .u32 x382001_3] 24 (0, 0)) (bkA BK381) hb)
                                have n9_ := am (below_step (hbA HB) hb)
                                have n10_ := am (hbox)
                                have n11_ := gwA hg HB
                                have n12_ := gwA hg HB
                                have n13_ := ltA hg BK344
                                have n14_ := gtA hg BK344
                                have n15_ := ltA hg BK345
                                have n16_ := gtA hg BK345
                                have n17_ := ltA hg BK346
                                have n18_ := gtA hg BK346
                                have n19_ := ltA hg BK347
                                have n20_ := gtA hg BK347
                                have n21_ := ltA hg BK358
                                have n22_ := gtA hg BK358
                                have n23_ := ltA hg BK367
                                have n24_ := gtA hg BK367
                                have n25_ := ltA hg BK373
                                have n26_ := gtA hg BK373
                                have n27_ := ltA hg BK379
                                have n28_ := gtA hg BK379
                                have n29_ := ltA hg BK381
                                have n30_ := gtA hg BK381
                                clear BK344
                                clear BK345
                                clear BK346
                                clear BK347
                                clear BK358
                                clear BK367
                                clear BK373
                                clear BK379
                                clear BK381
                                clear HB
                                have BK344 := n0_
                                have BK345 := n1_
                                have BK346 := n2_
                                have BK347 := n3_
                                have BK358 := n4_
                                have BK367 := n5_
                                have BK373 := n6_
                                have BK379 := n7_
                                have BK381 := n8_
                                have HB := n9_
                                have BK387 := n10_
                                have GW387 := n11_
                                have GE387 := n12_
                                have NB344_387 := n13_
                                have NB387_344 := n14_
                                have NB345_387 := n15_
                                have NB387_345 := n16_
                                have NB346_387 := n17_
                                have NB387_346 := n18_
                                have NB347_387 := n19_
                                have NB387_347 := n20_
                                have NB358_387 := n21_
                                have NB387_358 := n22_
                                have NB367_387 := n23_
                                have NB387_367 := n24_
                                have NB373_387 := n25_
                                have NB387_373 := n26_
                                have NB379_387 := n27_
                                have NB387_379 := n28_
                                have NB381_387 := n29_
                                have NB387_381 := n30_
                                clear n0_ n1_ n2_ n3_ n4_ n5_ n6_ n7_ n8_ n9_ n10_ n11_ n12_ n13_ n14_ n15_ n16_ n17_ n18_ n19_ n20_ n21_ n22_ n23_ n24_ n25_ n26_ n27_ n28_ n29_ n30_
                                clear hb hbox hg
                                refine hK.out _ _ ⟨(blk_cell BK381.out 0).trans rfl, (blk_cell BK381.out 1).trans rfl, ((HB.out.cell (World.block_lt_of_cell? w _ hw384_0)).trans hw384_0), ((HB.out.cell (World.block_lt_of_cell? w _ hw384_1)).trans hw384_1)⟩ (fun hHeld => ?_)
                                clear hK K
                                refine norm_ (a' := ?_) ?_ ?_
                                rotate_left
                                · show Act.put _ (some 27) _ = _
                                  simp only [Act.put, List.setIfInBounds_toArray, List.set_cons_zero, List.set_cons_succ, i64_w, i32_w]
                                  rfl
                                exact norm_ (by simp only [putAll, Act.put, List.setIfInBounds_toArray, List.set_cons_zero, List.set_cons_succ]) (hCont (gb387) _ ⟨hHeld, (bkA BK344), (bkA BK345), (bkA BK346), (bkA BK347), (bkA BK358), (bkA BK367), (bkA BK373), (bkA BK379), (bkA BK381), (bkA BK387), GW387.out, GE387.out, NB344_387.out, NB387_344.out, NB345_387.out, NB387_345.out, NB346_387.out, NB387_346.out, NB347_387.out, NB387_347.out, NB358_387.out, NB387_358.out, NB367_387.out, NB387_367.out, NB373_387.out, NB387_373.out, NB379_387.out, NB387_379.out, NB381_387.out, NB387_381.out, (hbA HB)⟩)
                              · skip
                                refine box_step ?hg (N := 27) ?hd (cs := #[.int .u32 0, .int .u32 0]) (t := 24) ?hr ?_; (case hd => rfl); (case hg => rfl); (case hr => first | (go_simp; done) | (go_simp; rfl))
                                intro gb387 hg w182 hbox hb
                                have n0_ := am (blk_below (g := gb344) (o := .cells #[.int .u32 a0_0, .int .u32 a0_1] 24 (0, 0)) (bkA BK344) hb)
                                have n1_ := am (blk_below (g := gb345) (o := .cells #[.int .u32 a1_0, .int .u32 a1_1] 24 (0, 0)) (bkA BK345) hb)
                                have n2_ := am (blk_below (g := gb346) (o := .cells #[.int .u32 a2_0, .int .u32 a2_1] 24 (0, 0)) (bkA BK346) hb)
                                have n3_ := am (blk_below (g := gb347) (o := .cells #[.int .u32 a3_0, .int .u32 a3_1] 24 (0, 0)) (bkA BK347) hb)
                                have n4_ := am (blk_below (g := gb358) (o := .cells #[.int .u32 t354, .int .u32 t355] 24 (0, 0)) (bkA BK358) hb)
                                have n5_ := am (blk_below (g := gb367) (o := .cells #[.int .u32 t363, .int .u32 t364] 24 (0, 0)) (bkA BK367) hb)
                                have n6_ := am (blk_below (g := gb373) (o := .cells #[.int .u32 t370, .int .u32 t371] 24 (0, 0)) (bkA BK373) hb)
                                have n7_ := am (blk_below (g := gb379) (o := .cells #[.int .u32 t376, .int .u32 t377] 24 (0, 0)) (bkA BK379) hb)
                                have n8_ := am (blk_below (g := gb381) (o := .cells #[.int .u32 x382000_3, .int .u32 x382001_3] 24 (0, 0)) (bkA BK381) hb)
                                have n9_ := am (below_step (hbA HB) hb)
                                have n10_ := am (hbox)
                                have n11_ := gwA hg HB
                                have n12_ := gwA hg HB
                                have n13_ := ltA hg BK344
                                have n14_ := gtA hg BK344
                                have n15_ := ltA hg BK345
                                have n16_ := gtA hg BK345
                                have n17_ := ltA hg BK346
                                have n18_ := gtA hg BK346
                                have n19_ := ltA hg BK347
                                have n20_ := gtA hg BK347
                                have n21_ := ltA hg BK358
                                have n22_ := gtA hg BK358
                                have n23_ := ltA hg BK367
                                have n24_ := gtA hg BK367
                                have n25_ := ltA hg BK373
                                have n26_ := gtA hg BK373
                                have n27_ := ltA hg BK379
                                have n28_ := gtA hg BK379
                                have n29_ := ltA hg BK381
                                have n30_ := gtA hg BK381
                                clear BK344
                                clear BK345
                                clear BK346
                                clear BK347
                                clear BK358
                                clear BK367
                                clear BK373
                                clear BK379
                                clear BK381
                                clear HB
                                have BK344 := n0_
                                have BK345 := n1_
                                have BK346 := n2_
                                have BK347 := n3_
                                have BK358 := n4_
                                have BK367 := n5_
                                have BK373 := n6_
                                have BK379 := n7_
                                have BK381 := n8_
                                have HB := n9_
                                have BK387 := n10_
                                have GW387 := n11_
                                have GE387 := n12_
                                have NB344_387 := n13_
                                have NB387_344 := n14_
                                have NB345_387 := n15_
                                have NB387_345 := n16_
                                have NB346_387 := n17_
                                have NB387_346 := n18_
                                have NB347_387 := n19_
                                have NB387_347 := n20_
                                have NB358_387 := n21_
                                have NB387_358 := n22_
                                have NB367_387 := n23_
                                have NB387_367 := n24_
                                have NB373_387 := n25_
                                have NB387_373 := n26_
                                have NB379_387 := n27_
                                have NB387_379 := n28_
                                have NB381_387 := n29_
                                have NB387_381 := n30_
                                clear n0_ n1_ n2_ n3_ n4_ n5_ n6_ n7_ n8_ n9_ n10_ n11_ n12_ n13_ n14_ n15_ n16_ n17_ n18_ n19_ n20_ n21_ n22_ n23_ n24_ n25_ n26_ n27_ n28_ n29_ n30_
                                clear hb hbox hg
                                refine hK.out _ _ ⟨(blk_cell BK381.out 0).trans rfl, (blk_cell BK381.out 1).trans rfl, ((HB.out.cell (World.block_lt_of_cell? w _ hw384_0)).trans hw384_0), ((HB.out.cell (World.block_lt_of_cell? w _ hw384_1)).trans hw384_1)⟩ (fun hHeld => ?_)
                                clear hK K
                                refine norm_ (a' := ?_) ?_ ?_
                                rotate_left
                                · show Act.put _ (some 27) _ = _
                                  simp only [Act.put, List.setIfInBounds_toArray, List.set_cons_zero, List.set_cons_succ, i64_w, i32_w]
                                  rfl
                                refine one_ (i := 5) (N := some 126) #[true, true, true, true, true, true, true, false] rfl rfl (one_of HT_.out (by kernel_rfl)) (by decide) (fun K hK => ?_)
                                refine goes_ Try.func15 (by kernel_rfl) rfl #[.agg #[.int .u32 x382000_3, .int .u32 x382001_3], .agg #[.int .u32 ((rd_T24 l5 x26_3).f0), .int .u32 ((rd_T24 l5 x26_3).f1)]] (by rfl) rfl rfl (by (try simp only [List.map_toArray, List.map_cons, List.map_nil]); first | done | rfl | (simp only [List.length_drop, List.length_take]; rfl)) ?_
                                with_reducible refine (interval_Widen.calls k3 x382000_3 x382001_3 ((rd_T24 l5 x26_3).f0) ((rd_T24 l5 x26_3).f1) t385 t386 _ A178.out).mono ?_
                                rintro e w183 ⟨rfl, hb⟩
                                refine ⟨_, rfl, ?_⟩
                                have n0_ := am (blk_below (g := gb344) (o := .cells #[.int .u32 a0_0, .int .u32 a0_1] 24 (0, 0)) (bkA BK344) hb)
                                have n1_ := am (blk_below (g := gb345) (o := .cells #[.int .u32 a1_0, .int .u32 a1_1] 24 (0, 0)) (bkA BK345) hb)
                                have n2_ := am (blk_below (g := gb346) (o := .cells #[.int .u32 a2_0, .int .u32 a2_1] 24 (0, 0)) (bkA BK346) hb)
                                have n3_ := am (blk_below (g := gb347) (o := .cells #[.int .u32 a3_0, .int .u32 a3_1] 24 (0, 0)) (bkA BK347) hb)
                                have n4_ := am (blk_below (g := gb358) (o := .cells #[.int .u32 t354, .int .u32 t355] 24 (0, 0)) (bkA BK358) hb)
                                have n5_ := am (blk_below (g := gb367) (o := .cells #[.int .u32 t363, .int .u32 t364] 24 (0, 0)) (bkA BK367) hb)
                                have n6_ := am (blk_below (g := gb373) (o := .cells #[.int .u32 t370, .int .u32 t371] 24 (0, 0)) (bkA BK373) hb)
                                have n7_ := am (blk_below (g := gb379) (o := .cells #[.int .u32 t376, .int .u32 t377] 24 (0, 0)) (bkA BK379) hb)
                                have n8_ := am (blk_below (g := gb381) (o := .cells #[.int .u32 x382000_3, .int .u32 x382001_3] 24 (0, 0)) (bkA BK381) hb)
                                have n9_ := am (blk_below (g := gb387) (o := .cells #[.int .u32 0, .int .u32 0] 24 (0, 0)) (bkA BK387) hb)
                                have n10_ := am (below_step (hbA HB) hb)
                                clear BK344
                                clear BK345
                                clear BK346
                                clear BK347
                                clear BK358
                                clear BK367
                                clear BK373
                                clear BK379
                                clear BK381
                                clear BK387
                                clear HB
                                have BK344 := n0_
                                have BK345 := n1_
                                have BK346 := n2_
                                have BK347 := n3_
                                have BK358 := n4_
                                have BK367 := n5_
                                have BK373 := n6_
                                have BK379 := n7_
                                have BK381 := n8_
                                have BK387 := n9_
                                have HB := n10_
                                clear n0_ n1_ n2_ n3_ n4_ n5_ n6_ n7_ n8_ n9_ n10_
                                (try clear hb)
                                (try clear hb2)
                                (try clear hk)
                                (try clear hi)
                                refine hK.out _ _ ⟨(blk_cell BK381.out 0).trans rfl, (blk_cell BK381.out 1).trans rfl, ((HB.out.cell (World.block_lt_of_cell? w _ hw384_0)).trans hw384_0), ((HB.out.cell (World.block_lt_of_cell? w _ hw384_1)).trans hw384_1)⟩ (fun hHeld => ?_)
                                clear hK K
                                refine norm_ (a' := ?_) ?_ ?_
                                rotate_left
                                · show Act.put _ (some 126) _ = _
                                  simp only [Act.put, List.setIfInBounds_toArray, List.set_cons_zero, List.set_cons_succ, i64_w, i32_w]
                                  rfl
                                exact norm_ (by simp only [putAll, Act.put, List.setIfInBounds_toArray, List.set_cons_zero, List.set_cons_succ]) (hCont (gb387) _ ⟨hHeld, (bkA BK344), (bkA BK345), (bkA BK346), (bkA BK347), (bkA BK358), (bkA BK367), (bkA BK373), (bkA BK379), (bkA BK381), (bkA BK387), GW387.out, GE387.out, NB344_387.out, NB387_344.out, NB345_387.out, NB387_345.out, NB346_387.out, NB387_346.out, NB347_387.out, NB387_347.out, NB358_387.out, NB387_358.out, NB367_387.out, NB387_367.out, NB373_387.out, NB387_373.out, NB379_387.out, NB387_379.out, NB381_387.out, NB387_381.out, (hbA HB)⟩)
                            rintro gb387 w184 ⟨hS_, h0_, h1_, h2_, h3_, h4_, h5_, h6_, h7_, h8_, h9_, h10_, h11_, h12_, h13_, h14_, h15_, h16_, h17_, h18_, h19_, h20_, h21_, h22_, h23_, h24_, h25_, h26_, h27_, h28_, h29_, h30_⟩
                            have n0_ : Aside0 (w184.heap[gb344]? = some (.cells #[.int .u32 a0_0, .int .u32 a0_1] 24 (0, 0))) := ⟨h0_⟩
                            have n1_ : Aside0 (w184.heap[gb345]? = some (.cells #[.int .u32 a1_0, .int .u32 a1_1] 24 (0, 0))) := ⟨h1_⟩
                            have n2_ : Aside0 (w184.heap[gb346]? = some (.cells #[.int .u32 a2_0, .int .u32 a2_1] 24 (0, 0))) := ⟨h2_⟩
                            have n3_ : Aside0 (w184.heap[gb347]? = some (.cells #[.int .u32 a3_0, .int .u32 a3_1] 24 (0, 0))) := ⟨h3_⟩
                            have n4_ : Aside0 (w184.heap[gb358]? = some (.cells #[.int .u32 t354, .int .u32 t355] 24 (0, 0))) := ⟨h4_⟩
                            have n5_ : Aside0 (w184.heap[gb367]? = some (.cells #[.int .u32 t363, .int .u32 t364] 24 (0, 0))) := ⟨h5_⟩
                            have n6_ : Aside0 (w184.heap[gb373]? = some (.cells #[.int .u32 t370, .int .u32 t371] 24 (0, 0))) := ⟨h6_⟩
                            have n7_ : Aside0 (w184.heap[gb379]? = some (.cells #[.int .u32 t376, .int .u32 t377] 24 (0, 0))) := ⟨h7_⟩
                            have n8_ : Aside0 (w184.heap[gb381]? = some (.cells #[.int .u32 x382000_3, .int .u32 x382001_3] 24 (0, 0))) := ⟨h8_⟩
                            have n9_ : Aside0 (w184.heap[gb387]? = some (.cells #[.int .u32 0, .int .u32 0] 24 (0, 0))) := ⟨h9_⟩
                            have n10_ : Aside0 (w.heap.size ≤ gb387) := ⟨h10_⟩
                            have n11_ : Aside0 (w.heap.size ≤ gb387) := ⟨h11_⟩
                            have n12_ : Aside0 (gb344 ≠ gb387) := ⟨h12_⟩
                            have n13_ : Aside0 (gb387 ≠ gb344) := ⟨h13_⟩
                            have n14_ : Aside0 (gb345 ≠ gb387) := ⟨h14_⟩
                            have n15_ : Aside0 (gb387 ≠ gb345) := ⟨h15_⟩
                            have n16_ : Aside0 (gb346 ≠ gb387) := ⟨h16_⟩
                            have n17_ : Aside0 (gb387 ≠ gb346) := ⟨h17_⟩
                            have n18_ : Aside0 (gb347 ≠ gb387) := ⟨h18_⟩
                            have n19_ : Aside0 (gb387 ≠ gb347) := ⟨h19_⟩
                            have n20_ : Aside0 (gb358 ≠ gb387) := ⟨h20_⟩
                            have n21_ : Aside0 (gb387 ≠ gb358) := ⟨h21_⟩
                            have n22_ : Aside0 (gb367 ≠ gb387) := ⟨h22_⟩
                            have n23_ : Aside0 (gb387 ≠ gb367) := ⟨h23_⟩
                            have n24_ : Aside0 (gb373 ≠ gb387) := ⟨h24_⟩
                            have n25_ : Aside0 (gb387 ≠ gb373) := ⟨h25_⟩
                            have n26_ : Aside0 (gb379 ≠ gb387) := ⟨h26_⟩
                            have n27_ : Aside0 (gb387 ≠ gb379) := ⟨h27_⟩
                            have n28_ : Aside0 (gb381 ≠ gb387) := ⟨h28_⟩
                            have n29_ : Aside0 (gb387 ≠ gb381) := ⟨h29_⟩
                            have n30_ : Aside0 (Below w.heap.size w w184) := ⟨h30_⟩
                            clear BK344
                            clear BK345
                            clear BK346
                            clear BK347
                            clear BK358
                            clear BK367
                            clear BK373
                            clear BK379
                            clear BK381
                            clear HB
                            clear h0_ h1_ h2_ h3_ h4_ h5_ h6_ h7_ h8_ h9_ h10_ h11_ h12_ h13_ h14_ h15_ h16_ h17_ h18_ h19_ h20_ h21_ h22_ h23_ h24_ h25_ h26_ h27_ h28_ h29_ h30_
                            have BK344 := n0_
                            have BK345 := n1_
                            have BK346 := n2_
                            have BK347 := n3_
                            have BK358 := n4_
                            have BK367 := n5_
                            have BK373 := n6_
                            have BK379 := n7_
                            have BK381 := n8_
                            have BK387 := n9_
                            have GW387 := n10_
                            have GE387 := n11_
                            have NB344_387 := n12_
                            have NB387_344 := n13_
                            have NB345_387 := n14_
                            have NB387_345 := n15_
                            have NB346_387 := n16_
                            have NB387_346 := n17_
                            have NB347_387 := n18_
                            have NB387_347 := n19_
                            have NB358_387 := n20_
                            have NB387_358 := n21_
                            have NB367_387 := n22_
                            have NB387_367 := n23_
                            have NB373_387 := n24_
                            have NB387_373 := n25_
                            have NB379_387 := n26_
                            have NB387_379 := n27_
                            have NB381_387 := n28_
                            have NB387_381 := n29_
                            have HB := n30_
                            clear n0_ n1_ n2_ n3_ n4_ n5_ n6_ n7_ n8_ n9_ n10_ n11_ n12_ n13_ n14_ n15_ n16_ n17_ n18_ n19_ n20_ n21_ n22_ n23_ n24_ n25_ n26_ n27_ n28_ n29_ n30_
                            have hHeld : w184.cell? ⟨gb381, 0, none⟩ = some (.int .u32 x382000_3) ∧ w184.cell? ⟨gb381, 1, none⟩ = some (.int .u32 x382001_3) ∧ w184.cell? (ad382.add ((x26_3).toNat * 2)) = some (.int .u32 ((rd_T24 l5 x26_3).f0)) ∧ w184.cell? ⟨(ad382.add ((x26_3).toNat * 2)).block, (ad382.add ((x26_3).toNat * 2)).off + 1, none⟩ = some (.int .u32 ((rd_T24 l5 x26_3).f1)) := hS_
                            refine norm_ (a' := ?_) ?_ ?_
                            rotate_left
                            · simp only [putAll, Act.put, List.setIfInBounds_toArray, List.set_cons_zero, List.set_cons_succ]
                              rfl
                            refine one_ (i := 7) (N := none) #[true, true, true, true, true, true, true, true] rfl rfl (one_of HT_.out (by kernel_rfl)) (by decide) (fun K hK => ?_)
                            have hs185 : w184.cell? ⟨gb387, 0, none⟩ = some (.int .u32 0) := cz BK387
                            have hfs185 := blk_frozen BK387.out 0
                            have hns185_0 := NB344_387.out
                            have hns185_1 := NB345_387.out
                            have hns185_2 := NB346_387.out
                            have hns185_3 := NB347_387.out
                            have hns185_4 := NB358_387.out
                            have hns185_5 := NB367_387.out
                            have hns185_6 := NB373_387.out
                            have hns185_7 := NB379_387.out
                            have hns185_8 := NB381_387.out
                            have hms185_0 := NB387_344.out
                            have hms185_1 := NB387_345.out
                            have hms185_2 := NB387_346.out
                            have hms185_3 := NB387_347.out
                            have hms185_4 := NB387_358.out
                            have hms185_5 := NB387_367.out
                            have hms185_6 := NB387_373.out
                            have hms185_7 := NB387_379.out
                            have hms185_8 := NB387_381.out
                            have hs186 : w184.cell? ⟨gb387, 1, none⟩ = some (.int .u32 0) := cz BK387
                            have hfs186 := blk_frozen BK387.out 1
                            have hns186_0 := NB344_387.out
                            have hns186_1 := NB345_387.out
                            have hns186_2 := NB346_387.out
                            have hns186_3 := NB347_387.out
                            have hns186_4 := NB358_387.out
                            have hns186_5 := NB367_387.out
                            have hns186_6 := NB373_387.out
                            have hns186_7 := NB379_387.out
                            have hns186_8 := NB381_387.out
                            have hms186_0 := NB387_344.out
                            have hms186_1 := NB387_345.out
                            have hms186_2 := NB387_346.out
                            have hms186_3 := NB387_347.out
                            have hms186_4 := NB387_358.out
                            have hms186_5 := NB387_367.out
                            have hms186_6 := NB387_373.out
                            have hms186_7 := NB387_379.out
                            have hms186_8 := NB387_381.out
                            refine skip_ (w1 := ?_) (by rfl) rfl ?_ ?_
                            rotate_left
                            · go_simp
                              rfl
                            refine hK.out _ _ ⟨((cell_far (p := ⟨gb387, _, none⟩) NB381_387.out _).trans (((cell_far (p := ⟨gb387, _, none⟩) NB381_387.out _).trans (hHeld.1)))), ((cell_far (p := ⟨gb387, _, none⟩) NB381_387.out _).trans (((cell_far (p := ⟨gb387, _, none⟩) NB381_387.out _).trans (hHeld.2.1)))), ((cell_far (p := ⟨gb387, _, none⟩) (by first | exact Nat.ne_of_lt (Nat.lt_of_lt_of_le (by have := World.block_lt_of_cell? _ _ hw384_0; first | rwa [add_block] at this | exact this) GW387.out) | (rw [add_block]; exact Nat.ne_of_lt (Nat.lt_of_lt_of_le (by have := World.block_lt_of_cell? _ _ hw384_0; first | rwa [add_block] at this | exact this) GW387.out)) | (show (Addr.add _ _).block ≠ _; rw [add_block]; exact Nat.ne_of_lt (Nat.lt_of_lt_of_le (by have := World.block_lt_of_cell? _ _ hw384_0; first | rwa [add_block] at this | exact this) GW387.out)) | (dsimp only; exact Nat.ne_of_lt (Nat.lt_of_lt_of_le (by have := World.block_lt_of_cell? _ _ hw384_0; first | rwa [add_block] at this | exact this) GW387.out))) _).trans (((cell_far (p := ⟨gb387, _, none⟩) (by first | exact Nat.ne_of_lt (Nat.lt_of_lt_of_le (by have := World.block_lt_of_cell? _ _ hw384_0; first | rwa [add_block] at this | exact this) GW387.out) | (rw [add_block]; exact Nat.ne_of_lt (Nat.lt_of_lt_of_le (by have := World.block_lt_of_cell? _ _ hw384_0; first | rwa [add_block] at this | exact this) GW387.out)) | (show (Addr.add _ _).block ≠ _; rw [add_block]; exact Nat.ne_of_lt (Nat.lt_of_lt_of_le (by have := World.block_lt_of_cell? _ _ hw384_0; first | rwa [add_block] at this | exact this) GW387.out)) | (dsimp only; exact Nat.ne_of_lt (Nat.lt_of_lt_of_le (by have := World.block_lt_of_cell? _ _ hw384_0; first | rwa [add_block] at this | exact this) GW387.out))) _).trans (hHeld.2.2.1)))), ((cell_far (p := ⟨gb387, _, none⟩) (by first | exact Nat.ne_of_lt (Nat.lt_of_lt_of_le (by have := World.block_lt_of_cell? _ _ hw384_1; first | rwa [add_block] at this | exact this) GW387.out) | (rw [add_block]; exact Nat.ne_of_lt (Nat.lt_of_lt_of_le (by have := World.block_lt_of_cell? _ _ hw384_1; first | rwa [add_block] at this | exact this) GW387.out)) | (show (Addr.add _ _).block ≠ _; rw [add_block]; exact Nat.ne_of_lt (Nat.lt_of_lt_of_le (by have := World.block_lt_of_cell? _ _ hw384_1; first | rwa [add_block] at this | exact this) GW387.out)) | (dsimp only; exact Nat.ne_of_lt (Nat.lt_of_lt_of_le (by have := World.block_lt_of_cell? _ _ hw384_1; first | rwa [add_block] at this | exact this) GW387.out))) _).trans (((cell_far (p := ⟨gb387, _, none⟩) (by first | exact Nat.ne_of_lt (Nat.lt_of_lt_of_le (by have := World.block_lt_of_cell? _ _ hw384_1; first | rwa [add_block] at this | exact this) GW387.out) | (rw [add_block]; exact Nat.ne_of_lt (Nat.lt_of_lt_of_le (by have := World.block_lt_of_cell? _ _ hw384_1; first | rwa [add_block] at this | exact this) GW387.out)) | (show (Addr.add _ _).block ≠ _; rw [add_block]; exact Nat.ne_of_lt (Nat.lt_of_lt_of_le (by have := World.block_lt_of_cell? _ _ hw384_1; first | rwa [add_block] at this | exact this) GW387.out)) | (dsimp only; exact Nat.ne_of_lt (Nat.lt_of_lt_of_le (by have := World.block_lt_of_cell? _ _ hw384_1; first | rwa [add_block] at this | exact this) GW387.out))) _).trans (hHeld.2.2.2))))⟩ (fun hHeld => ?_)
                            clear hK K
                            refine done_ (done_of HT_.out (by kernel_rfl)) ?_
                            have hnb187 := NB387_344.out
                            have hnc187 := NB344_387.out
                            have hnb188 := NB387_345.out
                            have hnc188 := NB345_387.out
                            have hnb189 := NB387_346.out
                            have hnc189 := NB346_387.out
                            have hnb190 := NB387_347.out
                            have hnc190 := NB347_387.out
                            have hnb191 := NB387_358.out
                            have hnc191 := NB358_387.out
                            have hnb192 := NB387_367.out
                            have hnc192 := NB367_387.out
                            have hnb193 := NB387_373.out
                            have hnc193 := NB373_387.out
                            have hnb194 := NB387_379.out
                            have hnc194 := NB379_387.out
                            have hnb195 := NB387_381.out
                            have hnc195 := NB381_387.out
                            have hcz196_0 : w184.cell? ⟨gb387, 0, none⟩ = some (.int .u32 0) := cz BK387
                            have hcz196_1 : w184.cell? ⟨gb387, 1, none⟩ = some (.int .u32 0) := cz BK387
                            have hfz196_0 := blk_frozen BK387.out 0
                            have hfz196_1 := blk_frozen BK387.out 1
                            have hnb197 := NB381_344.out
                            have hnc197 := NB344_381.out
                            have hnb198 := NB381_345.out
                            have hnc198 := NB345_381.out
                            have hnb199 := NB381_346.out
                            have hnc199 := NB346_381.out
                            have hnb200 := NB381_347.out
                            have hnc200 := NB347_381.out
                            have hnb201 := NB381_358.out
                            have hnc201 := NB358_381.out
                            have hnb202 := NB381_367.out
                            have hnc202 := NB367_381.out
                            have hnb203 := NB381_373.out
                            have hnc203 := NB373_381.out
                            have hnb204 := NB381_379.out
                            have hnc204 := NB379_381.out
                            have hcz205_0 : w184.cell? ⟨gb381, 0, none⟩ = some (.int .u32 x382000_3) := cz BK381
                            have hcz205_1 : w184.cell? ⟨gb381, 1, none⟩ = some (.int .u32 x382001_3) := cz BK381
                            have hfz205_0 := blk_frozen BK381.out 0
                            have hfz205_1 := blk_frozen BK381.out 1
                            go_upto_if 129 with (fail)
                            go_cut [25] (fun v25 wc => ∃ (kq : Nat) (x25_178 : Int), v25 = .int .i64 x25_178 ∧ Aside0 (lamplighterlaw19_IntervalGrows.j3 kq l5 x25_178 x26_3 x382000_3 x382001_3 t385 t386 = some r) ∧ Aside0 (kq ≤ k3) ∧ Aside0 (wc.heap[gb344]? = some (.cells #[.int .u32 a0_0, .int .u32 a0_1] 24 (0, 0))) ∧ Aside0 (wc.heap[gb345]? = some (.cells #[.int .u32 a1_0, .int .u32 a1_1] 24 (0, 0))) ∧ Aside0 (wc.heap[gb346]? = some (.cells #[.int .u32 a2_0, .int .u32 a2_1] 24 (0, 0))) ∧ Aside0 (wc.heap[gb347]? = some (.cells #[.int .u32 a3_0, .int .u32 a3_1] 24 (0, 0))) ∧ Aside0 (wc.heap[gb358]? = some (.cells #[.int .u32 t354, .int .u32 t355] 24 (0, 0))) ∧ Aside0 (wc.heap[gb367]? = some (.cells #[.int .u32 t363, .int .u32 t364] 24 (0, 0))) ∧ Aside0 (wc.heap[gb373]? = some (.cells #[.int .u32 t370, .int .u32 t371] 24 (0, 0))) ∧ Aside0 (wc.heap[gb379]? = some (.cells #[.int .u32 t376, .int .u32 t377] 24 (0, 0))) ∧ Aside0 (wc.heap[gb381]? = some (.cells #[.int .u32 x382000_3, .int .u32 x382001_3] 24 (0, 0))) ∧ Aside0 (wc.heap[gb387]? = some (.cells #[.int .u32 t385, .int .u32 t386] 24 (0, 0))) ∧ Aside0 (Below w.heap.size w wc))
                            case first =>
                              have H := HC179.out
                              clear HC179
                              by_cases c206 : (!(t385 == x382000_3) || (!(t386 == x382001_3))) = true
                              · rw [if_pos c206] at H
                                have c206b0 : (!(t385 == x382000_3) || (!(t386 == x382001_3))) = true := c206
                                clear c206
                                (first | rw [c206b0] | (simp only [i64_w, i32_w]; rw [c206b0]) | skip)
                                have H' := am H
                                clear H
                                go_wp2
                                go_meet
                                case rel => exact ⟨_, (wrap64 (x25_3 + 1)), (by first | rfl | (simp; done) | (simp [*]; done)), H', ⟨by have := HJ8.out; have := HJ82.out; have := HK3.out; first | omega | exact Nat.le_refl _⟩, ⟨by refine bkT ?_; refine blk_far ?_ NB344_387.out _; refine bkT ?_; refine blk_far ?_ NB344_387.out _; refine bkT ?_; exact BK344.out⟩, ⟨by refine bkT ?_; refine blk_far ?_ NB345_387.out _; refine bkT ?_; refine blk_far ?_ NB345_387.out _; refine bkT ?_; exact BK345.out⟩, ⟨by refine bkT ?_; refine blk_far ?_ NB346_387.out _; refine bkT ?_; refine blk_far ?_ NB346_387.out _; refine bkT ?_; exact BK346.out⟩, ⟨by refine bkT ?_; refine blk_far ?_ NB347_387.out _; refine bkT ?_; refine blk_far ?_ NB347_387.out _; refine bkT ?_; exact BK347.out⟩, ⟨by refine bkT ?_; refine blk_far ?_ NB358_387.out _; refine bkT ?_; refine blk_far ?_ NB358_387.out _; refine bkT ?_; exact BK358.out⟩, ⟨by refine bkT ?_; refine blk_far ?_ NB367_387.out _; refine bkT ?_; refine blk_far ?_ NB367_387.out _; refine bkT ?_; exact BK367.out⟩, ⟨by refine bkT ?_; refine blk_far ?_ NB373_387.out _; refine bkT ?_; refine blk_far ?_ NB373_387.out _; refine bkT ?_; exact BK373.out⟩, ⟨by refine bkT ?_; refine blk_far ?_ NB379_387.out _; refine bkT ?_; refine blk_far ?_ NB379_387.out _; refine bkT ?_; exact BK379.out⟩, ⟨by refine bkT ?_; refine blk_far ?_ NB381_387.out _; refine bkT ?_; refine blk_far ?_ NB381_387.out _; refine bkT ?_; exact BK381.out⟩, ⟨by refine bkT ?_; refine blk_put (cs := #[.int .u32 t385, .int .u32 0]) ?_ 1 _ rfl; refine bkT ?_; refine blk_put (cs := #[.int .u32 0, .int .u32 0]) ?_ 0 _ rfl; refine bkT ?_; exact BK387.out⟩, ⟨by repeat (first | (with_reducible first | exact HB.out | apply below_alloc | apply pw_below_drewN | apply below_drew1 | refine below_set ?_ GE344.out | refine below_set ?_ GE345.out | refine below_set ?_ GE346.out | refine below_set ?_ GE347.out | refine below_set ?_ GE358.out | refine below_set ?_ GE367.out | refine below_set ?_ GE373.out | refine below_set ?_ GE379.out | refine below_set ?_ GE381.out | refine below_set ?_ GE387.out) | exact HB.out)⟩⟩
                              · rw [if_neg c206] at H
                                have c206b0 : (!(t385 == x382000_3) || (!(t386 == x382001_3))) = false := by simpa using c206
                                clear c206
                                (first | rw [c206b0] | (simp only [i64_w, i32_w]; rw [c206b0]) | skip)
                                have H' := am H
                                clear H
                                go_wp2
                                go_meet
                                case rel => exact ⟨_, (x25_3), (by first | rfl | (simp; done) | (simp [*]; done)), H', ⟨by have := HJ8.out; have := HJ82.out; have := HK3.out; first | omega | exact Nat.le_refl _⟩, ⟨by refine bkT ?_; refine blk_far ?_ NB344_387.out _; refine bkT ?_; refine blk_far ?_ NB344_387.out _; refine bkT ?_; exact BK344.out⟩, ⟨by refine bkT ?_; refine blk_far ?_ NB345_387.out _; refine bkT ?_; refine blk_far ?_ NB345_387.out _; refine bkT ?_; exact BK345.out⟩, ⟨by refine bkT ?_; refine blk_far ?_ NB346_387.out _; refine bkT ?_; refine blk_far ?_ NB346_387.out _; refine bkT ?_; exact BK346.out⟩, ⟨by refine bkT ?_; refine blk_far ?_ NB347_387.out _; refine bkT ?_; refine blk_far ?_ NB347_387.out _; refine bkT ?_; exact BK347.out⟩, ⟨by refine bkT ?_; refine blk_far ?_ NB358_387.out _; refine bkT ?_; refine blk_far ?_ NB358_387.out _; refine bkT ?_; exact BK358.out⟩, ⟨by refine bkT ?_; refine blk_far ?_ NB367_387.out _; refine bkT ?_; refine blk_far ?_ NB367_387.out _; refine bkT ?_; exact BK367.out⟩, ⟨by refine bkT ?_; refine blk_far ?_ NB373_387.out _; refine bkT ?_; refine blk_far ?_ NB373_387.out _; refine bkT ?_; exact BK373.out⟩, ⟨by refine bkT ?_; refine blk_far ?_ NB379_387.out _; refine bkT ?_; refine blk_far ?_ NB379_387.out _; refine bkT ?_; exact BK379.out⟩, ⟨by refine bkT ?_; refine blk_far ?_ NB381_387.out _; refine bkT ?_; refine blk_far ?_ NB381_387.out _; refine bkT ?_; exact BK381.out⟩, ⟨by refine bkT ?_; refine blk_put (cs := #[.int .u32 t385, .int .u32 0]) ?_ 1 _ rfl; refine bkT ?_; refine blk_put (cs := #[.int .u32 0, .int .u32 0]) ?_ 0 _ rfl; refine bkT ?_; exact BK387.out⟩, ⟨by repeat (first | (with_reducible first | exact HB.out | apply below_alloc | apply pw_below_drewN | apply below_drew1 | refine below_set ?_ GE344.out | refine below_set ?_ GE345.out | refine below_set ?_ GE346.out | refine below_set ?_ GE347.out | refine below_set ?_ GE358.out | refine below_set ?_ GE367.out | refine below_set ?_ GE373.out | refine below_set ?_ GE379.out | refine below_set ?_ GE381.out | refine below_set ?_ GE387.out) | exact HB.out)⟩⟩
                            case rest =>
                              clear HC179
                              try clear c1
                              try clear c2
                              try clear p2
                              try clear p3
                              try clear q3
                              try clear hx3
                              try clear p6
                              try clear c9
                              try clear c15
                              try clear c17
                              try clear c18
                              try clear c19
                              try clear c20
                              try clear p38
                              try clear q38
                              try clear hx38
                              try clear p64
                              try clear c174
                              try clear c174b0
                              try clear c175
                              try clear c175b0
                              try clear c177
                              try clear c177b0
                              try clear c177b1
                              try clear c187
                              try clear c188
                              try clear c189
                              try clear c190
                              try clear c191
                              try clear c192
                              try clear c193
                              try clear c194
                              try clear c195
                              try clear c197
                              try clear c198
                              try clear c199
                              try clear c200
                              try clear c201
                              try clear c202
                              try clear c203
                              try clear c204
                              try clear c206
                              try clear c206b0
                              try clear hcz196_0
                              try clear hcz196_1
                              try clear hcz205_0
                              try clear hcz205_1
                              try clear hfz161_0
                              try clear hfz161_1
                              try clear hfz163_0
                              try clear hfz163_1
                              try clear hfz173_0
                              try clear hfz173_1
                              try clear hfz196_0
                              try clear hfz196_1
                              try clear hfz205_0
                              try clear hfz205_1
                              try clear hx382_0
                              try clear hx382_1
                              try clear hx384_0
                              try clear hx384_1
                              try clear p2
                              try clear p382
                              try clear p384
                              try clear p6
                              try clear p64
                              try clear q382
                              try clear q384
                              obtain ⟨kq, x25_178, rfl, HA, HJ178, BK344, BK345, BK346, BK347, BK358, BK367, BK373, BK379, BK381, BK387, HB⟩ := hcut
                              cases kq with
                              | zero => exact absurd HA.out (by simp [lamplighterlaw19_IntervalGrows.j3])
                              | succ kj178 =>
                                have H := HA.out
                                clear HA
                                simp only [lamplighterlaw19_IntervalGrows.j3] at H
                                by_cases c207 : 0 ≤ x26_3
                                · rw [if_pos c207] at H
                                  have c207b0 : decide (0 ≤ x26_3) = true := decide_eq_true c207
                                  clear c207
                                  by_cases c208 : x26_3 < (l5.length : Int)
                                  · rw [if_pos c208] at H
                                    have c208b0 : decide (x26_3 < (l5.length : Int)) = true := decide_eq_true c208
                                    clear c208
                                    replace H := Option.bind_eq_some_iff.mp H
                                    obtain ⟨t389, A2090, H⟩ := H
                                    replace H : (if t389 = true then ((interval_Within.f kj178 x382000_3 x382001_3 t385 t386).bind fun t390 => (if t390 = true then (lamplighterlaw19_IntervalGrows.l0 kj178 l5 x25_178 (wrap64 (x26_3 + 1)) t385 t386) else (some false))) else (some false)) = some r := H
                                    have A209 := am A2090
                                    clear A2090
                                    by_cases c210 : t389 = true
                                    · subst c210
                                      have H1 : ((interval_Within.f kj178 x382000_3 x382001_3 t385 t386).bind fun t390 => (if t390 = true then (lamplighterlaw19_IntervalGrows.l0 kj178 l5 x25_178 (wrap64 (x26_3 + 1)) t385 t386) else (some false))) = some r := by rw [if_pos rfl] at H; exact H
                                      clear H
                                      have H := H1
                                      clear H1
                                      replace H := Option.bind_eq_some_iff.mp H
                                      obtain ⟨t390, A2110, H⟩ := H
                                      replace H : (if t390 = true then (lamplighterlaw19_IntervalGrows.l0 kj178 l5 x25_178 (wrap64 (x26_3 + 1)) t385 t386) else (some false)) = some r := H
                                      have A211 := am A2110
                                      clear A2110
                                      by_cases c212 : t390 = true
                                      · subst c212
                                        have H1 : (lamplighterlaw19_IntervalGrows.l0 kj178 l5 x25_178 (wrap64 (x26_3 + 1)) t385 t386) = some r := by rw [if_pos rfl] at H; exact H
                                        clear H
                                        have H := H1
                                        clear H1
                                        have H' := am H
                                        clear H
                                        try go_wp2
                                        have n0_ := am (blk_drew BK344.out)
                                        have n1_ := am (blk_drew BK345.out)
                                        have n2_ := am (blk_drew BK346.out)
                                        have n3_ := am (blk_drew BK347.out)
                                        have n4_ := am (blk_drew BK358.out)
                                        have n5_ := am (blk_drew BK367.out)
                                        have n6_ := am (blk_drew BK373.out)
                                        have n7_ := am (blk_drew BK379.out)
                                        have n8_ := am (blk_drew BK381.out)
                                        have n9_ := am (blk_drew BK387.out)
                                        have n10_ := am (below_drew1 HB.out)
                                        clear BK344
                                        clear BK345
                                        clear BK346
                                        clear BK347
                                        clear BK358
                                        clear BK367
                                        clear BK373
                                        clear BK379
                                        clear BK381
                                        clear BK387
                                        clear HB
                                        have BK344 := n0_
                                        have BK345 := n1_
                                        have BK346 := n2_
                                        have BK347 := n3_
                                        have BK358 := n4_
                                        have BK367 := n5_
                                        have BK373 := n6_
                                        have BK379 := n7_
                                        have BK381 := n8_
                                        have BK387 := n9_
                                        have HB := n10_
                                        clear n0_ n1_ n2_ n3_ n4_ n5_ n6_ n7_ n8_ n9_ n10_
                                        have p388 : 0 ≤ (x26_3 : Int) := of_decide_eq_true (by first | (with_reducible assumption) | assumption)
                                        have q388 : x26_3 < (l5.length : Int) := of_decide_eq_true (by first | (with_reducible assumption) | assumption)
                                        obtain ⟨ad388, e388, hx388_0, hx388_1⟩ := at_T24 HR5.out x26_3 p388 q388
                                        have hw388_1 := hx388_1
                                        have hw388_0 := hx388_0
                                        obtain rfl : ad382 = ad388 := (by injection e388)
                                        replace hx388_0 := (HB.out.cell (World.block_lt_of_cell? w _ hx388_0)).trans hx388_0
                                        replace hx388_1 := (HB.out.cell (World.block_lt_of_cell? w _ hx388_1)).trans hx388_1
                                        replace p388 := eq_true p388
                                        replace q388 := eq_true q388
                                        refine start_ (n := 13) (S := fun w' => w'.cell? ⟨gb387, 0, none⟩ = some (.int .u32 t385) ∧ w'.cell? ⟨gb387, 1, none⟩ = some (.int .u32 t386) ∧ w'.cell? ⟨gb381, 0, none⟩ = some (.int .u32 x382000_3) ∧ w'.cell? ⟨gb381, 1, none⟩ = some (.int .u32 x382001_3) ∧ w'.cell? (ad382.add ((x26_3).toNat * 2)) = some (.int .u32 ((rd_T24 l5 x26_3).f0)) ∧ w'.cell? ⟨(ad382.add ((x26_3).toNat * 2)).block, (ad382.add ((x26_3).toNat * 2)).off + 1, none⟩ = some (.int .u32 ((rd_T24 l5 x26_3).f1))) (ds := []) #[false, false, false, false, false, false, false, false, false, false, false, false, false] (by kernel_rfl) rfl rfl ⟨(blk_cell BK387.out 0).trans rfl, (blk_cell BK387.out 1).trans rfl, (blk_cell BK381.out 0).trans rfl, (blk_cell BK381.out 1).trans rfl, ((HB.out.cell (World.block_lt_of_cell? w _ hw388_0)).trans hw388_0), ((HB.out.cell (World.block_lt_of_cell? w _ hw388_1)).trans hw388_1)⟩ (fun hHeld => ?_); refine with_tabW lamplighterlaw19_IntervalGrows.tab23 lamplighterlaw19_IntervalGrows.bits23 (fun HT_ HW_ => ?_)
                                        generalize wc.drew = w213 at BK344 BK345 BK346 BK347 BK358 BK367 BK373 BK379 BK381 BK387 HB hx388_0 hx388_1 hHeld ⊢
                                        refine pure_ (i := 0) (N := some 132) (v := ?_) (a' := ?_) #[true, false, false, false, false, false, false, false, false, false, false, false, false] rfl rfl (any_of HT_.out (by kernel_rfl)) (fun _ _ _ h => h) (Or.inl ⟨by rfl, ?_⟩) ?_ ?_
                                        rotate_left
                                        · intro w'
                                          go_simp
                                          with_reducible rfl
                                        rotate_left
                                        · simp only [Act.put, List.setIfInBounds_toArray, List.set_cons_zero, List.set_cons_succ, i64_w, i32_w]
                                          rfl
                                        refine pure_ (i := 1) (N := some 133) (v := ?_) (a' := ?_) #[true, true, false, false, false, false, false, false, false, false, false, false, false] rfl rfl (any_of HT_.out (by kernel_rfl)) (fun _ _ _ h => h) (Or.inl ⟨by rfl, ?_⟩) ?_ ?_
                                        rotate_left
                                        · intro w'
                                          go_simp
                                          with_reducible rfl
                                        rotate_left
                                        · simp only [Act.put, List.setIfInBounds_toArray, List.set_cons_zero, List.set_cons_succ, i64_w, i32_w]
                                          rfl
                                        refine pure_ (i := 2) (N := some 134) (v := ?_) (a' := ?_) #[true, true, true, false, false, false, false, false, false, false, false, false, false] rfl rfl (any_of HT_.out (by kernel_rfl)) (fun _ _ _ h => h) (Or.inl ⟨by rfl, ?_⟩) ?_ ?_
                                        rotate_left
                                        · intro w'
                                          go_simp
                                          with_reducible rfl
                                        rotate_left
                                        · simp only [Act.put, List.setIfInBounds_toArray, List.set_cons_zero, List.set_cons_succ, i64_w, i32_w]
                                          rfl
                                        refine take_ (i := 3) (N := some 135) (v := ?_) (a' := ?_) #[true, true, true, true, false, false, false, false, false, false, false, false, false] rfl rfl (take_ofW HT_.out HW_.out (by kernel_rfl)) (fun _ _ _ h => h) (Or.inl ⟨by rfl, ?_⟩) hHeld ?_ ?_
                                        rotate_left
                                        · rintro w' ⟨s0, s1, s2, s3, s4, s5⟩
                                          go_simp
                                          with_reducible rfl
                                        rotate_left
                                        · simp only [Act.put, List.setIfInBounds_toArray, List.set_cons_zero, List.set_cons_succ, i64_w, i32_w]
                                          rfl
                                        refine take_ (i := 4) (N := some 136) (v := ?_) (a' := ?_) #[true, true, true, true, true, false, false, false, false, false, false, false, false] rfl rfl (take_ofW HT_.out HW_.out (by kernel_rfl)) (fun _ _ _ h => h) (Or.inl ⟨by rfl, ?_⟩) hHeld ?_ ?_
                                        rotate_left
                                        · rintro w' ⟨s0, s1, s2, s3, s4, s5⟩
                                          go_simp
                                          with_reducible rfl
                                        rotate_left
                                        · simp only [Act.put, List.setIfInBounds_toArray, List.set_cons_zero, List.set_cons_succ, i64_w, i32_w]
                                          rfl
                                        refine one_ (i := 5) (N := some 137) #[true, true, true, true, true, true, false, false, false, false, false, false, false] rfl rfl (one_of HT_.out (by kernel_rfl)) (by decide) (fun K hK => ?_)
                                        refine goes_ Try.func13 (by kernel_rfl) rfl #[.agg #[.int .u32 ((rd_T24 l5 x26_3).f0), .int .u32 ((rd_T24 l5 x26_3).f1)], .agg #[.int .u32 t385, .int .u32 t386]] (by rfl) rfl rfl (by (try simp only [List.map_toArray, List.map_cons, List.map_nil]); first | done | rfl | (simp only [List.length_drop, List.length_take]; rfl)) ?_
                                        with_reducible refine (interval_Within.calls kj178 ((rd_T24 l5 x26_3).f0) ((rd_T24 l5 x26_3).f1) t385 t386 true _ A209.out).mono ?_
                                        rintro e w214 ⟨rfl, hb⟩
                                        refine ⟨_, rfl, ?_⟩
                                        have n0_ := am (blk_below (g := gb344) (o := .cells #[.int .u32 a0_0, .int .u32 a0_1] 24 (0, 0)) (bkA BK344) hb)
                                        have n1_ := am (blk_below (g := gb345) (o := .cells #[.int .u32 a1_0, .int .u32 a1_1] 24 (0, 0)) (bkA BK345) hb)
                                        have n2_ := am (blk_below (g := gb346) (o := .cells #[.int .u32 a2_0, .int .u32 a2_1] 24 (0, 0)) (bkA BK346) hb)
                                        have n3_ := am (blk_below (g := gb347) (o := .cells #[.int .u32 a3_0, .int .u32 a3_1] 24 (0, 0)) (bkA BK347) hb)
                                        have n4_ := am (blk_below (g := gb358) (o := .cells #[.int .u32 t354, .int .u32 t355] 24 (0, 0)) (bkA BK358) hb)
                                        have n5_ := am (blk_below (g := gb367) (o := .cells #[.int .u32 t363, .int .u32 t364] 24 (0, 0)) (bkA BK367) hb)
                                        have n6_ := am (blk_below (g := gb373) (o := .cells #[.int .u32 t370, .int .u32 t371] 24 (0, 0)) (bkA BK373) hb)
                                        have n7_ := am (blk_below (g := gb379) (o := .cells #[.int .u32 t376, .int .u32 t377] 24 (0, 0)) (bkA BK379) hb)
                                        have n8_ := am (blk_below (g := gb381) (o := .cells #[.int .u32 x382000_3, .int .u32 x382001_3] 24 (0, 0)) (bkA BK381) hb)
                                        have n9_ := am (blk_below (g := gb387) (o := .cells #[.int .u32 t385, .int .u32 t386] 24 (0, 0)) (bkA BK387) hb)
                                        have n10_ := am (below_step (hbA HB) hb)
                                        clear BK344
                                        clear BK345
                                        clear BK346
                                        clear BK347
                                        clear BK358
                                        clear BK367
                                        clear BK373
                                        clear BK379
                                        clear BK381
                                        clear BK387
                                        clear HB
                                        have BK344 := n0_
                                        have BK345 := n1_
                                        have BK346 := n2_
                                        have BK347 := n3_
                                        have BK358 := n4_
                                        have BK367 := n5_
                                        have BK373 := n6_
                                        have BK379 := n7_
                                        have BK381 := n8_
                                        have BK387 := n9_
                                        have HB := n10_
                                        clear n0_ n1_ n2_ n3_ n4_ n5_ n6_ n7_ n8_ n9_ n10_
                                        (try clear hb)
                                        (try clear hb2)
                                        (try clear hk)
                                        (try clear hi)
                                        refine hK.out _ _ ⟨(blk_cell BK387.out 0).trans rfl, (blk_cell BK387.out 1).trans rfl, (blk_cell BK381.out 0).trans rfl, (blk_cell BK381.out 1).trans rfl, ((HB.out.cell (World.block_lt_of_cell? w _ hw388_0)).trans hw388_0), ((HB.out.cell (World.block_lt_of_cell? w _ hw388_1)).trans hw388_1)⟩ (fun hHeld => ?_)
                                        clear hK K
                                        refine norm_ (a' := ?_) ?_ ?_
                                        rotate_left
                                        · show Act.put _ (some 137) _ = _
                                          simp only [Act.put, List.setIfInBounds_toArray, List.set_cons_zero, List.set_cons_succ, i64_w, i32_w]
                                          rfl
                                        refine pure_ (i := 6) (N := some 138) (v := ?_) (a' := ?_) #[true, true, true, true, true, true, true, false, false, false, false, false, false] rfl rfl (any_of HT_.out (by kernel_rfl)) (fun _ _ _ h => h) (Or.inl ⟨by rfl, ?_⟩) ?_ ?_
                                        rotate_left
                                        · intro w'
                                          go_simp
                                          with_reducible rfl
                                        rotate_left
                                        · simp only [Act.put, List.setIfInBounds_toArray, List.set_cons_zero, List.set_cons_succ, i64_w, i32_w]
                                          rfl
                                        refine pure_ (i := 7) (N := some 139) (v := ?_) (a' := ?_) #[true, true, true, true, true, true, true, true, false, false, false, false, false] rfl rfl (any_of HT_.out (by kernel_rfl)) (fun _ _ _ h => h) (Or.inl ⟨by rfl, ?_⟩) ?_ ?_
                                        rotate_left
                                        · intro w'
                                          go_simp
                                          with_reducible rfl
                                        rotate_left
                                        · simp only [Act.put, List.setIfInBounds_toArray, List.set_cons_zero, List.set_cons_succ, i64_w, i32_w]
                                          rfl
                                        refine take_ (i := 8) (N := some 140) (v := ?_) (a' := ?_) #[true, true, true, true, true, true, true, true, true, false, false, false, false] rfl rfl (take_ofW HT_.out HW_.out (by kernel_rfl)) (fun _ _ _ h => h) (Or.inl ⟨by rfl, ?_⟩) hHeld ?_ ?_
                                        rotate_left
                                        · rintro w' ⟨s0, s1, s2, s3, s4, s5⟩
                                          go_simp
                                          with_reducible rfl
                                        rotate_left
                                        · simp only [Act.put, List.setIfInBounds_toArray, List.set_cons_zero, List.set_cons_succ, i64_w, i32_w]
                                          rfl
                                        refine take_ (i := 9) (N := some 141) (v := ?_) (a' := ?_) #[true, true, true, true, true, true, true, true, true, true, false, false, false] rfl rfl (take_ofW HT_.out HW_.out (by kernel_rfl)) (fun _ _ _ h => h) (Or.inl ⟨by rfl, ?_⟩) hHeld ?_ ?_
                                        rotate_left
                                        · rintro w' ⟨s0, s1, s2, s3, s4, s5⟩
                                          go_simp
                                          with_reducible rfl
                                        rotate_left
                                        · simp only [Act.put, List.setIfInBounds_toArray, List.set_cons_zero, List.set_cons_succ, i64_w, i32_w]
                                          rfl
                                        refine one_ (i := 10) (N := some 142) #[true, true, true, true, true, true, true, true, true, true, true, false, false] rfl rfl (one_of HT_.out (by kernel_rfl)) (by decide) (fun K hK => ?_)
                                        refine goes_ Try.func13 (by kernel_rfl) rfl #[.agg #[.int .u32 x382000_3, .int .u32 x382001_3], .agg #[.int .u32 t385, .int .u32 t386]] (by rfl) rfl rfl (by (try simp only [List.map_toArray, List.map_cons, List.map_nil]); first | done | rfl | (simp only [List.length_drop, List.length_take]; rfl)) ?_
                                        with_reducible refine (interval_Within.calls kj178 x382000_3 x382001_3 t385 t386 true _ A211.out).mono ?_
                                        rintro e w215 ⟨rfl, hb⟩
                                        refine ⟨_, rfl, ?_⟩
                                        have n0_ := am (blk_below (g := gb344) (o := .cells #[.int .u32 a0_0, .int .u32 a0_1] 24 (0, 0)) (bkA BK344) hb)
                                        have n1_ := am (blk_below (g := gb345) (o := .cells #[.int .u32 a1_0, .int .u32 a1_1] 24 (0, 0)) (bkA BK345) hb)
                                        have n2_ := am (blk_below (g := gb346) (o := .cells #[.int .u32 a2_0, .int .u32 a2_1] 24 (0, 0)) (bkA BK346) hb)
                                        have n3_ := am (blk_below (g := gb347) (o := .cells #[.int .u32 a3_0, .int .u32 a3_1] 24 (0, 0)) (bkA BK347) hb)
                                        have n4_ := am (blk_below (g := gb358) (o := .cells #[.int .u32 t354, .int .u32 t355] 24 (0, 0)) (bkA BK358) hb)
                                        have n5_ := am (blk_below (g := gb367) (o := .cells #[.int .u32 t363, .int .u32 t364] 24 (0, 0)) (bkA BK367) hb)
                                        have n6_ := am (blk_below (g := gb373) (o := .cells #[.int .u32 t370, .int .u32 t371] 24 (0, 0)) (bkA BK373) hb)
                                        have n7_ := am (blk_below (g := gb379) (o := .cells #[.int .u32 t376, .int .u32 t377] 24 (0, 0)) (bkA BK379) hb)
                                        have n8_ := am (blk_below (g := gb381) (o := .cells #[.int .u32 x382000_3, .int .u32 x382001_3] 24 (0, 0)) (bkA BK381) hb)
                                        have n9_ := am (blk_below (g := gb387) (o := .cells #[.int .u32 t385, .int .u32 t386] 24 (0, 0)) (bkA BK387) hb)
                                        have n10_ := am (below_step (hbA HB) hb)
                                        clear BK344
                                        clear BK345
                                        clear BK346
                                        clear BK347
                                        clear BK358
                                        clear BK367
                                        clear BK373
                                        clear BK379
                                        clear BK381
                                        clear BK387
                                        clear HB
                                        have BK344 := n0_
                                        have BK345 := n1_
                                        have BK346 := n2_
                                        have BK347 := n3_
                                        have BK358 := n4_
                                        have BK367 := n5_
                                        have BK373 := n6_
                                        have BK379 := n7_
                                        have BK381 := n8_
                                        have BK387 := n9_
                                        have HB := n10_
                                        clear n0_ n1_ n2_ n3_ n4_ n5_ n6_ n7_ n8_ n9_ n10_
                                        (try clear hb)
                                        (try clear hb2)
                                        (try clear hk)
                                        (try clear hi)
                                        refine hK.out _ _ ⟨(blk_cell BK387.out 0).trans rfl, (blk_cell BK387.out 1).trans rfl, (blk_cell BK381.out 0).trans rfl, (blk_cell BK381.out 1).trans rfl, ((HB.out.cell (World.block_lt_of_cell? w _ hw388_0)).trans hw388_0), ((HB.out.cell (World.block_lt_of_cell? w _ hw388_1)).trans hw388_1)⟩ (fun hHeld => ?_)
                                        clear hK K
                                        refine norm_ (a' := ?_) ?_ ?_
                                        rotate_left
                                        · show Act.put _ (some 142) _ = _
                                          simp only [Act.put, List.setIfInBounds_toArray, List.set_cons_zero, List.set_cons_succ, i64_w, i32_w]
                                          rfl
                                        refine pure_ (i := 11) (N := some 143) (v := ?_) (a' := ?_) #[true, true, true, true, true, true, true, true, true, true, true, true, false] rfl rfl (any_of HT_.out (by kernel_rfl)) (fun _ _ _ h => h) (Or.inl ⟨by rfl, ?_⟩) ?_ ?_
                                        rotate_left
                                        · intro w'
                                          go_simp
                                          with_reducible rfl
                                        rotate_left
                                        · simp only [Act.put, List.setIfInBounds_toArray, List.set_cons_zero, List.set_cons_succ, i64_w, i32_w]
                                          rfl
                                        refine pure_ (i := 12) (N := some 144) (v := ?_) (a' := ?_) #[true, true, true, true, true, true, true, true, true, true, true, true, true] rfl rfl (any_of HT_.out (by kernel_rfl)) (fun _ _ _ h => h) (Or.inl ⟨by rfl, ?_⟩) ?_ ?_
                                        rotate_left
                                        · intro w'
                                          go_simp
                                          with_reducible rfl
                                        rotate_left
                                        · simp only [Act.put, List.setIfInBounds_toArray, List.set_cons_zero, List.set_cons_succ, i64_w, i32_w]
                                          rfl
                                        refine done_ (done_of HT_.out (by kernel_rfl)) ?_
                                        have hnb216 := NB387_344.out
                                        have hnc216 := NB344_387.out
                                        have hnb217 := NB387_345.out
                                        have hnc217 := NB345_387.out
                                        have hnb218 := NB387_346.out
                                        have hnc218 := NB346_387.out
                                        have hnb219 := NB387_347.out
                                        have hnc219 := NB347_387.out
                                        have hnb220 := NB387_358.out
                                        have hnc220 := NB358_387.out
                                        have hnb221 := NB387_367.out
                                        have hnc221 := NB367_387.out
                                        have hnb222 := NB387_373.out
                                        have hnc222 := NB373_387.out
                                        have hnb223 := NB387_379.out
                                        have hnc223 := NB379_387.out
                                        have hnb224 := NB387_381.out
                                        have hnc224 := NB381_387.out
                                        have hcz225_0 : w215.cell? ⟨gb387, 0, none⟩ = some (.int .u32 t385) := cz BK387
                                        have hcz225_1 : w215.cell? ⟨gb387, 1, none⟩ = some (.int .u32 t386) := cz BK387
                                        have hfz225_0 := blk_frozen BK387.out 0
                                        have hfz225_1 := blk_frozen BK387.out 1
                                        have hnb226 := NB381_344.out
                                        have hnc226 := NB344_381.out
                                        have hnb227 := NB381_345.out
                                        have hnc227 := NB345_381.out
                                        have hnb228 := NB381_346.out
                                        have hnc228 := NB346_381.out
                                        have hnb229 := NB381_347.out
                                        have hnc229 := NB347_381.out
                                        have hnb230 := NB381_358.out
                                        have hnc230 := NB358_381.out
                                        have hnb231 := NB381_367.out
                                        have hnc231 := NB367_381.out
                                        have hnb232 := NB381_373.out
                                        have hnc232 := NB373_381.out
                                        have hnb233 := NB381_379.out
                                        have hnc233 := NB379_381.out
                                        have hcz234_0 : w215.cell? ⟨gb381, 0, none⟩ = some (.int .u32 x382000_3) := cz BK381
                                        have hcz234_1 : w215.cell? ⟨gb381, 1, none⟩ = some (.int .u32 x382001_3) := cz BK381
                                        have hfz234_0 := blk_frozen BK381.out 0
                                        have hfz234_1 := blk_frozen BK381.out 1
                                        try go_wp2
                                        go_roundg kj178
                                        case measure => have := HJ8.out; have := HJ82.out; have := HK3.out; have := HJ178.out; omega
                                        case rel => exact ⟨(x25_178), (wrap64 (x26_3 + 1)), (t385), (t386), (by first | rfl | (simp; done) | (simp [*]; done)), (by first | rfl | (simp; done) | (simp [*]; done)), H', ⟨by have := HJ8.out; have := HJ82.out; have := HK3.out; have := HJ178.out; omega⟩, ⟨by refine bkT ?_; refine blk_far ?_ NB344_381.out _; refine bkT ?_; refine blk_far ?_ NB344_381.out _; refine bkT ?_; exact BK344.out⟩, ⟨by refine bkT ?_; refine blk_far ?_ NB345_381.out _; refine bkT ?_; refine blk_far ?_ NB345_381.out _; refine bkT ?_; exact BK345.out⟩, ⟨by refine bkT ?_; refine blk_far ?_ NB346_381.out _; refine bkT ?_; refine blk_far ?_ NB346_381.out _; refine bkT ?_; exact BK346.out⟩, ⟨by refine bkT ?_; refine blk_far ?_ NB347_381.out _; refine bkT ?_; refine blk_far ?_ NB347_381.out _; refine bkT ?_; exact BK347.out⟩, ⟨by refine bkT ?_; refine blk_far ?_ NB358_381.out _; refine bkT ?_; refine blk_far ?_ NB358_381.out _; refine bkT ?_; exact BK358.out⟩, ⟨by refine bkT ?_; refine blk_far ?_ NB367_381.out _; refine bkT ?_; refine blk_far ?_ NB367_381.out _; refine bkT ?_; exact BK367.out⟩, ⟨by refine bkT ?_; refine blk_far ?_ NB373_381.out _; refine bkT ?_; refine blk_far ?_ NB373_381.out _; refine bkT ?_; exact BK373.out⟩, ⟨by refine bkT ?_; refine blk_far ?_ NB379_381.out _; refine bkT ?_; refine blk_far ?_ NB379_381.out _; refine bkT ?_; exact BK379.out⟩, ⟨by refine bkT ?_; refine blk_put (cs := #[.int .u32 t385, .int .u32 x382001_3]) ?_ 1 _ rfl; refine bkT ?_; refine blk_put (cs := #[.int .u32 x382000_3, .int .u32 x382001_3]) ?_ 0 _ rfl; refine bkT ?_; exact BK381.out⟩, ⟨by repeat (first | (with_reducible first | exact HB.out | apply below_alloc | apply pw_below_drewN | apply below_drew1 | refine below_set ?_ GE344.out | refine below_set ?_ GE345.out | refine below_set ?_ GE346.out | refine below_set ?_ GE347.out | refine below_set ?_ GE358.out | refine below_set ?_ GE367.out | refine below_set ?_ GE373.out | refine below_set ?_ GE379.out | refine below_set ?_ GE381.out | refine below_set ?_ GE387.out) | exact HB.out)⟩⟩
                                      · replace c212 := Bool.eq_false_iff.mpr c212
                                        subst c212
                                        have H1 : (some false) = some r := by rw [if_neg (show ¬ (false = true) by decide)] at H; exact H
                                        clear H
                                        have H := H1
                                        clear H1
                                        exact absurd ((Option.some.inj H).trans hr_.out) (by decide)
                                    · replace c210 := Bool.eq_false_iff.mpr c210
                                      subst c210
                                      have H1 : (some false) = some r := by rw [if_neg (show ¬ (false = true) by decide)] at H; exact H
                                      clear H
                                      have H := H1
                                      clear H1
                                      exact absurd ((Option.some.inj H).trans hr_.out) (by decide)
                                  · rw [if_neg c208] at H
                                    exact absurd H (by simp)
                                · rw [if_neg c207] at H
                                  exact absurd H (by simp)
                          · rw [if_neg c177] at H
                            have c177b0 : (t383 == 0) = false := beq_eq_false_iff_ne.mpr c177
                            have c177b1 : (t383 != 0) = true := bne_iff_ne.mpr c177
                            have H' := am H
                            clear H
                            have p382 : 0 ≤ (x26_3 : Int) := of_decide_eq_true (by first | (with_reducible assumption) | assumption)
                            have q382 : x26_3 < (l5.length : Int) := of_decide_eq_true (by first | (with_reducible assumption) | assumption)
                            obtain ⟨ad382, e382, hx382_0, hx382_1⟩ := at_T24 HR5.out x26_3 p382 q382
                            cases e382
                            replace hx382_0 := (HB.out.cell (World.block_lt_of_cell? w _ hx382_0)).trans hx382_0
                            replace hx382_1 := (HB.out.cell (World.block_lt_of_cell? w _ hx382_1)).trans hx382_1
                            replace p382 := eq_true p382
                            replace q382 := eq_true q382
                            go_wp2_with (first | ((with_reducible refine gate_callee (f := 9) rfl ?_); refine goesL_ (some 119) rfl rfl Try.func9 (by kernel_rfl) rfl #[.agg #[.int .u32 ((rd_T24 l5 x26_3).f0), .int .u32 ((rd_T24 l5 x26_3).f1)]] rfl (by (try simp only [List.map_toArray, List.map_cons, List.map_nil]); first | done | rfl | (simp only [List.length_drop, List.length_take]; rfl)) ?_; (with_reducible refine (interval_Check.calls ((rd_T24 l5 x26_3).f0) ((rd_T24 l5 x26_3).f1) t383 _ A176.out).mono ?_); rintro e w235 ⟨rfl, hb⟩; refine ⟨_, rfl, ?_⟩; have n0_ := am (blk_below (g := gb344) (o := .cells #[.int .u32 a0_0, .int .u32 a0_1] 24 (0, 0)) (bkA BK344) hb); have n1_ := am (blk_below (g := gb345) (o := .cells #[.int .u32 a1_0, .int .u32 a1_1] 24 (0, 0)) (bkA BK345) hb); have n2_ := am (blk_below (g := gb346) (o := .cells #[.int .u32 a2_0, .int .u32 a2_1] 24 (0, 0)) (bkA BK346) hb); have n3_ := am (blk_below (g := gb347) (o := .cells #[.int .u32 a3_0, .int .u32 a3_1] 24 (0, 0)) (bkA BK347) hb); have n4_ := am (blk_below (g := gb358) (o := .cells #[.int .u32 t354, .int .u32 t355] 24 (0, 0)) (bkA BK358) hb); have n5_ := am (blk_below (g := gb367) (o := .cells #[.int .u32 t363, .int .u32 t364] 24 (0, 0)) (bkA BK367) hb); have n6_ := am (blk_below (g := gb373) (o := .cells #[.int .u32 t370, .int .u32 t371] 24 (0, 0)) (bkA BK373) hb); have n7_ := am (blk_below (g := gb379) (o := .cells #[.int .u32 t376, .int .u32 t377] 24 (0, 0)) (bkA BK379) hb); have n8_ := am (blk_below (g := gb381) (o := .cells #[.int .u32 x382000_3, .int .u32 x382001_3] 24 (0, 0)) (bkA BK381) hb); have n9_ := am (below_step (hbA HB) hb); clear BK344; clear BK345; clear BK346; clear BK347; clear BK358; clear BK367; clear BK373; clear BK379; clear BK381; clear HB; have BK344 := n0_; have BK345 := n1_; have BK346 := n2_; have BK347 := n3_; have BK358 := n4_; have BK367 := n5_; have BK373 := n6_; have BK379 := n7_; have BK381 := n8_; have HB := n9_; clear n0_ n1_ n2_ n3_ n4_ n5_ n6_ n7_ n8_ n9_; (try clear hb); (try clear hb2); (try clear hk); (try clear hi)))
                            go_roundg k3
                            case measure => have := HJ8.out; have := HJ82.out; have := HK3.out; omega
                            case rel => exact ⟨(x25_3), (wrap64 (x26_3 + 1)), (x382000_3), (x382001_3), (by first | rfl | (simp; done) | (simp [*]; done)), (by first | rfl | (simp; done) | (simp [*]; done)), H', ⟨by have := HJ8.out; have := HJ82.out; have := HK3.out; omega⟩, ⟨by refine bkT ?_; exact BK344.out⟩, ⟨by refine bkT ?_; exact BK345.out⟩, ⟨by refine bkT ?_; exact BK346.out⟩, ⟨by refine bkT ?_; exact BK347.out⟩, ⟨by refine bkT ?_; exact BK358.out⟩, ⟨by refine bkT ?_; exact BK367.out⟩, ⟨by refine bkT ?_; exact BK373.out⟩, ⟨by refine bkT ?_; exact BK379.out⟩, ⟨by refine bkT ?_; exact BK381.out⟩, ⟨by repeat (first | (with_reducible first | exact HB.out | apply below_alloc | apply pw_below_drewN | apply below_drew1 | refine below_set ?_ GE344.out | refine below_set ?_ GE345.out | refine below_set ?_ GE346.out | refine below_set ?_ GE347.out | refine below_set ?_ GE358.out | refine below_set ?_ GE367.out | refine below_set ?_ GE373.out | refine below_set ?_ GE379.out | refine below_set ?_ GE381.out) | exact HB.out)⟩⟩
                        · rw [if_neg c175] at H
                          exact absurd H (by simp)
                      · rw [if_neg c174] at H
                        have c174b0 : decide (x26_3 < (l5.length : Int)) = false := decide_eq_false c174
                        clear c174
                        obtain rfl := Option.some.inj H
                        go_wp2
                        go_ret
                        exact ⟨by first | rfl | (simp [errW_none, errW_some] <;> rfl) | (simp [*, errW_none, errW_some] <;> rfl), hbA HB⟩
                · replace c128 := Bool.eq_false_iff.mpr c128
                  subst c128
                  have H1 : (some false) = some r := by rw [if_neg (show ¬ (false = true) by decide)] at H; exact H
                  clear H
                  have H := H1
                  clear H1
                  exact absurd ((Option.some.inj H).trans hr_.out) (by decide)
  · replace c8 := Bool.eq_false_iff.mpr c8
    subst c8
    have H1 : (some false) = some r := by rw [if_neg (show ¬ (false = true) by decide)] at H; exact H
    clear H
    have H := H1
    clear H1
    exact absurd ((Option.some.inj H).trans hr_.out) (by decide)

end Go.Proofs.Ytmhmfnjbioplhaa.PIntervalGrows
