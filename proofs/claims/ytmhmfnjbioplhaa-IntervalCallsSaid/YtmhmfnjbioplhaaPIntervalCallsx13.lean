/- Contracts of Go functions of the given program: where NAME.f answers, the call returns that. Conditions: those each theorem names. -/
import Derived.Test.YtmhmfnjbioplhaaPIntervalCallsx0
import Derived.Test.YtmhmfnjbioplhaaPIntervalCallsx1
import Derived.Test.YtmhmfnjbioplhaaPIntervalCallsx3
import Derived.Test.YtmhmfnjbioplhaaPIntervalCallsx4
import Derived.Test.YtmhmfnjbioplhaaPIntervalCallsx5
import Derived.Test.YtmhmfnjbioplhaaPIntervalCallsx6
import Derived.Test.YtmhmfnjbioplhaaPIntervalCallsx7
import Derived.Test.YtmhmfnjbioplhaaPIntervalCallsx8
import Derived.Test.YtmhmfnjbioplhaaPIntervalCallsx9
import Derived.Test.YtmhmfnjbioplhaaPIntervalCallsx11
import Derived.Test.YtmhmfnjbioplhaaPIntervalCallsx12
namespace Go.Proofs.Ytmhmfnjbioplhaa.PIntervalCalls
open Go.RowKit Go.Proofs.YtmhmfnjbioplhaaW.PrintWords Go.Proofs.YtmhmfnjbioplhaaW.PrintLast Go.Proofs.YtmhmfnjbioplhaaW.PrintMore Go.Proofs.Ytmhmfnjbioplhaa.Help
attribute [local go_sem] max2_int min2_int max_two min_two max_three min_three max_four min_four   -- for this text's walks alone
set_option linter.unusedVariables false
set_option linter.unusedSimpArgs false

attribute [local go_sem high] eqA24
/-! ### lamplighterlaw19_IntervalCalls: function 7 -/
mutual
def lamplighterlaw19_IntervalCalls.j0 : Nat → Int → Int → Bool → Int → Int → Int → Int → Option (Bool)
  | 0, _, _, _, _, _, _, _ => none
  | k + 1, x3, x4, x95, x477000, x477001, x478000, x478001 => if x95 = true then (some false) else ((lamplighterkit_Pick.f x3 19).bind fun t501 => ((some (([x3, wrap64 (1 + t501)] : List Int) : List Int)).bind fun y502 => (lamplighterlaw19_IntervalCalls.l0 k x4 y502 (y502.length : Int) 0 x477000 x477001 x478000 x478001)))
def lamplighterlaw19_IntervalCalls.l0 : Nat → Int → List Int → Int → Int → Int → Int → Int → Int → Option (Bool)
  | 0, _, _, _, _, _, _, _, _ => none
  | k + 1, x4, x100, x101, x102, x477000, x477001, x478000, x478001 => if x102 < x101 then (if 0 ≤ x102 then (if x102 < (x100.length : Int) then ((interval_Do.f k (rd x100 x102) x477000 x477001 x478000 x478001).bind fun bt514 => ((lamplighterref19_Do.f k (rd x100 x102) x477000 x477001 x478000 x478001).bind fun bt519 => ((interval_Un.f k (rd x100 x102) x477000 x477001).bind fun bt524 => ((lamplighterref19_Un.f k (rd x100 x102) x477000 x477001).bind fun bt528 => (if (!(bt514.1 == bt519.1) || (!(bt514.2.1 == bt519.2.1))) = true then (some false) else (if (bt514.2.2.1 != bt519.2.2.1) = true then (some false) else (if bt514.2.2.2 = bt519.2.2.2 then (if (!(bt524.1 == bt528.1) || (!(bt524.2.1 == bt528.2.1))) = true then (some false) else (if bt524.2.2 = bt528.2.2 then (lamplighterlaw19_IntervalCalls.l0 k x4 x100 x101 (wrap64 (x102 + 1)) x477000 x477001 x478000 x478001) else (some false))) else (some false)))))))) else (none)) else (none)) else ((interval_Cut.f k x477000 x477001 x4).bind fun bt505 => ((lamplighterref19_Cut.f k x477000 x477001 x4).bind fun bt509 => (if (bt505.1 == bt509.1 && (bt505.2.1 == bt509.2.1)) = true then (some (bt505.2.2 == bt509.2.2)) else (some false))))
end
def lamplighterlaw19_IntervalCalls.f (k : Nat) (a0_0 : Int) (a0_1 : Int) (a1_0 : Int) (a1_1 : Int) (a2 : Int) (a3 : Int) (a4 : Int) : Option (Bool) := (lamplighterlaw19_lives.f k).bind fun t478 => (if t478 = true then ((interval_Meet.f k a0_0 a0_1 a1_0 a1_1).bind fun bt479 => ((lamplighterref19_Meet.f a0_0 a0_1 a1_0 a1_1).bind fun bt483 => (if (!(bt479.1 == bt483.1) || (!(bt479.2.1 == bt483.2.1))) = true then (lamplighterlaw19_IntervalCalls.j0 k a3 a4 true a0_0 a0_1 a1_0 a1_1) else (if (bt479.2.2 != bt483.2.2) = true then (lamplighterlaw19_IntervalCalls.j0 k a3 a4 true a0_0 a0_1 a1_0 a1_1) else ((interval_Check.f a0_0 a0_1).bind fun t487 => ((lamplighterref19_Check.f a0_0 a0_1).bind fun t488 => (if t487 = t488 then ((interval_Has.f k a0_0 a0_1 a2).bind fun t489 => ((lamplighterref19_Has.f a0_0 a0_1 a2).bind fun t490 => (if (t489 != t490) = true then (lamplighterlaw19_IntervalCalls.j0 k a3 a4 true a0_0 a0_1 a1_0 a1_1) else ((interval_Within.f k a0_0 a0_1 a1_0 a1_1).bind fun t491 => ((lamplighterref19_Within.f a0_0 a0_1 a1_0 a1_1).bind fun t492 => (if (t491 != t492) = true then (lamplighterlaw19_IntervalCalls.j0 k a3 a4 true a0_0 a0_1 a1_0 a1_1) else ((interval_Join.f k a0_0 a0_1 a1_0 a1_1).bind fun bt493 => ((lamplighterref19_Join.f a0_0 a0_1 a1_0 a1_1).bind fun bt495 => (if (!(bt493.1 == bt495.1) || (!(bt493.2 == bt495.2))) = true then (lamplighterlaw19_IntervalCalls.j0 k a3 a4 true a0_0 a0_1 a1_0 a1_1) else ((interval_Widen.f k a0_0 a0_1 a1_0 a1_1).bind fun bt497 => ((lamplighterref19_Widen.f k a0_0 a0_1 a1_0 a1_1).bind fun bt499 => (lamplighterlaw19_IntervalCalls.j0 k a3 a4 (!(bt497.1 == bt499.1) || (!(bt497.2 == bt499.2))) a0_0 a0_1 a1_0 a1_1)))))))))))) else (lamplighterlaw19_IntervalCalls.j0 k a3 a4 true a0_0 a0_1 a1_0 a1_1)))))))) else (some false))
theorem lamplighterlaw19_IntervalCalls.mono_l : ∀ k, (∀ y0 y1 y2 y3 y4 y5 y6, LeO (lamplighterlaw19_IntervalCalls.j0 k y0 y1 y2 y3 y4 y5 y6) (lamplighterlaw19_IntervalCalls.j0 (k + 1) y0 y1 y2 y3 y4 y5 y6)) ∧ (∀ y0 y1 y2 y3 y4 y5 y6 y7, LeO (lamplighterlaw19_IntervalCalls.l0 k y0 y1 y2 y3 y4 y5 y6 y7) (lamplighterlaw19_IntervalCalls.l0 (k + 1) y0 y1 y2 y3 y4 y5 y6 y7))
  | 0 => ⟨fun _ _ _ _ _ _ _ r h => by simp [lamplighterlaw19_IntervalCalls.j0] at h, fun _ _ _ _ _ _ _ _ r h => by simp [lamplighterlaw19_IntervalCalls.l0] at h⟩
  | k + 1 => by
    obtain ⟨ih0, ih1⟩ := lamplighterlaw19_IntervalCalls.mono_l k; refine ⟨?_, ?_⟩
    · intro y0 y1 y2 y3 y4 y5 y6
      unfold lamplighterlaw19_IntervalCalls.j0
      repeat' first
      | (with_reducible exact ih0 _ _ _ _ _ _ _)
      | (with_reducible exact ih1 _ _ _ _ _ _ _ _)
      | (with_reducible exact interval_Cut.mono _ _ _ _)
      | (with_reducible exact interval_Do.mono _ _ _ _ _ _)
      | (with_reducible exact interval_Has.mono _ _ _ _)
      | (with_reducible exact interval_Join.mono _ _ _ _ _)
      | (with_reducible exact interval_Meet.mono _ _ _ _ _)
      | (with_reducible exact interval_Un.mono _ _ _ _)
      | (with_reducible exact interval_Widen.mono _ _ _ _ _)
      | (with_reducible exact interval_Within.mono _ _ _ _ _)
      | (with_reducible exact lamplighterlaw19_lives.mono _)
      | (with_reducible exact lamplighterref19_Cut.mono _ _ _ _)
      | (with_reducible exact lamplighterref19_Do.mono _ _ _ _ _ _)
      | (with_reducible exact lamplighterref19_Un.mono _ _ _ _)
      | (with_reducible exact lamplighterref19_Widen.mono _ _ _ _ _)
      | (with_reducible exact LeO.refl _)
      | (with_reducible exact LeO.none _)
      | (with_reducible refine LeO.ite ?_ ?_)
      | (with_reducible refine LeO.bind ?_ (fun _ => ?_))
      | exact ih0 _ _ _ _ _ _ _
      | exact ih1 _ _ _ _ _ _ _ _
      | exact interval_Cut.mono _ _ _ _
      | exact interval_Do.mono _ _ _ _ _ _
      | exact interval_Has.mono _ _ _ _
      | exact interval_Join.mono _ _ _ _ _
      | exact interval_Meet.mono _ _ _ _ _
      | exact interval_Un.mono _ _ _ _
      | exact interval_Widen.mono _ _ _ _ _
      | exact interval_Within.mono _ _ _ _ _
      | exact lamplighterlaw19_lives.mono _
      | exact lamplighterref19_Cut.mono _ _ _ _
      | exact lamplighterref19_Do.mono _ _ _ _ _ _
      | exact lamplighterref19_Un.mono _ _ _ _
      | exact lamplighterref19_Widen.mono _ _ _ _ _
      | exact LeO.none _
      | refine LeO.ite ?_ ?_
      | refine LeO.bind ?_ (fun _ => ?_)
    intro y0 y1 y2 y3 y4 y5 y6 y7
    unfold lamplighterlaw19_IntervalCalls.l0
    repeat' first
    | (with_reducible exact ih0 _ _ _ _ _ _ _)
    | (with_reducible exact ih1 _ _ _ _ _ _ _ _)
    | (with_reducible exact interval_Cut.mono _ _ _ _)
    | (with_reducible exact interval_Do.mono _ _ _ _ _ _)
    | (with_reducible exact interval_Has.mono _ _ _ _)
    | (with_reducible exact interval_Join.mono _ _ _ _ _)
    | (with_reducible exact interval_Meet.mono _ _ _ _ _)
    | (with_reducible exact interval_Un.mono _ _ _ _)
    | (with_reducible exact interval_Widen.mono _ _ _ _ _)
    | (with_reducible exact interval_Within.mono _ _ _ _ _)
    | (with_reducible exact lamplighterlaw19_lives.mono _)
    | (with_reducible exact lamplighterref19_Cut.mono _ _ _ _)
    | (with_reducible exact lamplighterref19_Do.mono _ _ _ _ _ _)
    | (with_reducible exact lamplighterref19_Un.mono _ _ _ _)
    | (with_reducible exact lamplighterref19_Widen.mono _ _ _ _ _)
    | (with_reducible exact LeO.refl _)
    | (with_reducible exact LeO.none _)
    | (with_reducible refine LeO.ite ?_ ?_)
    | (with_reducible refine LeO.bind ?_ (fun _ => ?_))
    | exact ih0 _ _ _ _ _ _ _
    | exact ih1 _ _ _ _ _ _ _ _
    | exact interval_Cut.mono _ _ _ _
    | exact interval_Do.mono _ _ _ _ _ _
    | exact interval_Has.mono _ _ _ _
    | exact interval_Join.mono _ _ _ _ _
    | exact interval_Meet.mono _ _ _ _ _
    | exact interval_Un.mono _ _ _ _
    | exact interval_Widen.mono _ _ _ _ _
    | exact interval_Within.mono _ _ _ _ _
    | exact lamplighterlaw19_lives.mono _
    | exact lamplighterref19_Cut.mono _ _ _ _
    | exact lamplighterref19_Do.mono _ _ _ _ _ _
    | exact lamplighterref19_Un.mono _ _ _ _
    | exact lamplighterref19_Widen.mono _ _ _ _ _
    | exact LeO.none _
    | refine LeO.ite ?_ ?_
    | refine LeO.bind ?_ (fun _ => ?_)
theorem lamplighterlaw19_IntervalCalls.mono : ∀ a0 a1 a2 a3 a4 a5 a6 k, LeO (lamplighterlaw19_IntervalCalls.f k a0 a1 a2 a3 a4 a5 a6) (lamplighterlaw19_IntervalCalls.f (k + 1) a0 a1 a2 a3 a4 a5 a6) := by
  intro a0 a1 a2 a3 a4 a5 a6 k
  obtain ⟨ih0, ih1⟩ := lamplighterlaw19_IntervalCalls.mono_l k; unfold lamplighterlaw19_IntervalCalls.f
  repeat' first
      | (with_reducible exact ih0 _ _ _ _ _ _ _)
      | (with_reducible exact ih1 _ _ _ _ _ _ _ _)
      | (with_reducible exact interval_Cut.mono _ _ _ _)
      | (with_reducible exact interval_Do.mono _ _ _ _ _ _)
      | (with_reducible exact interval_Has.mono _ _ _ _)
      | (with_reducible exact interval_Join.mono _ _ _ _ _)
      | (with_reducible exact interval_Meet.mono _ _ _ _ _)
      | (with_reducible exact interval_Un.mono _ _ _ _)
      | (with_reducible exact interval_Widen.mono _ _ _ _ _)
      | (with_reducible exact interval_Within.mono _ _ _ _ _)
      | (with_reducible exact lamplighterlaw19_lives.mono _)
      | (with_reducible exact lamplighterref19_Cut.mono _ _ _ _)
      | (with_reducible exact lamplighterref19_Do.mono _ _ _ _ _ _)
      | (with_reducible exact lamplighterref19_Un.mono _ _ _ _)
      | (with_reducible exact lamplighterref19_Widen.mono _ _ _ _ _)
      | (with_reducible exact LeO.refl _)
      | (with_reducible exact LeO.none _)
      | (with_reducible refine LeO.ite ?_ ?_)
      | (with_reducible refine LeO.bind ?_ (fun _ => ?_))
      | exact ih0 _ _ _ _ _ _ _
      | exact ih1 _ _ _ _ _ _ _ _
      | exact interval_Cut.mono _ _ _ _
      | exact interval_Do.mono _ _ _ _ _ _
      | exact interval_Has.mono _ _ _ _
      | exact interval_Join.mono _ _ _ _ _
      | exact interval_Meet.mono _ _ _ _ _
      | exact interval_Un.mono _ _ _ _
      | exact interval_Widen.mono _ _ _ _ _
      | exact interval_Within.mono _ _ _ _ _
      | exact lamplighterlaw19_lives.mono _
      | exact lamplighterref19_Cut.mono _ _ _ _
      | exact lamplighterref19_Do.mono _ _ _ _ _ _
      | exact lamplighterref19_Un.mono _ _ _ _
      | exact lamplighterref19_Widen.mono _ _ _ _ _
      | exact LeO.none _
      | refine LeO.ite ?_ ?_
      | refine LeO.bind ?_ (fun _ => ?_)
def lamplighterlaw19_IntervalCalls.T5 : Bool × List (List Nat × List Nat) := (true, [([], []), ([], []), ([0, 1], [0, 1]), ([2], [2]), ([3], [3]), ([3], [3]), ([4, 5, 3], [3, 4, 5]), ([3, 6], [3, 6]), ([7, 3], [7]), ([8], [8]), ([9, 8, 8], [8, 9]), ([8], [8]), ([11, 10, 8], [8, 11]), ([10, 12, 8], [8, 10, 12]), ([8, 13], [8, 13]), ([14, 12], [14]), ([15], [15]), ([15], [15]), ([16, 17, 15, 15], [15, 16, 17]), ([15], [15]), ([15], [15]), ([19, 20, 18, 15], [15, 19, 20]), ([18, 21, 15], [15, 18, 21]), ([15, 22], [15, 22]), ([23, 21], [23]), ([24], [24]), ([24], [24]), ([25, 26, 24, 24], [24, 25, 26]), ([24], [24]), ([24], [24]), ([28, 29, 27, 24], [24, 28, 29]), ([27, 30, 24], [24, 27, 30]), ([24, 31], [24, 31]), ([32, 30], [32]), ([33], [33]), ([33], [33]), ([34, 35, 33, 33], [33, 34, 35]), ([33], [33]), ([33], [33]), ([37, 38, 36, 33], [33, 37, 38]), ([36, 39, 33], [33, 36, 39]), ([33, 40], [33, 40]), ([41, 39], [41]), ([42], [42]), ([42], [42]), ([43, 44, 42, 42], [42, 43, 44]), ([42], [42]), ([42], [42]), ([46, 47, 45, 42], [42, 46, 47]), ([45, 48, 42], [42, 45, 48]), ([42, 49], [42, 49])])
def lamplighterlaw19_IntervalCalls.B5 : List Nat := [0, 0, 3, 7, 15, 15, 63, 127, 255, 511, 1023, 511, 4095, 8191, 16383, 32767, 65535, 65535, 262143, 65535, 65535, 2097151, 4194303, 8388607, 16777215, 33554431, 33554431, 134217727, 33554431, 33554431, 1073741823, 2147483647, 4294967295, 8589934591, 17179869183, 17179869183, 68719476735, 17179869183, 17179869183, 549755813887, 1099511627775, 2199023255551, 4398046511103, 8796093022207, 8796093022207, 35184372088831, 8796093022207, 8796093022207, 281474976710655, 562949953421311, 1125899906842623]
theorem lamplighterlaw19_IntervalCalls.tab5 : rtab .any (opsOf Try.f7 5) = lamplighterlaw19_IntervalCalls.T5 := by kernel_rfl
theorem lamplighterlaw19_IntervalCalls.bits5 : waitsOk lamplighterlaw19_IntervalCalls.T5.2 lamplighterlaw19_IntervalCalls.B5 = true := by kernel_rfl
set_option maxHeartbeats 8000000 in
set_option maxRecDepth 100000 in
theorem lamplighterlaw19_IntervalCalls.calls (k : Nat) (a0_0 : Int) (a0_1 : Int) (a1_0 : Int) (a1_1 : Int) (a2 : Int) (a3 : Int) (a4 : Int) (r : Bool) (w : World) (h : lamplighterlaw19_IntervalCalls.f k a0_0 a0_1 a1_0 a1_1 a2 a3 a4 = some r) (hr_ : Aside0 (r = true)) :
    Calls Try.prog 7 #[.agg #[.int .u32 a0_0, .int .u32 a0_1], .agg #[.int .u32 a1_0, .int .u32 a1_1], .int .u32 a2, .int .i64 a3, .int .i64 a4] w fun e w' => e = .returned (.bool r) ∧ Below w.heap.size w w' := by
  have hu24 := Try.underlying24
  have HB := am (Below.refl w.heap.size w)
  have H : ((lamplighterlaw19_lives.f k).bind fun t478 => (if t478 = true then ((interval_Meet.f k a0_0 a0_1 a1_0 a1_1).bind fun bt479 => ((lamplighterref19_Meet.f a0_0 a0_1 a1_0 a1_1).bind fun bt483 => (if (!(bt479.1 == bt483.1) || (!(bt479.2.1 == bt483.2.1))) = true then (lamplighterlaw19_IntervalCalls.j0 k a3 a4 true a0_0 a0_1 a1_0 a1_1) else (if (bt479.2.2 != bt483.2.2) = true then (lamplighterlaw19_IntervalCalls.j0 k a3 a4 true a0_0 a0_1 a1_0 a1_1) else ((interval_Check.f a0_0 a0_1).bind fun t487 => ((lamplighterref19_Check.f a0_0 a0_1).bind fun t488 => (if t487 = t488 then ((interval_Has.f k a0_0 a0_1 a2).bind fun t489 => ((lamplighterref19_Has.f a0_0 a0_1 a2).bind fun t490 => (if (t489 != t490) = true then (lamplighterlaw19_IntervalCalls.j0 k a3 a4 true a0_0 a0_1 a1_0 a1_1) else ((interval_Within.f k a0_0 a0_1 a1_0 a1_1).bind fun t491 => ((lamplighterref19_Within.f a0_0 a0_1 a1_0 a1_1).bind fun t492 => (if (t491 != t492) = true then (lamplighterlaw19_IntervalCalls.j0 k a3 a4 true a0_0 a0_1 a1_0 a1_1) else ((interval_Join.f k a0_0 a0_1 a1_0 a1_1).bind fun bt493 => ((lamplighterref19_Join.f a0_0 a0_1 a1_0 a1_1).bind fun bt495 => (if (!(bt493.1 == bt495.1) || (!(bt493.2 == bt495.2))) = true then (lamplighterlaw19_IntervalCalls.j0 k a3 a4 true a0_0 a0_1 a1_0 a1_1) else ((interval_Widen.f k a0_0 a0_1 a1_0 a1_1).bind fun bt497 => ((lamplighterref19_Widen.f k a0_0 a0_1 a1_0 a1_1).bind fun bt499 => (lamplighterlaw19_IntervalCalls.j0 k a3 a4 (!(bt497.1 == bt499.1) || (!(bt497.2 == bt499.2))) a0_0 a0_1 a1_0 a1_1)))))))))))) else (lamplighterlaw19_IntervalCalls.j0 k a3 a4 true a0_0 a0_1 a1_0 a1_1)))))))) else (some false))) = some r := h
  clear h; replace H := Option.bind_eq_some_iff.mp H; obtain ⟨t478, A60, H⟩ := H; replace H : (if t478 = true then ((interval_Meet.f k a0_0 a0_1 a1_0 a1_1).bind fun bt479 => ((lamplighterref19_Meet.f a0_0 a0_1 a1_0 a1_1).bind fun bt483 => (if (!(bt479.1 == bt483.1) || (!(bt479.2.1 == bt483.2.1))) = true then (lamplighterlaw19_IntervalCalls.j0 k a3 a4 true a0_0 a0_1 a1_0 a1_1) else (if (bt479.2.2 != bt483.2.2) = true then (lamplighterlaw19_IntervalCalls.j0 k a3 a4 true a0_0 a0_1 a1_0 a1_1) else ((interval_Check.f a0_0 a0_1).bind fun t487 => ((lamplighterref19_Check.f a0_0 a0_1).bind fun t488 => (if t487 = t488 then ((interval_Has.f k a0_0 a0_1 a2).bind fun t489 => ((lamplighterref19_Has.f a0_0 a0_1 a2).bind fun t490 => (if (t489 != t490) = true then (lamplighterlaw19_IntervalCalls.j0 k a3 a4 true a0_0 a0_1 a1_0 a1_1) else ((interval_Within.f k a0_0 a0_1 a1_0 a1_1).bind fun t491 => ((lamplighterref19_Within.f a0_0 a0_1 a1_0 a1_1).bind fun t492 => (if (t491 != t492) = true then (lamplighterlaw19_IntervalCalls.j0 k a3 a4 true a0_0 a0_1 a1_0 a1_1) else ((interval_Join.f k a0_0 a0_1 a1_0 a1_1).bind fun bt493 => ((lamplighterref19_Join.f a0_0 a0_1 a1_0 a1_1).bind fun bt495 => (if (!(bt493.1 == bt495.1) || (!(bt493.2 == bt495.2))) = true then (lamplighterlaw19_IntervalCalls.j0 k a3 a4 true a0_0 a0_1 a1_0 a1_1) else ((interval_Widen.f k a0_0 a0_1 a1_0 a1_1).bind fun bt497 => ((lamplighterref19_Widen.f k a0_0 a0_1 a1_0 a1_1).bind fun bt499 => (lamplighterlaw19_IntervalCalls.j0 k a3 a4 (!(bt497.1 == bt499.1) || (!(bt497.2 == bt499.2))) a0_0 a0_1 a1_0 a1_1)))))))))))) else (lamplighterlaw19_IntervalCalls.j0 k a3 a4 true a0_0 a0_1 a1_0 a1_1)))))))) else (some false)) = some r := H; have A6 := am A60; clear A60; by_cases c7 : t478 = true
  · subst c7; have H1 : ((interval_Meet.f k a0_0 a0_1 a1_0 a1_1).bind fun bt479 => ((lamplighterref19_Meet.f a0_0 a0_1 a1_0 a1_1).bind fun bt483 => (if (!(bt479.1 == bt483.1) || (!(bt479.2.1 == bt483.2.1))) = true then (lamplighterlaw19_IntervalCalls.j0 k a3 a4 true a0_0 a0_1 a1_0 a1_1) else (if (bt479.2.2 != bt483.2.2) = true then (lamplighterlaw19_IntervalCalls.j0 k a3 a4 true a0_0 a0_1 a1_0 a1_1) else ((interval_Check.f a0_0 a0_1).bind fun t487 => ((lamplighterref19_Check.f a0_0 a0_1).bind fun t488 => (if t487 = t488 then ((interval_Has.f k a0_0 a0_1 a2).bind fun t489 => ((lamplighterref19_Has.f a0_0 a0_1 a2).bind fun t490 => (if (t489 != t490) = true then (lamplighterlaw19_IntervalCalls.j0 k a3 a4 true a0_0 a0_1 a1_0 a1_1) else ((interval_Within.f k a0_0 a0_1 a1_0 a1_1).bind fun t491 => ((lamplighterref19_Within.f a0_0 a0_1 a1_0 a1_1).bind fun t492 => (if (t491 != t492) = true then (lamplighterlaw19_IntervalCalls.j0 k a3 a4 true a0_0 a0_1 a1_0 a1_1) else ((interval_Join.f k a0_0 a0_1 a1_0 a1_1).bind fun bt493 => ((lamplighterref19_Join.f a0_0 a0_1 a1_0 a1_1).bind fun bt495 => (if (!(bt493.1 == bt495.1) || (!(bt493.2 == bt495.2))) = true then (lamplighterlaw19_IntervalCalls.j0 k a3 a4 true a0_0 a0_1 a1_0 a1_1) else ((interval_Widen.f k a0_0 a0_1 a1_0 a1_1).bind fun bt497 => ((lamplighterref19_Widen.f k a0_0 a0_1 a1_0 a1_1).bind fun bt499 => (lamplighterlaw19_IntervalCalls.j0 k a3 a4 (!(bt497.1 == bt499.1) || (!(bt497.2 == bt499.2))) a0_0 a0_1 a1_0 a1_1)))))))))))) else (lamplighterlaw19_IntervalCalls.j0 k a3 a4 true a0_0 a0_1 a1_0 a1_1)))))))) = some r := by rw [if_pos rfl] at H; exact H
    clear H; have H := H1; clear H1; replace H := Option.bind_eq_some_iff.mp H; obtain ⟨⟨t479, t480, t481⟩, A80, H⟩ := H; replace H : ((lamplighterref19_Meet.f a0_0 a0_1 a1_0 a1_1).bind fun bt483 => (if (!(t479 == bt483.1) || (!(t480 == bt483.2.1))) = true then (lamplighterlaw19_IntervalCalls.j0 k a3 a4 true a0_0 a0_1 a1_0 a1_1) else (if (t481 != bt483.2.2) = true then (lamplighterlaw19_IntervalCalls.j0 k a3 a4 true a0_0 a0_1 a1_0 a1_1) else ((interval_Check.f a0_0 a0_1).bind fun t487 => ((lamplighterref19_Check.f a0_0 a0_1).bind fun t488 => (if t487 = t488 then ((interval_Has.f k a0_0 a0_1 a2).bind fun t489 => ((lamplighterref19_Has.f a0_0 a0_1 a2).bind fun t490 => (if (t489 != t490) = true then (lamplighterlaw19_IntervalCalls.j0 k a3 a4 true a0_0 a0_1 a1_0 a1_1) else ((interval_Within.f k a0_0 a0_1 a1_0 a1_1).bind fun t491 => ((lamplighterref19_Within.f a0_0 a0_1 a1_0 a1_1).bind fun t492 => (if (t491 != t492) = true then (lamplighterlaw19_IntervalCalls.j0 k a3 a4 true a0_0 a0_1 a1_0 a1_1) else ((interval_Join.f k a0_0 a0_1 a1_0 a1_1).bind fun bt493 => ((lamplighterref19_Join.f a0_0 a0_1 a1_0 a1_1).bind fun bt495 => (if (!(bt493.1 == bt495.1) || (!(bt493.2 == bt495.2))) = true then (lamplighterlaw19_IntervalCalls.j0 k a3 a4 true a0_0 a0_1 a1_0 a1_1) else ((interval_Widen.f k a0_0 a0_1 a1_0 a1_1).bind fun bt497 => ((lamplighterref19_Widen.f k a0_0 a0_1 a1_0 a1_1).bind fun bt499 => (lamplighterlaw19_IntervalCalls.j0 k a3 a4 (!(bt497.1 == bt499.1) || (!(bt497.2 == bt499.2))) a0_0 a0_1 a1_0 a1_1)))))))))))) else (lamplighterlaw19_IntervalCalls.j0 k a3 a4 true a0_0 a0_1 a1_0 a1_1))))))) = some r := H; have A8 := am A80; clear A80; replace H := Option.bind_eq_some_iff.mp H; obtain ⟨⟨t483, t484, t485⟩, A90, H⟩ := H; replace H : (if (!(t479 == t483) || (!(t480 == t484))) = true then (lamplighterlaw19_IntervalCalls.j0 k a3 a4 true a0_0 a0_1 a1_0 a1_1) else (if (t481 != t485) = true then (lamplighterlaw19_IntervalCalls.j0 k a3 a4 true a0_0 a0_1 a1_0 a1_1) else ((interval_Check.f a0_0 a0_1).bind fun t487 => ((lamplighterref19_Check.f a0_0 a0_1).bind fun t488 => (if t487 = t488 then ((interval_Has.f k a0_0 a0_1 a2).bind fun t489 => ((lamplighterref19_Has.f a0_0 a0_1 a2).bind fun t490 => (if (t489 != t490) = true then (lamplighterlaw19_IntervalCalls.j0 k a3 a4 true a0_0 a0_1 a1_0 a1_1) else ((interval_Within.f k a0_0 a0_1 a1_0 a1_1).bind fun t491 => ((lamplighterref19_Within.f a0_0 a0_1 a1_0 a1_1).bind fun t492 => (if (t491 != t492) = true then (lamplighterlaw19_IntervalCalls.j0 k a3 a4 true a0_0 a0_1 a1_0 a1_1) else ((interval_Join.f k a0_0 a0_1 a1_0 a1_1).bind fun bt493 => ((lamplighterref19_Join.f a0_0 a0_1 a1_0 a1_1).bind fun bt495 => (if (!(bt493.1 == bt495.1) || (!(bt493.2 == bt495.2))) = true then (lamplighterlaw19_IntervalCalls.j0 k a3 a4 true a0_0 a0_1 a1_0 a1_1) else ((interval_Widen.f k a0_0 a0_1 a1_0 a1_1).bind fun bt497 => ((lamplighterref19_Widen.f k a0_0 a0_1 a1_0 a1_1).bind fun bt499 => (lamplighterlaw19_IntervalCalls.j0 k a3 a4 (!(bt497.1 == bt499.1) || (!(bt497.2 == bt499.2))) a0_0 a0_1 a1_0 a1_1)))))))))))) else (lamplighterlaw19_IntervalCalls.j0 k a3 a4 true a0_0 a0_1 a1_0 a1_1)))))) = some r := H; have A9 := am A90; clear A90; have HC10 := am H; clear H
    go_enter Try.func7, Try.ntmps7
    go_upto_region 5 with (first | ((with_reducible refine gate_dst (N := 5) rfl ?_); refine bxE 5 #[.int .u32 a0_0, .int .u32 a0_1] 24 ?_; intro gb476 hg w11 hbox hb; have BK476 := am (hbox); have GW476 := gwA hg HB; have GE476 := gwA hg HB; replace HB := bsA HB hb; clear hb hbox hg) | ((with_reducible refine gate_dst (N := 6) rfl ?_); refine bxE 6 #[.int .u32 a1_0, .int .u32 a1_1] 24 ?_; intro gb477 hg w12 hbox hb; have BK477 := am (hbox); have GW477 := gwA hg HB; have GE477 := gwA hg HB; have NB476_477 := ltA hg BK476; have NB477_476 := gtA hg BK476; replace BK476 := bbA BK476 hb; replace HB := bsA HB hb; clear hb hbox hg) | ((with_reducible refine gate_callee (f := 8) rfl ?_); refine goesL_ (some 31) rfl rfl Try.func8 (by kernel_rfl) rfl #[] rfl (by (try simp only [List.map_toArray, List.map_cons, List.map_nil]); first | done | rfl | (simp only [List.length_drop, List.length_take]; rfl)) ?_; (with_reducible refine (lamplighterlaw19_lives.calls k  true _ A6.out ⟨rfl⟩).mono ?_); rintro e w13 ⟨rfl, hb⟩; refine ⟨_, rfl, ?_⟩; replace BK476 := bbA BK476 hb; replace BK477 := bbA BK477 hb; replace HB := bsA HB hb; (try clear hb); (try clear hb2); (try clear hk); (try clear hi); have hnb14 := NB476_477.out; have hnc14 := NB477_476.out; have hcz15_0 : w13.cell? ⟨gb476, 0, none⟩ = some (.int .u32 a0_0) := cz BK476; have hcz15_1 : w13.cell? ⟨gb476, 1, none⟩ = some (.int .u32 a0_1) := cz BK476; have hfz15_0 := blk_frozen BK476.out 0; have hfz15_1 := blk_frozen BK476.out 1; have hcz16_0 : w13.cell? ⟨gb477, 0, none⟩ = some (.int .u32 a1_0) := cz BK477; have hcz16_1 : w13.cell? ⟨gb477, 1, none⟩ = some (.int .u32 a1_1) := cz BK477; have hfz16_0 := blk_frozen BK477.out 0; have hfz16_1 := blk_frozen BK477.out 1) | ((with_reducible refine gate_callee (f := 18) rfl ?_); refine goesL_ (some 36) rfl rfl Try.func18 (by kernel_rfl) rfl #[.agg #[.int .u32 a0_0, .int .u32 a0_1], .agg #[.int .u32 a1_0, .int .u32 a1_1]] rfl (by (try simp only [List.map_toArray, List.map_cons, List.map_nil]); first | done | rfl | (simp only [List.length_drop, List.length_take]; rfl)) ?_; (with_reducible refine (interval_Meet.calls k a0_0 a0_1 a1_0 a1_1 t479 t480 t481 _ A8.out).mono ?_); rintro e w17 ⟨rfl, hb⟩; refine ⟨_, rfl, ?_⟩; replace BK476 := bbA BK476 hb; replace BK477 := bbA BK477 hb; replace HB := bsA HB hb; (try clear hb); (try clear hb2); (try clear hk); (try clear hi)) | ((with_reducible refine gate_dst (N := 11) rfl ?_); refine bxE 11 #[.int .u32 0, .int .u32 0] 24 ?_; intro gb482 hg w18 hbox hb; have BK482 := am (hbox); have GW482 := gwA hg HB; have GE482 := gwA hg HB; have NB476_482 := ltA hg BK476; have NB482_476 := gtA hg BK476; have NB477_482 := ltA hg BK477; have NB482_477 := gtA hg BK477; replace BK476 := bbA BK476 hb; replace BK477 := bbA BK477 hb; replace HB := bsA HB hb; clear hb hbox hg; have hnb19 := NB482_476.out; have hnc19 := NB476_482.out; have hnb20 := NB482_477.out; have hnc20 := NB477_482.out; have hcz21_0 : w18.cell? ⟨gb482, 0, none⟩ = some (.int .u32 0) := cz BK482; have hcz21_1 : w18.cell? ⟨gb482, 1, none⟩ = some (.int .u32 0) := cz BK482; have hfz21_0 := blk_frozen BK482.out 0; have hfz21_1 := blk_frozen BK482.out 1; have hcz22_0 : w18.cell? ⟨gb476, 0, none⟩ = some (.int .u32 a0_0) := cz BK476; have hcz22_1 : w18.cell? ⟨gb476, 1, none⟩ = some (.int .u32 a0_1) := cz BK476; have hfz22_0 := blk_frozen BK476.out 0; have hfz22_1 := blk_frozen BK476.out 1; have hcz23_0 : w18.cell? ⟨gb477, 0, none⟩ = some (.int .u32 a1_0) := cz BK477; have hcz23_1 : w18.cell? ⟨gb477, 1, none⟩ = some (.int .u32 a1_1) := cz BK477; have hfz23_0 := blk_frozen BK477.out 0; have hfz23_1 := blk_frozen BK477.out 1) | ((with_reducible refine gate_callee (f := 26) rfl ?_); refine goesL_ (some 42) rfl rfl Try.func26 (by kernel_rfl) rfl #[.agg #[.int .u32 a0_0, .int .u32 a0_1], .agg #[.int .u32 a1_0, .int .u32 a1_1]] rfl (by (try simp only [List.map_toArray, List.map_cons, List.map_nil]); first | done | rfl | (simp only [List.length_drop, List.length_take]; rfl)) ?_; (with_reducible refine (lamplighterref19_Meet.calls a0_0 a0_1 a1_0 a1_1 t483 t484 t485 _ A9.out).mono ?_); rintro e w24 ⟨rfl, hb⟩; refine ⟨_, rfl, ?_⟩; replace BK476 := am (blk_below (g := gb476) (o := .cells #[.int .u32 a0_0, .int .u32 a0_1] 24 (0, 0)) (by refine bkT ?_; refine blk_far ?_ NB476_482.out _; refine bkT ?_; refine blk_far ?_ NB476_482.out _; refine bkT ?_; exact BK476.out) hb); replace BK477 := am (blk_below (g := gb477) (o := .cells #[.int .u32 a1_0, .int .u32 a1_1] 24 (0, 0)) (by refine bkT ?_; refine blk_far ?_ NB477_482.out _; refine bkT ?_; refine blk_far ?_ NB477_482.out _; refine bkT ?_; exact BK477.out) hb); replace BK482 := am (blk_below (g := gb482) (o := .cells #[.int .u32 t479, .int .u32 t480] 24 (0, 0)) (by refine bkT ?_; refine blk_put (cs := #[.int .u32 t479, .int .u32 0]) ?_ 1 _ rfl; refine bkT ?_; refine blk_put (cs := #[.int .u32 0, .int .u32 0]) ?_ 0 _ rfl; refine bkT ?_; exact BK482.out) hb); replace HB := bsA HB hb; (try clear hb); (try clear hb2); (try clear hk); (try clear hi)) | ((with_reducible refine gate_dst (N := 13) rfl ?_); refine bxE 13 #[.int .u32 0, .int .u32 0] 24 ?_; intro gb486 hg w25 hbox hb; have BK486 := am (hbox); have GW486 := gwA hg HB; have GE486 := gwA hg HB; have NB476_486 := ltA hg BK476; have NB486_476 := gtA hg BK476; have NB477_486 := ltA hg BK477; have NB486_477 := gtA hg BK477; have NB482_486 := ltA hg BK482; have NB486_482 := gtA hg BK482; replace BK476 := bbA BK476 hb; replace BK477 := bbA BK477 hb; replace BK482 := bbA BK482 hb; replace HB := bsA HB hb; clear hb hbox hg; have hnb26 := NB486_476.out; have hnc26 := NB476_486.out; have hnb27 := NB486_477.out; have hnc27 := NB477_486.out; have hnb28 := NB486_482.out; have hnc28 := NB482_486.out; have hcz29_0 : w25.cell? ⟨gb486, 0, none⟩ = some (.int .u32 0) := cz BK486; have hcz29_1 : w25.cell? ⟨gb486, 1, none⟩ = some (.int .u32 0) := cz BK486; have hfz29_0 := blk_frozen BK486.out 0; have hfz29_1 := blk_frozen BK486.out 1))
    (try simp only [Act.put, s1, s2, s3])
    go_cut [95] (fun v95 wc => ∃ (kq : Nat) (x95_9 : Bool), v95 = .bool x95_9 ∧ Aside0 (lamplighterlaw19_IntervalCalls.j0 kq a3 a4 x95_9 a0_0 a0_1 a1_0 a1_1 = some r) ∧ Aside0 (kq ≤ k) ∧ Aside0 (wc.heap[gb476]? = some (.cells #[.int .u32 a0_0, .int .u32 a0_1] 24 (0, 0))) ∧ Aside0 (wc.heap[gb477]? = some (.cells #[.int .u32 a1_0, .int .u32 a1_1] 24 (0, 0))) ∧ Aside0 (wc.heap[gb482]? = some (.cells #[.int .u32 t479, .int .u32 t480] 24 (0, 0))) ∧ Aside0 (wc.heap[gb486]? = some (.cells #[.int .u32 t483, .int .u32 t484] 24 (0, 0))) ∧ Aside0 (Below w.heap.size w wc))
    case first => as_aux_lemma =>
      have H := HC10.out
      clear HC10; by_cases c30 : (!(t479 == t483) || (!(t480 == t484))) = true
      · rw [if_pos c30] at H; have c30b0 : (!(t479 == t483) || (!(t480 == t484))) = true := c30
        clear c30; (first | rw [c30b0] | (simp only [i64_w, i32_w]; rw [c30b0]) | skip)
        have hz_ : ∀ (k_ : Nat) (r_ : Bool), lamplighterlaw19_IntervalCalls.j0 k_ a3 a4 true a0_0 a0_1 a1_0 a1_1 = some r_ → false = r_ := by
          intro k_ r_ h_
          cases k_ with
          | zero => exact absurd h_ (by simp [lamplighterlaw19_IntervalCalls.j0])
          | succ k_ => rw [lamplighterlaw19_IntervalCalls.j0, if_pos rfl] at h_; exact Option.some.inj h_
        exact absurd ((hz_ _ _ H).trans hr_.out) (by decide)
      rw [if_neg c30] at H; have c30b0 : (!(t479 == t483) || (!(t480 == t484))) = false := by simpa using c30
      clear c30; (first | rw [c30b0] | (simp only [i64_w, i32_w]; rw [c30b0]) | skip)
      by_cases c31 : (t481 != t485) = true
      · rw [if_pos c31] at H; have c31b0 : (t481 != t485) = true := c31
        (try (have c31b1 : decide (t481 = t485) = false := by simpa using c31))
        (try (have c31b2 : (t481 == t485) = false := by simpa using c31))
        (try (have c31b3 : ¬ (t481 = t485) := by simpa using c31))
        clear c31; have hz_ : ∀ (k_ : Nat) (r_ : Bool), lamplighterlaw19_IntervalCalls.j0 k_ a3 a4 true a0_0 a0_1 a1_0 a1_1 = some r_ → false = r_ := by
          intro k_ r_ h_
          cases k_ with
          | zero => exact absurd h_ (by simp [lamplighterlaw19_IntervalCalls.j0])
          | succ k_ => rw [lamplighterlaw19_IntervalCalls.j0, if_pos rfl] at h_; exact Option.some.inj h_
        exact absurd ((hz_ _ _ H).trans hr_.out) (by decide)
      rw [if_neg c31] at H; have c31b0 : (t481 != t485) = false := by simpa using c31
      (try (have c31b1 : decide (t481 = t485) = true := by simpa using c31))
      (try (have c31b2 : (t481 == t485) = true := by simpa using c31))
      clear c31; replace H := Option.bind_eq_some_iff.mp H; obtain ⟨t487, A320, H⟩ := H; replace H : ((lamplighterref19_Check.f a0_0 a0_1).bind fun t488 => (if t487 = t488 then ((interval_Has.f k a0_0 a0_1 a2).bind fun t489 => ((lamplighterref19_Has.f a0_0 a0_1 a2).bind fun t490 => (if (t489 != t490) = true then (lamplighterlaw19_IntervalCalls.j0 k a3 a4 true a0_0 a0_1 a1_0 a1_1) else ((interval_Within.f k a0_0 a0_1 a1_0 a1_1).bind fun t491 => ((lamplighterref19_Within.f a0_0 a0_1 a1_0 a1_1).bind fun t492 => (if (t491 != t492) = true then (lamplighterlaw19_IntervalCalls.j0 k a3 a4 true a0_0 a0_1 a1_0 a1_1) else ((interval_Join.f k a0_0 a0_1 a1_0 a1_1).bind fun bt493 => ((lamplighterref19_Join.f a0_0 a0_1 a1_0 a1_1).bind fun bt495 => (if (!(bt493.1 == bt495.1) || (!(bt493.2 == bt495.2))) = true then (lamplighterlaw19_IntervalCalls.j0 k a3 a4 true a0_0 a0_1 a1_0 a1_1) else ((interval_Widen.f k a0_0 a0_1 a1_0 a1_1).bind fun bt497 => ((lamplighterref19_Widen.f k a0_0 a0_1 a1_0 a1_1).bind fun bt499 => (lamplighterlaw19_IntervalCalls.j0 k a3 a4 (!(bt497.1 == bt499.1) || (!(bt497.2 == bt499.2))) a0_0 a0_1 a1_0 a1_1)))))))))))) else (lamplighterlaw19_IntervalCalls.j0 k a3 a4 true a0_0 a0_1 a1_0 a1_1))) = some r := H; have A32 := am A320; clear A320; replace H := Option.bind_eq_some_iff.mp H; obtain ⟨t488, A330, H⟩ := H; replace H : (if t487 = t488 then ((interval_Has.f k a0_0 a0_1 a2).bind fun t489 => ((lamplighterref19_Has.f a0_0 a0_1 a2).bind fun t490 => (if (t489 != t490) = true then (lamplighterlaw19_IntervalCalls.j0 k a3 a4 true a0_0 a0_1 a1_0 a1_1) else ((interval_Within.f k a0_0 a0_1 a1_0 a1_1).bind fun t491 => ((lamplighterref19_Within.f a0_0 a0_1 a1_0 a1_1).bind fun t492 => (if (t491 != t492) = true then (lamplighterlaw19_IntervalCalls.j0 k a3 a4 true a0_0 a0_1 a1_0 a1_1) else ((interval_Join.f k a0_0 a0_1 a1_0 a1_1).bind fun bt493 => ((lamplighterref19_Join.f a0_0 a0_1 a1_0 a1_1).bind fun bt495 => (if (!(bt493.1 == bt495.1) || (!(bt493.2 == bt495.2))) = true then (lamplighterlaw19_IntervalCalls.j0 k a3 a4 true a0_0 a0_1 a1_0 a1_1) else ((interval_Widen.f k a0_0 a0_1 a1_0 a1_1).bind fun bt497 => ((lamplighterref19_Widen.f k a0_0 a0_1 a1_0 a1_1).bind fun bt499 => (lamplighterlaw19_IntervalCalls.j0 k a3 a4 (!(bt497.1 == bt499.1) || (!(bt497.2 == bt499.2))) a0_0 a0_1 a1_0 a1_1)))))))))))) else (lamplighterlaw19_IntervalCalls.j0 k a3 a4 true a0_0 a0_1 a1_0 a1_1)) = some r := H; have A33 := am A330; clear A330; by_cases c34 : t487 = t488
      · rw [if_pos c34] at H; have c34b0 : (t487 == t488) = true := beq_iff_eq.mpr c34; have c34b1 : (t487 != t488) = false := bne_eq_false_iff_eq.mpr c34; clear c34; replace H := Option.bind_eq_some_iff.mp H; obtain ⟨t489, A350, H⟩ := H; replace H : ((lamplighterref19_Has.f a0_0 a0_1 a2).bind fun t490 => (if (t489 != t490) = true then (lamplighterlaw19_IntervalCalls.j0 k a3 a4 true a0_0 a0_1 a1_0 a1_1) else ((interval_Within.f k a0_0 a0_1 a1_0 a1_1).bind fun t491 => ((lamplighterref19_Within.f a0_0 a0_1 a1_0 a1_1).bind fun t492 => (if (t491 != t492) = true then (lamplighterlaw19_IntervalCalls.j0 k a3 a4 true a0_0 a0_1 a1_0 a1_1) else ((interval_Join.f k a0_0 a0_1 a1_0 a1_1).bind fun bt493 => ((lamplighterref19_Join.f a0_0 a0_1 a1_0 a1_1).bind fun bt495 => (if (!(bt493.1 == bt495.1) || (!(bt493.2 == bt495.2))) = true then (lamplighterlaw19_IntervalCalls.j0 k a3 a4 true a0_0 a0_1 a1_0 a1_1) else ((interval_Widen.f k a0_0 a0_1 a1_0 a1_1).bind fun bt497 => ((lamplighterref19_Widen.f k a0_0 a0_1 a1_0 a1_1).bind fun bt499 => (lamplighterlaw19_IntervalCalls.j0 k a3 a4 (!(bt497.1 == bt499.1) || (!(bt497.2 == bt499.2))) a0_0 a0_1 a1_0 a1_1))))))))))) = some r := H; have A35 := am A350; clear A350; replace H := Option.bind_eq_some_iff.mp H; obtain ⟨t490, A360, H⟩ := H; replace H : (if (t489 != t490) = true then (lamplighterlaw19_IntervalCalls.j0 k a3 a4 true a0_0 a0_1 a1_0 a1_1) else ((interval_Within.f k a0_0 a0_1 a1_0 a1_1).bind fun t491 => ((lamplighterref19_Within.f a0_0 a0_1 a1_0 a1_1).bind fun t492 => (if (t491 != t492) = true then (lamplighterlaw19_IntervalCalls.j0 k a3 a4 true a0_0 a0_1 a1_0 a1_1) else ((interval_Join.f k a0_0 a0_1 a1_0 a1_1).bind fun bt493 => ((lamplighterref19_Join.f a0_0 a0_1 a1_0 a1_1).bind fun bt495 => (if (!(bt493.1 == bt495.1) || (!(bt493.2 == bt495.2))) = true then (lamplighterlaw19_IntervalCalls.j0 k a3 a4 true a0_0 a0_1 a1_0 a1_1) else ((interval_Widen.f k a0_0 a0_1 a1_0 a1_1).bind fun bt497 => ((lamplighterref19_Widen.f k a0_0 a0_1 a1_0 a1_1).bind fun bt499 => (lamplighterlaw19_IntervalCalls.j0 k a3 a4 (!(bt497.1 == bt499.1) || (!(bt497.2 == bt499.2))) a0_0 a0_1 a1_0 a1_1)))))))))) = some r := H; have A36 := am A360; clear A360; by_cases c37 : (t489 != t490) = true
        · rw [if_pos c37] at H; have c37b0 : (t489 != t490) = true := c37
          (try (have c37b1 : decide (t489 = t490) = false := by simpa using c37))
          (try (have c37b2 : (t489 == t490) = false := by simpa using c37))
          (try (have c37b3 : ¬ (t489 = t490) := by simpa using c37))
          clear c37; have hz_ : ∀ (k_ : Nat) (r_ : Bool), lamplighterlaw19_IntervalCalls.j0 k_ a3 a4 true a0_0 a0_1 a1_0 a1_1 = some r_ → false = r_ := by
            intro k_ r_ h_
            cases k_ with
            | zero => exact absurd h_ (by simp [lamplighterlaw19_IntervalCalls.j0])
            | succ k_ => rw [lamplighterlaw19_IntervalCalls.j0, if_pos rfl] at h_; exact Option.some.inj h_
          exact absurd ((hz_ _ _ H).trans hr_.out) (by decide)
        rw [if_neg c37] at H; have c37b0 : (t489 != t490) = false := by simpa using c37
        (try (have c37b1 : decide (t489 = t490) = true := by simpa using c37))
        (try (have c37b2 : (t489 == t490) = true := by simpa using c37))
        clear c37; replace H := Option.bind_eq_some_iff.mp H; obtain ⟨t491, A380, H⟩ := H; replace H : ((lamplighterref19_Within.f a0_0 a0_1 a1_0 a1_1).bind fun t492 => (if (t491 != t492) = true then (lamplighterlaw19_IntervalCalls.j0 k a3 a4 true a0_0 a0_1 a1_0 a1_1) else ((interval_Join.f k a0_0 a0_1 a1_0 a1_1).bind fun bt493 => ((lamplighterref19_Join.f a0_0 a0_1 a1_0 a1_1).bind fun bt495 => (if (!(bt493.1 == bt495.1) || (!(bt493.2 == bt495.2))) = true then (lamplighterlaw19_IntervalCalls.j0 k a3 a4 true a0_0 a0_1 a1_0 a1_1) else ((interval_Widen.f k a0_0 a0_1 a1_0 a1_1).bind fun bt497 => ((lamplighterref19_Widen.f k a0_0 a0_1 a1_0 a1_1).bind fun bt499 => (lamplighterlaw19_IntervalCalls.j0 k a3 a4 (!(bt497.1 == bt499.1) || (!(bt497.2 == bt499.2))) a0_0 a0_1 a1_0 a1_1)))))))) = some r := H; have A38 := am A380; clear A380; replace H := Option.bind_eq_some_iff.mp H; obtain ⟨t492, A390, H⟩ := H; replace H : (if (t491 != t492) = true then (lamplighterlaw19_IntervalCalls.j0 k a3 a4 true a0_0 a0_1 a1_0 a1_1) else ((interval_Join.f k a0_0 a0_1 a1_0 a1_1).bind fun bt493 => ((lamplighterref19_Join.f a0_0 a0_1 a1_0 a1_1).bind fun bt495 => (if (!(bt493.1 == bt495.1) || (!(bt493.2 == bt495.2))) = true then (lamplighterlaw19_IntervalCalls.j0 k a3 a4 true a0_0 a0_1 a1_0 a1_1) else ((interval_Widen.f k a0_0 a0_1 a1_0 a1_1).bind fun bt497 => ((lamplighterref19_Widen.f k a0_0 a0_1 a1_0 a1_1).bind fun bt499 => (lamplighterlaw19_IntervalCalls.j0 k a3 a4 (!(bt497.1 == bt499.1) || (!(bt497.2 == bt499.2))) a0_0 a0_1 a1_0 a1_1))))))) = some r := H; have A39 := am A390; clear A390; by_cases c40 : (t491 != t492) = true
        · rw [if_pos c40] at H; have c40b0 : (t491 != t492) = true := c40
          (try (have c40b1 : decide (t491 = t492) = false := by simpa using c40))
          (try (have c40b2 : (t491 == t492) = false := by simpa using c40))
          (try (have c40b3 : ¬ (t491 = t492) := by simpa using c40))
          clear c40; have hz_ : ∀ (k_ : Nat) (r_ : Bool), lamplighterlaw19_IntervalCalls.j0 k_ a3 a4 true a0_0 a0_1 a1_0 a1_1 = some r_ → false = r_ := by
            intro k_ r_ h_
            cases k_ with
            | zero => exact absurd h_ (by simp [lamplighterlaw19_IntervalCalls.j0])
            | succ k_ => rw [lamplighterlaw19_IntervalCalls.j0, if_pos rfl] at h_; exact Option.some.inj h_
          exact absurd ((hz_ _ _ H).trans hr_.out) (by decide)
        rw [if_neg c40] at H; have c40b0 : (t491 != t492) = false := by simpa using c40
        (try (have c40b1 : decide (t491 = t492) = true := by simpa using c40))
        (try (have c40b2 : (t491 == t492) = true := by simpa using c40))
        clear c40; replace H := Option.bind_eq_some_iff.mp H; obtain ⟨⟨t493, t494⟩, A410, H⟩ := H; replace H : ((lamplighterref19_Join.f a0_0 a0_1 a1_0 a1_1).bind fun bt495 => (if (!(t493 == bt495.1) || (!(t494 == bt495.2))) = true then (lamplighterlaw19_IntervalCalls.j0 k a3 a4 true a0_0 a0_1 a1_0 a1_1) else ((interval_Widen.f k a0_0 a0_1 a1_0 a1_1).bind fun bt497 => ((lamplighterref19_Widen.f k a0_0 a0_1 a1_0 a1_1).bind fun bt499 => (lamplighterlaw19_IntervalCalls.j0 k a3 a4 (!(bt497.1 == bt499.1) || (!(bt497.2 == bt499.2))) a0_0 a0_1 a1_0 a1_1))))) = some r := H; have A41 := am A410; clear A410; replace H := Option.bind_eq_some_iff.mp H; obtain ⟨⟨t495, t496⟩, A420, H⟩ := H; replace H : (if (!(t493 == t495) || (!(t494 == t496))) = true then (lamplighterlaw19_IntervalCalls.j0 k a3 a4 true a0_0 a0_1 a1_0 a1_1) else ((interval_Widen.f k a0_0 a0_1 a1_0 a1_1).bind fun bt497 => ((lamplighterref19_Widen.f k a0_0 a0_1 a1_0 a1_1).bind fun bt499 => (lamplighterlaw19_IntervalCalls.j0 k a3 a4 (!(bt497.1 == bt499.1) || (!(bt497.2 == bt499.2))) a0_0 a0_1 a1_0 a1_1)))) = some r := H; have A42 := am A420; clear A420; by_cases c43 : (!(t493 == t495) || (!(t494 == t496))) = true
        · rw [if_pos c43] at H; have c43b0 : (!(t493 == t495) || (!(t494 == t496))) = true := c43
          clear c43; have hz_ : ∀ (k_ : Nat) (r_ : Bool), lamplighterlaw19_IntervalCalls.j0 k_ a3 a4 true a0_0 a0_1 a1_0 a1_1 = some r_ → false = r_ := by
            intro k_ r_ h_
            cases k_ with
            | zero => exact absurd h_ (by simp [lamplighterlaw19_IntervalCalls.j0])
            | succ k_ => rw [lamplighterlaw19_IntervalCalls.j0, if_pos rfl] at h_; exact Option.some.inj h_
          exact absurd ((hz_ _ _ H).trans hr_.out) (by decide)
        rw [if_neg c43] at H; have c43b0 : (!(t493 == t495) || (!(t494 == t496))) = false := by simpa using c43
        clear c43; replace H := Option.bind_eq_some_iff.mp H; obtain ⟨⟨t497, t498⟩, A440, H⟩ := H; replace H : ((lamplighterref19_Widen.f k a0_0 a0_1 a1_0 a1_1).bind fun bt499 => (lamplighterlaw19_IntervalCalls.j0 k a3 a4 (!(t497 == bt499.1) || (!(t498 == bt499.2))) a0_0 a0_1 a1_0 a1_1)) = some r := H; have A44 := am A440; clear A440; replace H := Option.bind_eq_some_iff.mp H; obtain ⟨⟨t499, t500⟩, A450, H⟩ := H; replace H : (lamplighterlaw19_IntervalCalls.j0 k a3 a4 (!(t497 == t499) || (!(t498 == t500))) a0_0 a0_1 a1_0 a1_1) = some r := H; have A45 := am A450; clear A450; have H' := am H; clear H
        try go_wp2
        have n0_ : Aside0 (((w25.setCell ⟨gb486, 0, none⟩ (.int .u32 t483)).setCell ⟨gb486, 1, none⟩ (.int .u32 t484)).heap[gb476]? = some (.cells #[.int .u32 a0_0, .int .u32 a0_1] 24 (0, 0))) := ⟨by refine bkT ?_; refine blk_far ?_ NB476_486.out _; refine bkT ?_; refine blk_far ?_ NB476_486.out _; refine bkT ?_; exact BK476.out⟩
        have n1_ : Aside0 (((w25.setCell ⟨gb486, 0, none⟩ (.int .u32 t483)).setCell ⟨gb486, 1, none⟩ (.int .u32 t484)).heap[gb477]? = some (.cells #[.int .u32 a1_0, .int .u32 a1_1] 24 (0, 0))) := ⟨by refine bkT ?_; refine blk_far ?_ NB477_486.out _; refine bkT ?_; refine blk_far ?_ NB477_486.out _; refine bkT ?_; exact BK477.out⟩
        have n2_ : Aside0 (((w25.setCell ⟨gb486, 0, none⟩ (.int .u32 t483)).setCell ⟨gb486, 1, none⟩ (.int .u32 t484)).heap[gb482]? = some (.cells #[.int .u32 t479, .int .u32 t480] 24 (0, 0))) := ⟨by refine bkT ?_; refine blk_far ?_ NB482_486.out _; refine bkT ?_; refine blk_far ?_ NB482_486.out _; refine bkT ?_; exact BK482.out⟩
        have n3_ : Aside0 (((w25.setCell ⟨gb486, 0, none⟩ (.int .u32 t483)).setCell ⟨gb486, 1, none⟩ (.int .u32 t484)).heap[gb486]? = some (.cells #[.int .u32 t483, .int .u32 t484] 24 (0, 0))) := ⟨by refine bkT ?_; refine blk_put (cs := #[.int .u32 t483, .int .u32 0]) ?_ 1 _ rfl; refine bkT ?_; refine blk_put (cs := #[.int .u32 0, .int .u32 0]) ?_ 0 _ rfl; refine bkT ?_; exact BK486.out⟩
        have n4_ : Aside0 (Below w.heap.size w ((w25.setCell ⟨gb486, 0, none⟩ (.int .u32 t483)).setCell ⟨gb486, 1, none⟩ (.int .u32 t484))) := ⟨by repeat (first | (with_reducible first | exact HB.out | apply below_alloc | apply pw_below_drewN | apply below_drew1 | refine below_set ?_ GE476.out | refine below_set ?_ GE477.out | refine below_set ?_ GE482.out | refine below_set ?_ GE486.out) | exact HB.out)⟩
        (try clear BK476)
        (try clear BK477)
        (try clear BK482)
        (try clear BK486)
        (try clear HB)
        generalize ((w25.setCell ⟨gb486, 0, none⟩ (.int .u32 t483)).setCell ⟨gb486, 1, none⟩ (.int .u32 t484)) = w46 at n0_ n1_ n2_ n3_ n4_ ⊢
        have BK476 := n0_; have BK477 := n1_; have BK482 := n2_; have BK486 := n3_; have HB := n4_; clear n0_ n1_ n2_ n3_ n4_; have n0_ := am (blk_drew BK476.out)
        have n1_ := am (blk_drew BK477.out)
        have n2_ := am (blk_drew BK482.out)
        have n3_ := am (blk_drew BK486.out)
        have n4_ := am (below_drew1 HB.out)
        clear BK476; clear BK477; clear BK482; clear BK486; clear HB; have BK476 := n0_; have BK477 := n1_; have BK482 := n2_; have BK486 := n3_; have HB := n4_; clear n0_ n1_ n2_ n3_ n4_; refine start_ (n := 51) (S := fun w' => w'.cell? ⟨gb482, 0, none⟩ = some (.int .u32 t479) ∧ w'.cell? ⟨gb482, 1, none⟩ = some (.int .u32 t480) ∧ w'.cell? ⟨gb486, 0, none⟩ = some (.int .u32 t483) ∧ w'.cell? ⟨gb486, 1, none⟩ = some (.int .u32 t484) ∧ w'.cell? ⟨gb476, 0, none⟩ = some (.int .u32 a0_0) ∧ w'.cell? ⟨gb476, 1, none⟩ = some (.int .u32 a0_1) ∧ w'.cell? ⟨gb477, 0, none⟩ = some (.int .u32 a1_0) ∧ w'.cell? ⟨gb477, 1, none⟩ = some (.int .u32 a1_1)) (ds := []) #[false, false, false, false, false, false, false, false, false, false, false, false, false, false, false, false, false, false, false, false, false, false, false, false, false, false, false, false, false, false, false, false, false, false, false, false, false, false, false, false, false, false, false, false, false, false, false, false, false, false, false] (by kernel_rfl) rfl rfl ⟨(blk_cell BK482.out 0).trans rfl, (blk_cell BK482.out 1).trans rfl, (blk_cell BK486.out 0).trans rfl, (blk_cell BK486.out 1).trans rfl, (blk_cell BK476.out 0).trans rfl, (blk_cell BK476.out 1).trans rfl, (blk_cell BK477.out 0).trans rfl, (blk_cell BK477.out 1).trans rfl⟩ (fun hHeld => ?_); refine with_tabW lamplighterlaw19_IntervalCalls.tab5 lamplighterlaw19_IntervalCalls.bits5 (fun HT_ HW_ => ?_)
        generalize w46.drew = w47 at BK476 BK477 BK482 BK486 HB hHeld ⊢
        refine take_ (i := 0) (N := some 45) (v := ?_) (a' := ?_) #[true, false, false, false, false, false, false, false, false, false, false, false, false, false, false, false, false, false, false, false, false, false, false, false, false, false, false, false, false, false, false, false, false, false, false, false, false, false, false, false, false, false, false, false, false, false, false, false, false, false, false] rfl rfl (take_ofW HT_.out HW_.out (by kernel_rfl)) (fun _ _ _ h => h) (Or.inl ⟨by rfl, ?_⟩) hHeld ?_ ?_
        rotate_left
        · rintro w' ⟨s0, s1, s2, s3, s4, s5, s6, s7⟩
          go_simp
          with_reducible rfl
        rotate_left
        · simp only [Act.put, s1, s2, s3, i64_w, i32_w]
          rfl
        refine take_ (i := 1) (N := some 46) (v := ?_) (a' := ?_) #[true, true, false, false, false, false, false, false, false, false, false, false, false, false, false, false, false, false, false, false, false, false, false, false, false, false, false, false, false, false, false, false, false, false, false, false, false, false, false, false, false, false, false, false, false, false, false, false, false, false, false] rfl rfl (take_ofW HT_.out HW_.out (by kernel_rfl)) (fun _ _ _ h => h) (Or.inl ⟨by rfl, ?_⟩) hHeld ?_ ?_
        rotate_left
        · rintro w' ⟨s0, s1, s2, s3, s4, s5, s6, s7⟩
          go_simp
          with_reducible rfl
        rotate_left
        · simp only [Act.put, s1, s2, s3, i64_w, i32_w]
          rfl
        refine pure_ (i := 2) (N := some 47) (v := ?_) (a' := ?_) #[true, true, true, false, false, false, false, false, false, false, false, false, false, false, false, false, false, false, false, false, false, false, false, false, false, false, false, false, false, false, false, false, false, false, false, false, false, false, false, false, false, false, false, false, false, false, false, false, false, false, false] rfl rfl (any_of HT_.out (by kernel_rfl)) (fun _ _ _ h => h) (Or.inl ⟨by rfl, ?_⟩) ?_ ?_
        rotate_left
        · intro w'
          go_simp
          with_reducible rfl
        rotate_left
        · simp only [Act.put, s1, s2, s3, i64_w, i32_w]
          rfl
        refine pure_ (i := 3) (N := some 48) (v := ?_) (a' := ?_) #[true, true, true, true, false, false, false, false, false, false, false, false, false, false, false, false, false, false, false, false, false, false, false, false, false, false, false, false, false, false, false, false, false, false, false, false, false, false, false, false, false, false, false, false, false, false, false, false, false, false, false] rfl rfl (any_of HT_.out (by kernel_rfl)) (fun _ _ _ h => h) (Or.inl ⟨by rfl, ?_⟩) ?_ ?_
        rotate_left
        · intro w'
          go_simp
          with_reducible rfl
        rotate_left
        · simp only [Act.put, s1, s2, s3, i64_w, i32_w]
          rfl
        refine pure_ (i := 4) (N := some 49) (v := ?_) (a' := ?_) #[true, true, true, true, true, false, false, false, false, false, false, false, false, false, false, false, false, false, false, false, false, false, false, false, false, false, false, false, false, false, false, false, false, false, false, false, false, false, false, false, false, false, false, false, false, false, false, false, false, false, false] rfl rfl (any_of HT_.out (by kernel_rfl)) (fun _ _ _ h => h) (Or.inl ⟨by rfl, ?_⟩) ?_ ?_
        rotate_left
        · intro w'
          go_simp
          with_reducible rfl
        rotate_left
        · simp only [Act.put, s1, s2, s3, i64_w, i32_w]
          rfl
        refine pure_ (i := 5) (N := some 50) (v := ?_) (a' := ?_) #[true, true, true, true, true, true, false, false, false, false, false, false, false, false, false, false, false, false, false, false, false, false, false, false, false, false, false, false, false, false, false, false, false, false, false, false, false, false, false, false, false, false, false, false, false, false, false, false, false, false, false] rfl rfl (any_of HT_.out (by kernel_rfl)) (fun _ _ _ h => h) (Or.inl ⟨by rfl, ?_⟩) ?_ ?_
        rotate_left
        · intro w'
          go_simp
          with_reducible rfl
        rotate_left
        · simp only [Act.put, s1, s2, s3, i64_w, i32_w]
          rfl
        refine pure_ (i := 6) (N := some 51) (v := ?_) (a' := ?_) #[true, true, true, true, true, true, true, false, false, false, false, false, false, false, false, false, false, false, false, false, false, false, false, false, false, false, false, false, false, false, false, false, false, false, false, false, false, false, false, false, false, false, false, false, false, false, false, false, false, false, false] rfl rfl (any_of HT_.out (by kernel_rfl)) (fun _ _ _ h => h) (Or.inl ⟨by rfl, ?_⟩) ?_ ?_
        rotate_left
        · intro w'
          go_simp
          with_reducible rfl
        rotate_left
        · simp only [Act.put, s1, s2, s3, i64_w, i32_w]
          rfl
        refine pure_ (i := 7) (N := some 52) (v := ?_) (a' := ?_) #[true, true, true, true, true, true, true, true, false, false, false, false, false, false, false, false, false, false, false, false, false, false, false, false, false, false, false, false, false, false, false, false, false, false, false, false, false, false, false, false, false, false, false, false, false, false, false, false, false, false, false] rfl rfl (any_of HT_.out (by kernel_rfl)) (fun _ _ _ h => h) (Or.inl ⟨by rfl, ?_⟩) ?_ ?_
        rotate_left
        · intro w'
          go_simp
          with_reducible rfl
        rotate_left
        · simp only [Act.put, s1, s2, s3, i64_w, i32_w]
          rfl
        refine pure_ (i := 8) (N := some 53) (v := ?_) (a' := ?_) #[true, true, true, true, true, true, true, true, true, false, false, false, false, false, false, false, false, false, false, false, false, false, false, false, false, false, false, false, false, false, false, false, false, false, false, false, false, false, false, false, false, false, false, false, false, false, false, false, false, false, false] rfl rfl (any_of HT_.out (by kernel_rfl)) (fun _ _ _ h => h) (Or.inl ⟨by rfl, ?_⟩) ?_ ?_
        rotate_left
        · intro w'
          go_simp
          with_reducible rfl
        rotate_left
        · simp only [Act.put, s1, s2, s3, i64_w, i32_w]
          rfl
        refine take_ (i := 9) (N := some 54) (v := ?_) (a' := ?_) #[true, true, true, true, true, true, true, true, true, true, false, false, false, false, false, false, false, false, false, false, false, false, false, false, false, false, false, false, false, false, false, false, false, false, false, false, false, false, false, false, false, false, false, false, false, false, false, false, false, false, false] rfl rfl (take_ofW HT_.out HW_.out (by kernel_rfl)) (fun _ _ _ h => h) (Or.inl ⟨by rfl, ?_⟩) hHeld ?_ ?_
        rotate_left
        · rintro w' ⟨s0, s1, s2, s3, s4, s5, s6, s7⟩
          go_simp
          with_reducible rfl
        rotate_left
        · simp only [Act.put, s1, s2, s3, i64_w, i32_w]
          rfl
        refine take_ (i := 11) (N := some 56) (v := ?_) (a' := ?_) #[true, true, true, true, true, true, true, true, true, true, false, true, false, false, false, false, false, false, false, false, false, false, false, false, false, false, false, false, false, false, false, false, false, false, false, false, false, false, false, false, false, false, false, false, false, false, false, false, false, false, false] rfl rfl (take_ofW HT_.out HW_.out (by kernel_rfl)) (fun _ _ _ h => h) (Or.inl ⟨by rfl, ?_⟩) hHeld ?_ ?_
        rotate_left
        · rintro w' ⟨s0, s1, s2, s3, s4, s5, s6, s7⟩
          go_simp
          with_reducible rfl
        rotate_left
        · simp only [Act.put, s1, s2, s3, i64_w, i32_w]
          rfl
        refine one_ (i := 10) (N := some 55) #[true, true, true, true, true, true, true, true, true, true, true, true, false, false, false, false, false, false, false, false, false, false, false, false, false, false, false, false, false, false, false, false, false, false, false, false, false, false, false, false, false, false, false, false, false, false, false, false, false, false, false] rfl rfl (one_of HT_.out (by kernel_rfl)) (by decide) (fun K hK => ?_)
        refine goes_ Try.func9 (by kernel_rfl) rfl #[.agg #[.int .u32 a0_0, .int .u32 a0_1]] (by rfl) rfl rfl (by (try simp only [List.map_toArray, List.map_cons, List.map_nil]); first | done | rfl | (simp only [List.length_drop, List.length_take]; rfl)) ?_
        with_reducible refine (interval_Check.calls a0_0 a0_1 t487 _ A32.out).mono ?_
        rintro e w48 ⟨rfl, hb⟩
        refine ⟨_, rfl, ?_⟩
        have n0_ := bbA BK476 hb
        have n1_ := bbA BK477 hb
        have n2_ := bbA BK482 hb
        have n3_ := bbA BK486 hb
        have n4_ := bsA HB hb
        clear BK476; clear BK477; clear BK482; clear BK486; clear HB; have BK476 := n0_; have BK477 := n1_; have BK482 := n2_; have BK486 := n3_; have HB := n4_; clear n0_ n1_ n2_ n3_ n4_; (try clear hb)
        (try clear hb2)
        (try clear hk)
        (try clear hi)
        refine hK.out _ _ ⟨(blk_cell BK482.out 0).trans rfl, (blk_cell BK482.out 1).trans rfl, (blk_cell BK486.out 0).trans rfl, (blk_cell BK486.out 1).trans rfl, (blk_cell BK476.out 0).trans rfl, (blk_cell BK476.out 1).trans rfl, (blk_cell BK477.out 0).trans rfl, (blk_cell BK477.out 1).trans rfl⟩ (fun hHeld => ?_)
        clear hK K; refine norm_ (a' := ?_) ?_ ?_
        rotate_left
        · show Act.put _ (some 55) _ = _
          simp only [Act.put, s1, s2, s3, i64_w, i32_w]
          rfl
        refine one_ (i := 12) (N := some 57) #[true, true, true, true, true, true, true, true, true, true, true, true, true, false, false, false, false, false, false, false, false, false, false, false, false, false, false, false, false, false, false, false, false, false, false, false, false, false, false, false, false, false, false, false, false, false, false, false, false, false, false] rfl rfl (one_of HT_.out (by kernel_rfl)) (by decide) (fun K hK => ?_)
        refine goes_ Try.func27 (by kernel_rfl) rfl #[.agg #[.int .u32 a0_0, .int .u32 a0_1]] (by rfl) rfl rfl (by (try simp only [List.map_toArray, List.map_cons, List.map_nil]); first | done | rfl | (simp only [List.length_drop, List.length_take]; rfl)) ?_
        with_reducible refine (lamplighterref19_Check.calls a0_0 a0_1 t488 _ A33.out).mono ?_
        rintro e w49 ⟨rfl, hb⟩
        refine ⟨_, rfl, ?_⟩
        have n0_ := bbA BK476 hb
        have n1_ := bbA BK477 hb
        have n2_ := bbA BK482 hb
        have n3_ := bbA BK486 hb
        have n4_ := bsA HB hb
        clear BK476; clear BK477; clear BK482; clear BK486; clear HB; have BK476 := n0_; have BK477 := n1_; have BK482 := n2_; have BK486 := n3_; have HB := n4_; clear n0_ n1_ n2_ n3_ n4_; (try clear hb)
        (try clear hb2)
        (try clear hk)
        (try clear hi)
        refine hK.out _ _ ⟨(blk_cell BK482.out 0).trans rfl, (blk_cell BK482.out 1).trans rfl, (blk_cell BK486.out 0).trans rfl, (blk_cell BK486.out 1).trans rfl, (blk_cell BK476.out 0).trans rfl, (blk_cell BK476.out 1).trans rfl, (blk_cell BK477.out 0).trans rfl, (blk_cell BK477.out 1).trans rfl⟩ (fun hHeld => ?_)
        clear hK K; refine norm_ (a' := ?_) ?_ ?_
        rotate_left
        · show Act.put _ (some 57) _ = _
          simp only [Act.put, s1, s2, s3, i64_w, i32_w]
          rfl
        refine pure_ (i := 13) (N := some 58) (v := ?_) (a' := ?_) #[true, true, true, true, true, true, true, true, true, true, true, true, true, true, false, false, false, false, false, false, false, false, false, false, false, false, false, false, false, false, false, false, false, false, false, false, false, false, false, false, false, false, false, false, false, false, false, false, false, false, false] rfl rfl (any_of HT_.out (by kernel_rfl)) (fun _ _ _ h => h) (Or.inl ⟨by rfl, ?_⟩) ?_ ?_
        rotate_left
        · intro w'
          go_simp
          with_reducible rfl
        rotate_left
        · simp only [Act.put, s1, s2, s3, i64_w, i32_w]
          rfl
        refine pure_ (i := 14) (N := some 59) (v := ?_) (a' := ?_) #[true, true, true, true, true, true, true, true, true, true, true, true, true, true, true, false, false, false, false, false, false, false, false, false, false, false, false, false, false, false, false, false, false, false, false, false, false, false, false, false, false, false, false, false, false, false, false, false, false, false, false] rfl rfl (any_of HT_.out (by kernel_rfl)) (fun _ _ _ h => h) (Or.inl ⟨by rfl, ?_⟩) ?_ ?_
        rotate_left
        · intro w'
          go_simp
          with_reducible rfl
        rotate_left
        · simp only [Act.put, s1, s2, s3, i64_w, i32_w]
          rfl
        refine pure_ (i := 15) (N := some 60) (v := ?_) (a' := ?_) #[true, true, true, true, true, true, true, true, true, true, true, true, true, true, true, true, false, false, false, false, false, false, false, false, false, false, false, false, false, false, false, false, false, false, false, false, false, false, false, false, false, false, false, false, false, false, false, false, false, false, false] rfl rfl (any_of HT_.out (by kernel_rfl)) (fun _ _ _ h => h) (Or.inl ⟨by rfl, ?_⟩) ?_ ?_
        rotate_left
        · intro w'
          go_simp
          with_reducible rfl
        rotate_left
        · simp only [Act.put, s1, s2, s3, i64_w, i32_w]
          rfl
        refine pure_ (i := 17) (N := some 62) (v := ?_) (a' := ?_) #[true, true, true, true, true, true, true, true, true, true, true, true, true, true, true, true, false, true, false, false, false, false, false, false, false, false, false, false, false, false, false, false, false, false, false, false, false, false, false, false, false, false, false, false, false, false, false, false, false, false, false] rfl rfl (any_of HT_.out (by kernel_rfl)) (fun _ _ _ h => h) (Or.inl ⟨by rfl, ?_⟩) ?_ ?_
        rotate_left
        · intro w'
          go_simp
          with_reducible rfl
        rotate_left
        · simp only [Act.put, s1, s2, s3, i64_w, i32_w]
          rfl
        refine pure_ (i := 20) (N := some 65) (v := ?_) (a' := ?_) #[true, true, true, true, true, true, true, true, true, true, true, true, true, true, true, true, false, true, false, false, true, false, false, false, false, false, false, false, false, false, false, false, false, false, false, false, false, false, false, false, false, false, false, false, false, false, false, false, false, false, false] rfl rfl (any_of HT_.out (by kernel_rfl)) (fun _ _ _ h => h) (Or.inl ⟨by rfl, ?_⟩) ?_ ?_
        rotate_left
        · intro w'
          go_simp
          with_reducible rfl
        rotate_left
        · simp only [Act.put, s1, s2, s3, i64_w, i32_w]
          rfl
        refine take_ (i := 16) (N := some 61) (v := ?_) (a' := ?_) #[true, true, true, true, true, true, true, true, true, true, true, true, true, true, true, true, true, true, false, false, true, false, false, false, false, false, false, false, false, false, false, false, false, false, false, false, false, false, false, false, false, false, false, false, false, false, false, false, false, false, false] rfl rfl (take_ofW HT_.out HW_.out (by kernel_rfl)) (fun _ _ _ h => h) (Or.inl ⟨by rfl, ?_⟩) hHeld ?_ ?_
        rotate_left
        · rintro w' ⟨s0, s1, s2, s3, s4, s5, s6, s7⟩
          go_simp
          with_reducible rfl
        rotate_left
        · simp only [Act.put, s1, s2, s3, i64_w, i32_w]
          rfl
        refine take_ (i := 19) (N := some 64) (v := ?_) (a' := ?_) #[true, true, true, true, true, true, true, true, true, true, true, true, true, true, true, true, true, true, false, true, true, false, false, false, false, false, false, false, false, false, false, false, false, false, false, false, false, false, false, false, false, false, false, false, false, false, false, false, false, false, false] rfl rfl (take_ofW HT_.out HW_.out (by kernel_rfl)) (fun _ _ _ h => h) (Or.inl ⟨by rfl, ?_⟩) hHeld ?_ ?_
        rotate_left
        · rintro w' ⟨s0, s1, s2, s3, s4, s5, s6, s7⟩
          go_simp
          with_reducible rfl
        rotate_left
        · simp only [Act.put, s1, s2, s3, i64_w, i32_w]
          rfl
        refine one_ (i := 18) (N := some 63) #[true, true, true, true, true, true, true, true, true, true, true, true, true, true, true, true, true, true, true, true, true, false, false, false, false, false, false, false, false, false, false, false, false, false, false, false, false, false, false, false, false, false, false, false, false, false, false, false, false, false, false] rfl rfl (one_of HT_.out (by kernel_rfl)) (by decide) (fun K hK => ?_)
        refine goes_ Try.func23 (by kernel_rfl) rfl #[.agg #[.int .u32 a0_0, .int .u32 a0_1], .int .u32 a2] (by rfl) rfl rfl (by (try simp only [List.map_toArray, List.map_cons, List.map_nil]); first | done | rfl | (simp only [List.length_drop, List.length_take]; rfl)) ?_
        with_reducible refine (interval_Has.calls k a0_0 a0_1 a2 t489 _ A35.out).mono ?_
        rintro e w50 ⟨rfl, hb⟩
        refine ⟨_, rfl, ?_⟩
        have n0_ := bbA BK476 hb
        have n1_ := bbA BK477 hb
        have n2_ := bbA BK482 hb
        have n3_ := bbA BK486 hb
        have n4_ := bsA HB hb
        clear BK476; clear BK477; clear BK482; clear BK486; clear HB; have BK476 := n0_; have BK477 := n1_; have BK482 := n2_; have BK486 := n3_; have HB := n4_; clear n0_ n1_ n2_ n3_ n4_; (try clear hb)
        (try clear hb2)
        (try clear hk)
        (try clear hi)
        refine hK.out _ _ ⟨(blk_cell BK482.out 0).trans rfl, (blk_cell BK482.out 1).trans rfl, (blk_cell BK486.out 0).trans rfl, (blk_cell BK486.out 1).trans rfl, (blk_cell BK476.out 0).trans rfl, (blk_cell BK476.out 1).trans rfl, (blk_cell BK477.out 0).trans rfl, (blk_cell BK477.out 1).trans rfl⟩ (fun hHeld => ?_)
        clear hK K; refine norm_ (a' := ?_) ?_ ?_
        rotate_left
        · show Act.put _ (some 63) _ = _
          simp only [Act.put, s1, s2, s3, i64_w, i32_w]
          rfl
        refine one_ (i := 21) (N := some 66) #[true, true, true, true, true, true, true, true, true, true, true, true, true, true, true, true, true, true, true, true, true, true, false, false, false, false, false, false, false, false, false, false, false, false, false, false, false, false, false, false, false, false, false, false, false, false, false, false, false, false, false] rfl rfl (one_of HT_.out (by kernel_rfl)) (by decide) (fun K hK => ?_)
        refine goes_ Try.func28 (by kernel_rfl) rfl #[.agg #[.int .u32 a0_0, .int .u32 a0_1], .int .u32 a2] (by rfl) rfl rfl (by (try simp only [List.map_toArray, List.map_cons, List.map_nil]); first | done | rfl | (simp only [List.length_drop, List.length_take]; rfl)) ?_
        with_reducible refine (lamplighterref19_Has.calls a0_0 a0_1 a2 t490 _ A36.out).mono ?_
        rintro e w51 ⟨rfl, hb⟩
        refine ⟨_, rfl, ?_⟩
        have n0_ := bbA BK476 hb
        have n1_ := bbA BK477 hb
        have n2_ := bbA BK482 hb
        have n3_ := bbA BK486 hb
        have n4_ := bsA HB hb
        clear BK476; clear BK477; clear BK482; clear BK486; clear HB; have BK476 := n0_; have BK477 := n1_; have BK482 := n2_; have BK486 := n3_; have HB := n4_; clear n0_ n1_ n2_ n3_ n4_; (try clear hb)
        (try clear hb2)
        (try clear hk)
        (try clear hi)
        refine hK.out _ _ ⟨(blk_cell BK482.out 0).trans rfl, (blk_cell BK482.out 1).trans rfl, (blk_cell BK486.out 0).trans rfl, (blk_cell BK486.out 1).trans rfl, (blk_cell BK476.out 0).trans rfl, (blk_cell BK476.out 1).trans rfl, (blk_cell BK477.out 0).trans rfl, (blk_cell BK477.out 1).trans rfl⟩ (fun hHeld => ?_)
        clear hK K; refine norm_ (a' := ?_) ?_ ?_
        rotate_left
        · show Act.put _ (some 66) _ = _
          simp only [Act.put, s1, s2, s3, i64_w, i32_w]
          rfl
        refine pure_ (i := 22) (N := some 67) (v := ?_) (a' := ?_) #[true, true, true, true, true, true, true, true, true, true, true, true, true, true, true, true, true, true, true, true, true, true, true, false, false, false, false, false, false, false, false, false, false, false, false, false, false, false, false, false, false, false, false, false, false, false, false, false, false, false, false] rfl rfl (any_of HT_.out (by kernel_rfl)) (fun _ _ _ h => h) (Or.inl ⟨by rfl, ?_⟩) ?_ ?_
        rotate_left
        · intro w'
          go_simp
          with_reducible rfl
        rotate_left
        · simp only [Act.put, s1, s2, s3, i64_w, i32_w]
          rfl
        refine pure_ (i := 23) (N := some 68) (v := ?_) (a' := ?_) #[true, true, true, true, true, true, true, true, true, true, true, true, true, true, true, true, true, true, true, true, true, true, true, true, false, false, false, false, false, false, false, false, false, false, false, false, false, false, false, false, false, false, false, false, false, false, false, false, false, false, false] rfl rfl (any_of HT_.out (by kernel_rfl)) (fun _ _ _ h => h) (Or.inl ⟨by rfl, ?_⟩) ?_ ?_
        rotate_left
        · intro w'
          go_simp
          with_reducible rfl
        rotate_left
        · simp only [Act.put, s1, s2, s3, i64_w, i32_w]
          rfl
        refine pure_ (i := 24) (N := some 69) (v := ?_) (a' := ?_) #[true, true, true, true, true, true, true, true, true, true, true, true, true, true, true, true, true, true, true, true, true, true, true, true, true, false, false, false, false, false, false, false, false, false, false, false, false, false, false, false, false, false, false, false, false, false, false, false, false, false, false] rfl rfl (any_of HT_.out (by kernel_rfl)) (fun _ _ _ h => h) (Or.inl ⟨by rfl, ?_⟩) ?_ ?_
        rotate_left
        · intro w'
          go_simp
          with_reducible rfl
        rotate_left
        · simp only [Act.put, s1, s2, s3, i64_w, i32_w]
          rfl
        refine take_ (i := 25) (N := some 70) (v := ?_) (a' := ?_) #[true, true, true, true, true, true, true, true, true, true, true, true, true, true, true, true, true, true, true, true, true, true, true, true, true, true, false, false, false, false, false, false, false, false, false, false, false, false, false, false, false, false, false, false, false, false, false, false, false, false, false] rfl rfl (take_ofW HT_.out HW_.out (by kernel_rfl)) (fun _ _ _ h => h) (Or.inl ⟨by rfl, ?_⟩) hHeld ?_ ?_
        rotate_left
        · rintro w' ⟨s0, s1, s2, s3, s4, s5, s6, s7⟩
          go_simp
          with_reducible rfl
        rotate_left
        · simp only [Act.put, s1, s2, s3, i64_w, i32_w]
          rfl
        refine take_ (i := 26) (N := some 71) (v := ?_) (a' := ?_) #[true, true, true, true, true, true, true, true, true, true, true, true, true, true, true, true, true, true, true, true, true, true, true, true, true, true, true, false, false, false, false, false, false, false, false, false, false, false, false, false, false, false, false, false, false, false, false, false, false, false, false] rfl rfl (take_ofW HT_.out HW_.out (by kernel_rfl)) (fun _ _ _ h => h) (Or.inl ⟨by rfl, ?_⟩) hHeld ?_ ?_
        rotate_left
        · rintro w' ⟨s0, s1, s2, s3, s4, s5, s6, s7⟩
          go_simp
          with_reducible rfl
        rotate_left
        · simp only [Act.put, s1, s2, s3, i64_w, i32_w]
          rfl
        refine take_ (i := 28) (N := some 73) (v := ?_) (a' := ?_) #[true, true, true, true, true, true, true, true, true, true, true, true, true, true, true, true, true, true, true, true, true, true, true, true, true, true, true, false, true, false, false, false, false, false, false, false, false, false, false, false, false, false, false, false, false, false, false, false, false, false, false] rfl rfl (take_ofW HT_.out HW_.out (by kernel_rfl)) (fun _ _ _ h => h) (Or.inl ⟨by rfl, ?_⟩) hHeld ?_ ?_
        rotate_left
        · rintro w' ⟨s0, s1, s2, s3, s4, s5, s6, s7⟩
          go_simp
          with_reducible rfl
        rotate_left
        · simp only [Act.put, s1, s2, s3, i64_w, i32_w]
          rfl
        refine take_ (i := 29) (N := some 74) (v := ?_) (a' := ?_) #[true, true, true, true, true, true, true, true, true, true, true, true, true, true, true, true, true, true, true, true, true, true, true, true, true, true, true, false, true, true, false, false, false, false, false, false, false, false, false, false, false, false, false, false, false, false, false, false, false, false, false] rfl rfl (take_ofW HT_.out HW_.out (by kernel_rfl)) (fun _ _ _ h => h) (Or.inl ⟨by rfl, ?_⟩) hHeld ?_ ?_
        rotate_left
        · rintro w' ⟨s0, s1, s2, s3, s4, s5, s6, s7⟩
          go_simp
          with_reducible rfl
        rotate_left
        · simp only [Act.put, s1, s2, s3, i64_w, i32_w]
          rfl
        refine one_ (i := 27) (N := some 72) #[true, true, true, true, true, true, true, true, true, true, true, true, true, true, true, true, true, true, true, true, true, true, true, true, true, true, true, true, true, true, false, false, false, false, false, false, false, false, false, false, false, false, false, false, false, false, false, false, false, false, false] rfl rfl (one_of HT_.out (by kernel_rfl)) (by decide) (fun K hK => ?_)
        refine goes_ Try.func13 (by kernel_rfl) rfl #[.agg #[.int .u32 a0_0, .int .u32 a0_1], .agg #[.int .u32 a1_0, .int .u32 a1_1]] (by rfl) rfl rfl (by (try simp only [List.map_toArray, List.map_cons, List.map_nil]); first | done | rfl | (simp only [List.length_drop, List.length_take]; rfl)) ?_
        with_reducible refine (interval_Within.calls k a0_0 a0_1 a1_0 a1_1 t491 _ A38.out).mono ?_
        rintro e w52 ⟨rfl, hb⟩
        refine ⟨_, rfl, ?_⟩
        have n0_ := bbA BK476 hb
        have n1_ := bbA BK477 hb
        have n2_ := bbA BK482 hb
        have n3_ := bbA BK486 hb
        have n4_ := bsA HB hb
        clear BK476; clear BK477; clear BK482; clear BK486; clear HB; have BK476 := n0_; have BK477 := n1_; have BK482 := n2_; have BK486 := n3_; have HB := n4_; clear n0_ n1_ n2_ n3_ n4_; (try clear hb)
        (try clear hb2)
        (try clear hk)
        (try clear hi)
        refine hK.out _ _ ⟨(blk_cell BK482.out 0).trans rfl, (blk_cell BK482.out 1).trans rfl, (blk_cell BK486.out 0).trans rfl, (blk_cell BK486.out 1).trans rfl, (blk_cell BK476.out 0).trans rfl, (blk_cell BK476.out 1).trans rfl, (blk_cell BK477.out 0).trans rfl, (blk_cell BK477.out 1).trans rfl⟩ (fun hHeld => ?_)
        clear hK K; refine norm_ (a' := ?_) ?_ ?_
        rotate_left
        · show Act.put _ (some 72) _ = _
          simp only [Act.put, s1, s2, s3, i64_w, i32_w]
          rfl
        refine one_ (i := 30) (N := some 75) #[true, true, true, true, true, true, true, true, true, true, true, true, true, true, true, true, true, true, true, true, true, true, true, true, true, true, true, true, true, true, true, false, false, false, false, false, false, false, false, false, false, false, false, false, false, false, false, false, false, false, false] rfl rfl (one_of HT_.out (by kernel_rfl)) (by decide) (fun K hK => ?_)
        refine goes_ Try.func29 (by kernel_rfl) rfl #[.agg #[.int .u32 a0_0, .int .u32 a0_1], .agg #[.int .u32 a1_0, .int .u32 a1_1]] (by rfl) rfl rfl (by (try simp only [List.map_toArray, List.map_cons, List.map_nil]); first | done | rfl | (simp only [List.length_drop, List.length_take]; rfl)) ?_
        with_reducible refine (lamplighterref19_Within.calls a0_0 a0_1 a1_0 a1_1 t492 _ A39.out).mono ?_
        rintro e w53 ⟨rfl, hb⟩
        refine ⟨_, rfl, ?_⟩
        have n0_ := bbA BK476 hb
        have n1_ := bbA BK477 hb
        have n2_ := bbA BK482 hb
        have n3_ := bbA BK486 hb
        have n4_ := bsA HB hb
        clear BK476; clear BK477; clear BK482; clear BK486; clear HB; have BK476 := n0_; have BK477 := n1_; have BK482 := n2_; have BK486 := n3_; have HB := n4_; clear n0_ n1_ n2_ n3_ n4_; (try clear hb)
        (try clear hb2)
        (try clear hk)
        (try clear hi)
        refine hK.out _ _ ⟨(blk_cell BK482.out 0).trans rfl, (blk_cell BK482.out 1).trans rfl, (blk_cell BK486.out 0).trans rfl, (blk_cell BK486.out 1).trans rfl, (blk_cell BK476.out 0).trans rfl, (blk_cell BK476.out 1).trans rfl, (blk_cell BK477.out 0).trans rfl, (blk_cell BK477.out 1).trans rfl⟩ (fun hHeld => ?_)
        clear hK K; refine norm_ (a' := ?_) ?_ ?_
        rotate_left
        · show Act.put _ (some 75) _ = _
          simp only [Act.put, s1, s2, s3, i64_w, i32_w]
          rfl
        refine pure_ (i := 31) (N := some 76) (v := ?_) (a' := ?_) #[true, true, true, true, true, true, true, true, true, true, true, true, true, true, true, true, true, true, true, true, true, true, true, true, true, true, true, true, true, true, true, true, false, false, false, false, false, false, false, false, false, false, false, false, false, false, false, false, false, false, false] rfl rfl (any_of HT_.out (by kernel_rfl)) (fun _ _ _ h => h) (Or.inl ⟨by rfl, ?_⟩) ?_ ?_
        rotate_left
        · intro w'
          go_simp
          with_reducible rfl
        rotate_left
        · simp only [Act.put, s1, s2, s3, i64_w, i32_w]
          rfl
        refine pure_ (i := 32) (N := some 77) (v := ?_) (a' := ?_) #[true, true, true, true, true, true, true, true, true, true, true, true, true, true, true, true, true, true, true, true, true, true, true, true, true, true, true, true, true, true, true, true, true, false, false, false, false, false, false, false, false, false, false, false, false, false, false, false, false, false, false] rfl rfl (any_of HT_.out (by kernel_rfl)) (fun _ _ _ h => h) (Or.inl ⟨by rfl, ?_⟩) ?_ ?_
        rotate_left
        · intro w'
          go_simp
          with_reducible rfl
        rotate_left
        · simp only [Act.put, s1, s2, s3, i64_w, i32_w]
          rfl
        refine pure_ (i := 33) (N := some 78) (v := ?_) (a' := ?_) #[true, true, true, true, true, true, true, true, true, true, true, true, true, true, true, true, true, true, true, true, true, true, true, true, true, true, true, true, true, true, true, true, true, true, false, false, false, false, false, false, false, false, false, false, false, false, false, false, false, false, false] rfl rfl (any_of HT_.out (by kernel_rfl)) (fun _ _ _ h => h) (Or.inl ⟨by rfl, ?_⟩) ?_ ?_
        rotate_left
        · intro w'
          go_simp
          with_reducible rfl
        rotate_left
        · simp only [Act.put, s1, s2, s3, i64_w, i32_w]
          rfl
        refine take_ (i := 34) (N := some 79) (v := ?_) (a' := ?_) #[true, true, true, true, true, true, true, true, true, true, true, true, true, true, true, true, true, true, true, true, true, true, true, true, true, true, true, true, true, true, true, true, true, true, true, false, false, false, false, false, false, false, false, false, false, false, false, false, false, false, false] rfl rfl (take_ofW HT_.out HW_.out (by kernel_rfl)) (fun _ _ _ h => h) (Or.inl ⟨by rfl, ?_⟩) hHeld ?_ ?_
        rotate_left
        · rintro w' ⟨s0, s1, s2, s3, s4, s5, s6, s7⟩
          go_simp
          with_reducible rfl
        rotate_left
        · simp only [Act.put, s1, s2, s3, i64_w, i32_w]
          rfl
        refine take_ (i := 35) (N := some 80) (v := ?_) (a' := ?_) #[true, true, true, true, true, true, true, true, true, true, true, true, true, true, true, true, true, true, true, true, true, true, true, true, true, true, true, true, true, true, true, true, true, true, true, true, false, false, false, false, false, false, false, false, false, false, false, false, false, false, false] rfl rfl (take_ofW HT_.out HW_.out (by kernel_rfl)) (fun _ _ _ h => h) (Or.inl ⟨by rfl, ?_⟩) hHeld ?_ ?_
        rotate_left
        · rintro w' ⟨s0, s1, s2, s3, s4, s5, s6, s7⟩
          go_simp
          with_reducible rfl
        rotate_left
        · simp only [Act.put, s1, s2, s3, i64_w, i32_w]
          rfl
        refine take_ (i := 37) (N := some 82) (v := ?_) (a' := ?_) #[true, true, true, true, true, true, true, true, true, true, true, true, true, true, true, true, true, true, true, true, true, true, true, true, true, true, true, true, true, true, true, true, true, true, true, true, false, true, false, false, false, false, false, false, false, false, false, false, false, false, false] rfl rfl (take_ofW HT_.out HW_.out (by kernel_rfl)) (fun _ _ _ h => h) (Or.inl ⟨by rfl, ?_⟩) hHeld ?_ ?_
        rotate_left
        · rintro w' ⟨s0, s1, s2, s3, s4, s5, s6, s7⟩
          go_simp
          with_reducible rfl
        rotate_left
        · simp only [Act.put, s1, s2, s3, i64_w, i32_w]
          rfl
        refine take_ (i := 38) (N := some 83) (v := ?_) (a' := ?_) #[true, true, true, true, true, true, true, true, true, true, true, true, true, true, true, true, true, true, true, true, true, true, true, true, true, true, true, true, true, true, true, true, true, true, true, true, false, true, true, false, false, false, false, false, false, false, false, false, false, false, false] rfl rfl (take_ofW HT_.out HW_.out (by kernel_rfl)) (fun _ _ _ h => h) (Or.inl ⟨by rfl, ?_⟩) hHeld ?_ ?_
        rotate_left
        · rintro w' ⟨s0, s1, s2, s3, s4, s5, s6, s7⟩
          go_simp
          with_reducible rfl
        rotate_left
        · simp only [Act.put, s1, s2, s3, i64_w, i32_w]
          rfl
        refine one_ (i := 36) (N := some 81) #[true, true, true, true, true, true, true, true, true, true, true, true, true, true, true, true, true, true, true, true, true, true, true, true, true, true, true, true, true, true, true, true, true, true, true, true, true, true, true, false, false, false, false, false, false, false, false, false, false, false, false] rfl rfl (one_of HT_.out (by kernel_rfl)) (by decide) (fun K hK => ?_)
        refine goes_ Try.func12 (by kernel_rfl) rfl #[.agg #[.int .u32 a0_0, .int .u32 a0_1], .agg #[.int .u32 a1_0, .int .u32 a1_1]] (by rfl) rfl rfl (by (try simp only [List.map_toArray, List.map_cons, List.map_nil]); first | done | rfl | (simp only [List.length_drop, List.length_take]; rfl)) ?_
        with_reducible refine (interval_Join.calls k a0_0 a0_1 a1_0 a1_1 t493 t494 _ A41.out).mono ?_
        rintro e w54 ⟨rfl, hb⟩
        refine ⟨_, rfl, ?_⟩
        have n0_ := bbA BK476 hb
        have n1_ := bbA BK477 hb
        have n2_ := bbA BK482 hb
        have n3_ := bbA BK486 hb
        have n4_ := bsA HB hb
        clear BK476; clear BK477; clear BK482; clear BK486; clear HB; have BK476 := n0_; have BK477 := n1_; have BK482 := n2_; have BK486 := n3_; have HB := n4_; clear n0_ n1_ n2_ n3_ n4_; (try clear hb)
        (try clear hb2)
        (try clear hk)
        (try clear hi)
        refine hK.out _ _ ⟨(blk_cell BK482.out 0).trans rfl, (blk_cell BK482.out 1).trans rfl, (blk_cell BK486.out 0).trans rfl, (blk_cell BK486.out 1).trans rfl, (blk_cell BK476.out 0).trans rfl, (blk_cell BK476.out 1).trans rfl, (blk_cell BK477.out 0).trans rfl, (blk_cell BK477.out 1).trans rfl⟩ (fun hHeld => ?_)
        clear hK K; refine norm_ (a' := ?_) ?_ ?_
        rotate_left
        · show Act.put _ (some 81) _ = _
          simp only [Act.put, s1, s2, s3, i64_w, i32_w]
          rfl
        refine one_ (i := 39) (N := some 84) #[true, true, true, true, true, true, true, true, true, true, true, true, true, true, true, true, true, true, true, true, true, true, true, true, true, true, true, true, true, true, true, true, true, true, true, true, true, true, true, true, false, false, false, false, false, false, false, false, false, false, false] rfl rfl (one_of HT_.out (by kernel_rfl)) (by decide) (fun K hK => ?_)
        refine goes_ Try.func30 (by kernel_rfl) rfl #[.agg #[.int .u32 a0_0, .int .u32 a0_1], .agg #[.int .u32 a1_0, .int .u32 a1_1]] (by rfl) rfl rfl (by (try simp only [List.map_toArray, List.map_cons, List.map_nil]); first | done | rfl | (simp only [List.length_drop, List.length_take]; rfl)) ?_
        with_reducible refine (lamplighterref19_Join.calls a0_0 a0_1 a1_0 a1_1 t495 t496 _ A42.out).mono ?_
        rintro e w55 ⟨rfl, hb⟩
        refine ⟨_, rfl, ?_⟩
        have n0_ := bbA BK476 hb
        have n1_ := bbA BK477 hb
        have n2_ := bbA BK482 hb
        have n3_ := bbA BK486 hb
        have n4_ := bsA HB hb
        clear BK476; clear BK477; clear BK482; clear BK486; clear HB; have BK476 := n0_; have BK477 := n1_; have BK482 := n2_; have BK486 := n3_; have HB := n4_; clear n0_ n1_ n2_ n3_ n4_; (try clear hb)
        (try clear hb2)
        (try clear hk)
        (try clear hi)
        refine hK.out _ _ ⟨(blk_cell BK482.out 0).trans rfl, (blk_cell BK482.out 1).trans rfl, (blk_cell BK486.out 0).trans rfl, (blk_cell BK486.out 1).trans rfl, (blk_cell BK476.out 0).trans rfl, (blk_cell BK476.out 1).trans rfl, (blk_cell BK477.out 0).trans rfl, (blk_cell BK477.out 1).trans rfl⟩ (fun hHeld => ?_)
        clear hK K; refine norm_ (a' := ?_) ?_ ?_
        rotate_left
        · show Act.put _ (some 84) _ = _
          simp only [Act.put, s1, s2, s3, i64_w, i32_w]
          rfl
        refine pure_ (i := 40) (N := some 85) (v := ?_) (a' := ?_) #[true, true, true, true, true, true, true, true, true, true, true, true, true, true, true, true, true, true, true, true, true, true, true, true, true, true, true, true, true, true, true, true, true, true, true, true, true, true, true, true, true, false, false, false, false, false, false, false, false, false, false] rfl rfl (any_of HT_.out (by kernel_rfl)) (fun _ _ _ h => h) (Or.inl ⟨by rfl, ?_⟩) ?_ ?_
        rotate_left
        · intro w'
          go_simp
          with_reducible rfl
        rotate_left
        · simp only [Act.put, s1, s2, s3, i64_w, i32_w]
          rfl
        refine pure_ (i := 41) (N := some 86) (v := ?_) (a' := ?_) #[true, true, true, true, true, true, true, true, true, true, true, true, true, true, true, true, true, true, true, true, true, true, true, true, true, true, true, true, true, true, true, true, true, true, true, true, true, true, true, true, true, true, false, false, false, false, false, false, false, false, false] rfl rfl (any_of HT_.out (by kernel_rfl)) (fun _ _ _ h => h) (Or.inl ⟨by rfl, ?_⟩) ?_ ?_
        rotate_left
        · intro w'
          go_simp
          with_reducible rfl
        rotate_left
        · simp only [Act.put, s1, s2, s3, i64_w, i32_w]
          rfl
        refine pure_ (i := 42) (N := some 87) (v := ?_) (a' := ?_) #[true, true, true, true, true, true, true, true, true, true, true, true, true, true, true, true, true, true, true, true, true, true, true, true, true, true, true, true, true, true, true, true, true, true, true, true, true, true, true, true, true, true, true, false, false, false, false, false, false, false, false] rfl rfl (any_of HT_.out (by kernel_rfl)) (fun _ _ _ h => h) (Or.inl ⟨by rfl, ?_⟩) ?_ ?_
        rotate_left
        · intro w'
          go_simp
          with_reducible rfl
        rotate_left
        · simp only [Act.put, s1, s2, s3, i64_w, i32_w]
          rfl
        refine take_ (i := 43) (N := some 88) (v := ?_) (a' := ?_) #[true, true, true, true, true, true, true, true, true, true, true, true, true, true, true, true, true, true, true, true, true, true, true, true, true, true, true, true, true, true, true, true, true, true, true, true, true, true, true, true, true, true, true, true, false, false, false, false, false, false, false] rfl rfl (take_ofW HT_.out HW_.out (by kernel_rfl)) (fun _ _ _ h => h) (Or.inl ⟨by rfl, ?_⟩) hHeld ?_ ?_
        rotate_left
        · rintro w' ⟨s0, s1, s2, s3, s4, s5, s6, s7⟩
          go_simp
          with_reducible rfl
        rotate_left
        · simp only [Act.put, s1, s2, s3, i64_w, i32_w]
          rfl
        refine take_ (i := 44) (N := some 89) (v := ?_) (a' := ?_) #[true, true, true, true, true, true, true, true, true, true, true, true, true, true, true, true, true, true, true, true, true, true, true, true, true, true, true, true, true, true, true, true, true, true, true, true, true, true, true, true, true, true, true, true, true, false, false, false, false, false, false] rfl rfl (take_ofW HT_.out HW_.out (by kernel_rfl)) (fun _ _ _ h => h) (Or.inl ⟨by rfl, ?_⟩) hHeld ?_ ?_
        rotate_left
        · rintro w' ⟨s0, s1, s2, s3, s4, s5, s6, s7⟩
          go_simp
          with_reducible rfl
        rotate_left
        · simp only [Act.put, s1, s2, s3, i64_w, i32_w]
          rfl
        refine take_ (i := 46) (N := some 91) (v := ?_) (a' := ?_) #[true, true, true, true, true, true, true, true, true, true, true, true, true, true, true, true, true, true, true, true, true, true, true, true, true, true, true, true, true, true, true, true, true, true, true, true, true, true, true, true, true, true, true, true, true, false, true, false, false, false, false] rfl rfl (take_ofW HT_.out HW_.out (by kernel_rfl)) (fun _ _ _ h => h) (Or.inl ⟨by rfl, ?_⟩) hHeld ?_ ?_
        rotate_left
        · rintro w' ⟨s0, s1, s2, s3, s4, s5, s6, s7⟩
          go_simp
          with_reducible rfl
        rotate_left
        · simp only [Act.put, s1, s2, s3, i64_w, i32_w]
          rfl
        refine take_ (i := 47) (N := some 92) (v := ?_) (a' := ?_) #[true, true, true, true, true, true, true, true, true, true, true, true, true, true, true, true, true, true, true, true, true, true, true, true, true, true, true, true, true, true, true, true, true, true, true, true, true, true, true, true, true, true, true, true, true, false, true, true, false, false, false] rfl rfl (take_ofW HT_.out HW_.out (by kernel_rfl)) (fun _ _ _ h => h) (Or.inl ⟨by rfl, ?_⟩) hHeld ?_ ?_
        rotate_left
        · rintro w' ⟨s0, s1, s2, s3, s4, s5, s6, s7⟩
          go_simp
          with_reducible rfl
        rotate_left
        · simp only [Act.put, s1, s2, s3, i64_w, i32_w]
          rfl
        refine one_ (i := 45) (N := some 90) #[true, true, true, true, true, true, true, true, true, true, true, true, true, true, true, true, true, true, true, true, true, true, true, true, true, true, true, true, true, true, true, true, true, true, true, true, true, true, true, true, true, true, true, true, true, true, true, true, false, false, false] rfl rfl (one_of HT_.out (by kernel_rfl)) (by decide) (fun K hK => ?_)
        refine goes_ Try.func15 (by kernel_rfl) rfl #[.agg #[.int .u32 a0_0, .int .u32 a0_1], .agg #[.int .u32 a1_0, .int .u32 a1_1]] (by rfl) rfl rfl (by (try simp only [List.map_toArray, List.map_cons, List.map_nil]); first | done | rfl | (simp only [List.length_drop, List.length_take]; rfl)) ?_
        with_reducible refine (interval_Widen.calls k a0_0 a0_1 a1_0 a1_1 t497 t498 _ A44.out).mono ?_
        rintro e w56 ⟨rfl, hb⟩
        refine ⟨_, rfl, ?_⟩
        have n0_ := bbA BK476 hb
        have n1_ := bbA BK477 hb
        have n2_ := bbA BK482 hb
        have n3_ := bbA BK486 hb
        have n4_ := bsA HB hb
        clear BK476; clear BK477; clear BK482; clear BK486; clear HB; have BK476 := n0_; have BK477 := n1_; have BK482 := n2_; have BK486 := n3_; have HB := n4_; clear n0_ n1_ n2_ n3_ n4_; (try clear hb)
        (try clear hb2)
        (try clear hk)
        (try clear hi)
        refine hK.out _ _ ⟨(blk_cell BK482.out 0).trans rfl, (blk_cell BK482.out 1).trans rfl, (blk_cell BK486.out 0).trans rfl, (blk_cell BK486.out 1).trans rfl, (blk_cell BK476.out 0).trans rfl, (blk_cell BK476.out 1).trans rfl, (blk_cell BK477.out 0).trans rfl, (blk_cell BK477.out 1).trans rfl⟩ (fun hHeld => ?_)
        clear hK K; refine norm_ (a' := ?_) ?_ ?_
        rotate_left
        · show Act.put _ (some 90) _ = _
          simp only [Act.put, s1, s2, s3, i64_w, i32_w]
          rfl
        refine one_ (i := 48) (N := some 93) #[true, true, true, true, true, true, true, true, true, true, true, true, true, true, true, true, true, true, true, true, true, true, true, true, true, true, true, true, true, true, true, true, true, true, true, true, true, true, true, true, true, true, true, true, true, true, true, true, true, false, false] rfl rfl (one_of HT_.out (by kernel_rfl)) (by decide) (fun K hK => ?_)
        refine goes_ Try.func31 (by kernel_rfl) rfl #[.agg #[.int .u32 a0_0, .int .u32 a0_1], .agg #[.int .u32 a1_0, .int .u32 a1_1]] (by rfl) rfl rfl (by (try simp only [List.map_toArray, List.map_cons, List.map_nil]); first | done | rfl | (simp only [List.length_drop, List.length_take]; rfl)) ?_
        with_reducible refine (lamplighterref19_Widen.calls k a0_0 a0_1 a1_0 a1_1 t499 t500 _ A45.out).mono ?_
        rintro e w57 ⟨rfl, hb⟩
        refine ⟨_, rfl, ?_⟩
        have n0_ := bbA BK476 hb
        have n1_ := bbA BK477 hb
        have n2_ := bbA BK482 hb
        have n3_ := bbA BK486 hb
        have n4_ := bsA HB hb
        clear BK476; clear BK477; clear BK482; clear BK486; clear HB; have BK476 := n0_; have BK477 := n1_; have BK482 := n2_; have BK486 := n3_; have HB := n4_; clear n0_ n1_ n2_ n3_ n4_; (try clear hb)
        (try clear hb2)
        (try clear hk)
        (try clear hi)
        refine hK.out _ _ ⟨(blk_cell BK482.out 0).trans rfl, (blk_cell BK482.out 1).trans rfl, (blk_cell BK486.out 0).trans rfl, (blk_cell BK486.out 1).trans rfl, (blk_cell BK476.out 0).trans rfl, (blk_cell BK476.out 1).trans rfl, (blk_cell BK477.out 0).trans rfl, (blk_cell BK477.out 1).trans rfl⟩ (fun hHeld => ?_)
        clear hK K; refine norm_ (a' := ?_) ?_ ?_
        rotate_left
        · show Act.put _ (some 93) _ = _
          simp only [Act.put, s1, s2, s3, i64_w, i32_w]
          rfl
        refine pure_ (i := 49) (N := some 94) (v := ?_) (a' := ?_) #[true, true, true, true, true, true, true, true, true, true, true, true, true, true, true, true, true, true, true, true, true, true, true, true, true, true, true, true, true, true, true, true, true, true, true, true, true, true, true, true, true, true, true, true, true, true, true, true, true, true, false] rfl rfl (any_of HT_.out (by kernel_rfl)) (fun _ _ _ h => h) (Or.inl ⟨by rfl, ?_⟩) ?_ ?_
        rotate_left
        · intro w'
          go_simp
          with_reducible rfl
        rotate_left
        · simp only [Act.put, s1, s2, s3, i64_w, i32_w]
          rfl
        refine pure_ (i := 50) (N := some 95) (v := ?_) (a' := ?_) #[true, true, true, true, true, true, true, true, true, true, true, true, true, true, true, true, true, true, true, true, true, true, true, true, true, true, true, true, true, true, true, true, true, true, true, true, true, true, true, true, true, true, true, true, true, true, true, true, true, true, true] rfl rfl (any_of HT_.out (by kernel_rfl)) (fun _ _ _ h => h) (Or.inl ⟨by rfl, ?_⟩) ?_ ?_
        rotate_left
        · intro w'
          go_simp
          with_reducible rfl
        rotate_left
        · simp only [Act.put, s1, s2, s3, i64_w, i32_w]
          rfl
        refine done_ (done_of HT_.out (by kernel_rfl)) ?_
        try go_wp2
        go_meet
        case rel => exact ⟨_, ((!(t497 == t499) || (!(t498 == t500)))), (by first | rfl | (simp; done) | (simp [*]; done) | (congr 1; omega) | (congr 2; omega) | (rw [Int.tdiv_eq_ediv_of_nonneg (by decide)]; done)), H', ⟨by first | omega | exact Nat.le_refl _⟩, ⟨by refine bkT ?_; exact BK476.out⟩, ⟨by refine bkT ?_; exact BK477.out⟩, ⟨by refine bkT ?_; exact BK482.out⟩, ⟨by refine bkT ?_; exact BK486.out⟩, ⟨by repeat (first | (with_reducible first | exact HB.out | apply below_alloc | apply pw_below_drewN | apply below_drew1 | refine below_set ?_ GE476.out | refine below_set ?_ GE477.out | refine below_set ?_ GE482.out | refine below_set ?_ GE486.out) | exact HB.out)⟩⟩
      rw [if_neg c34] at H; have c34b0 : (t487 == t488) = false := beq_eq_false_iff_ne.mpr c34; have c34b1 : (t487 != t488) = true := bne_iff_ne.mpr c34; have hz_ : ∀ (k_ : Nat) (r_ : Bool), lamplighterlaw19_IntervalCalls.j0 k_ a3 a4 true a0_0 a0_1 a1_0 a1_1 = some r_ → false = r_ := by
        intro k_ r_ h_
        cases k_ with
        | zero => exact absurd h_ (by simp [lamplighterlaw19_IntervalCalls.j0])
        | succ k_ => rw [lamplighterlaw19_IntervalCalls.j0, if_pos rfl] at h_; exact Option.some.inj h_
      exact absurd ((hz_ _ _ H).trans hr_.out) (by decide)
    case rest => as_aux_lemma =>
      clear HC10
      try clear c1
      try clear c2
      try clear p2
      try clear c3
      try clear c9
      try clear c12
      try clear c13
      try clear c15
      try clear c23
      try clear c27
      try clear c28
      try clear c29
      try clear c30
      try clear c31
      try clear c34
      try clear c34b0
      try clear c34b1
      obtain ⟨kq, x95_9, rfl, HA, HJ9, BK476, BK477, BK482, BK486, HB⟩ := hcut
      cases kq with
      | zero => exact absurd HA.out (by simp [lamplighterlaw19_IntervalCalls.j0])
      | succ kj9 =>
        have H := HA.out
        clear HA; simp only [lamplighterlaw19_IntervalCalls.j0] at H
        by_cases c58 : x95_9 = true
        · subst c58; have H1 : (some false) = some r := by rw [if_pos rfl] at H; exact H
          clear H; have H := H1; clear H1; exact absurd ((Option.some.inj H).trans hr_.out) (by decide)
        replace c58 := Bool.eq_false_iff.mpr c58; subst c58; have H1 : ((lamplighterkit_Pick.f a3 19).bind fun t501 => ((some (([a3, wrap64 (1 + t501)] : List Int) : List Int)).bind fun y502 => (lamplighterlaw19_IntervalCalls.l0 kj9 a4 y502 (y502.length : Int) 0 a0_0 a0_1 a1_0 a1_1))) = some r := by rw [if_neg (show ¬ (false = true) by decide)] at H; exact H
        clear H; have H := H1; clear H1; replace H := Option.bind_eq_some_iff.mp H; obtain ⟨t501, A590, H⟩ := H; replace H : ((some (([a3, wrap64 (1 + t501)] : List Int) : List Int)).bind fun y502 => (lamplighterlaw19_IntervalCalls.l0 kj9 a4 y502 (y502.length : Int) 0 a0_0 a0_1 a1_0 a1_1)) = some r := H; have A59 := am A590; clear A590; obtain ⟨y502, hy502⟩ : ∃ y_ : List Int, y_ = (([a3, wrap64 (1 + t501)] : List Int)) := ⟨_, rfl⟩
        replace H : (lamplighterlaw19_IntervalCalls.l0 kj9 a4 y502 (y502.length : Int) 0 a0_0 a0_1 a1_0 a1_1) = some r := by first | (rw [hy502]; with_reducible exact H) | (have H2_ := (Option.bind_some _ _).symm.trans H; rw [hy502]; with_reducible exact H2_) | (have H2_ := (Option.bind_some _ _).symm.trans H; with_reducible exact H2_) | with_reducible exact H | (rw [hy502]; exact H) | exact H
        have Ny502 := am hy502; clear hy502; have H' := am H; clear H
        go_wp2_with (first | ((with_reducible refine gate_callee (f := 10) rfl ?_); refine goesL_ (some 98) rfl rfl Try.func10 (by kernel_rfl) rfl #[.int .i64 a3, .int .i64 19] rfl (by (try simp only [List.map_toArray, List.map_cons, List.map_nil]); first | done | rfl | (simp only [List.length_drop, List.length_take]; rfl)) ?_; (with_reducible refine (lamplighterkit_Pick.calls a3 19 t501 _ A59.out).mono ?_); rintro e w' ⟨rfl, ⟨nd, rfl⟩⟩; refine ⟨_, rfl, ?_⟩) | ((with_reducible refine gate_dst (N := 100) rfl ?_); refine Kd.R_lit (Kd.int .i64) _ 3 ?hg (N := 100) ?hd (xs := ([a3, wrap64 (1 + t501)] : List Int)) (inner := [.int .i64 a3, .int .i64 (wrap64 (1 + t501))]) (ok := fun _ => True) (okp := fun _ => True) ?hr ?hp (fun _ hk => hk) trivial (Below.refl _ _) (Nat.le_refl _) (by simp) ?_; (case hd => rfl); (case hg => rfl); (case hr => first | (go_simp; done) | (go_simp; rfl)); (case hp => exact (Reps.one (show Kd.M (Kd.int .i64) _ _ _ a3 [.int .i64 a3] from rfl) (Reps.one (show Kd.M (Kd.int .i64) _ _ _ (wrap64 (1 + t501)) [.int .i64 (wrap64 (1 + t501))] from rfl) (Reps.none _ _)))); intro v503 w60 ho61 hb hg_ hnew_; clear hg_ hnew_; (first | rw [← Ny502.out] at ho61 | (simp only [Int.reduceToNat] at ho61; rw [← Ny502.out] at ho61)); have HO504 := am (Kd.R_lower ho61 (below_size (hbA HB))); replace BK476 := bbA BK476 hb; replace BK477 := bbA BK477 hb; replace BK482 := bbA BK482 hb; replace BK486 := bbA BK486 hb; replace HB := bsA HB hb; clear hb ho61; obtain ⟨Ao62, co62, eo62⟩ := Kd.R_slice HO504.out; subst eo62))
        go_loopg [102] kj9 (fun kq v102 w' => ∃ (x102_2 : Int), v102 = .int .i64 x102_2 ∧ Aside0 (lamplighterlaw19_IntervalCalls.l0 kq a4 y502 (y502.length : Int) x102_2 a0_0 a0_1 a1_0 a1_1 = some r) ∧ Aside0 (kq ≤ kj9) ∧ Aside0 (Kd.R (Kd.int .i64) 3 w' w.heap.size (fun _ => True) (.slice Ao62 y502.length co62) y502) ∧ Aside0 (w'.heap[gb476]? = some (.cells #[.int .u32 a0_0, .int .u32 a0_1] 24 (0, 0))) ∧ Aside0 (w'.heap[gb477]? = some (.cells #[.int .u32 a1_0, .int .u32 a1_1] 24 (0, 0))) ∧ Aside0 (w'.heap[gb482]? = some (.cells #[.int .u32 t479, .int .u32 t480] 24 (0, 0))) ∧ Aside0 (w'.heap[gb486]? = some (.cells #[.int .u32 t483, .int .u32 t484] 24 (0, 0))) ∧ Aside0 (Below w.heap.size w w'))
        case atStart => exact ⟨(0), (by first | rfl | (simp; done) | (simp [*]; done) | (congr 1; omega) | (congr 2; omega) | (rw [Int.tdiv_eq_ediv_of_nonneg (by decide)]; done)), H', ⟨Nat.le_refl _⟩, ⟨by (with_reducible repeat (first | apply Kd.R_alloc | apply Kd.R_drewN | apply Kd.R_drew)); exact HO504.out⟩, ⟨by refine bkT ?_; exact BK476.out⟩, ⟨by refine bkT ?_; exact BK477.out⟩, ⟨by refine bkT ?_; exact BK482.out⟩, ⟨by refine bkT ?_; exact BK486.out⟩, ⟨by repeat (first | (with_reducible first | exact HB.out | apply below_alloc | apply pw_below_drewN | apply below_drew1 | refine below_set ?_ GE476.out | refine below_set ?_ GE477.out | refine below_set ?_ GE482.out | refine below_set ?_ GE486.out) | exact HB.out)⟩⟩
        case round =>
          clear H'
          try clear c1
          try clear c2
          try clear p2
          try clear c3
          try clear c5
          try clear p6
          try clear c9
          try clear c10
          try clear c12
          try clear c13
          try clear c15
          try clear c23
          try clear c27
          try clear c28
          try clear c29
          try clear c30
          try clear c31
          try clear c34
          try clear c34b0
          try clear c34b1
          try clear c58
          try clear p2
          obtain ⟨x102_2, rfl, HA, HK2, HO_100, BK476, BK477, BK482, BK486, HB⟩ := hrel
          cases gk with
          | zero => exact absurd HA.out (by simp [lamplighterlaw19_IntervalCalls.l0])
          | succ k2 =>
            have H := HA.out
            clear HA; simp only [lamplighterlaw19_IntervalCalls.l0] at H
            by_cases c63 : x102_2 < (y502.length : Int)
            · rw [if_pos c63] at H; have c63b0 : decide (x102_2 < (y502.length : Int)) = true := decide_eq_true c63; clear c63; by_cases c64 : 0 ≤ x102_2
              · rw [if_pos c64] at H; have c64b0 : decide (0 ≤ x102_2) = true := decide_eq_true c64; clear c64; by_cases c65 : x102_2 < (y502.length : Int)
                · rw [if_pos c65] at H; have c65b0 : decide (x102_2 < (y502.length : Int)) = true := decide_eq_true c65; clear c65; replace H := Option.bind_eq_some_iff.mp H; obtain ⟨⟨t514, t515, t516, t517⟩, A660, H⟩ := H; replace H : ((lamplighterref19_Do.f k2 (rd y502 x102_2) a0_0 a0_1 a1_0 a1_1).bind fun bt519 => ((interval_Un.f k2 (rd y502 x102_2) a0_0 a0_1).bind fun bt524 => ((lamplighterref19_Un.f k2 (rd y502 x102_2) a0_0 a0_1).bind fun bt528 => (if (!(t514 == bt519.1) || (!(t515 == bt519.2.1))) = true then (some false) else (if (t516 != bt519.2.2.1) = true then (some false) else (if t517 = bt519.2.2.2 then (if (!(bt524.1 == bt528.1) || (!(bt524.2.1 == bt528.2.1))) = true then (some false) else (if bt524.2.2 = bt528.2.2 then (lamplighterlaw19_IntervalCalls.l0 k2 a4 y502 (y502.length : Int) (wrap64 (x102_2 + 1)) a0_0 a0_1 a1_0 a1_1) else (some false))) else (some false))))))) = some r := H; have A66 := am A660; clear A660; replace H := Option.bind_eq_some_iff.mp H; obtain ⟨⟨t519, t520, t521, t522⟩, A670, H⟩ := H; replace H : ((interval_Un.f k2 (rd y502 x102_2) a0_0 a0_1).bind fun bt524 => ((lamplighterref19_Un.f k2 (rd y502 x102_2) a0_0 a0_1).bind fun bt528 => (if (!(t514 == t519) || (!(t515 == t520))) = true then (some false) else (if (t516 != t521) = true then (some false) else (if t517 = t522 then (if (!(bt524.1 == bt528.1) || (!(bt524.2.1 == bt528.2.1))) = true then (some false) else (if bt524.2.2 = bt528.2.2 then (lamplighterlaw19_IntervalCalls.l0 k2 a4 y502 (y502.length : Int) (wrap64 (x102_2 + 1)) a0_0 a0_1 a1_0 a1_1) else (some false))) else (some false)))))) = some r := H; have A67 := am A670; clear A670; replace H := Option.bind_eq_some_iff.mp H; obtain ⟨⟨t524, t525, t526⟩, A680, H⟩ := H; replace H : ((lamplighterref19_Un.f k2 (rd y502 x102_2) a0_0 a0_1).bind fun bt528 => (if (!(t514 == t519) || (!(t515 == t520))) = true then (some false) else (if (t516 != t521) = true then (some false) else (if t517 = t522 then (if (!(t524 == bt528.1) || (!(t525 == bt528.2.1))) = true then (some false) else (if t526 = bt528.2.2 then (lamplighterlaw19_IntervalCalls.l0 k2 a4 y502 (y502.length : Int) (wrap64 (x102_2 + 1)) a0_0 a0_1 a1_0 a1_1) else (some false))) else (some false))))) = some r := H; have A68 := am A680; clear A680; replace H := Option.bind_eq_some_iff.mp H; obtain ⟨⟨t528, t529, t530⟩, A690, H⟩ := H; replace H : (if (!(t514 == t519) || (!(t515 == t520))) = true then (some false) else (if (t516 != t521) = true then (some false) else (if t517 = t522 then (if (!(t524 == t528) || (!(t525 == t529))) = true then (some false) else (if t526 = t530 then (lamplighterlaw19_IntervalCalls.l0 k2 a4 y502 (y502.length : Int) (wrap64 (x102_2 + 1)) a0_0 a0_1 a1_0 a1_1) else (some false))) else (some false)))) = some r := H; have A69 := am A690; clear A690; by_cases c70 : (!(t514 == t519) || (!(t515 == t520))) = true
                  · rw [if_pos c70] at H; have c70b0 : (!(t514 == t519) || (!(t515 == t520))) = true := c70
                    clear c70; exact absurd ((Option.some.inj H).trans hr_.out) (by decide)
                  rw [if_neg c70] at H; have c70b0 : (!(t514 == t519) || (!(t515 == t520))) = false := by simpa using c70
                  clear c70; by_cases c71 : (t516 != t521) = true
                  · rw [if_pos c71] at H; have c71b0 : (t516 != t521) = true := c71
                    (try (have c71b1 : decide (t516 = t521) = false := by simpa using c71))
                    (try (have c71b2 : (t516 == t521) = false := by simpa using c71))
                    (try (have c71b3 : ¬ (t516 = t521) := by simpa using c71))
                    clear c71; exact absurd ((Option.some.inj H).trans hr_.out) (by decide)
                  rw [if_neg c71] at H; have c71b0 : (t516 != t521) = false := by simpa using c71
                  (try (have c71b1 : decide (t516 = t521) = true := by simpa using c71))
                  (try (have c71b2 : (t516 == t521) = true := by simpa using c71))
                  clear c71; by_cases c72 : t517 = t522
                  · rw [if_pos c72] at H; have c72b0 : (t517 == t522) = true := beq_iff_eq.mpr c72; have c72b1 : (t517 != t522) = false := bne_eq_false_iff_eq.mpr c72; clear c72; by_cases c73 : (!(t524 == t528) || (!(t525 == t529))) = true
                    · rw [if_pos c73] at H; have c73b0 : (!(t524 == t528) || (!(t525 == t529))) = true := c73
                      clear c73; exact absurd ((Option.some.inj H).trans hr_.out) (by decide)
                    rw [if_neg c73] at H; have c73b0 : (!(t524 == t528) || (!(t525 == t529))) = false := by simpa using c73
                    clear c73; by_cases c74 : t526 = t530
                    · rw [if_pos c74] at H; have c74b0 : (t526 == t530) = true := beq_iff_eq.mpr c74; have c74b1 : (t526 != t530) = false := bne_eq_false_iff_eq.mpr c74; clear c74; have H' := am H; clear H; have p513 : 0 ≤ (x102_2 : Int) := of_decide_eq_true (by first | (with_reducible assumption) | assumption)
                      have q513 : x102_2 < (y502.length : Int) := of_decide_eq_true (by first | (with_reducible assumption) | assumption)
                      obtain ⟨ad513, e513, hx513_0⟩ := Kd.at_int (Kd.R_reads' HO_100.out).2.2 x102_2 p513 q513
                      cases e513
                      replace p513 := eq_true p513
                      replace q513 := eq_true q513
                      have hnb75 := NB476_477.out
                      have hnc75 := NB477_476.out
                      have hnb76 := NB476_482.out
                      have hnc76 := NB482_476.out
                      have hnb77 := NB476_486.out
                      have hnc77 := NB486_476.out
                      have hcz78_0 : wr.cell? ⟨gb476, 0, none⟩ = some (.int .u32 a0_0) := cz BK476
                      have hcz78_1 : wr.cell? ⟨gb476, 1, none⟩ = some (.int .u32 a0_1) := cz BK476
                      have hfz78_0 := blk_frozen BK476.out 0
                      have hfz78_1 := blk_frozen BK476.out 1
                      have hnb79 := NB477_482.out
                      have hnc79 := NB482_477.out
                      have hnb80 := NB477_486.out
                      have hnc80 := NB486_477.out
                      have hcz81_0 : wr.cell? ⟨gb477, 0, none⟩ = some (.int .u32 a1_0) := cz BK477
                      have hcz81_1 : wr.cell? ⟨gb477, 1, none⟩ = some (.int .u32 a1_1) := cz BK477
                      have hfz81_0 := blk_frozen BK477.out 0
                      have hfz81_1 := blk_frozen BK477.out 1
                      go_wp2_with (first | ((with_reducible refine gate_callee (f := 11) rfl ?_); refine goesL_ (some 110) rfl rfl Try.func11 (by kernel_rfl) rfl #[.int .i64 (rd y502 x102_2), .agg #[.int .u32 a0_0, .int .u32 a0_1], .agg #[.int .u32 a1_0, .int .u32 a1_1]] rfl (by (try simp only [List.map_toArray, List.map_cons, List.map_nil]); first | done | rfl | (simp only [List.length_drop, List.length_take]; rfl)) ?_; (with_reducible refine (interval_Do.calls k2 (rd y502 x102_2) a0_0 a0_1 a1_0 a1_1 t514 t515 t516 t517 _ A66.out).mono ?_); rintro e w82 ⟨rfl, hb⟩; refine ⟨_, rfl, ?_⟩; replace HO_100 := am (Kd.R_below (by (with_reducible repeat (first | apply Kd.R_alloc | apply Kd.R_drewN | apply Kd.R_drew)); exact HO_100.out) hb); replace BK476 := bbA BK476 hb; replace BK477 := bbA BK477 hb; replace BK482 := bbA BK482 hb; replace BK486 := bbA BK486 hb; replace HB := bsA HB hb; (try clear hb); (try clear hb2); (try clear hk); (try clear hi)) | ((with_reducible refine gate_dst (N := 17) rfl ?_); refine bxE 17 #[.int .u32 0, .int .u32 0] 24 ?_; intro gb518 hg w83 hbox hb; have BK518 := am (hbox); have GW518 := gwA hg HB; have GE518 := gwA hg HB; have NB476_518 := ltA hg BK476; have NB518_476 := gtA hg BK476; have NB477_518 := ltA hg BK477; have NB518_477 := gtA hg BK477; have NB482_518 := ltA hg BK482; have NB518_482 := gtA hg BK482; have NB486_518 := ltA hg BK486; have NB518_486 := gtA hg BK486; replace HO_100 := am (Kd.R_below (by (with_reducible repeat (first | apply Kd.R_alloc | apply Kd.R_drewN | apply Kd.R_drew)); exact HO_100.out) hb); replace BK476 := bbA BK476 hb; replace BK477 := bbA BK477 hb; replace BK482 := bbA BK482 hb; replace BK486 := bbA BK486 hb; replace HB := bsA HB hb; clear hb hbox hg; have hnb84 := NB518_476.out; have hnc84 := NB476_518.out; have hnb85 := NB518_477.out; have hnc85 := NB477_518.out; have hnb86 := NB518_482.out; have hnc86 := NB482_518.out; have hnb87 := NB518_486.out; have hnc87 := NB486_518.out; have hcz88_0 : w83.cell? ⟨gb518, 0, none⟩ = some (.int .u32 0) := cz BK518; have hcz88_1 : w83.cell? ⟨gb518, 1, none⟩ = some (.int .u32 0) := cz BK518; have hfz88_0 := blk_frozen BK518.out 0; have hfz88_1 := blk_frozen BK518.out 1; have hcz89_0 : w83.cell? ⟨gb476, 0, none⟩ = some (.int .u32 a0_0) := cz BK476; have hcz89_1 : w83.cell? ⟨gb476, 1, none⟩ = some (.int .u32 a0_1) := cz BK476; have hfz89_0 := blk_frozen BK476.out 0; have hfz89_1 := blk_frozen BK476.out 1; have hcz90_0 : w83.cell? ⟨gb477, 0, none⟩ = some (.int .u32 a1_0) := cz BK477; have hcz90_1 : w83.cell? ⟨gb477, 1, none⟩ = some (.int .u32 a1_1) := cz BK477; have hfz90_0 := blk_frozen BK477.out 0; have hfz90_1 := blk_frozen BK477.out 1) | ((with_reducible refine gate_callee (f := 32) rfl ?_); refine goesL_ (some 118) rfl rfl Try.func32 (by kernel_rfl) rfl #[.int .i64 (rd y502 x102_2), .agg #[.int .u32 a0_0, .int .u32 a0_1], .agg #[.int .u32 a1_0, .int .u32 a1_1]] rfl (by (try simp only [List.map_toArray, List.map_cons, List.map_nil]); first | done | rfl | (simp only [List.length_drop, List.length_take]; rfl)) ?_; (with_reducible refine (lamplighterref19_Do.calls k2 (rd y502 x102_2) a0_0 a0_1 a1_0 a1_1 t519 t520 t521 t522 _ A67.out).mono ?_); rintro e w91 ⟨rfl, hb⟩; refine ⟨_, rfl, ?_⟩; have n0_ := am (Kd.R_below (by (with_reducible repeat (first | apply Kd.R_alloc | apply Kd.R_drewN | apply Kd.R_drew)); exact (Kd.R_mono (Kd.R_far (p := ⟨gb518, 1, none⟩) (Kd.R_far (p := ⟨gb518, 0, none⟩) (Kd.R_types HO_100.out BK518.out (by decide)) (fun _ hk => hk.2) (.int .u32 t514)) (fun _ hk => hk.2) (.int .u32 t515)) (fun _ h_ => h_.1))) hb); have n1_ := am (blk_below (g := gb476) (o := .cells #[.int .u32 a0_0, .int .u32 a0_1] 24 (0, 0)) (by refine bkT ?_; refine blk_far ?_ NB476_518.out _; refine bkT ?_; refine blk_far ?_ NB476_518.out _; refine bkT ?_; exact BK476.out) hb); have n2_ := am (blk_below (g := gb477) (o := .cells #[.int .u32 a1_0, .int .u32 a1_1] 24 (0, 0)) (by refine bkT ?_; refine blk_far ?_ NB477_518.out _; refine bkT ?_; refine blk_far ?_ NB477_518.out _; refine bkT ?_; exact BK477.out) hb); have n3_ := am (blk_below (g := gb482) (o := .cells #[.int .u32 t479, .int .u32 t480] 24 (0, 0)) (by refine bkT ?_; refine blk_far ?_ NB482_518.out _; refine bkT ?_; refine blk_far ?_ NB482_518.out _; refine bkT ?_; exact BK482.out) hb); have n4_ := am (blk_below (g := gb486) (o := .cells #[.int .u32 t483, .int .u32 t484] 24 (0, 0)) (by refine bkT ?_; refine blk_far ?_ NB486_518.out _; refine bkT ?_; refine blk_far ?_ NB486_518.out _; refine bkT ?_; exact BK486.out) hb); have n5_ := am (blk_below (g := gb518) (o := .cells #[.int .u32 t514, .int .u32 t515] 24 (0, 0)) (by refine bkT ?_; refine blk_put (cs := #[.int .u32 t514, .int .u32 0]) ?_ 1 _ rfl; refine bkT ?_; refine blk_put (cs := #[.int .u32 0, .int .u32 0]) ?_ 0 _ rfl; refine bkT ?_; exact BK518.out) hb); have n6_ := bsA HB hb; clear HO_100; clear BK476; clear BK477; clear BK482; clear BK486; clear BK518; clear HB; have HO_100 := n0_; have BK476 := n1_; have BK477 := n2_; have BK482 := n3_; have BK486 := n4_; have BK518 := n5_; have HB := n6_; clear n0_ n1_ n2_ n3_ n4_ n5_ n6_; (try clear hb); (try clear hb2); (try clear hk); (try clear hi)) | ((with_reducible refine gate_dst (N := 20) rfl ?_); refine bxE 20 #[.int .u32 0, .int .u32 0] 24 ?_; intro gb523 hg w92 hbox hb; have BK523 := am (hbox); have GW523 := gwA hg HB; have GE523 := gwA hg HB; have NB476_523 := ltA hg BK476; have NB523_476 := gtA hg BK476; have NB477_523 := ltA hg BK477; have NB523_477 := gtA hg BK477; have NB482_523 := ltA hg BK482; have NB523_482 := gtA hg BK482; have NB486_523 := ltA hg BK486; have NB523_486 := gtA hg BK486; have NB518_523 := ltA hg BK518; have NB523_518 := gtA hg BK518; replace HO_100 := am (Kd.R_below (by (with_reducible repeat (first | apply Kd.R_alloc | apply Kd.R_drewN | apply Kd.R_drew)); exact HO_100.out) hb); replace BK476 := bbA BK476 hb; replace BK477 := bbA BK477 hb; replace BK482 := bbA BK482 hb; replace BK486 := bbA BK486 hb; replace BK518 := bbA BK518 hb; replace HB := bsA HB hb; clear hb hbox hg; have hnb93 := NB523_476.out; have hnc93 := NB476_523.out; have hnb94 := NB523_477.out; have hnc94 := NB477_523.out; have hnb95 := NB523_482.out; have hnc95 := NB482_523.out; have hnb96 := NB523_486.out; have hnc96 := NB486_523.out; have hnb97 := NB523_518.out; have hnc97 := NB518_523.out; have hcz98_0 : w92.cell? ⟨gb523, 0, none⟩ = some (.int .u32 0) := cz BK523; have hcz98_1 : w92.cell? ⟨gb523, 1, none⟩ = some (.int .u32 0) := cz BK523; have hfz98_0 := blk_frozen BK523.out 0; have hfz98_1 := blk_frozen BK523.out 1; have hcz99_0 : w92.cell? ⟨gb476, 0, none⟩ = some (.int .u32 a0_0) := cz BK476; have hcz99_1 : w92.cell? ⟨gb476, 1, none⟩ = some (.int .u32 a0_1) := cz BK476; have hfz99_0 := blk_frozen BK476.out 0; have hfz99_1 := blk_frozen BK476.out 1) | ((with_reducible refine gate_callee (f := 14) rfl ?_); refine goesL_ (some 125) rfl rfl Try.func14 (by kernel_rfl) rfl #[.int .i64 (rd y502 x102_2), .agg #[.int .u32 a0_0, .int .u32 a0_1]] rfl (by (try simp only [List.map_toArray, List.map_cons, List.map_nil]); first | done | rfl | (simp only [List.length_drop, List.length_take]; rfl)) ?_; (with_reducible refine (interval_Un.calls k2 (rd y502 x102_2) a0_0 a0_1 t524 t525 t526 _ A68.out).mono ?_); rintro e w100 ⟨rfl, hb⟩; refine ⟨_, rfl, ?_⟩; have n0_ := am (Kd.R_below (by (with_reducible repeat (first | apply Kd.R_alloc | apply Kd.R_drewN | apply Kd.R_drew)); exact (Kd.R_mono (Kd.R_far (p := ⟨gb523, 1, none⟩) (Kd.R_far (p := ⟨gb523, 0, none⟩) (Kd.R_types HO_100.out BK523.out (by decide)) (fun _ hk => hk.2) (.int .u32 t519)) (fun _ hk => hk.2) (.int .u32 t520)) (fun _ h_ => h_.1))) hb); have n1_ := am (blk_below (g := gb476) (o := .cells #[.int .u32 a0_0, .int .u32 a0_1] 24 (0, 0)) (by refine bkT ?_; refine blk_far ?_ NB476_523.out _; refine bkT ?_; refine blk_far ?_ NB476_523.out _; refine bkT ?_; exact BK476.out) hb); have n2_ := am (blk_below (g := gb477) (o := .cells #[.int .u32 a1_0, .int .u32 a1_1] 24 (0, 0)) (by refine bkT ?_; refine blk_far ?_ NB477_523.out _; refine bkT ?_; refine blk_far ?_ NB477_523.out _; refine bkT ?_; exact BK477.out) hb); have n3_ := am (blk_below (g := gb482) (o := .cells #[.int .u32 t479, .int .u32 t480] 24 (0, 0)) (by refine bkT ?_; refine blk_far ?_ NB482_523.out _; refine bkT ?_; refine blk_far ?_ NB482_523.out _; refine bkT ?_; exact BK482.out) hb); have n4_ := am (blk_below (g := gb486) (o := .cells #[.int .u32 t483, .int .u32 t484] 24 (0, 0)) (by refine bkT ?_; refine blk_far ?_ NB486_523.out _; refine bkT ?_; refine blk_far ?_ NB486_523.out _; refine bkT ?_; exact BK486.out) hb); have n5_ := am (blk_below (g := gb518) (o := .cells #[.int .u32 t514, .int .u32 t515] 24 (0, 0)) (by refine bkT ?_; refine blk_far ?_ NB518_523.out _; refine bkT ?_; refine blk_far ?_ NB518_523.out _; refine bkT ?_; exact BK518.out) hb); have n6_ := am (blk_below (g := gb523) (o := .cells #[.int .u32 t519, .int .u32 t520] 24 (0, 0)) (by refine bkT ?_; refine blk_put (cs := #[.int .u32 t519, .int .u32 0]) ?_ 1 _ rfl; refine bkT ?_; refine blk_put (cs := #[.int .u32 0, .int .u32 0]) ?_ 0 _ rfl; refine bkT ?_; exact BK523.out) hb); have n7_ := bsA HB hb; clear HO_100; clear BK476; clear BK477; clear BK482; clear BK486; clear BK518; clear BK523; clear HB; have HO_100 := n0_; have BK476 := n1_; have BK477 := n2_; have BK482 := n3_; have BK486 := n4_; have BK518 := n5_; have BK523 := n6_; have HB := n7_; clear n0_ n1_ n2_ n3_ n4_ n5_ n6_ n7_; (try clear hb); (try clear hb2); (try clear hk); (try clear hi)) | ((with_reducible refine gate_dst (N := 23) rfl ?_); refine bxE 23 #[.int .u32 0, .int .u32 0] 24 ?_; intro gb527 hg w101 hbox hb; have BK527 := am (hbox); have GW527 := gwA hg HB; have GE527 := gwA hg HB; have NB476_527 := ltA hg BK476; have NB527_476 := gtA hg BK476; have NB477_527 := ltA hg BK477; have NB527_477 := gtA hg BK477; have NB482_527 := ltA hg BK482; have NB527_482 := gtA hg BK482; have NB486_527 := ltA hg BK486; have NB527_486 := gtA hg BK486; have NB518_527 := ltA hg BK518; have NB527_518 := gtA hg BK518; have NB523_527 := ltA hg BK523; have NB527_523 := gtA hg BK523; replace HO_100 := am (Kd.R_below (by (with_reducible repeat (first | apply Kd.R_alloc | apply Kd.R_drewN | apply Kd.R_drew)); exact HO_100.out) hb); replace BK476 := bbA BK476 hb; replace BK477 := bbA BK477 hb; replace BK482 := bbA BK482 hb; replace BK486 := bbA BK486 hb; replace BK518 := bbA BK518 hb; replace BK523 := bbA BK523 hb; replace HB := bsA HB hb; clear hb hbox hg; have hnb102 := NB527_476.out; have hnc102 := NB476_527.out; have hnb103 := NB527_477.out; have hnc103 := NB477_527.out; have hnb104 := NB527_482.out; have hnc104 := NB482_527.out; have hnb105 := NB527_486.out; have hnc105 := NB486_527.out; have hnb106 := NB527_518.out; have hnc106 := NB518_527.out; have hnb107 := NB527_523.out; have hnc107 := NB523_527.out; have hcz108_0 : w101.cell? ⟨gb527, 0, none⟩ = some (.int .u32 0) := cz BK527; have hcz108_1 : w101.cell? ⟨gb527, 1, none⟩ = some (.int .u32 0) := cz BK527; have hfz108_0 := blk_frozen BK527.out 0; have hfz108_1 := blk_frozen BK527.out 1; have hcz109_0 : w101.cell? ⟨gb476, 0, none⟩ = some (.int .u32 a0_0) := cz BK476; have hcz109_1 : w101.cell? ⟨gb476, 1, none⟩ = some (.int .u32 a0_1) := cz BK476; have hfz109_0 := blk_frozen BK476.out 0; have hfz109_1 := blk_frozen BK476.out 1) | ((with_reducible refine gate_callee (f := 33) rfl ?_); refine goesL_ (some 131) rfl rfl Try.func33 (by kernel_rfl) rfl #[.int .i64 (rd y502 x102_2), .agg #[.int .u32 a0_0, .int .u32 a0_1]] rfl (by (try simp only [List.map_toArray, List.map_cons, List.map_nil]); first | done | rfl | (simp only [List.length_drop, List.length_take]; rfl)) ?_; (with_reducible refine (lamplighterref19_Un.calls k2 (rd y502 x102_2) a0_0 a0_1 t528 t529 t530 _ A69.out).mono ?_); rintro e w110 ⟨rfl, hb⟩; refine ⟨_, rfl, ?_⟩; have n0_ := am (Kd.R_below (by (with_reducible repeat (first | apply Kd.R_alloc | apply Kd.R_drewN | apply Kd.R_drew)); exact (Kd.R_mono (Kd.R_far (p := ⟨gb527, 1, none⟩) (Kd.R_far (p := ⟨gb527, 0, none⟩) (Kd.R_types HO_100.out BK527.out (by decide)) (fun _ hk => hk.2) (.int .u32 t524)) (fun _ hk => hk.2) (.int .u32 t525)) (fun _ h_ => h_.1))) hb); have n1_ := am (blk_below (g := gb476) (o := .cells #[.int .u32 a0_0, .int .u32 a0_1] 24 (0, 0)) (by refine bkT ?_; refine blk_far ?_ NB476_527.out _; refine bkT ?_; refine blk_far ?_ NB476_527.out _; refine bkT ?_; exact BK476.out) hb); have n2_ := am (blk_below (g := gb477) (o := .cells #[.int .u32 a1_0, .int .u32 a1_1] 24 (0, 0)) (by refine bkT ?_; refine blk_far ?_ NB477_527.out _; refine bkT ?_; refine blk_far ?_ NB477_527.out _; refine bkT ?_; exact BK477.out) hb); have n3_ := am (blk_below (g := gb482) (o := .cells #[.int .u32 t479, .int .u32 t480] 24 (0, 0)) (by refine bkT ?_; refine blk_far ?_ NB482_527.out _; refine bkT ?_; refine blk_far ?_ NB482_527.out _; refine bkT ?_; exact BK482.out) hb); have n4_ := am (blk_below (g := gb486) (o := .cells #[.int .u32 t483, .int .u32 t484] 24 (0, 0)) (by refine bkT ?_; refine blk_far ?_ NB486_527.out _; refine bkT ?_; refine blk_far ?_ NB486_527.out _; refine bkT ?_; exact BK486.out) hb); have n5_ := am (blk_below (g := gb518) (o := .cells #[.int .u32 t514, .int .u32 t515] 24 (0, 0)) (by refine bkT ?_; refine blk_far ?_ NB518_527.out _; refine bkT ?_; refine blk_far ?_ NB518_527.out _; refine bkT ?_; exact BK518.out) hb); have n6_ := am (blk_below (g := gb523) (o := .cells #[.int .u32 t519, .int .u32 t520] 24 (0, 0)) (by refine bkT ?_; refine blk_far ?_ NB523_527.out _; refine bkT ?_; refine blk_far ?_ NB523_527.out _; refine bkT ?_; exact BK523.out) hb); have n7_ := am (blk_below (g := gb527) (o := .cells #[.int .u32 t524, .int .u32 t525] 24 (0, 0)) (by refine bkT ?_; refine blk_put (cs := #[.int .u32 t524, .int .u32 0]) ?_ 1 _ rfl; refine bkT ?_; refine blk_put (cs := #[.int .u32 0, .int .u32 0]) ?_ 0 _ rfl; refine bkT ?_; exact BK527.out) hb); have n8_ := bsA HB hb; clear HO_100; clear BK476; clear BK477; clear BK482; clear BK486; clear BK518; clear BK523; clear BK527; clear HB; have HO_100 := n0_; have BK476 := n1_; have BK477 := n2_; have BK482 := n3_; have BK486 := n4_; have BK518 := n5_; have BK523 := n6_; have BK527 := n7_; have HB := n8_; clear n0_ n1_ n2_ n3_ n4_ n5_ n6_ n7_ n8_; (try clear hb); (try clear hb2); (try clear hk); (try clear hi)) | ((with_reducible refine gate_dst (N := 25) rfl ?_); refine bxE 25 #[.int .u32 0, .int .u32 0] 24 ?_; intro gb531 hg w111 hbox hb; have BK531 := am (hbox); have GW531 := gwA hg HB; have GE531 := gwA hg HB; have NB476_531 := ltA hg BK476; have NB531_476 := gtA hg BK476; have NB477_531 := ltA hg BK477; have NB531_477 := gtA hg BK477; have NB482_531 := ltA hg BK482; have NB531_482 := gtA hg BK482; have NB486_531 := ltA hg BK486; have NB531_486 := gtA hg BK486; have NB518_531 := ltA hg BK518; have NB531_518 := gtA hg BK518; have NB523_531 := ltA hg BK523; have NB531_523 := gtA hg BK523; have NB527_531 := ltA hg BK527; have NB531_527 := gtA hg BK527; replace HO_100 := am (Kd.R_below (by (with_reducible repeat (first | apply Kd.R_alloc | apply Kd.R_drewN | apply Kd.R_drew)); exact HO_100.out) hb); replace BK476 := bbA BK476 hb; replace BK477 := bbA BK477 hb; replace BK482 := bbA BK482 hb; replace BK486 := bbA BK486 hb; replace BK518 := bbA BK518 hb; replace BK523 := bbA BK523 hb; replace BK527 := bbA BK527 hb; replace HB := bsA HB hb; clear hb hbox hg; have hnb112 := NB531_476.out; have hnc112 := NB476_531.out; have hnb113 := NB531_477.out; have hnc113 := NB477_531.out; have hnb114 := NB531_482.out; have hnc114 := NB482_531.out; have hnb115 := NB531_486.out; have hnc115 := NB486_531.out; have hnb116 := NB531_518.out; have hnc116 := NB518_531.out; have hnb117 := NB531_523.out; have hnc117 := NB523_531.out; have hnb118 := NB531_527.out; have hnc118 := NB527_531.out; have hcz119_0 : w111.cell? ⟨gb531, 0, none⟩ = some (.int .u32 0) := cz BK531; have hcz119_1 : w111.cell? ⟨gb531, 1, none⟩ = some (.int .u32 0) := cz BK531; have hfz119_0 := blk_frozen BK531.out 0; have hfz119_1 := blk_frozen BK531.out 1; have hcz120_0 : w111.cell? ⟨gb518, 0, none⟩ = some (.int .u32 t514) := cz BK518; have hcz120_1 : w111.cell? ⟨gb518, 1, none⟩ = some (.int .u32 t515) := cz BK518; have hfz120_0 := blk_frozen BK518.out 0; have hfz120_1 := blk_frozen BK518.out 1; have hcz121_0 : w111.cell? ⟨gb523, 0, none⟩ = some (.int .u32 t519) := cz BK523; have hcz121_1 : w111.cell? ⟨gb523, 1, none⟩ = some (.int .u32 t520) := cz BK523; have hfz121_0 := blk_frozen BK523.out 0; have hfz121_1 := blk_frozen BK523.out 1; have hcz122_0 : w111.cell? ⟨gb527, 0, none⟩ = some (.int .u32 t524) := cz BK527; have hcz122_1 : w111.cell? ⟨gb527, 1, none⟩ = some (.int .u32 t525) := cz BK527; have hfz122_0 := blk_frozen BK527.out 0; have hfz122_1 := blk_frozen BK527.out 1))
                      go_roundg k2
                      case measure => have := HJ9.out; have := HK2.out; omega
                      case rel => exact ⟨(wrap64 (x102_2 + 1)), (by first | rfl | (simp; done) | (simp [*]; done) | (congr 1; omega) | (congr 2; omega) | (rw [Int.tdiv_eq_ediv_of_nonneg (by decide)]; done)), H', ⟨by have := HJ9.out; have := HK2.out; omega⟩, ⟨by (with_reducible repeat (first | apply Kd.R_alloc | apply Kd.R_drewN | apply Kd.R_drew)); exact Kd.R_mono (Kd.R_far (p := ⟨gb531, 1, none⟩) (Kd.R_far (p := ⟨gb531, 0, none⟩) (Kd.R_types HO_100.out BK531.out (by decide)) (fun _ hk => hk.2) (.int .u32 t528)) (fun _ hk => hk.2) (.int .u32 t529)) (fun _ hk => trivial)⟩, ⟨by refine bkT ?_; refine blk_far ?_ NB476_531.out _; refine bkT ?_; refine blk_far ?_ NB476_531.out _; refine bkT ?_; exact BK476.out⟩, ⟨by refine bkT ?_; refine blk_far ?_ NB477_531.out _; refine bkT ?_; refine blk_far ?_ NB477_531.out _; refine bkT ?_; exact BK477.out⟩, ⟨by refine bkT ?_; refine blk_far ?_ NB482_531.out _; refine bkT ?_; refine blk_far ?_ NB482_531.out _; refine bkT ?_; exact BK482.out⟩, ⟨by refine bkT ?_; refine blk_far ?_ NB486_531.out _; refine bkT ?_; refine blk_far ?_ NB486_531.out _; refine bkT ?_; exact BK486.out⟩, ⟨by repeat (first | (with_reducible first | exact HB.out | apply below_alloc | apply pw_below_drewN | apply below_drew1 | refine below_set ?_ GE476.out | refine below_set ?_ GE477.out | refine below_set ?_ GE482.out | refine below_set ?_ GE486.out | refine below_set ?_ GE518.out | refine below_set ?_ GE523.out | refine below_set ?_ GE527.out | refine below_set ?_ GE531.out) | exact HB.out)⟩⟩
                    rw [if_neg c74] at H; have c74b0 : (t526 == t530) = false := beq_eq_false_iff_ne.mpr c74; have c74b1 : (t526 != t530) = true := bne_iff_ne.mpr c74; exact absurd ((Option.some.inj H).trans hr_.out) (by decide)
                  rw [if_neg c72] at H; have c72b0 : (t517 == t522) = false := beq_eq_false_iff_ne.mpr c72; have c72b1 : (t517 != t522) = true := bne_iff_ne.mpr c72; exact absurd ((Option.some.inj H).trans hr_.out) (by decide)
                rw [if_neg c65] at H; exact absurd H (by simp)
              rw [if_neg c64] at H; exact absurd H (by simp)
            rw [if_neg c63] at H; have c63b0 : decide (x102_2 < (y502.length : Int)) = false := decide_eq_false c63; clear c63; replace H := Option.bind_eq_some_iff.mp H; obtain ⟨⟨t505, t506, t507⟩, A1230, H⟩ := H; replace H : ((lamplighterref19_Cut.f k2 a0_0 a0_1 a4).bind fun bt509 => (if (t505 == bt509.1 && (t506 == bt509.2.1)) = true then (some (t507 == bt509.2.2)) else (some false))) = some r := H; have A123 := am A1230; clear A1230; replace H := Option.bind_eq_some_iff.mp H; obtain ⟨⟨t509, t510, t511⟩, A1240, H⟩ := H; replace H : (if (t505 == t509 && (t506 == t510)) = true then (some (t507 == t511)) else (some false)) = some r := H; have A124 := am A1240; clear A1240; by_cases c125 : (t505 == t509 && (t506 == t510)) = true
            · rw [if_pos c125] at H; have c125b0 : (t505 == t509 && (t506 == t510)) = true := c125
              (try (have c125b1 : decide (t505 = t509 && (t506 == t510)) = true := by simpa using c125))
              (try (have c125b2 : (t505 == t509 && (t506 == t510)) = true := by simpa using c125))
              clear c125; obtain rfl := Option.some.inj H; have hnb126 := NB476_477.out
              have hnc126 := NB477_476.out
              have hnb127 := NB476_482.out
              have hnc127 := NB482_476.out
              have hnb128 := NB476_486.out
              have hnc128 := NB486_476.out
              have hcz129_0 : wr.cell? ⟨gb476, 0, none⟩ = some (.int .u32 a0_0) := cz BK476
              have hcz129_1 : wr.cell? ⟨gb476, 1, none⟩ = some (.int .u32 a0_1) := cz BK476
              have hfz129_0 := blk_frozen BK476.out 0
              have hfz129_1 := blk_frozen BK476.out 1
              go_wp2_with (first | ((with_reducible refine gate_callee (f := 17) rfl ?_); refine goesL_ (some 161) rfl rfl Try.func17 (by kernel_rfl) rfl #[.agg #[.int .u32 a0_0, .int .u32 a0_1], .int .i64 a4] rfl (by (try simp only [List.map_toArray, List.map_cons, List.map_nil]); first | done | rfl | (simp only [List.length_drop, List.length_take]; rfl)) ?_; (with_reducible refine (interval_Cut.calls k2 a0_0 a0_1 a4 t505 t506 t507 _ A123.out).mono ?_); rintro e w130 ⟨rfl, hb⟩; refine ⟨_, rfl, ?_⟩; replace HO_100 := am (Kd.R_below (by (with_reducible repeat (first | apply Kd.R_alloc | apply Kd.R_drewN | apply Kd.R_drew)); exact HO_100.out) hb); replace BK476 := bbA BK476 hb; replace BK477 := bbA BK477 hb; replace BK482 := bbA BK482 hb; replace BK486 := bbA BK486 hb; replace HB := bsA HB hb; (try clear hb); (try clear hb2); (try clear hk); (try clear hi)) | ((with_reducible refine gate_dst (N := 27) rfl ?_); refine bxE 27 #[.int .u32 0, .int .u32 0] 24 ?_; intro gb508 hg w131 hbox hb; have BK508 := am (hbox); have GW508 := gwA hg HB; have GE508 := gwA hg HB; have NB476_508 := ltA hg BK476; have NB508_476 := gtA hg BK476; have NB477_508 := ltA hg BK477; have NB508_477 := gtA hg BK477; have NB482_508 := ltA hg BK482; have NB508_482 := gtA hg BK482; have NB486_508 := ltA hg BK486; have NB508_486 := gtA hg BK486; replace HO_100 := am (Kd.R_below (by (with_reducible repeat (first | apply Kd.R_alloc | apply Kd.R_drewN | apply Kd.R_drew)); exact HO_100.out) hb); replace BK476 := bbA BK476 hb; replace BK477 := bbA BK477 hb; replace BK482 := bbA BK482 hb; replace BK486 := bbA BK486 hb; replace HB := bsA HB hb; clear hb hbox hg; have hnb132 := NB508_476.out; have hnc132 := NB476_508.out; have hnb133 := NB508_477.out; have hnc133 := NB477_508.out; have hnb134 := NB508_482.out; have hnc134 := NB482_508.out; have hnb135 := NB508_486.out; have hnc135 := NB486_508.out; have hcz136_0 : w131.cell? ⟨gb508, 0, none⟩ = some (.int .u32 0) := cz BK508; have hcz136_1 : w131.cell? ⟨gb508, 1, none⟩ = some (.int .u32 0) := cz BK508; have hfz136_0 := blk_frozen BK508.out 0; have hfz136_1 := blk_frozen BK508.out 1; have hcz137_0 : w131.cell? ⟨gb476, 0, none⟩ = some (.int .u32 a0_0) := cz BK476; have hcz137_1 : w131.cell? ⟨gb476, 1, none⟩ = some (.int .u32 a0_1) := cz BK476; have hfz137_0 := blk_frozen BK476.out 0; have hfz137_1 := blk_frozen BK476.out 1) | ((with_reducible refine gate_callee (f := 34) rfl ?_); refine goesL_ (some 167) rfl rfl Try.func34 (by kernel_rfl) rfl #[.agg #[.int .u32 a0_0, .int .u32 a0_1], .int .i64 a4] rfl (by (try simp only [List.map_toArray, List.map_cons, List.map_nil]); first | done | rfl | (simp only [List.length_drop, List.length_take]; rfl)) ?_; (with_reducible refine (lamplighterref19_Cut.calls k2 a0_0 a0_1 a4 t509 t510 t511 _ A124.out).mono ?_); rintro e w138 ⟨rfl, hb⟩; refine ⟨_, rfl, ?_⟩; have n0_ := am (Kd.R_below (by (with_reducible repeat (first | apply Kd.R_alloc | apply Kd.R_drewN | apply Kd.R_drew)); exact (Kd.R_mono (Kd.R_far (p := ⟨gb508, 1, none⟩) (Kd.R_far (p := ⟨gb508, 0, none⟩) (Kd.R_types HO_100.out BK508.out (by decide)) (fun _ hk => hk.2) (.int .u32 t505)) (fun _ hk => hk.2) (.int .u32 t506)) (fun _ h_ => h_.1))) hb); have n1_ := am (blk_below (g := gb476) (o := .cells #[.int .u32 a0_0, .int .u32 a0_1] 24 (0, 0)) (by refine bkT ?_; refine blk_far ?_ NB476_508.out _; refine bkT ?_; refine blk_far ?_ NB476_508.out _; refine bkT ?_; exact BK476.out) hb); have n2_ := am (blk_below (g := gb477) (o := .cells #[.int .u32 a1_0, .int .u32 a1_1] 24 (0, 0)) (by refine bkT ?_; refine blk_far ?_ NB477_508.out _; refine bkT ?_; refine blk_far ?_ NB477_508.out _; refine bkT ?_; exact BK477.out) hb); have n3_ := am (blk_below (g := gb482) (o := .cells #[.int .u32 t479, .int .u32 t480] 24 (0, 0)) (by refine bkT ?_; refine blk_far ?_ NB482_508.out _; refine bkT ?_; refine blk_far ?_ NB482_508.out _; refine bkT ?_; exact BK482.out) hb); have n4_ := am (blk_below (g := gb486) (o := .cells #[.int .u32 t483, .int .u32 t484] 24 (0, 0)) (by refine bkT ?_; refine blk_far ?_ NB486_508.out _; refine bkT ?_; refine blk_far ?_ NB486_508.out _; refine bkT ?_; exact BK486.out) hb); have n5_ := am (blk_below (g := gb508) (o := .cells #[.int .u32 t505, .int .u32 t506] 24 (0, 0)) (by refine bkT ?_; refine blk_put (cs := #[.int .u32 t505, .int .u32 0]) ?_ 1 _ rfl; refine bkT ?_; refine blk_put (cs := #[.int .u32 0, .int .u32 0]) ?_ 0 _ rfl; refine bkT ?_; exact BK508.out) hb); have n6_ := bsA HB hb; clear HO_100; clear BK476; clear BK477; clear BK482; clear BK486; clear BK508; clear HB; have HO_100 := n0_; have BK476 := n1_; have BK477 := n2_; have BK482 := n3_; have BK486 := n4_; have BK508 := n5_; have HB := n6_; clear n0_ n1_ n2_ n3_ n4_ n5_ n6_; (try clear hb); (try clear hb2); (try clear hk); (try clear hi)) | ((with_reducible refine gate_dst (N := 29) rfl ?_); refine bxE 29 #[.int .u32 0, .int .u32 0] 24 ?_; intro gb512 hg w139 hbox hb; have BK512 := am (hbox); have GW512 := gwA hg HB; have GE512 := gwA hg HB; have NB476_512 := ltA hg BK476; have NB512_476 := gtA hg BK476; have NB477_512 := ltA hg BK477; have NB512_477 := gtA hg BK477; have NB482_512 := ltA hg BK482; have NB512_482 := gtA hg BK482; have NB486_512 := ltA hg BK486; have NB512_486 := gtA hg BK486; have NB508_512 := ltA hg BK508; have NB512_508 := gtA hg BK508; replace HO_100 := am (Kd.R_below (by (with_reducible repeat (first | apply Kd.R_alloc | apply Kd.R_drewN | apply Kd.R_drew)); exact HO_100.out) hb); replace BK476 := bbA BK476 hb; replace BK477 := bbA BK477 hb; replace BK482 := bbA BK482 hb; replace BK486 := bbA BK486 hb; replace BK508 := bbA BK508 hb; replace HB := bsA HB hb; clear hb hbox hg; have hnb140 := NB512_476.out; have hnc140 := NB476_512.out; have hnb141 := NB512_477.out; have hnc141 := NB477_512.out; have hnb142 := NB512_482.out; have hnc142 := NB482_512.out; have hnb143 := NB512_486.out; have hnc143 := NB486_512.out; have hnb144 := NB512_508.out; have hnc144 := NB508_512.out; have hcz145_0 : w139.cell? ⟨gb512, 0, none⟩ = some (.int .u32 0) := cz BK512; have hcz145_1 : w139.cell? ⟨gb512, 1, none⟩ = some (.int .u32 0) := cz BK512; have hfz145_0 := blk_frozen BK512.out 0; have hfz145_1 := blk_frozen BK512.out 1; have hcz146_0 : w139.cell? ⟨gb508, 0, none⟩ = some (.int .u32 t505) := cz BK508; have hcz146_1 : w139.cell? ⟨gb508, 1, none⟩ = some (.int .u32 t506) := cz BK508; have hfz146_0 := blk_frozen BK508.out 0; have hfz146_1 := blk_frozen BK508.out 1))
              go_ret
              exact ⟨by first | rfl | (simp [errW_none, errW_some] <;> rfl) | (simp [*, errW_none, errW_some] <;> rfl), hbA HB⟩
            rw [if_neg c125] at H; have c125b0 : (t505 == t509 && (t506 == t510)) = false := by simpa using c125
            (try (have c125b1 : decide (t505 = t509 && (t506 == t510)) = false := by simpa using c125))
            (try (have c125b2 : (t505 == t509 && (t506 == t510)) = false := by simpa using c125))
            (try (have c125b3 : ¬ (t505 = t509 && (t506 == t510)) := by simpa using c125))
            clear c125; exact absurd ((Option.some.inj H).trans hr_.out) (by decide)
  replace c7 := Bool.eq_false_iff.mpr c7; subst c7; have H1 : (some false) = some r := by rw [if_neg (show ¬ (false = true) by decide)] at H; exact H
  clear H; have H := H1; clear H1; exact absurd ((Option.some.inj H).trans hr_.out) (by decide)

end Go.Proofs.Ytmhmfnjbioplhaa.PIntervalCalls
