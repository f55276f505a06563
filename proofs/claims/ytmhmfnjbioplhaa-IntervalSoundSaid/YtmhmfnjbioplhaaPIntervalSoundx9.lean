/- Contracts of Go functions of the given program: where NAME.f answers, the call returns that. Conditions: those each theorem names. -/
import Derived.Test.YtmhmfnjbioplhaaPIntervalSoundx0
import Derived.Test.YtmhmfnjbioplhaaPIntervalSoundx1
import Derived.Test.YtmhmfnjbioplhaaPIntervalSoundx4
import Derived.Test.YtmhmfnjbioplhaaPIntervalSoundx5
import Derived.Test.YtmhmfnjbioplhaaPIntervalSoundx6
import Derived.Test.YtmhmfnjbioplhaaPIntervalSoundx7
import Derived.Test.YtmhmfnjbioplhaaPIntervalSoundx8
namespace Go.Proofs.Ytmhmfnjbioplhaa.PIntervalSound
open Go.RowKit Go.Proofs.YtmhmfnjbioplhaaW.PrintWords Go.Proofs.YtmhmfnjbioplhaaW.PrintLast Go.Proofs.YtmhmfnjbioplhaaW.PrintMore Go.Proofs.Ytmhmfnjbioplhaa.Help
attribute [local go_sem] max2_int min2_int max_two min_two max_three min_three max_four min_four   -- for this text's walks alone
set_option linter.unusedVariables false
set_option linter.unusedSimpArgs false

attribute [local go_sem high] eqA24
/-! ### lamplighterlaw19_IntervalSound: function 6 -/
mutual
def lamplighterlaw19_IntervalSound.j0 : Nat → Int → Int → Int → Int → Bool → Int → Int → Int → Int → Option (Bool)
  | 0, _, _, _, _, _, _, _, _, _ => none
  | k + 1, x2, x3, x4, x5, x36, x363000, x363001, x364000, x364001 => if x36 = true then (some true) else ((lamplighterkit_Pick.f x4 19).bind fun t367 => ((interval_Do.f k (wrap64 (1 + t367)) x363000 x363001 x364000 x364001).bind fun bt368 => (if bt368.2.2.2 = 0 then ((lamplighterlaw19_of.f x363000 x363001 x2).bind fun t373 => ((some (([t373, x363000, x363001] : List Int) : List Int)).bind fun y374 => (lamplighterlaw19_IntervalSound.l0 k x3 (wrap64 (1 + t367)) x5 bt368.2.2.1 y374 (y374.length : Int) 0 x363000 x363001 x364000 x364001 bt368.1 bt368.2.1))) else (some false))))
def lamplighterlaw19_IntervalSound.l0 : Nat → Int → Int → Int → Bool → List Int → Int → Int → Int → Int → Int → Int → Int → Int → Option (Bool)
  | 0, _, _, _, _, _, _, _, _, _, _, _, _, _ => none
  | k + 1, x3, x4, x5, x14, x57, x58, x59, x363000, x363001, x364000, x364001, x373000, x373001 => if x59 < x58 then (if 0 ≤ x59 then (if x59 < (x57.length : Int) then ((lamplighterlaw19_of.f x364000 x364001 x3).bind fun t378 => ((some (([t378, x364000, x364001] : List Int) : List Int)).bind fun y379 => (lamplighterlaw19_IntervalSound.l1 k x3 x4 x5 x14 (rd x57 x59) x57 x58 x59 y379 (y379.length : Int) 0 x363000 x363001 x364000 x364001 x373000 x373001))) else (none)) else (none)) else (if x14 = true then (some true) else (some (x364000 == 0 && (x364001 == 0))))
def lamplighterlaw19_IntervalSound.l1 : Nat → Int → Int → Int → Bool → Int → List Int → Int → Int → List Int → Int → Int → Int → Int → Int → Int → Int → Int → Option (Bool)
  | 0, _, _, _, _, _, _, _, _, _, _, _, _, _, _, _, _, _ => none
  | k + 1, x3, x4, x5, x14, x17, x57, x58, x59, x70, x71, x72, x363000, x363001, x364000, x364001, x373000, x373001 => if x72 < x71 then (if 0 ≤ x72 then (if x72 < (x70.length : Int) then ((lamplighterref01_Do.f k x4 x17 (rd x70 x72)).bind fun bt383 => (if bt383.2 = 0 then (if x14 = true then ((interval_Has.f k x373000 x373001 bt383.1).bind fun t385 => (if t385 = true then (lamplighterlaw19_IntervalSound.l1 k x3 x4 x5 x14 x17 x57 x58 x59 x70 x71 (wrap64 (x72 + 1)) x363000 x363001 x364000 x364001 x373000 x373001) else (some false))) else (some false)) else (lamplighterlaw19_IntervalSound.l1 k x3 x4 x5 x14 x17 x57 x58 x59 x70 x71 (wrap64 (x72 + 1)) x363000 x363001 x364000 x364001 x373000 x373001))) else (none)) else (none)) else ((lamplighterkit_Pick.f x4 3).bind fun t386 => ((lamplighterref01_One.f (wrap64 (1 + t386)) x17).bind fun bt387 => ((interval_Un.f k (wrap64 (1 + t386)) x363000 x363001).bind fun bt389 => (if bt387.2 = 0 then (if bt389.2.2 = 0 then ((interval_Has.f k bt389.1 bt389.2.1 bt387.1).bind fun t393 => (lamplighterlaw19_IntervalSound.j3 k x3 x4 x5 x14 x17 x57 x58 x59 (!t393) x363000 x363001 x364000 x364001 x373000 x373001)) else (lamplighterlaw19_IntervalSound.j3 k x3 x4 x5 x14 x17 x57 x58 x59 true x363000 x363001 x364000 x364001 x373000 x373001)) else (lamplighterlaw19_IntervalSound.j3 k x3 x4 x5 x14 x17 x57 x58 x59 true x363000 x363001 x364000 x364001 x373000 x373001)))))
def lamplighterlaw19_IntervalSound.j3 : Nat → Int → Int → Int → Bool → Int → List Int → Int → Int → Bool → Int → Int → Int → Int → Int → Int → Option (Bool)
  | 0, _, _, _, _, _, _, _, _, _, _, _, _, _, _, _ => none
  | k + 1, x3, x4, x5, x14, x17, x57, x58, x59, x122, x363000, x363001, x364000, x364001, x373000, x373001 => if x122 = true then (some false) else ((lamplighterref01_Cut.f x17 x5).bind fun bt394 => ((interval_Cut.f k x363000 x363001 x5).bind fun bt396 => (if ((bt394.2 == 0) != (bt396.2.2 == 0)) = true then (some false) else (if bt394.2 = 0 then ((interval_Has.f k bt396.1 bt396.2.1 bt394.1).bind fun t399 => (if t399 = true then ((interval_Join.f k x363000 x363001 x364000 x364001).bind fun bt400 => ((interval_Has.f k bt400.1 bt400.2 x17).bind fun t402 => (if t402 = true then ((interval_Widen.f k x364000 x364001 x363000 x363001).bind fun bt403 => ((interval_Has.f k bt403.1 bt403.2 x17).bind fun t405 => (if t405 = true then (lamplighterlaw19_IntervalSound.l0 k x3 x4 x5 x14 x57 x58 (wrap64 (x59 + 1)) x363000 x363001 x364000 x364001 x373000 x373001) else (some false)))) else (some false)))) else (some false))) else ((interval_Join.f k x363000 x363001 x364000 x364001).bind fun bt406 => ((interval_Has.f k bt406.1 bt406.2 x17).bind fun t408 => (if t408 = true then ((interval_Widen.f k x364000 x364001 x363000 x363001).bind fun bt409 => ((interval_Has.f k bt409.1 bt409.2 x17).bind fun t411 => (if t411 = true then (lamplighterlaw19_IntervalSound.l0 k x3 x4 x5 x14 x57 x58 (wrap64 (x59 + 1)) x363000 x363001 x364000 x364001 x373000 x373001) else (some false)))) else (some false))))))))
end
def lamplighterlaw19_IntervalSound.f (k : Nat) (a0_0 : Int) (a0_1 : Int) (a1_0 : Int) (a1_1 : Int) (a2 : Int) (a3 : Int) (a4 : Int) (a5 : Int) : Option (Bool) := (lamplighterlaw19_lives.f k).bind fun t364 => (if t364 = true then ((interval_Check.f a0_0 a0_1).bind fun t365 => (if t365 = 0 then ((interval_Check.f a1_0 a1_1).bind fun t366 => (lamplighterlaw19_IntervalSound.j0 k a2 a3 a4 a5 (t366 != 0) a0_0 a0_1 a1_0 a1_1)) else (lamplighterlaw19_IntervalSound.j0 k a2 a3 a4 a5 true a0_0 a0_1 a1_0 a1_1))) else (some false))
theorem lamplighterlaw19_IntervalSound.mono_l : ∀ k, (∀ y0 y1 y2 y3 y4 y5 y6 y7 y8, LeO (lamplighterlaw19_IntervalSound.j0 k y0 y1 y2 y3 y4 y5 y6 y7 y8) (lamplighterlaw19_IntervalSound.j0 (k + 1) y0 y1 y2 y3 y4 y5 y6 y7 y8)) ∧ (∀ y0 y1 y2 y3 y4 y5 y6 y7 y8 y9 y10 y11 y12, LeO (lamplighterlaw19_IntervalSound.l0 k y0 y1 y2 y3 y4 y5 y6 y7 y8 y9 y10 y11 y12) (lamplighterlaw19_IntervalSound.l0 (k + 1) y0 y1 y2 y3 y4 y5 y6 y7 y8 y9 y10 y11 y12)) ∧ (∀ y0 y1 y2 y3 y4 y5 y6 y7 y8 y9 y10 y11 y12 y13 y14 y15 y16, LeO (lamplighterlaw19_IntervalSound.l1 k y0 y1 y2 y3 y4 y5 y6 y7 y8 y9 y10 y11 y12 y13 y14 y15 y16) (lamplighterlaw19_IntervalSound.l1 (k + 1) y0 y1 y2 y3 y4 y5 y6 y7 y8 y9 y10 y11 y12 y13 y14 y15 y16)) ∧ (∀ y0 y1 y2 y3 y4 y5 y6 y7 y8 y9 y10 y11 y12 y13 y14, LeO (lamplighterlaw19_IntervalSound.j3 k y0 y1 y2 y3 y4 y5 y6 y7 y8 y9 y10 y11 y12 y13 y14) (lamplighterlaw19_IntervalSound.j3 (k + 1) y0 y1 y2 y3 y4 y5 y6 y7 y8 y9 y10 y11 y12 y13 y14))
  | 0 => ⟨fun _ _ _ _ _ _ _ _ _ r h => by simp [lamplighterlaw19_IntervalSound.j0] at h, fun _ _ _ _ _ _ _ _ _ _ _ _ _ r h => by simp [lamplighterlaw19_IntervalSound.l0] at h, fun _ _ _ _ _ _ _ _ _ _ _ _ _ _ _ _ _ r h => by simp [lamplighterlaw19_IntervalSound.l1] at h, fun _ _ _ _ _ _ _ _ _ _ _ _ _ _ _ r h => by simp [lamplighterlaw19_IntervalSound.j3] at h⟩
  | k + 1 => by
    obtain ⟨ih0, ih1, ih2, ih3⟩ := lamplighterlaw19_IntervalSound.mono_l k
    refine ⟨?_, ?_, ?_, ?_⟩
    · intro y0 y1 y2 y3 y4 y5 y6 y7 y8
      unfold lamplighterlaw19_IntervalSound.j0
      repeat' first
      | (with_reducible exact ih0 _ _ _ _ _ _ _ _ _)
      | (with_reducible exact ih1 _ _ _ _ _ _ _ _ _ _ _ _ _)
      | (with_reducible exact ih2 _ _ _ _ _ _ _ _ _ _ _ _ _ _ _ _ _)
      | (with_reducible exact ih3 _ _ _ _ _ _ _ _ _ _ _ _ _ _ _)
      | (with_reducible exact interval_Cut.mono _ _ _ _)
      | (with_reducible exact interval_Do.mono _ _ _ _ _ _)
      | (with_reducible exact interval_Has.mono _ _ _ _)
      | (with_reducible exact interval_Join.mono _ _ _ _ _)
      | (with_reducible exact interval_Un.mono _ _ _ _)
      | (with_reducible exact interval_Widen.mono _ _ _ _ _)
      | (with_reducible exact lamplighterlaw19_lives.mono _)
      | (with_reducible exact lamplighterref01_Do.mono _ _ _ _)
      | (with_reducible exact LeO.refl _)
      | (with_reducible exact LeO.none _)
      | (with_reducible refine LeO.ite ?_ ?_)
      | (with_reducible refine LeO.bind ?_ (fun _ => ?_))
      | exact ih0 _ _ _ _ _ _ _ _ _
      | exact ih1 _ _ _ _ _ _ _ _ _ _ _ _ _
      | exact ih2 _ _ _ _ _ _ _ _ _ _ _ _ _ _ _ _ _
      | exact ih3 _ _ _ _ _ _ _ _ _ _ _ _ _ _ _
      | exact interval_Cut.mono _ _ _ _
      | exact interval_Do.mono _ _ _ _ _ _
      | exact interval_Has.mono _ _ _ _
      | exact interval_Join.mono _ _ _ _ _
      | exact interval_Un.mono _ _ _ _
      | exact interval_Widen.mono _ _ _ _ _
      | exact lamplighterlaw19_lives.mono _
      | exact lamplighterref01_Do.mono _ _ _ _
      | exact LeO.none _
      | refine LeO.ite ?_ ?_
      | refine LeO.bind ?_ (fun _ => ?_)
    · intro y0 y1 y2 y3 y4 y5 y6 y7 y8 y9 y10 y11 y12
      unfold lamplighterlaw19_IntervalSound.l0
      repeat' first
      | (with_reducible exact ih0 _ _ _ _ _ _ _ _ _)
      | (with_reducible exact ih1 _ _ _ _ _ _ _ _ _ _ _ _ _)
      | (with_reducible exact ih2 _ _ _ _ _ _ _ _ _ _ _ _ _ _ _ _ _)
      | (with_reducible exact ih3 _ _ _ _ _ _ _ _ _ _ _ _ _ _ _)
      | (with_reducible exact interval_Cut.mono _ _ _ _)
      | (with_reducible exact interval_Do.mono _ _ _ _ _ _)
      | (with_reducible exact interval_Has.mono _ _ _ _)
      | (with_reducible exact interval_Join.mono _ _ _ _ _)
      | (with_reducible exact interval_Un.mono _ _ _ _)
      | (with_reducible exact interval_Widen.mono _ _ _ _ _)
      | (with_reducible exact lamplighterlaw19_lives.mono _)
      | (with_reducible exact lamplighterref01_Do.mono _ _ _ _)
      | (with_reducible exact LeO.refl _)
      | (with_reducible exact LeO.none _)
      | (with_reducible refine LeO.ite ?_ ?_)
      | (with_reducible refine LeO.bind ?_ (fun _ => ?_))
      | exact ih0 _ _ _ _ _ _ _ _ _
      | exact ih1 _ _ _ _ _ _ _ _ _ _ _ _ _
      | exact ih2 _ _ _ _ _ _ _ _ _ _ _ _ _ _ _ _ _
      | exact ih3 _ _ _ _ _ _ _ _ _ _ _ _ _ _ _
      | exact interval_Cut.mono _ _ _ _
      | exact interval_Do.mono _ _ _ _ _ _
      | exact interval_Has.mono _ _ _ _
      | exact interval_Join.mono _ _ _ _ _
      | exact interval_Un.mono _ _ _ _
      | exact interval_Widen.mono _ _ _ _ _
      | exact lamplighterlaw19_lives.mono _
      | exact lamplighterref01_Do.mono _ _ _ _
      | exact LeO.none _
      | refine LeO.ite ?_ ?_
      | refine LeO.bind ?_ (fun _ => ?_)
    · intro y0 y1 y2 y3 y4 y5 y6 y7 y8 y9 y10 y11 y12 y13 y14 y15 y16
      unfold lamplighterlaw19_IntervalSound.l1
      repeat' first
      | (with_reducible exact ih0 _ _ _ _ _ _ _ _ _)
      | (with_reducible exact ih1 _ _ _ _ _ _ _ _ _ _ _ _ _)
      | (with_reducible exact ih2 _ _ _ _ _ _ _ _ _ _ _ _ _ _ _ _ _)
      | (with_reducible exact ih3 _ _ _ _ _ _ _ _ _ _ _ _ _ _ _)
      | (with_reducible exact interval_Cut.mono _ _ _ _)
      | (with_reducible exact interval_Do.mono _ _ _ _ _ _)
      | (with_reducible exact interval_Has.mono _ _ _ _)
      | (with_reducible exact interval_Join.mono _ _ _ _ _)
      | (with_reducible exact interval_Un.mono _ _ _ _)
      | (with_reducible exact interval_Widen.mono _ _ _ _ _)
      | (with_reducible exact lamplighterlaw19_lives.mono _)
      | (with_reducible exact lamplighterref01_Do.mono _ _ _ _)
      | (with_reducible exact LeO.refl _)
      | (with_reducible exact LeO.none _)
      | (with_reducible refine LeO.ite ?_ ?_)
      | (with_reducible refine LeO.bind ?_ (fun _ => ?_))
      | exact ih0 _ _ _ _ _ _ _ _ _
      | exact ih1 _ _ _ _ _ _ _ _ _ _ _ _ _
      | exact ih2 _ _ _ _ _ _ _ _ _ _ _ _ _ _ _ _ _
      | exact ih3 _ _ _ _ _ _ _ _ _ _ _ _ _ _ _
      | exact interval_Cut.mono _ _ _ _
      | exact interval_Do.mono _ _ _ _ _ _
      | exact interval_Has.mono _ _ _ _
      | exact interval_Join.mono _ _ _ _ _
      | exact interval_Un.mono _ _ _ _
      | exact interval_Widen.mono _ _ _ _ _
      | exact lamplighterlaw19_lives.mono _
      | exact lamplighterref01_Do.mono _ _ _ _
      | exact LeO.none _
      | refine LeO.ite ?_ ?_
      | refine LeO.bind ?_ (fun _ => ?_)
    · intro y0 y1 y2 y3 y4 y5 y6 y7 y8 y9 y10 y11 y12 y13 y14
      unfold lamplighterlaw19_IntervalSound.j3
      repeat' first
      | (with_reducible exact ih0 _ _ _ _ _ _ _ _ _)
      | (with_reducible exact ih1 _ _ _ _ _ _ _ _ _ _ _ _ _)
      | (with_reducible exact ih2 _ _ _ _ _ _ _ _ _ _ _ _ _ _ _ _ _)
      | (with_reducible exact ih3 _ _ _ _ _ _ _ _ _ _ _ _ _ _ _)
      | (with_reducible exact interval_Cut.mono _ _ _ _)
      | (with_reducible exact interval_Do.mono _ _ _ _ _ _)
      | (with_reducible exact interval_Has.mono _ _ _ _)
      | (with_reducible exact interval_Join.mono _ _ _ _ _)
      | (with_reducible exact interval_Un.mono _ _ _ _)
      | (with_reducible exact interval_Widen.mono _ _ _ _ _)
      | (with_reducible exact lamplighterlaw19_lives.mono _)
      | (with_reducible exact lamplighterref01_Do.mono _ _ _ _)
      | (with_reducible exact LeO.refl _)
      | (with_reducible exact LeO.none _)
      | (with_reducible refine LeO.ite ?_ ?_)
      | (with_reducible refine LeO.bind ?_ (fun _ => ?_))
      | exact ih0 _ _ _ _ _ _ _ _ _
      | exact ih1 _ _ _ _ _ _ _ _ _ _ _ _ _
      | exact ih2 _ _ _ _ _ _ _ _ _ _ _ _ _ _ _ _ _
      | exact ih3 _ _ _ _ _ _ _ _ _ _ _ _ _ _ _
      | exact interval_Cut.mono _ _ _ _
      | exact interval_Do.mono _ _ _ _ _ _
      | exact interval_Has.mono _ _ _ _
      | exact interval_Join.mono _ _ _ _ _
      | exact interval_Un.mono _ _ _ _
      | exact interval_Widen.mono _ _ _ _ _
      | exact lamplighterlaw19_lives.mono _
      | exact lamplighterref01_Do.mono _ _ _ _
      | exact LeO.none _
      | refine LeO.ite ?_ ?_
      | refine LeO.bind ?_ (fun _ => ?_)
theorem lamplighterlaw19_IntervalSound.mono : ∀ a0 a1 a2 a3 a4 a5 a6 a7 k, LeO (lamplighterlaw19_IntervalSound.f k a0 a1 a2 a3 a4 a5 a6 a7) (lamplighterlaw19_IntervalSound.f (k + 1) a0 a1 a2 a3 a4 a5 a6 a7) := by
  intro a0 a1 a2 a3 a4 a5 a6 a7 k
  obtain ⟨ih0, ih1, ih2, ih3⟩ := lamplighterlaw19_IntervalSound.mono_l k
  unfold lamplighterlaw19_IntervalSound.f
  repeat' first
      | (with_reducible exact ih0 _ _ _ _ _ _ _ _ _)
      | (with_reducible exact ih1 _ _ _ _ _ _ _ _ _ _ _ _ _)
      | (with_reducible exact ih2 _ _ _ _ _ _ _ _ _ _ _ _ _ _ _ _ _)
      | (with_reducible exact ih3 _ _ _ _ _ _ _ _ _ _ _ _ _ _ _)
      | (with_reducible exact interval_Cut.mono _ _ _ _)
      | (with_reducible exact interval_Do.mono _ _ _ _ _ _)
      | (with_reducible exact interval_Has.mono _ _ _ _)
      | (with_reducible exact interval_Join.mono _ _ _ _ _)
      | (with_reducible exact interval_Un.mono _ _ _ _)
      | (with_reducible exact interval_Widen.mono _ _ _ _ _)
      | (with_reducible exact lamplighterlaw19_lives.mono _)
      | (with_reducible exact lamplighterref01_Do.mono _ _ _ _)
      | (with_reducible exact LeO.refl _)
      | (with_reducible exact LeO.none _)
      | (with_reducible refine LeO.ite ?_ ?_)
      | (with_reducible refine LeO.bind ?_ (fun _ => ?_))
      | exact ih0 _ _ _ _ _ _ _ _ _
      | exact ih1 _ _ _ _ _ _ _ _ _ _ _ _ _
      | exact ih2 _ _ _ _ _ _ _ _ _ _ _ _ _ _ _ _ _
      | exact ih3 _ _ _ _ _ _ _ _ _ _ _ _ _ _ _
      | exact interval_Cut.mono _ _ _ _
      | exact interval_Do.mono _ _ _ _ _ _
      | exact interval_Has.mono _ _ _ _
      | exact interval_Join.mono _ _ _ _ _
      | exact interval_Un.mono _ _ _ _
      | exact interval_Widen.mono _ _ _ _ _
      | exact lamplighterlaw19_lives.mono _
      | exact lamplighterref01_Do.mono _ _ _ _
      | exact LeO.none _
      | refine LeO.ite ?_ ?_
      | refine LeO.bind ?_ (fun _ => ?_)
def lamplighterlaw19_IntervalSound.T9 : Bool × List (List Nat × List Nat) := (true, [([], []), ([], []), ([0, 1], [0, 1]), ([], []), ([3], [3]), ([], []), ([5], [5]), ([2, 4, 6], [2, 4, 6]), ([7], [7]), ([], [])])
def lamplighterlaw19_IntervalSound.B9 : List Nat := [0, 0, 3, 0, 8, 0, 32, 127, 255, 0]
theorem lamplighterlaw19_IntervalSound.tab9 : rtab .any (opsOf Try.f6 9) = lamplighterlaw19_IntervalSound.T9 := by kernel_rfl
theorem lamplighterlaw19_IntervalSound.bits9 : waitsOk lamplighterlaw19_IntervalSound.T9.2 lamplighterlaw19_IntervalSound.B9 = true := by kernel_rfl
def lamplighterlaw19_IntervalSound.T12 : Bool × List (List Nat × List Nat) := (true, [([], []), ([], []), ([0, 1], [0, 1]), ([], []), ([3], [3]), ([], []), ([5], [5]), ([2, 4, 6], [2, 4, 6]), ([7], [7]), ([], [])])
def lamplighterlaw19_IntervalSound.B12 : List Nat := [0, 0, 3, 0, 8, 0, 32, 127, 255, 0]
theorem lamplighterlaw19_IntervalSound.tab12 : rtab .any (opsOf Try.f6 12) = lamplighterlaw19_IntervalSound.T12 := by kernel_rfl
theorem lamplighterlaw19_IntervalSound.bits12 : waitsOk lamplighterlaw19_IntervalSound.T12.2 lamplighterlaw19_IntervalSound.B12 = true := by kernel_rfl
set_option maxHeartbeats 8000000 in
set_option maxRecDepth 100000 in
theorem lamplighterlaw19_IntervalSound.calls (k : Nat) (a0_0 : Int) (a0_1 : Int) (a1_0 : Int) (a1_1 : Int) (a2 : Int) (a3 : Int) (a4 : Int) (a5 : Int) (r : Bool) (w : World) (h : lamplighterlaw19_IntervalSound.f k a0_0 a0_1 a1_0 a1_1 a2 a3 a4 a5 = some r) (hr_ : Aside0 (r = true)) :
    Calls Try.prog 6 #[.agg #[.int .u32 a0_0, .int .u32 a0_1], .agg #[.int .u32 a1_0, .int .u32 a1_1], .int .u32 a2, .int .u32 a3, .int .i64 a4, .int .i64 a5] w fun e w' => e = .returned (.bool r) ∧ Below w.heap.size w w' := by
  have hu24 := Try.underlying24
  have HB := am (Below.refl w.heap.size w)
  have H : ((lamplighterlaw19_lives.f k).bind fun t364 => (if t364 = true then ((interval_Check.f a0_0 a0_1).bind fun t365 => (if t365 = 0 then ((interval_Check.f a1_0 a1_1).bind fun t366 => (lamplighterlaw19_IntervalSound.j0 k a2 a3 a4 a5 (t366 != 0) a0_0 a0_1 a1_0 a1_1)) else (lamplighterlaw19_IntervalSound.j0 k a2 a3 a4 a5 true a0_0 a0_1 a1_0 a1_1))) else (some false))) = some r := h
  clear h
  replace H := Option.bind_eq_some_iff.mp H
  obtain ⟨t364, A70, H⟩ := H
  replace H : (if t364 = true then ((interval_Check.f a0_0 a0_1).bind fun t365 => (if t365 = 0 then ((interval_Check.f a1_0 a1_1).bind fun t366 => (lamplighterlaw19_IntervalSound.j0 k a2 a3 a4 a5 (t366 != 0) a0_0 a0_1 a1_0 a1_1)) else (lamplighterlaw19_IntervalSound.j0 k a2 a3 a4 a5 true a0_0 a0_1 a1_0 a1_1))) else (some false)) = some r := H
  have A7 := am A70
  clear A70
  by_cases c8 : t364 = true
  · subst c8
    have H1 : ((interval_Check.f a0_0 a0_1).bind fun t365 => (if t365 = 0 then ((interval_Check.f a1_0 a1_1).bind fun t366 => (lamplighterlaw19_IntervalSound.j0 k a2 a3 a4 a5 (t366 != 0) a0_0 a0_1 a1_0 a1_1)) else (lamplighterlaw19_IntervalSound.j0 k a2 a3 a4 a5 true a0_0 a0_1 a1_0 a1_1))) = some r := by rw [if_pos rfl] at H; exact H
    clear H
    have H := H1
    clear H1
    have HC9 := am H
    clear H
    go_enter Try.func6, Try.ntmps6
    go_upto_region 3 with (first | ((with_reducible refine gate_dst (N := 6) rfl ?_); refine bxE 6 #[.int .u32 a0_0, .int .u32 a0_1] 24 ?_; intro gb362 hg w10 hbox hb; have n0_ := am (below_step (hbA HB) hb); have n1_ := am (hbox); have n2_ := gwA hg HB; have n3_ := gwA hg HB; clear HB; have HB := n0_; have BK362 := n1_; have GW362 := n2_; have GE362 := n3_; clear n0_ n1_ n2_ n3_; clear hb hbox hg) | ((with_reducible refine gate_dst (N := 7) rfl ?_); refine bxE 7 #[.int .u32 a1_0, .int .u32 a1_1] 24 ?_; intro gb363 hg w11 hbox hb; have n0_ := am (blk_below (g := gb362) (o := .cells #[.int .u32 a0_0, .int .u32 a0_1] 24 (0, 0)) (bkA BK362) hb); have n1_ := am (below_step (hbA HB) hb); have n2_ := am (hbox); have n3_ := gwA hg HB; have n4_ := gwA hg HB; have n5_ := ltA hg BK362; have n6_ := gtA hg BK362; clear BK362; clear HB; have BK362 := n0_; have HB := n1_; have BK363 := n2_; have GW363 := n3_; have GE363 := n4_; have NB362_363 := n5_; have NB363_362 := n6_; clear n0_ n1_ n2_ n3_ n4_ n5_ n6_; clear hb hbox hg) | ((with_reducible refine gate_callee (f := 8) rfl ?_); refine goesL_ (some 27) rfl rfl Try.func8 (by kernel_rfl) rfl #[] rfl (by (try simp only [List.map_toArray, List.map_cons, List.map_nil]); first | done | rfl | (simp only [List.length_drop, List.length_take]; rfl)) ?_; (with_reducible refine (lamplighterlaw19_lives.calls k  true _ A7.out ⟨rfl⟩).mono ?_); rintro e w12 ⟨rfl, hb⟩; refine ⟨_, rfl, ?_⟩; have n0_ := am (blk_below (g := gb362) (o := .cells #[.int .u32 a0_0, .int .u32 a0_1] 24 (0, 0)) (bkA BK362) hb); have n1_ := am (blk_below (g := gb363) (o := .cells #[.int .u32 a1_0, .int .u32 a1_1] 24 (0, 0)) (bkA BK363) hb); have n2_ := am (below_step (hbA HB) hb); clear BK362; clear BK363; clear HB; have BK362 := n0_; have BK363 := n1_; have HB := n2_; clear n0_ n1_ n2_; (try clear hb); (try clear hb2); (try clear hk); (try clear hi)))
    (try simp only [Act.put, List.setIfInBounds_toArray, List.set_cons_zero, List.set_cons_succ])
    go_cut [36] (fun v36 wc => ∃ (kq : Nat) (x36_8 : Bool), v36 = .bool x36_8 ∧ Aside0 (lamplighterlaw19_IntervalSound.j0 kq a2 a3 a4 a5 x36_8 a0_0 a0_1 a1_0 a1_1 = some r) ∧ Aside0 (kq ≤ k) ∧ Aside0 (wc.heap[gb362]? = some (.cells #[.int .u32 a0_0, .int .u32 a0_1] 24 (0, 0))) ∧ Aside0 (wc.heap[gb363]? = some (.cells #[.int .u32 a1_0, .int .u32 a1_1] 24 (0, 0))) ∧ Aside0 (Below w.heap.size w wc))
    case first =>
      have H := HC9.out
      clear HC9
      replace H := Option.bind_eq_some_iff.mp H
      obtain ⟨t365, A130, H⟩ := H
      replace H : (if t365 = 0 then ((interval_Check.f a1_0 a1_1).bind fun t366 => (lamplighterlaw19_IntervalSound.j0 k a2 a3 a4 a5 (t366 != 0) a0_0 a0_1 a1_0 a1_1)) else (lamplighterlaw19_IntervalSound.j0 k a2 a3 a4 a5 true a0_0 a0_1 a1_0 a1_1)) = some r := H
      have A13 := am A130
      clear A130
      by_cases c14 : t365 = 0
      · rw [if_pos c14] at H
        have c14b0 : (t365 == 0) = true := beq_iff_eq.mpr c14
        have c14b1 : (t365 != 0) = false := bne_eq_false_iff_eq.mpr c14
        clear c14
        (first | rw [c14b0] | (simp only [i64_w, i32_w]; rw [c14b0]) | skip)
        replace H := Option.bind_eq_some_iff.mp H
        obtain ⟨t366, A150, H⟩ := H
        replace H : (lamplighterlaw19_IntervalSound.j0 k a2 a3 a4 a5 (t366 != 0) a0_0 a0_1 a1_0 a1_1) = some r := H
        have A15 := am A150
        clear A150
        have H' := am H
        clear H
        have hnb16 := NB362_363.out
        have hnc16 := NB363_362.out
        have hcz17_0 : w12.cell? ⟨gb362, 0, none⟩ = some (.int .u32 a0_0) := cz BK362
        have hcz17_1 : w12.cell? ⟨gb362, 1, none⟩ = some (.int .u32 a0_1) := cz BK362
        have hfz17_0 := blk_frozen BK362.out 0
        have hfz17_1 := blk_frozen BK362.out 1
        go_wp2_with (first | ((with_reducible refine gate_callee (f := 9) rfl ?_); refine goesL_ (some 30) rfl rfl Try.func9 (by kernel_rfl) rfl #[.agg #[.int .u32 a0_0, .int .u32 a0_1]] rfl (by (try simp only [List.map_toArray, List.map_cons, List.map_nil]); first | done | rfl | (simp only [List.length_drop, List.length_take]; rfl)) ?_; (with_reducible refine (interval_Check.calls a0_0 a0_1 t365 _ A13.out).mono ?_); rintro e w18 ⟨rfl, hb⟩; refine ⟨_, rfl, ?_⟩; have n0_ := am (blk_below (g := gb362) (o := .cells #[.int .u32 a0_0, .int .u32 a0_1] 24 (0, 0)) (bkA BK362) hb); have n1_ := am (blk_below (g := gb363) (o := .cells #[.int .u32 a1_0, .int .u32 a1_1] 24 (0, 0)) (bkA BK363) hb); have n2_ := am (below_step (hbA HB) hb); clear BK362; clear BK363; clear HB; have BK362 := n0_; have BK363 := n1_; have HB := n2_; clear n0_ n1_ n2_; (try clear hb); (try clear hb2); (try clear hk); (try clear hi); have hcz19_0 : w18.cell? ⟨gb363, 0, none⟩ = some (.int .u32 a1_0) := cz BK363; have hcz19_1 : w18.cell? ⟨gb363, 1, none⟩ = some (.int .u32 a1_1) := cz BK363; have hfz19_0 := blk_frozen BK363.out 0; have hfz19_1 := blk_frozen BK363.out 1) | (go_at_call 9; (with_reducible refine (interval_Check.calls a1_0 a1_1 t366 _ A15.out).mono ?_); rintro e w20 ⟨rfl, hb⟩; have n0_ := am (blk_below (g := gb362) (o := .cells #[.int .u32 a0_0, .int .u32 a0_1] 24 (0, 0)) (bkA BK362) hb); have n1_ := am (blk_below (g := gb363) (o := .cells #[.int .u32 a1_0, .int .u32 a1_1] 24 (0, 0)) (bkA BK363) hb); have n2_ := am (below_step (hbA HB) hb); clear BK362; clear BK363; clear HB; have BK362 := n0_; have BK363 := n1_; have HB := n2_; clear n0_ n1_ n2_; (try clear hb); (try clear hb2); (try clear hk); (try clear hi)))
        go_meet
        case rel => exact ⟨_, ((t366 != 0)), (by first | rfl | (simp; done) | (simp [*]; done)), H', ⟨by first | omega | exact Nat.le_refl _⟩, ⟨by refine bkT ?_; exact BK362.out⟩, ⟨by refine bkT ?_; exact BK363.out⟩, ⟨by repeat (first | (with_reducible first | exact HB.out | apply below_alloc | apply pw_below_drewN | apply below_drew1 | refine below_set ?_ GE362.out | refine below_set ?_ GE363.out) | exact HB.out)⟩⟩
      · rw [if_neg c14] at H
        have c14b0 : (t365 == 0) = false := beq_eq_false_iff_ne.mpr c14
        have c14b1 : (t365 != 0) = true := bne_iff_ne.mpr c14
        (first | rw [c14b0] | (simp only [i64_w, i32_w]; rw [c14b0]) | skip)
        have H' := am H
        clear H
        have hnb21 := NB362_363.out
        have hnc21 := NB363_362.out
        have hcz22_0 : w12.cell? ⟨gb362, 0, none⟩ = some (.int .u32 a0_0) := cz BK362
        have hcz22_1 : w12.cell? ⟨gb362, 1, none⟩ = some (.int .u32 a0_1) := cz BK362
        have hfz22_0 := blk_frozen BK362.out 0
        have hfz22_1 := blk_frozen BK362.out 1
        go_wp2_with (first | ((with_reducible refine gate_callee (f := 9) rfl ?_); refine goesL_ (some 30) rfl rfl Try.func9 (by kernel_rfl) rfl #[.agg #[.int .u32 a0_0, .int .u32 a0_1]] rfl (by (try simp only [List.map_toArray, List.map_cons, List.map_nil]); first | done | rfl | (simp only [List.length_drop, List.length_take]; rfl)) ?_; (with_reducible refine (interval_Check.calls a0_0 a0_1 t365 _ A13.out).mono ?_); rintro e w23 ⟨rfl, hb⟩; refine ⟨_, rfl, ?_⟩; have n0_ := am (blk_below (g := gb362) (o := .cells #[.int .u32 a0_0, .int .u32 a0_1] 24 (0, 0)) (bkA BK362) hb); have n1_ := am (blk_below (g := gb363) (o := .cells #[.int .u32 a1_0, .int .u32 a1_1] 24 (0, 0)) (bkA BK363) hb); have n2_ := am (below_step (hbA HB) hb); clear BK362; clear BK363; clear HB; have BK362 := n0_; have BK363 := n1_; have HB := n2_; clear n0_ n1_ n2_; (try clear hb); (try clear hb2); (try clear hk); (try clear hi)))
        go_meet
        case rel => exact ⟨_, (true), (by first | rfl | (simp; done) | (simp [*]; done)), H', ⟨by first | omega | exact Nat.le_refl _⟩, ⟨by refine bkT ?_; exact BK362.out⟩, ⟨by refine bkT ?_; exact BK363.out⟩, ⟨by repeat (first | (with_reducible first | exact HB.out | apply below_alloc | apply pw_below_drewN | apply below_drew1 | refine below_set ?_ GE362.out | refine below_set ?_ GE363.out) | exact HB.out)⟩⟩
    case rest =>
      clear HC9
      try clear c1
      try clear c2
      try clear p2
      try clear c6
      try clear c8
      try clear c9
      try clear c14
      try clear c14b0
      try clear c14b1
      try clear c16
      try clear c21
      try clear hcz17_0
      try clear hcz17_1
      try clear hcz19_0
      try clear hcz19_1
      try clear hcz22_0
      try clear hcz22_1
      try clear hfz17_0
      try clear hfz17_1
      try clear hfz19_0
      try clear hfz19_1
      try clear hfz22_0
      try clear hfz22_1
      obtain ⟨kq, x36_8, rfl, HA, HJ8, BK362, BK363, HB⟩ := hcut
      cases kq with
      | zero => exact absurd HA.out (by simp [lamplighterlaw19_IntervalSound.j0])
      | succ kj8 =>
        have H := HA.out
        clear HA
        simp only [lamplighterlaw19_IntervalSound.j0] at H
        by_cases c24 : x36_8 = true
        · subst c24
          have H1 : (some true) = some r := by rw [if_pos rfl] at H; exact H
          clear H
          have H := H1
          clear H1
          obtain rfl := Option.some.inj H
          go_wp2
          go_ret
          exact ⟨by first | rfl | (simp [errW_none, errW_some] <;> rfl) | (simp [*, errW_none, errW_some] <;> rfl), hbA HB⟩
        · replace c24 := Bool.eq_false_iff.mpr c24
          subst c24
          have H1 : ((lamplighterkit_Pick.f a4 19).bind fun t367 => ((interval_Do.f kj8 (wrap64 (1 + t367)) a0_0 a0_1 a1_0 a1_1).bind fun bt368 => (if bt368.2.2.2 = 0 then ((lamplighterlaw19_of.f a0_0 a0_1 a2).bind fun t373 => ((some (([t373, a0_0, a0_1] : List Int) : List Int)).bind fun y374 => (lamplighterlaw19_IntervalSound.l0 kj8 a3 (wrap64 (1 + t367)) a5 bt368.2.2.1 y374 (y374.length : Int) 0 a0_0 a0_1 a1_0 a1_1 bt368.1 bt368.2.1))) else (some false)))) = some r := by rw [if_neg (show ¬ (false = true) by decide)] at H; exact H
          clear H
          have H := H1
          clear H1
          replace H := Option.bind_eq_some_iff.mp H
          obtain ⟨t367, A250, H⟩ := H
          replace H : ((interval_Do.f kj8 (wrap64 (1 + t367)) a0_0 a0_1 a1_0 a1_1).bind fun bt368 => (if bt368.2.2.2 = 0 then ((lamplighterlaw19_of.f a0_0 a0_1 a2).bind fun t373 => ((some (([t373, a0_0, a0_1] : List Int) : List Int)).bind fun y374 => (lamplighterlaw19_IntervalSound.l0 kj8 a3 (wrap64 (1 + t367)) a5 bt368.2.2.1 y374 (y374.length : Int) 0 a0_0 a0_1 a1_0 a1_1 bt368.1 bt368.2.1))) else (some false))) = some r := H
          have A25 := am A250
          clear A250
          replace H := Option.bind_eq_some_iff.mp H
          obtain ⟨⟨t368, t369, t370, t371⟩, A260, H⟩ := H
          replace H : (if t371 = 0 then ((lamplighterlaw19_of.f a0_0 a0_1 a2).bind fun t373 => ((some (([t373, a0_0, a0_1] : List Int) : List Int)).bind fun y374 => (lamplighterlaw19_IntervalSound.l0 kj8 a3 (wrap64 (1 + t367)) a5 t370 y374 (y374.length : Int) 0 a0_0 a0_1 a1_0 a1_1 t368 t369))) else (some false)) = some r := H
          have A26 := am A260
          clear A260
          by_cases c27 : t371 = 0
          · rw [if_pos c27] at H
            have c27b0 : (t371 == 0) = true := beq_iff_eq.mpr c27
            have c27b1 : (t371 != 0) = false := bne_eq_false_iff_eq.mpr c27
            clear c27
            replace H := Option.bind_eq_some_iff.mp H
            obtain ⟨t373, A280, H⟩ := H
            replace H : ((some (([t373, a0_0, a0_1] : List Int) : List Int)).bind fun y374 => (lamplighterlaw19_IntervalSound.l0 kj8 a3 (wrap64 (1 + t367)) a5 t370 y374 (y374.length : Int) 0 a0_0 a0_1 a1_0 a1_1 t368 t369)) = some r := H
            have A28 := am A280
            clear A280
            obtain ⟨y374, hy374⟩ : ∃ y_ : List Int, y_ = (([t373, a0_0, a0_1] : List Int)) := ⟨_, rfl⟩
            replace H : (lamplighterlaw19_IntervalSound.l0 kj8 a3 (wrap64 (1 + t367)) a5 t370 y374 (y374.length : Int) 0 a0_0 a0_1 a1_0 a1_1 t368 t369) = some r := by first | (rw [hy374]; with_reducible exact H) | (have H2_ := (Option.bind_some _ _).symm.trans H; rw [hy374]; with_reducible exact H2_) | (have H2_ := (Option.bind_some _ _).symm.trans H; with_reducible exact H2_) | with_reducible exact H | (rw [hy374]; exact H) | exact H
            have Ny374 := am hy374
            clear hy374
            have H' := am H
            clear H
            try go_wp2_with (first | ((with_reducible refine gate_callee (f := 10) rfl ?_); refine goesL_ (some 38) rfl rfl Try.func10 (by kernel_rfl) rfl #[.int .i64 a4, .int .i64 19] rfl (by (try simp only [List.map_toArray, List.map_cons, List.map_nil]); first | done | rfl | (simp only [List.length_drop, List.length_take]; rfl)) ?_; (with_reducible refine (lamplighterkit_Pick.calls a4 19 t367 _ A25.out).mono ?_); rintro e w' ⟨rfl, ⟨nd, rfl⟩⟩; refine ⟨_, rfl, ?_⟩; (try (rw [drewN_self wc]; generalize hq_ : World.drewN wc _ = wc; have n0_ : Aside0 (wc.heap[gb362]? = some (.cells #[.int .u32 a0_0, .int .u32 a0_1] 24 (0, 0))) := ⟨by rw [← hq_]; exact (bkA BK362)⟩; have n1_ : Aside0 (wc.heap[gb363]? = some (.cells #[.int .u32 a1_0, .int .u32 a1_1] 24 (0, 0))) := ⟨by rw [← hq_]; exact (bkA BK363)⟩; have n2_ : Aside0 (Below w.heap.size w wc) := ⟨by rw [← hq_]; exact (hbA HB)⟩; clear BK362 BK363 HB hq_; have BK362 := n0_; have BK363 := n1_; have HB := n2_; clear n0_ n1_ n2_)); have hnb29 := NB362_363.out; have hnc29 := NB363_362.out; have hcz30_0 : wc.cell? ⟨gb362, 0, none⟩ = some (.int .u32 a0_0) := cz BK362; have hcz30_1 : wc.cell? ⟨gb362, 1, none⟩ = some (.int .u32 a0_1) := cz BK362; have hfz30_0 := blk_frozen BK362.out 0; have hfz30_1 := blk_frozen BK362.out 1; have hcz31_0 : wc.cell? ⟨gb363, 0, none⟩ = some (.int .u32 a1_0) := cz BK363; have hcz31_1 : wc.cell? ⟨gb363, 1, none⟩ = some (.int .u32 a1_1) := cz BK363; have hfz31_0 := blk_frozen BK363.out 0; have hfz31_1 := blk_frozen BK363.out 1) | ((with_reducible refine gate_callee (f := 11) rfl ?_); refine goesL_ (some 44) rfl rfl Try.func11 (by kernel_rfl) rfl #[.int .i64 (wrap64 (1 + t367)), .agg #[.int .u32 a0_0, .int .u32 a0_1], .agg #[.int .u32 a1_0, .int .u32 a1_1]] rfl (by (try simp only [List.map_toArray, List.map_cons, List.map_nil]); first | done | rfl | (simp only [List.length_drop, List.length_take]; rfl)) ?_; (with_reducible refine (interval_Do.calls kj8 (wrap64 (1 + t367)) a0_0 a0_1 a1_0 a1_1 t368 t369 t370 t371 _ A26.out).mono ?_); rintro e w32 ⟨rfl, hb⟩; refine ⟨_, rfl, ?_⟩; have n0_ := am (blk_below (g := gb362) (o := .cells #[.int .u32 a0_0, .int .u32 a0_1] 24 (0, 0)) (bkA BK362) hb); have n1_ := am (blk_below (g := gb363) (o := .cells #[.int .u32 a1_0, .int .u32 a1_1] 24 (0, 0)) (bkA BK363) hb); have n2_ := am (below_step (hbA HB) hb); clear BK362; clear BK363; clear HB; have BK362 := n0_; have BK363 := n1_; have HB := n2_; clear n0_ n1_ n2_; (try clear hb); (try clear hb2); (try clear hk); (try clear hi)) | ((with_reducible refine gate_dst (N := 13) rfl ?_); refine bxE 13 #[.int .u32 0, .int .u32 0] 24 ?_; intro gb372 hg w33 hbox hb; have n0_ := am (blk_below (g := gb362) (o := .cells #[.int .u32 a0_0, .int .u32 a0_1] 24 (0, 0)) (bkA BK362) hb); have n1_ := am (blk_below (g := gb363) (o := .cells #[.int .u32 a1_0, .int .u32 a1_1] 24 (0, 0)) (bkA BK363) hb); have n2_ := am (below_step (hbA HB) hb); have n3_ := am (hbox); have n4_ := gwA hg HB; have n5_ := gwA hg HB; have n6_ := ltA hg BK362; have n7_ := gtA hg BK362; have n8_ := ltA hg BK363; have n9_ := gtA hg BK363; clear BK362; clear BK363; clear HB; have BK362 := n0_; have BK363 := n1_; have HB := n2_; have BK372 := n3_; have GW372 := n4_; have GE372 := n5_; have NB362_372 := n6_; have NB372_362 := n7_; have NB363_372 := n8_; have NB372_363 := n9_; clear n0_ n1_ n2_ n3_ n4_ n5_ n6_ n7_ n8_ n9_; clear hb hbox hg; have hnb34 := NB372_362.out; have hnc34 := NB362_372.out; have hnb35 := NB372_363.out; have hnc35 := NB363_372.out; have hcz36_0 : w33.cell? ⟨gb372, 0, none⟩ = some (.int .u32 0) := cz BK372; have hcz36_1 : w33.cell? ⟨gb372, 1, none⟩ = some (.int .u32 0) := cz BK372; have hfz36_0 := blk_frozen BK372.out 0; have hfz36_1 := blk_frozen BK372.out 1))
            have n0_ : Aside0 (((w33.setCell ⟨gb372, 0, none⟩ (.int .u32 t368)).setCell ⟨gb372, 1, none⟩ (.int .u32 t369)).heap[gb362]? = some (.cells #[.int .u32 a0_0, .int .u32 a0_1] 24 (0, 0))) := ⟨by refine bkT ?_; refine blk_far ?_ NB362_372.out _; refine bkT ?_; refine blk_far ?_ NB362_372.out _; refine bkT ?_; exact BK362.out⟩
            have n1_ : Aside0 (((w33.setCell ⟨gb372, 0, none⟩ (.int .u32 t368)).setCell ⟨gb372, 1, none⟩ (.int .u32 t369)).heap[gb363]? = some (.cells #[.int .u32 a1_0, .int .u32 a1_1] 24 (0, 0))) := ⟨by refine bkT ?_; refine blk_far ?_ NB363_372.out _; refine bkT ?_; refine blk_far ?_ NB363_372.out _; refine bkT ?_; exact BK363.out⟩
            have n2_ : Aside0 (((w33.setCell ⟨gb372, 0, none⟩ (.int .u32 t368)).setCell ⟨gb372, 1, none⟩ (.int .u32 t369)).heap[gb372]? = some (.cells #[.int .u32 t368, .int .u32 t369] 24 (0, 0))) := ⟨by refine bkT ?_; refine blk_put (cs := #[.int .u32 t368, .int .u32 0]) ?_ 1 _ rfl; refine bkT ?_; refine blk_put (cs := #[.int .u32 0, .int .u32 0]) ?_ 0 _ rfl; refine bkT ?_; exact BK372.out⟩
            have n3_ : Aside0 (Below w.heap.size w ((w33.setCell ⟨gb372, 0, none⟩ (.int .u32 t368)).setCell ⟨gb372, 1, none⟩ (.int .u32 t369))) := ⟨by repeat (first | (with_reducible first | exact HB.out | apply below_alloc | apply pw_below_drewN | apply below_drew1 | refine below_set ?_ GE362.out | refine below_set ?_ GE363.out | refine below_set ?_ GE372.out) | exact HB.out)⟩
            (try clear BK362)
            (try clear BK363)
            (try clear BK372)
            (try clear HB)
            generalize ((w33.setCell ⟨gb372, 0, none⟩ (.int .u32 t368)).setCell ⟨gb372, 1, none⟩ (.int .u32 t369)) = w37 at n0_ n1_ n2_ n3_ ⊢
            have BK362 := n0_
            have BK363 := n1_
            have BK372 := n2_
            have HB := n3_
            clear n0_ n1_ n2_ n3_
            have n0_ := am (blk_drew BK362.out)
            have n1_ := am (blk_drew BK363.out)
            have n2_ := am (blk_drew BK372.out)
            have n3_ := am (below_drew1 HB.out)
            clear BK362
            clear BK363
            clear BK372
            clear HB
            have BK362 := n0_
            have BK363 := n1_
            have BK372 := n2_
            have HB := n3_
            clear n0_ n1_ n2_ n3_
            refine start_ (n := 10) (S := fun w' => w'.cell? ⟨gb362, 0, none⟩ = some (.int .u32 a0_0) ∧ w'.cell? ⟨gb362, 1, none⟩ = some (.int .u32 a0_1)) (ds := []) #[false, false, false, false, false, false, false, false, false, false] (by kernel_rfl) rfl rfl ⟨(blk_cell BK362.out 0).trans rfl, (blk_cell BK362.out 1).trans rfl⟩ (fun hHeld => ?_); refine with_tabW lamplighterlaw19_IntervalSound.tab9 lamplighterlaw19_IntervalSound.bits9 (fun HT_ HW_ => ?_)
            generalize w37.drew = w38 at BK362 BK363 BK372 HB hHeld ⊢
            refine pure_ (i := 1) (N := some 51) (v := ?_) (a' := ?_) #[false, true, false, false, false, false, false, false, false, false] rfl rfl (any_of HT_.out (by kernel_rfl)) (fun _ _ _ h => h) (Or.inl ⟨by rfl, ?_⟩) ?_ ?_
            rotate_left
            · intro w'
              go_simp
              with_reducible rfl
            rotate_left
            · simp only [Act.put, List.setIfInBounds_toArray, List.set_cons_zero, List.set_cons_succ, i64_w, i32_w]
              rfl
            refine pure_ (i := 3) (N := some 53) (v := ?_) (a' := ?_) #[false, true, false, true, false, false, false, false, false, false] rfl rfl (any_of HT_.out (by kernel_rfl)) (fun _ _ _ h => h) (Or.inl ⟨by rfl, ?_⟩) ?_ ?_
            rotate_left
            · intro w'
              go_simp
              with_reducible rfl
            rotate_left
            · simp only [Act.put, List.setIfInBounds_toArray, List.set_cons_zero, List.set_cons_succ, i64_w, i32_w]
              rfl
            refine pure_ (i := 5) (N := some 55) (v := ?_) (a' := ?_) #[false, true, false, true, false, true, false, false, false, false] rfl rfl (any_of HT_.out (by kernel_rfl)) (fun _ _ _ h => h) (Or.inl ⟨by rfl, ?_⟩) ?_ ?_
            rotate_left
            · intro w'
              go_simp
              with_reducible rfl
            rotate_left
            · simp only [Act.put, List.setIfInBounds_toArray, List.set_cons_zero, List.set_cons_succ, i64_w, i32_w]
              rfl
            refine pure_ (i := 9) (N := some 59) (v := ?_) (a' := ?_) #[false, true, false, true, false, true, false, false, false, true] rfl rfl (any_of HT_.out (by kernel_rfl)) (fun _ _ _ h => h) (Or.inl ⟨by rfl, ?_⟩) ?_ ?_
            rotate_left
            · intro w'
              go_simp
              with_reducible rfl
            rotate_left
            · simp only [Act.put, List.setIfInBounds_toArray, List.set_cons_zero, List.set_cons_succ, i64_w, i32_w]
              rfl
            refine take_ (i := 0) (N := some 50) (v := ?_) (a' := ?_) #[true, true, false, true, false, true, false, false, false, true] rfl rfl (take_ofW HT_.out HW_.out (by kernel_rfl)) (fun _ _ _ h => h) (Or.inl ⟨by rfl, ?_⟩) hHeld ?_ ?_
            rotate_left
            · rintro w' ⟨s0, s1⟩
              go_simp
              with_reducible rfl
            rotate_left
            · simp only [Act.put, List.setIfInBounds_toArray, List.set_cons_zero, List.set_cons_succ, i64_w, i32_w]
              rfl
            refine take_ (i := 4) (N := some 54) (v := ?_) (a' := ?_) #[true, true, false, true, true, true, false, false, false, true] rfl rfl (take_ofW HT_.out HW_.out (by kernel_rfl)) (fun _ _ _ h => h) (Or.inl ⟨by rfl, ?_⟩) hHeld ?_ ?_
            rotate_left
            · rintro w' ⟨s0, s1⟩
              go_simp
              with_reducible rfl
            rotate_left
            · simp only [Act.put, List.setIfInBounds_toArray, List.set_cons_zero, List.set_cons_succ, i64_w, i32_w]
              rfl
            refine take_ (i := 6) (N := some 56) (v := ?_) (a' := ?_) #[true, true, false, true, true, true, true, false, false, true] rfl rfl (take_ofW HT_.out HW_.out (by kernel_rfl)) (fun _ _ _ h => h) (Or.inl ⟨by rfl, ?_⟩) hHeld ?_ ?_
            rotate_left
            · rintro w' ⟨s0, s1⟩
              go_simp
              with_reducible rfl
            rotate_left
            · simp only [Act.put, List.setIfInBounds_toArray, List.set_cons_zero, List.set_cons_succ, i64_w, i32_w]
              rfl
            refine one_ (i := 2) (N := some 52) #[true, true, true, true, true, true, true, false, false, true] rfl rfl (one_of HT_.out (by kernel_rfl)) (by decide) (fun K hK => ?_)
            refine goes_ Try.func21 (by kernel_rfl) rfl #[.agg #[.int .u32 a0_0, .int .u32 a0_1], .int .u32 a2] (by rfl) rfl rfl (by (try simp only [List.map_toArray, List.map_cons, List.map_nil]); first | done | rfl | (simp only [List.length_drop, List.length_take]; rfl)) ?_
            with_reducible refine (lamplighterlaw19_of.calls a0_0 a0_1 a2 t373 _ A28.out).mono ?_
            rintro e w39 ⟨rfl, hb⟩
            refine ⟨_, rfl, ?_⟩
            have n0_ := am (blk_below (g := gb362) (o := .cells #[.int .u32 a0_0, .int .u32 a0_1] 24 (0, 0)) (bkA BK362) hb)
            have n1_ := am (blk_below (g := gb363) (o := .cells #[.int .u32 a1_0, .int .u32 a1_1] 24 (0, 0)) (bkA BK363) hb)
            have n2_ := am (blk_below (g := gb372) (o := .cells #[.int .u32 t368, .int .u32 t369] 24 (0, 0)) (bkA BK372) hb)
            have n3_ := am (below_step (hbA HB) hb)
            clear BK362
            clear BK363
            clear BK372
            clear HB
            have BK362 := n0_
            have BK363 := n1_
            have BK372 := n2_
            have HB := n3_
            clear n0_ n1_ n2_ n3_
            (try clear hb)
            (try clear hb2)
            (try clear hk)
            (try clear hi)
            refine hK.out _ _ ⟨(blk_cell BK362.out 0).trans rfl, (blk_cell BK362.out 1).trans rfl⟩ (fun hHeld => ?_)
            clear hK K
            refine norm_ (a' := ?_) ?_ ?_
            rotate_left
            · show Act.put _ (some 52) _ = _
              simp only [Act.put, List.setIfInBounds_toArray, List.set_cons_zero, List.set_cons_succ, i64_w, i32_w]
              rfl
            refine one_ (i := 7) (N := some 57) #[true, true, true, true, true, true, true, true, false, true] rfl rfl (one_of HT_.out (by kernel_rfl)) (by decide) (fun K hK => ?_)
            refine Kd.R_lit_step (Kd.int .u32) _ 22 ?hg (N := 57) ?hd (xs := ([t373, a0_0, a0_1] : List Int)) (inner := [.int .u32 t373, .int .u32 a0_0, .int .u32 a0_1]) (ok := fun _ => True) (okp := fun _ => True) ?hr ?hp (fun _ hk => hk) trivial (Below.refl _ _) (Nat.le_refl _) (by simp) ?_; (case hd => rfl); (case hg => rfl); (case hr => first | (go_simp; done) | (go_simp; rfl)); (case hp => exact (Reps.one (show Kd.M (Kd.int .u32) _ _ _ t373 [.int .u32 t373] from rfl) (Reps.one (show Kd.M (Kd.int .u32) _ _ _ a0_0 [.int .u32 a0_0] from rfl) (Reps.one (show Kd.M (Kd.int .u32) _ _ _ a0_1 [.int .u32 a0_1] from rfl) (Reps.none _ _)))))
            intro v375 w40 ho41 hb hg_ hnew_
            clear hg_ hnew_
            (first | rw [← Ny374.out] at ho41 | (simp only [Int.reduceToNat] at ho41; rw [← Ny374.out] at ho41))
            have n0_ := am (Kd.R_lower ho41 (below_size (hbA HB)))
            have n1_ := am (blk_below (g := gb362) (o := .cells #[.int .u32 a0_0, .int .u32 a0_1] 24 (0, 0)) (bkA BK362) hb)
            have n2_ := am (blk_below (g := gb363) (o := .cells #[.int .u32 a1_0, .int .u32 a1_1] 24 (0, 0)) (bkA BK363) hb)
            have n3_ := am (blk_below (g := gb372) (o := .cells #[.int .u32 t368, .int .u32 t369] 24 (0, 0)) (bkA BK372) hb)
            have n4_ := am (below_step (hbA HB) hb)
            clear BK362
            clear BK363
            clear BK372
            clear HB
            have HO376 := n0_
            have BK362 := n1_
            have BK363 := n2_
            have BK372 := n3_
            have HB := n4_
            clear n0_ n1_ n2_ n3_ n4_
            clear hb ho41
            obtain ⟨Ao42, co42, eo42⟩ := Kd.R_slice HO376.out
            (first | subst eo42 | (injection eo42 with f1_ f2_ f3_; have f4_ := f1_.symm; have f5_ := f3_.symm; clear f1_ f2_ f3_; subst f4_; subst f5_))
            refine hK.out _ _ ⟨(blk_cell BK362.out 0).trans rfl, (blk_cell BK362.out 1).trans rfl⟩ (fun hHeld => ?_)
            clear hK K
            refine norm_ (a' := ?_) ?_ ?_
            rotate_left
            · show Act.put _ (some 57) _ = _
              simp only [Act.put, List.setIfInBounds_toArray, List.set_cons_zero, List.set_cons_succ, i64_w, i32_w]
              rfl
            refine pure_ (i := 8) (N := some 58) (v := ?_) (a' := ?_) #[true, true, true, true, true, true, true, true, true, true] rfl rfl (any_of HT_.out (by kernel_rfl)) (fun _ _ _ h => h) (Or.inl ⟨by rfl, ?_⟩) ?_ ?_
            rotate_left
            · intro w'
              go_simp
              with_reducible rfl
            rotate_left
            · simp only [Act.put, List.setIfInBounds_toArray, List.set_cons_zero, List.set_cons_succ, i64_w, i32_w]
              rfl
            refine done_ (done_of HT_.out (by kernel_rfl)) ?_
            try go_wp2
            go_loopg [59] kj8 (fun kq v59 w' => ∃ (x59_2 : Int), v59 = .int .i64 x59_2 ∧ Aside0 (lamplighterlaw19_IntervalSound.l0 kq a3 (wrap64 (1 + t367)) a5 t370 y374 (y374.length : Int) x59_2 a0_0 a0_1 a1_0 a1_1 t368 t369 = some r) ∧ Aside0 (kq ≤ kj8) ∧ Aside0 (Kd.R (Kd.int .u32) 22 w' w.heap.size (fun _ => True) (.slice Ao42 y374.length co42) y374) ∧ Aside0 (w'.heap[gb362]? = some (.cells #[.int .u32 a0_0, .int .u32 a0_1] 24 (0, 0))) ∧ Aside0 (w'.heap[gb363]? = some (.cells #[.int .u32 a1_0, .int .u32 a1_1] 24 (0, 0))) ∧ Aside0 (w'.heap[gb372]? = some (.cells #[.int .u32 t368, .int .u32 t369] 24 (0, 0))) ∧ Aside0 (Below w.heap.size w w'))
            case atStart => exact ⟨(0), (by first | rfl | (simp; done) | (simp [*]; done)), H', ⟨Nat.le_refl _⟩, ⟨by (with_reducible repeat (first | apply Kd.R_alloc | apply Kd.R_drewN | apply Kd.R_drew)); exact HO376.out⟩, ⟨by refine bkT ?_; exact BK362.out⟩, ⟨by refine bkT ?_; exact BK363.out⟩, ⟨by refine bkT ?_; exact BK372.out⟩, ⟨by repeat (first | (with_reducible first | exact HB.out | apply below_alloc | apply pw_below_drewN | apply below_drew1 | refine below_set ?_ GE362.out | refine below_set ?_ GE363.out | refine below_set ?_ GE372.out) | exact HB.out)⟩⟩
            case round =>
              clear H'
              try clear c1
              try clear c2
              try clear p2
              try clear c3
              try clear c6
              try clear p6
              try clear c8
              try clear c9
              try clear c10
              try clear c11
              try clear c14
              try clear c14b0
              try clear c14b1
              try clear c16
              try clear c21
              try clear c24
              try clear c27
              try clear c27b0
              try clear c27b1
              try clear c29
              try clear c34
              try clear c35
              try clear hcz17_0
              try clear hcz17_1
              try clear hcz19_0
              try clear hcz19_1
              try clear hcz22_0
              try clear hcz22_1
              try clear hcz30_0
              try clear hcz30_1
              try clear hcz31_0
              try clear hcz31_1
              try clear hcz36_0
              try clear hcz36_1
              try clear hfz17_0
              try clear hfz17_1
              try clear hfz19_0
              try clear hfz19_1
              try clear hfz22_0
              try clear hfz22_1
              try clear hfz30_0
              try clear hfz30_1
              try clear hfz31_0
              try clear hfz31_1
              try clear hfz36_0
              try clear hfz36_1
              try clear p2
              obtain ⟨x59_2, rfl, HA, HK2, HO_57, BK362, BK363, BK372, HB⟩ := hrel
              cases gk with
              | zero => exact absurd HA.out (by simp [lamplighterlaw19_IntervalSound.l0])
              | succ k2 =>
                have H := HA.out
                clear HA
                simp only [lamplighterlaw19_IntervalSound.l0] at H
                by_cases c43 : x59_2 < (y374.length : Int)
                · rw [if_pos c43] at H
                  have c43b0 : decide (x59_2 < (y374.length : Int)) = true := decide_eq_true c43
                  clear c43
                  by_cases c44 : 0 ≤ x59_2
                  · rw [if_pos c44] at H
                    have c44b0 : decide (0 ≤ x59_2) = true := decide_eq_true c44
                    clear c44
                    by_cases c45 : x59_2 < (y374.length : Int)
                    · rw [if_pos c45] at H
                      have c45b0 : decide (x59_2 < (y374.length : Int)) = true := decide_eq_true c45
                      clear c45
                      replace H := Option.bind_eq_some_iff.mp H
                      obtain ⟨t378, A460, H⟩ := H
                      replace H : ((some (([t378, a1_0, a1_1] : List Int) : List Int)).bind fun y379 => (lamplighterlaw19_IntervalSound.l1 k2 a3 (wrap64 (1 + t367)) a5 t370 (rd y374 x59_2) y374 (y374.length : Int) x59_2 y379 (y379.length : Int) 0 a0_0 a0_1 a1_0 a1_1 t368 t369)) = some r := H
                      have A46 := am A460
                      clear A460
                      obtain ⟨y379, hy379⟩ : ∃ y_ : List Int, y_ = (([t378, a1_0, a1_1] : List Int)) := ⟨_, rfl⟩
                      replace H : (lamplighterlaw19_IntervalSound.l1 k2 a3 (wrap64 (1 + t367)) a5 t370 (rd y374 x59_2) y374 (y374.length : Int) x59_2 y379 (y379.length : Int) 0 a0_0 a0_1 a1_0 a1_1 t368 t369) = some r := by first | (rw [hy379]; with_reducible exact H) | (have H2_ := (Option.bind_some _ _).symm.trans H; rw [hy379]; with_reducible exact H2_) | (have H2_ := (Option.bind_some _ _).symm.trans H; with_reducible exact H2_) | with_reducible exact H | (rw [hy379]; exact H) | exact H
                      have Ny379 := am hy379
                      clear hy379
                      have H' := am H
                      clear H
                      have p377 : 0 ≤ (x59_2 : Int) := of_decide_eq_true (by first | (with_reducible assumption) | assumption)
                      have q377 : x59_2 < (y374.length : Int) := of_decide_eq_true (by first | (with_reducible assumption) | assumption)
                      obtain ⟨ad377, e377, hx377_0⟩ := Kd.at_int (Kd.R_reads' HO_57.out).2.2 x59_2 p377 q377
                      cases e377
                      replace p377 := eq_true p377
                      replace q377 := eq_true q377
                      try go_wp2
                      have n0_ := am (Kd.R_drew HO_57.out)
                      have n1_ := am (blk_drew BK362.out)
                      have n2_ := am (blk_drew BK363.out)
                      have n3_ := am (blk_drew BK372.out)
                      have n4_ := am (below_drew1 HB.out)
                      clear HO_57
                      clear BK362
                      clear BK363
                      clear BK372
                      clear HB
                      have HO_57 := n0_
                      have BK362 := n1_
                      have BK363 := n2_
                      have BK372 := n3_
                      have HB := n4_
                      clear n0_ n1_ n2_ n3_ n4_
                      refine start_ (n := 10) (S := fun w' => w'.cell? ⟨gb363, 0, none⟩ = some (.int .u32 a1_0) ∧ w'.cell? ⟨gb363, 1, none⟩ = some (.int .u32 a1_1)) (ds := []) #[false, false, false, false, false, false, false, false, false, false] (by kernel_rfl) rfl rfl ⟨(blk_cell BK363.out 0).trans rfl, (blk_cell BK363.out 1).trans rfl⟩ (fun hHeld => ?_); refine with_tabW lamplighterlaw19_IntervalSound.tab12 lamplighterlaw19_IntervalSound.bits12 (fun HT_ HW_ => ?_)
                      generalize wr.drew = w47 at HO_57 BK362 BK363 BK372 HB hHeld ⊢
                      refine pure_ (i := 1) (N := some 64) (v := ?_) (a' := ?_) #[false, true, false, false, false, false, false, false, false, false] rfl rfl (any_of HT_.out (by kernel_rfl)) (fun _ _ _ h => h) (Or.inl ⟨by rfl, ?_⟩) ?_ ?_
                      rotate_left
                      · intro w'
                        go_simp
                        with_reducible rfl
                      rotate_left
                      · simp only [Act.put, List.setIfInBounds_toArray, List.set_cons_zero, List.set_cons_succ, i64_w, i32_w]
                        rfl
                      refine pure_ (i := 3) (N := some 66) (v := ?_) (a' := ?_) #[false, true, false, true, false, false, false, false, false, false] rfl rfl (any_of HT_.out (by kernel_rfl)) (fun _ _ _ h => h) (Or.inl ⟨by rfl, ?_⟩) ?_ ?_
                      rotate_left
                      · intro w'
                        go_simp
                        with_reducible rfl
                      rotate_left
                      · simp only [Act.put, List.setIfInBounds_toArray, List.set_cons_zero, List.set_cons_succ, i64_w, i32_w]
                        rfl
                      refine pure_ (i := 5) (N := some 68) (v := ?_) (a' := ?_) #[false, true, false, true, false, true, false, false, false, false] rfl rfl (any_of HT_.out (by kernel_rfl)) (fun _ _ _ h => h) (Or.inl ⟨by rfl, ?_⟩) ?_ ?_
                      rotate_left
                      · intro w'
                        go_simp
                        with_reducible rfl
                      rotate_left
                      · simp only [Act.put, List.setIfInBounds_toArray, List.set_cons_zero, List.set_cons_succ, i64_w, i32_w]
                        rfl
                      refine pure_ (i := 9) (N := some 72) (v := ?_) (a' := ?_) #[false, true, false, true, false, true, false, false, false, true] rfl rfl (any_of HT_.out (by kernel_rfl)) (fun _ _ _ h => h) (Or.inl ⟨by rfl, ?_⟩) ?_ ?_
                      rotate_left
                      · intro w'
                        go_simp
                        with_reducible rfl
                      rotate_left
                      · simp only [Act.put, List.setIfInBounds_toArray, List.set_cons_zero, List.set_cons_succ, i64_w, i32_w]
                        rfl
                      refine take_ (i := 0) (N := some 63) (v := ?_) (a' := ?_) #[true, true, false, true, false, true, false, false, false, true] rfl rfl (take_ofW HT_.out HW_.out (by kernel_rfl)) (fun _ _ _ h => h) (Or.inl ⟨by rfl, ?_⟩) hHeld ?_ ?_
                      rotate_left
                      · rintro w' ⟨s0, s1⟩
                        go_simp
                        with_reducible rfl
                      rotate_left
                      · simp only [Act.put, List.setIfInBounds_toArray, List.set_cons_zero, List.set_cons_succ, i64_w, i32_w]
                        rfl
                      refine take_ (i := 4) (N := some 67) (v := ?_) (a' := ?_) #[true, true, false, true, true, true, false, false, false, true] rfl rfl (take_ofW HT_.out HW_.out (by kernel_rfl)) (fun _ _ _ h => h) (Or.inl ⟨by rfl, ?_⟩) hHeld ?_ ?_
                      rotate_left
                      · rintro w' ⟨s0, s1⟩
                        go_simp
                        with_reducible rfl
                      rotate_left
                      · simp only [Act.put, List.setIfInBounds_toArray, List.set_cons_zero, List.set_cons_succ, i64_w, i32_w]
                        rfl
                      refine take_ (i := 6) (N := some 69) (v := ?_) (a' := ?_) #[true, true, false, true, true, true, true, false, false, true] rfl rfl (take_ofW HT_.out HW_.out (by kernel_rfl)) (fun _ _ _ h => h) (Or.inl ⟨by rfl, ?_⟩) hHeld ?_ ?_
                      rotate_left
                      · rintro w' ⟨s0, s1⟩
                        go_simp
                        with_reducible rfl
                      rotate_left
                      · simp only [Act.put, List.setIfInBounds_toArray, List.set_cons_zero, List.set_cons_succ, i64_w, i32_w]
                        rfl
                      refine one_ (i := 2) (N := some 65) #[true, true, true, true, true, true, true, false, false, true] rfl rfl (one_of HT_.out (by kernel_rfl)) (by decide) (fun K hK => ?_)
                      refine goes_ Try.func21 (by kernel_rfl) rfl #[.agg #[.int .u32 a1_0, .int .u32 a1_1], .int .u32 a3] (by rfl) rfl rfl (by (try simp only [List.map_toArray, List.map_cons, List.map_nil]); first | done | rfl | (simp only [List.length_drop, List.length_take]; rfl)) ?_
                      with_reducible refine (lamplighterlaw19_of.calls a1_0 a1_1 a3 t378 _ A46.out).mono ?_
                      rintro e w48 ⟨rfl, hb⟩
                      refine ⟨_, rfl, ?_⟩
                      have n0_ := am (Kd.R_below (by (with_reducible repeat (first | apply Kd.R_alloc | apply Kd.R_drewN | apply Kd.R_drew)); exact HO_57.out) hb)
                      have n1_ := am (blk_below (g := gb362) (o := .cells #[.int .u32 a0_0, .int .u32 a0_1] 24 (0, 0)) (bkA BK362) hb)
                      have n2_ := am (blk_below (g := gb363) (o := .cells #[.int .u32 a1_0, .int .u32 a1_1] 24 (0, 0)) (bkA BK363) hb)
                      have n3_ := am (blk_below (g := gb372) (o := .cells #[.int .u32 t368, .int .u32 t369] 24 (0, 0)) (bkA BK372) hb)
                      have n4_ := am (below_step (hbA HB) hb)
                      clear HO_57
                      clear BK362
                      clear BK363
                      clear BK372
                      clear HB
                      have HO_57 := n0_
                      have BK362 := n1_
                      have BK363 := n2_
                      have BK372 := n3_
                      have HB := n4_
                      clear n0_ n1_ n2_ n3_ n4_
                      (try clear hb)
                      (try clear hb2)
                      (try clear hk)
                      (try clear hi)
                      refine hK.out _ _ ⟨(blk_cell BK363.out 0).trans rfl, (blk_cell BK363.out 1).trans rfl⟩ (fun hHeld => ?_)
                      clear hK K
                      refine norm_ (a' := ?_) ?_ ?_
                      rotate_left
                      · show Act.put _ (some 65) _ = _
                        simp only [Act.put, List.setIfInBounds_toArray, List.set_cons_zero, List.set_cons_succ, i64_w, i32_w]
                        rfl
                      refine one_ (i := 7) (N := some 70) #[true, true, true, true, true, true, true, true, false, true] rfl rfl (one_of HT_.out (by kernel_rfl)) (by decide) (fun K hK => ?_)
                      refine Kd.R_lit_step (Kd.int .u32) _ 22 ?hg (N := 70) ?hd (xs := ([t378, a1_0, a1_1] : List Int)) (inner := [.int .u32 t378, .int .u32 a1_0, .int .u32 a1_1]) (ok := fun _ => True) (okp := fun _ => True) ?hr ?hp (fun _ hk => hk) trivial (Below.refl _ _) (Nat.le_refl _) (by simp) ?_; (case hd => rfl); (case hg => rfl); (case hr => first | (go_simp; done) | (go_simp; rfl)); (case hp => exact (Reps.one (show Kd.M (Kd.int .u32) _ _ _ t378 [.int .u32 t378] from rfl) (Reps.one (show Kd.M (Kd.int .u32) _ _ _ a1_0 [.int .u32 a1_0] from rfl) (Reps.one (show Kd.M (Kd.int .u32) _ _ _ a1_1 [.int .u32 a1_1] from rfl) (Reps.none _ _)))))
                      intro v380 w49 ho50 hb hg_ hnew_
                      clear hg_ hnew_
                      (first | rw [← Ny379.out] at ho50 | (simp only [Int.reduceToNat] at ho50; rw [← Ny379.out] at ho50))
                      have n0_ := am (Kd.R_elder' (by (with_reducible repeat (first | apply Kd.R_alloc | apply Kd.R_drewN | apply Kd.R_drew)); exact HO_57.out) (Kd.R_base ho50) hb)
                      have n1_ := am (Kd.R_lower (Kd.R_new' ho50 (Kd.R_lt (by (with_reducible repeat (first | apply Kd.R_alloc | apply Kd.R_drewN | apply Kd.R_drew)); exact HO_57.out))) (below_size (hbA HB)))
                      have n2_ := am (blk_below (g := gb362) (o := .cells #[.int .u32 a0_0, .int .u32 a0_1] 24 (0, 0)) (bkA BK362) hb)
                      have n3_ := am (blk_below (g := gb363) (o := .cells #[.int .u32 a1_0, .int .u32 a1_1] 24 (0, 0)) (bkA BK363) hb)
                      have n4_ := am (blk_below (g := gb372) (o := .cells #[.int .u32 t368, .int .u32 t369] 24 (0, 0)) (bkA BK372) hb)
                      have n5_ := am (below_step (hbA HB) hb)
                      clear HO_57
                      clear BK362
                      clear BK363
                      clear BK372
                      clear HB
                      have HO_57 := n0_
                      have HO381 := n1_
                      have BK362 := n2_
                      have BK363 := n3_
                      have BK372 := n4_
                      have HB := n5_
                      clear n0_ n1_ n2_ n3_ n4_ n5_
                      clear hb ho50
                      obtain ⟨Ao51, co51, eo51⟩ := Kd.R_slice HO381.out
                      (first | subst eo51 | (injection eo51 with f1_ f2_ f3_; have f4_ := f1_.symm; have f5_ := f3_.symm; clear f1_ f2_ f3_; subst f4_; subst f5_))
                      refine hK.out _ _ ⟨(blk_cell BK363.out 0).trans rfl, (blk_cell BK363.out 1).trans rfl⟩ (fun hHeld => ?_)
                      clear hK K
                      refine norm_ (a' := ?_) ?_ ?_
                      rotate_left
                      · show Act.put _ (some 70) _ = _
                        simp only [Act.put, List.setIfInBounds_toArray, List.set_cons_zero, List.set_cons_succ, i64_w, i32_w]
                        rfl
                      refine pure_ (i := 8) (N := some 71) (v := ?_) (a' := ?_) #[true, true, true, true, true, true, true, true, true, true] rfl rfl (any_of HT_.out (by kernel_rfl)) (fun _ _ _ h => h) (Or.inl ⟨by rfl, ?_⟩) ?_ ?_
                      rotate_left
                      · intro w'
                        go_simp
                        with_reducible rfl
                      rotate_left
                      · simp only [Act.put, List.setIfInBounds_toArray, List.set_cons_zero, List.set_cons_succ, i64_w, i32_w]
                        rfl
                      refine done_ (done_of HT_.out (by kernel_rfl)) ?_
                      try go_wp2
                      go_loopg [72] k2 (fun kq v72 w' => ∃ (x72_3 : Int), v72 = .int .i64 x72_3 ∧ Aside0 (lamplighterlaw19_IntervalSound.l1 kq a3 (wrap64 (1 + t367)) a5 t370 (rd y374 x59_2) y374 (y374.length : Int) x59_2 y379 (y379.length : Int) x72_3 a0_0 a0_1 a1_0 a1_1 t368 t369 = some r) ∧ Aside0 (kq ≤ k2) ∧ Aside0 (Kd.R (Kd.int .u32) 22 w' w.heap.size (fun k_ => some k_ ≠ ((.slice Ao51 y379.length co51) : Value).ownBlock) (.slice (some ad377) y374.length co42) y374) ∧ Aside0 (Kd.R (Kd.int .u32) 22 w' w.heap.size (fun k_ => some k_ ≠ ((.slice (some ad377) y374.length co42) : Value).ownBlock) (.slice Ao51 y379.length co51) y379) ∧ Aside0 (w'.heap[gb362]? = some (.cells #[.int .u32 a0_0, .int .u32 a0_1] 24 (0, 0))) ∧ Aside0 (w'.heap[gb363]? = some (.cells #[.int .u32 a1_0, .int .u32 a1_1] 24 (0, 0))) ∧ Aside0 (w'.heap[gb372]? = some (.cells #[.int .u32 t368, .int .u32 t369] 24 (0, 0))) ∧ Aside0 (Below w.heap.size w w'))
                      case atStart => exact ⟨(0), (by first | rfl | (simp; done) | (simp [*]; done)), H', ⟨Nat.le_refl _⟩, ⟨by (with_reducible repeat (first | apply Kd.R_alloc | apply Kd.R_drewN | apply Kd.R_drew)); exact Kd.R_mono HO_57.out (fun _ hk => hk.2)⟩, ⟨by (with_reducible repeat (first | apply Kd.R_alloc | apply Kd.R_drewN | apply Kd.R_drew)); exact Kd.R_mono HO381.out (fun _ hk => hk.2)⟩, ⟨by refine bkT ?_; exact BK362.out⟩, ⟨by refine bkT ?_; exact BK363.out⟩, ⟨by refine bkT ?_; exact BK372.out⟩, ⟨by repeat (first | (with_reducible first | exact HB.out | apply below_alloc | apply pw_below_drewN | apply below_drew1 | refine below_set ?_ GE362.out | refine below_set ?_ GE363.out | refine below_set ?_ GE372.out) | exact HB.out)⟩⟩
                      case round =>
                        clear H'
                        try clear c1
                        try clear c2
                        try clear p2
                        try clear c3
                        try clear p3
                        try clear q3
                        try clear hx3
                        try clear c4
                        try clear c6
                        try clear p6
                        try clear c8
                        try clear c9
                        try clear c10
                        try clear c11
                        try clear c14
                        try clear c14b0
                        try clear c14b1
                        try clear c16
                        try clear c21
                        try clear c24
                        try clear c27
                        try clear c27b0
                        try clear c27b1
                        try clear c29
                        try clear c34
                        try clear c35
                        try clear p37
                        try clear q37
                        try clear hx37
                        try clear c43
                        try clear c43b0
                        try clear c44
                        try clear c44b0
                        try clear c45
                        try clear c45b0
                        try clear hcz17_0
                        try clear hcz17_1
                        try clear hcz19_0
                        try clear hcz19_1
                        try clear hcz22_0
                        try clear hcz22_1
                        try clear hcz30_0
                        try clear hcz30_1
                        try clear hcz31_0
                        try clear hcz31_1
                        try clear hcz36_0
                        try clear hcz36_1
                        try clear hfz17_0
                        try clear hfz17_1
                        try clear hfz19_0
                        try clear hfz19_1
                        try clear hfz22_0
                        try clear hfz22_1
                        try clear hfz30_0
                        try clear hfz30_1
                        try clear hfz31_0
                        try clear hfz31_1
                        try clear hfz36_0
                        try clear hfz36_1
                        try clear hx377_0
                        try clear p2
                        try clear p377
                        try clear p6
                        try clear q377
                        obtain ⟨x72_3, rfl, HA, HK3, HO_57, HO_70, BK362, BK363, BK372, HB⟩ := hrel
                        cases gk with
                        | zero => exact absurd HA.out (by simp [lamplighterlaw19_IntervalSound.l1])
                        | succ k3 =>
                          have H := HA.out
                          clear HA
                          simp only [lamplighterlaw19_IntervalSound.l1] at H
                          by_cases c52 : x72_3 < (y379.length : Int)
                          · rw [if_pos c52] at H
                            have c52b0 : decide (x72_3 < (y379.length : Int)) = true := decide_eq_true c52
                            clear c52
                            by_cases c53 : 0 ≤ x72_3
                            · rw [if_pos c53] at H
                              have c53b0 : decide (0 ≤ x72_3) = true := decide_eq_true c53
                              clear c53
                              by_cases c54 : x72_3 < (y379.length : Int)
                              · rw [if_pos c54] at H
                                have c54b0 : decide (x72_3 < (y379.length : Int)) = true := decide_eq_true c54
                                clear c54
                                replace H := Option.bind_eq_some_iff.mp H
                                obtain ⟨⟨t383, t384⟩, A550, H⟩ := H
                                replace H : (if t384 = 0 then (if t370 = true then ((interval_Has.f k3 t368 t369 t383).bind fun t385 => (if t385 = true then (lamplighterlaw19_IntervalSound.l1 k3 a3 (wrap64 (1 + t367)) a5 t370 (rd y374 x59_2) y374 (y374.length : Int) x59_2 y379 (y379.length : Int) (wrap64 (x72_3 + 1)) a0_0 a0_1 a1_0 a1_1 t368 t369) else (some false))) else (some false)) else (lamplighterlaw19_IntervalSound.l1 k3 a3 (wrap64 (1 + t367)) a5 t370 (rd y374 x59_2) y374 (y374.length : Int) x59_2 y379 (y379.length : Int) (wrap64 (x72_3 + 1)) a0_0 a0_1 a1_0 a1_1 t368 t369)) = some r := H
                                have A55 := am A550
                                clear A550
                                by_cases c56 : t384 = 0
                                · rw [if_pos c56] at H
                                  have c56b0 : (t384 == 0) = true := beq_iff_eq.mpr c56
                                  have c56b1 : (t384 != 0) = false := bne_eq_false_iff_eq.mpr c56
                                  clear c56
                                  by_cases c57 : t370 = true
                                  · subst c57
                                    have H1 : ((interval_Has.f k3 t368 t369 t383).bind fun t385 => (if t385 = true then (lamplighterlaw19_IntervalSound.l1 k3 a3 (wrap64 (1 + t367)) a5 true (rd y374 x59_2) y374 (y374.length : Int) x59_2 y379 (y379.length : Int) (wrap64 (x72_3 + 1)) a0_0 a0_1 a1_0 a1_1 t368 t369) else (some false))) = some r := by rw [if_pos rfl] at H; exact H
                                    clear H
                                    have H := H1
                                    clear H1
                                    replace H := Option.bind_eq_some_iff.mp H
                                    obtain ⟨t385, A580, H⟩ := H
                                    replace H : (if t385 = true then (lamplighterlaw19_IntervalSound.l1 k3 a3 (wrap64 (1 + t367)) a5 true (rd y374 x59_2) y374 (y374.length : Int) x59_2 y379 (y379.length : Int) (wrap64 (x72_3 + 1)) a0_0 a0_1 a1_0 a1_1 t368 t369) else (some false)) = some r := H
                                    have A58 := am A580
                                    clear A580
                                    by_cases c59 : t385 = true
                                    · subst c59
                                      have H1 : (lamplighterlaw19_IntervalSound.l1 k3 a3 (wrap64 (1 + t367)) a5 true (rd y374 x59_2) y374 (y374.length : Int) x59_2 y379 (y379.length : Int) (wrap64 (x72_3 + 1)) a0_0 a0_1 a1_0 a1_1 t368 t369) = some r := by rw [if_pos rfl] at H; exact H
                                      clear H
                                      have H := H1
                                      clear H1
                                      have H' := am H
                                      clear H
                                      have p382 : 0 ≤ (x72_3 : Int) := of_decide_eq_true (by first | (with_reducible assumption) | assumption)
                                      have q382 : x72_3 < (y379.length : Int) := of_decide_eq_true (by first | (with_reducible assumption) | assumption)
                                      obtain ⟨ad382, e382, hx382_0⟩ := Kd.at_int (Kd.R_reads' HO_70.out).2.2 x72_3 p382 q382
                                      cases e382
                                      replace p382 := eq_true p382
                                      replace q382 := eq_true q382
                                      go_wp2_with (first | ((with_reducible refine gate_callee (f := 22) rfl ?_); refine goesL_ (some 80) rfl rfl Try.func22 (by kernel_rfl) rfl #[.int .i64 (wrap64 (1 + t367)), .int .u32 (rd y374 x59_2), .int .u32 (rd y379 x72_3)] rfl (by (try simp only [List.map_toArray, List.map_cons, List.map_nil]); first | done | rfl | (simp only [List.length_drop, List.length_take]; rfl)) ?_; (with_reducible refine (lamplighterref01_Do.calls k3 (wrap64 (1 + t367)) (rd y374 x59_2) (rd y379 x72_3) t383 t384 _ A55.out).mono ?_); rintro e w60 ⟨rfl, hb⟩; refine ⟨_, rfl, ?_⟩; have n0_ := am (Kd.R_below (by (with_reducible repeat (first | apply Kd.R_alloc | apply Kd.R_drewN | apply Kd.R_drew)); exact HO_57.out) hb); have n1_ := am (Kd.R_below (by (with_reducible repeat (first | apply Kd.R_alloc | apply Kd.R_drewN | apply Kd.R_drew)); exact HO_70.out) hb); have n2_ := am (blk_below (g := gb362) (o := .cells #[.int .u32 a0_0, .int .u32 a0_1] 24 (0, 0)) (bkA BK362) hb); have n3_ := am (blk_below (g := gb363) (o := .cells #[.int .u32 a1_0, .int .u32 a1_1] 24 (0, 0)) (bkA BK363) hb); have n4_ := am (blk_below (g := gb372) (o := .cells #[.int .u32 t368, .int .u32 t369] 24 (0, 0)) (bkA BK372) hb); have n5_ := am (below_step (hbA HB) hb); clear HO_57; clear HO_70; clear BK362; clear BK363; clear BK372; clear HB; have HO_57 := n0_; have HO_70 := n1_; have BK362 := n2_; have BK363 := n3_; have BK372 := n4_; have HB := n5_; clear n0_ n1_ n2_ n3_ n4_ n5_; (try clear hb); (try clear hb2); (try clear hk); (try clear hi); have hnb61 := NB372_362.out; have hnc61 := NB362_372.out; have hnb62 := NB372_363.out; have hnc62 := NB363_372.out; have hcz63_0 : w60.cell? ⟨gb372, 0, none⟩ = some (.int .u32 t368) := cz BK372; have hcz63_1 : w60.cell? ⟨gb372, 1, none⟩ = some (.int .u32 t369) := cz BK372; have hfz63_0 := blk_frozen BK372.out 0; have hfz63_1 := blk_frozen BK372.out 1) | (go_at_call 23; (with_reducible refine (interval_Has.calls k3 t368 t369 t383 true _ A58.out).mono ?_); rintro e w64 ⟨rfl, hb⟩; have n0_ := am (Kd.R_below (by (with_reducible repeat (first | apply Kd.R_alloc | apply Kd.R_drewN | apply Kd.R_drew)); exact HO_57.out) hb); have n1_ := am (Kd.R_below (by (with_reducible repeat (first | apply Kd.R_alloc | apply Kd.R_drewN | apply Kd.R_drew)); exact HO_70.out) hb); have n2_ := am (blk_below (g := gb362) (o := .cells #[.int .u32 a0_0, .int .u32 a0_1] 24 (0, 0)) (bkA BK362) hb); have n3_ := am (blk_below (g := gb363) (o := .cells #[.int .u32 a1_0, .int .u32 a1_1] 24 (0, 0)) (bkA BK363) hb); have n4_ := am (blk_below (g := gb372) (o := .cells #[.int .u32 t368, .int .u32 t369] 24 (0, 0)) (bkA BK372) hb); have n5_ := am (below_step (hbA HB) hb); clear HO_57; clear HO_70; clear BK362; clear BK363; clear BK372; clear HB; have HO_57 := n0_; have HO_70 := n1_; have BK362 := n2_; have BK363 := n3_; have BK372 := n4_; have HB := n5_; clear n0_ n1_ n2_ n3_ n4_ n5_; (try clear hb); (try clear hb2); (try clear hk); (try clear hi)))
                                      go_roundg k3
                                      case measure => have := HJ8.out; have := HK2.out; have := HK3.out; omega
                                      case rel => exact ⟨(wrap64 (x72_3 + 1)), (by first | rfl | (simp; done) | (simp [*]; done)), H', ⟨by have := HJ8.out; have := HK2.out; have := HK3.out; omega⟩, ⟨by (with_reducible repeat (first | apply Kd.R_alloc | apply Kd.R_drewN | apply Kd.R_drew)); exact HO_57.out⟩, ⟨by (with_reducible repeat (first | apply Kd.R_alloc | apply Kd.R_drewN | apply Kd.R_drew)); exact HO_70.out⟩, ⟨by refine bkT ?_; exact BK362.out⟩, ⟨by refine bkT ?_; exact BK363.out⟩, ⟨by refine bkT ?_; exact BK372.out⟩, ⟨by repeat (first | (with_reducible first | exact HB.out | apply below_alloc | apply pw_below_drewN | apply below_drew1 | refine below_set ?_ GE362.out | refine below_set ?_ GE363.out | refine below_set ?_ GE372.out) | exact HB.out)⟩⟩
                                    · replace c59 := Bool.eq_false_iff.mpr c59
                                      subst c59
                                      have H1 : (some false) = some r := by rw [if_neg (show ¬ (false = true) by decide)] at H; exact H
                                      clear H
                                      have H := H1
                                      clear H1
                                      exact absurd ((Option.some.inj H).trans hr_.out) (by decide)
                                  · replace c57 := Bool.eq_false_iff.mpr c57
                                    subst c57
                                    have H1 : (some false) = some r := by rw [if_neg (show ¬ (false = true) by decide)] at H; exact H
                                    clear H
                                    have H := H1
                                    clear H1
                                    exact absurd ((Option.some.inj H).trans hr_.out) (by decide)
                                · rw [if_neg c56] at H
                                  have c56b0 : (t384 == 0) = false := beq_eq_false_iff_ne.mpr c56
                                  have c56b1 : (t384 != 0) = true := bne_iff_ne.mpr c56
                                  have H' := am H
                                  clear H
                                  have p382 : 0 ≤ (x72_3 : Int) := of_decide_eq_true (by first | (with_reducible assumption) | assumption)
                                  have q382 : x72_3 < (y379.length : Int) := of_decide_eq_true (by first | (with_reducible assumption) | assumption)
                                  obtain ⟨ad382, e382, hx382_0⟩ := Kd.at_int (Kd.R_reads' HO_70.out).2.2 x72_3 p382 q382
                                  cases e382
                                  replace p382 := eq_true p382
                                  replace q382 := eq_true q382
                                  go_wp2_with (first | ((with_reducible refine gate_callee (f := 22) rfl ?_); refine goesL_ (some 80) rfl rfl Try.func22 (by kernel_rfl) rfl #[.int .i64 (wrap64 (1 + t367)), .int .u32 (rd y374 x59_2), .int .u32 (rd y379 x72_3)] rfl (by (try simp only [List.map_toArray, List.map_cons, List.map_nil]); first | done | rfl | (simp only [List.length_drop, List.length_take]; rfl)) ?_; (with_reducible refine (lamplighterref01_Do.calls k3 (wrap64 (1 + t367)) (rd y374 x59_2) (rd y379 x72_3) t383 t384 _ A55.out).mono ?_); rintro e w65 ⟨rfl, hb⟩; refine ⟨_, rfl, ?_⟩; have n0_ := am (Kd.R_below (by (with_reducible repeat (first | apply Kd.R_alloc | apply Kd.R_drewN | apply Kd.R_drew)); exact HO_57.out) hb); have n1_ := am (Kd.R_below (by (with_reducible repeat (first | apply Kd.R_alloc | apply Kd.R_drewN | apply Kd.R_drew)); exact HO_70.out) hb); have n2_ := am (blk_below (g := gb362) (o := .cells #[.int .u32 a0_0, .int .u32 a0_1] 24 (0, 0)) (bkA BK362) hb); have n3_ := am (blk_below (g := gb363) (o := .cells #[.int .u32 a1_0, .int .u32 a1_1] 24 (0, 0)) (bkA BK363) hb); have n4_ := am (blk_below (g := gb372) (o := .cells #[.int .u32 t368, .int .u32 t369] 24 (0, 0)) (bkA BK372) hb); have n5_ := am (below_step (hbA HB) hb); clear HO_57; clear HO_70; clear BK362; clear BK363; clear BK372; clear HB; have HO_57 := n0_; have HO_70 := n1_; have BK362 := n2_; have BK363 := n3_; have BK372 := n4_; have HB := n5_; clear n0_ n1_ n2_ n3_ n4_ n5_; (try clear hb); (try clear hb2); (try clear hk); (try clear hi)))
                                  go_roundg k3
                                  case measure => have := HJ8.out; have := HK2.out; have := HK3.out; omega
                                  case rel => exact ⟨(wrap64 (x72_3 + 1)), (by first | rfl | (simp; done) | (simp [*]; done)), H', ⟨by have := HJ8.out; have := HK2.out; have := HK3.out; omega⟩, ⟨by (with_reducible repeat (first | apply Kd.R_alloc | apply Kd.R_drewN | apply Kd.R_drew)); exact HO_57.out⟩, ⟨by (with_reducible repeat (first | apply Kd.R_alloc | apply Kd.R_drewN | apply Kd.R_drew)); exact HO_70.out⟩, ⟨by refine bkT ?_; exact BK362.out⟩, ⟨by refine bkT ?_; exact BK363.out⟩, ⟨by refine bkT ?_; exact BK372.out⟩, ⟨by repeat (first | (with_reducible first | exact HB.out | apply below_alloc | apply pw_below_drewN | apply below_drew1 | refine below_set ?_ GE362.out | refine below_set ?_ GE363.out | refine below_set ?_ GE372.out) | exact HB.out)⟩⟩
                              · rw [if_neg c54] at H
                                exact absurd H (by simp)
                            · rw [if_neg c53] at H
                              exact absurd H (by simp)
                          · rw [if_neg c52] at H
                            have c52b0 : decide (x72_3 < (y379.length : Int)) = false := decide_eq_false c52
                            clear c52
                            replace H := Option.bind_eq_some_iff.mp H
                            obtain ⟨t386, A660, H⟩ := H
                            replace H : ((lamplighterref01_One.f (wrap64 (1 + t386)) (rd y374 x59_2)).bind fun bt387 => ((interval_Un.f k3 (wrap64 (1 + t386)) a0_0 a0_1).bind fun bt389 => (if bt387.2 = 0 then (if bt389.2.2 = 0 then ((interval_Has.f k3 bt389.1 bt389.2.1 bt387.1).bind fun t393 => (lamplighterlaw19_IntervalSound.j3 k3 a3 (wrap64 (1 + t367)) a5 t370 (rd y374 x59_2) y374 (y374.length : Int) x59_2 (!t393) a0_0 a0_1 a1_0 a1_1 t368 t369)) else (lamplighterlaw19_IntervalSound.j3 k3 a3 (wrap64 (1 + t367)) a5 t370 (rd y374 x59_2) y374 (y374.length : Int) x59_2 true a0_0 a0_1 a1_0 a1_1 t368 t369)) else (lamplighterlaw19_IntervalSound.j3 k3 a3 (wrap64 (1 + t367)) a5 t370 (rd y374 x59_2) y374 (y374.length : Int) x59_2 true a0_0 a0_1 a1_0 a1_1 t368 t369)))) = some r := H
                            have A66 := am A660
                            clear A660
                            replace H := Option.bind_eq_some_iff.mp H
                            obtain ⟨⟨t387, t388⟩, A670, H⟩ := H
                            replace H : ((interval_Un.f k3 (wrap64 (1 + t386)) a0_0 a0_1).bind fun bt389 => (if t388 = 0 then (if bt389.2.2 = 0 then ((interval_Has.f k3 bt389.1 bt389.2.1 t387).bind fun t393 => (lamplighterlaw19_IntervalSound.j3 k3 a3 (wrap64 (1 + t367)) a5 t370 (rd y374 x59_2) y374 (y374.length : Int) x59_2 (!t393) a0_0 a0_1 a1_0 a1_1 t368 t369)) else (lamplighterlaw19_IntervalSound.j3 k3 a3 (wrap64 (1 + t367)) a5 t370 (rd y374 x59_2) y374 (y374.length : Int) x59_2 true a0_0 a0_1 a1_0 a1_1 t368 t369)) else (lamplighterlaw19_IntervalSound.j3 k3 a3 (wrap64 (1 + t367)) a5 t370 (rd y374 x59_2) y374 (y374.length : Int) x59_2 true a0_0 a0_1 a1_0 a1_1 t368 t369))) = some r := H
                            have A67 := am A670
                            clear A670
                            replace H := Option.bind_eq_some_iff.mp H
                            obtain ⟨⟨t389, t390, t391⟩, A680, H⟩ := H
                            replace H : (if t388 = 0 then (if t391 = 0 then ((interval_Has.f k3 t389 t390 t387).bind fun t393 => (lamplighterlaw19_IntervalSound.j3 k3 a3 (wrap64 (1 + t367)) a5 t370 (rd y374 x59_2) y374 (y374.length : Int) x59_2 (!t393) a0_0 a0_1 a1_0 a1_1 t368 t369)) else (lamplighterlaw19_IntervalSound.j3 k3 a3 (wrap64 (1 + t367)) a5 t370 (rd y374 x59_2) y374 (y374.length : Int) x59_2 true a0_0 a0_1 a1_0 a1_1 t368 t369)) else (lamplighterlaw19_IntervalSound.j3 k3 a3 (wrap64 (1 + t367)) a5 t370 (rd y374 x59_2) y374 (y374.length : Int) x59_2 true a0_0 a0_1 a1_0 a1_1 t368 t369)) = some r := H
                            have A68 := am A680
                            clear A680
                            have HC69 := am H
                            clear H
                            go_upto_region 22 with (first | ((with_reducible refine gate_callee (f := 10) rfl ?_); refine goesL_ (some 97) rfl rfl Try.func10 (by kernel_rfl) rfl #[.int .i64 (wrap64 (1 + t367)), .int .i64 3] rfl (by (try simp only [List.map_toArray, List.map_cons, List.map_nil]); first | done | rfl | (simp only [List.length_drop, List.length_take]; rfl)) ?_; (with_reducible refine (lamplighterkit_Pick.calls (wrap64 (1 + t367)) 3 t386 _ A66.out).mono ?_); rintro e w' ⟨rfl, ⟨nd, rfl⟩⟩; refine ⟨_, rfl, ?_⟩; (try (rw [drewN_self wr]; generalize hq_ : World.drewN wr _ = wr; have n0_ : Aside0 (Kd.R (Kd.int .u32) 22 wr w.heap.size (fun k_ => some k_ ≠ (.slice Ao51 y379.length co51 : Value).ownBlock) (.slice (some ad377) y374.length co42) y374) := ⟨by rw [← hq_]; exact (by (with_reducible repeat (first | apply Kd.R_alloc | apply Kd.R_drewN | apply Kd.R_drew)); exact HO_57.out)⟩; have n1_ : Aside0 (Kd.R (Kd.int .u32) 22 wr w.heap.size (fun k_ => some k_ ≠ (.slice (some ad377) y374.length co42 : Value).ownBlock) (.slice Ao51 y379.length co51) y379) := ⟨by rw [← hq_]; exact (by (with_reducible repeat (first | apply Kd.R_alloc | apply Kd.R_drewN | apply Kd.R_drew)); exact HO_70.out)⟩; have n2_ : Aside0 (wr.heap[gb362]? = some (.cells #[.int .u32 a0_0, .int .u32 a0_1] 24 (0, 0))) := ⟨by rw [← hq_]; exact (bkA BK362)⟩; have n3_ : Aside0 (wr.heap[gb363]? = some (.cells #[.int .u32 a1_0, .int .u32 a1_1] 24 (0, 0))) := ⟨by rw [← hq_]; exact (bkA BK363)⟩; have n4_ : Aside0 (wr.heap[gb372]? = some (.cells #[.int .u32 t368, .int .u32 t369] 24 (0, 0))) := ⟨by rw [← hq_]; exact (bkA BK372)⟩; have n5_ : Aside0 (Below w.heap.size w wr) := ⟨by rw [← hq_]; exact (hbA HB)⟩; clear HO_57 HO_70 BK362 BK363 BK372 HB hq_; have HO_57 := n0_; have HO_70 := n1_; have BK362 := n2_; have BK363 := n3_; have BK372 := n4_; have HB := n5_; clear n0_ n1_ n2_ n3_ n4_ n5_))) | ((with_reducible refine gate_callee (f := 24) rfl ?_); refine goesL_ (some 102) rfl rfl Try.func24 (by kernel_rfl) rfl #[.int .i64 (wrap64 (1 + t386)), .int .u32 (rd y374 x59_2)] rfl (by (try simp only [List.map_toArray, List.map_cons, List.map_nil]); first | done | rfl | (simp only [List.length_drop, List.length_take]; rfl)) ?_; (with_reducible refine (lamplighterref01_One.calls (wrap64 (1 + t386)) (rd y374 x59_2) t387 t388 _ A67.out).mono ?_); rintro e w' ⟨rfl, ⟨nd, rfl⟩⟩; refine ⟨_, rfl, ?_⟩; (try (rw [drewN_self wr]; generalize hq_ : World.drewN wr _ = wr; have n0_ : Aside0 (Kd.R (Kd.int .u32) 22 wr w.heap.size (fun k_ => some k_ ≠ (.slice Ao51 y379.length co51 : Value).ownBlock) (.slice (some ad377) y374.length co42) y374) := ⟨by rw [← hq_]; exact (by (with_reducible repeat (first | apply Kd.R_alloc | apply Kd.R_drewN | apply Kd.R_drew)); exact HO_57.out)⟩; have n1_ : Aside0 (Kd.R (Kd.int .u32) 22 wr w.heap.size (fun k_ => some k_ ≠ (.slice (some ad377) y374.length co42 : Value).ownBlock) (.slice Ao51 y379.length co51) y379) := ⟨by rw [← hq_]; exact (by (with_reducible repeat (first | apply Kd.R_alloc | apply Kd.R_drewN | apply Kd.R_drew)); exact HO_70.out)⟩; have n2_ : Aside0 (wr.heap[gb362]? = some (.cells #[.int .u32 a0_0, .int .u32 a0_1] 24 (0, 0))) := ⟨by rw [← hq_]; exact (bkA BK362)⟩; have n3_ : Aside0 (wr.heap[gb363]? = some (.cells #[.int .u32 a1_0, .int .u32 a1_1] 24 (0, 0))) := ⟨by rw [← hq_]; exact (bkA BK363)⟩; have n4_ : Aside0 (wr.heap[gb372]? = some (.cells #[.int .u32 t368, .int .u32 t369] 24 (0, 0))) := ⟨by rw [← hq_]; exact (bkA BK372)⟩; have n5_ : Aside0 (Below w.heap.size w wr) := ⟨by rw [← hq_]; exact (hbA HB)⟩; clear HO_57 HO_70 BK362 BK363 BK372 HB hq_; have HO_57 := n0_; have HO_70 := n1_; have BK362 := n2_; have BK363 := n3_; have BK372 := n4_; have HB := n5_; clear n0_ n1_ n2_ n3_ n4_ n5_)); have hnb70 := NB362_363.out; have hnc70 := NB363_362.out; have hnb71 := NB362_372.out; have hnc71 := NB372_362.out; have hcz72_0 : wr.cell? ⟨gb362, 0, none⟩ = some (.int .u32 a0_0) := cz BK362; have hcz72_1 : wr.cell? ⟨gb362, 1, none⟩ = some (.int .u32 a0_1) := cz BK362; have hfz72_0 := blk_frozen BK362.out 0; have hfz72_1 := blk_frozen BK362.out 1) | ((with_reducible refine gate_callee (f := 14) rfl ?_); refine goesL_ (some 108) rfl rfl Try.func14 (by kernel_rfl) rfl #[.int .i64 (wrap64 (1 + t386)), .agg #[.int .u32 a0_0, .int .u32 a0_1]] rfl (by (try simp only [List.map_toArray, List.map_cons, List.map_nil]); first | done | rfl | (simp only [List.length_drop, List.length_take]; rfl)) ?_; (with_reducible refine (interval_Un.calls k3 (wrap64 (1 + t386)) a0_0 a0_1 t389 t390 t391 _ A68.out).mono ?_); rintro e w73 ⟨rfl, hb⟩; refine ⟨_, rfl, ?_⟩; have n0_ := am (Kd.R_below (by (with_reducible repeat (first | apply Kd.R_alloc | apply Kd.R_drewN | apply Kd.R_drew)); exact HO_57.out) hb); have n1_ := am (Kd.R_below (by (with_reducible repeat (first | apply Kd.R_alloc | apply Kd.R_drewN | apply Kd.R_drew)); exact HO_70.out) hb); have n2_ := am (blk_below (g := gb362) (o := .cells #[.int .u32 a0_0, .int .u32 a0_1] 24 (0, 0)) (bkA BK362) hb); have n3_ := am (blk_below (g := gb363) (o := .cells #[.int .u32 a1_0, .int .u32 a1_1] 24 (0, 0)) (bkA BK363) hb); have n4_ := am (blk_below (g := gb372) (o := .cells #[.int .u32 t368, .int .u32 t369] 24 (0, 0)) (bkA BK372) hb); have n5_ := am (below_step (hbA HB) hb); clear HO_57; clear HO_70; clear BK362; clear BK363; clear BK372; clear HB; have HO_57 := n0_; have HO_70 := n1_; have BK362 := n2_; have BK363 := n3_; have BK372 := n4_; have HB := n5_; clear n0_ n1_ n2_ n3_ n4_ n5_; (try clear hb); (try clear hb2); (try clear hk); (try clear hi)) | ((with_reducible refine gate_dst (N := 25) rfl ?_); refine bxE 25 #[.int .u32 0, .int .u32 0] 24 ?_; intro gb392 hg w74 hbox hb; have n0_ := am (Kd.R_below (by (with_reducible repeat (first | apply Kd.R_alloc | apply Kd.R_drewN | apply Kd.R_drew)); exact HO_57.out) hb); have n1_ := am (Kd.R_below (by (with_reducible repeat (first | apply Kd.R_alloc | apply Kd.R_drewN | apply Kd.R_drew)); exact HO_70.out) hb); have n2_ := am (blk_below (g := gb362) (o := .cells #[.int .u32 a0_0, .int .u32 a0_1] 24 (0, 0)) (bkA BK362) hb); have n3_ := am (blk_below (g := gb363) (o := .cells #[.int .u32 a1_0, .int .u32 a1_1] 24 (0, 0)) (bkA BK363) hb); have n4_ := am (blk_below (g := gb372) (o := .cells #[.int .u32 t368, .int .u32 t369] 24 (0, 0)) (bkA BK372) hb); have n5_ := am (below_step (hbA HB) hb); have n6_ := am (hbox); have n7_ := gwA hg HB; have n8_ := gwA hg HB; have n9_ := ltA hg BK362; have n10_ := gtA hg BK362; have n11_ := ltA hg BK363; have n12_ := gtA hg BK363; have n13_ := ltA hg BK372; have n14_ := gtA hg BK372; clear HO_57; clear HO_70; clear BK362; clear BK363; clear BK372; clear HB; have HO_57 := n0_; have HO_70 := n1_; have BK362 := n2_; have BK363 := n3_; have BK372 := n4_; have HB := n5_; have BK392 := n6_; have GW392 := n7_; have GE392 := n8_; have NB362_392 := n9_; have NB392_362 := n10_; have NB363_392 := n11_; have NB392_363 := n12_; have NB372_392 := n13_; have NB392_372 := n14_; clear n0_ n1_ n2_ n3_ n4_ n5_ n6_ n7_ n8_ n9_ n10_ n11_ n12_ n13_ n14_; clear hb hbox hg; have hnb75 := NB392_362.out; have hnc75 := NB362_392.out; have hnb76 := NB392_363.out; have hnc76 := NB363_392.out; have hnb77 := NB392_372.out; have hnc77 := NB372_392.out; have hcz78_0 : w74.cell? ⟨gb392, 0, none⟩ = some (.int .u32 0) := cz BK392; have hcz78_1 : w74.cell? ⟨gb392, 1, none⟩ = some (.int .u32 0) := cz BK392; have hfz78_0 := blk_frozen BK392.out 0; have hfz78_1 := blk_frozen BK392.out 1))
                            (try simp only [Act.put, List.setIfInBounds_toArray, List.set_cons_zero, List.set_cons_succ])
                            go_cut [122] (fun v122 wc => ∃ (kq : Nat) (x122_68 : Bool), v122 = .bool x122_68 ∧ Aside0 (lamplighterlaw19_IntervalSound.j3 kq a3 (wrap64 (1 + t367)) a5 t370 (rd y374 x59_2) y374 (y374.length : Int) x59_2 x122_68 a0_0 a0_1 a1_0 a1_1 t368 t369 = some r) ∧ Aside0 (kq ≤ k3) ∧ Aside0 (Kd.R (Kd.int .u32) 22 wc w.heap.size (fun _ => True) (.slice (some ad377) y374.length co42) y374) ∧ Aside0 (wc.heap[gb362]? = some (.cells #[.int .u32 a0_0, .int .u32 a0_1] 24 (0, 0))) ∧ Aside0 (wc.heap[gb363]? = some (.cells #[.int .u32 a1_0, .int .u32 a1_1] 24 (0, 0))) ∧ Aside0 (wc.heap[gb372]? = some (.cells #[.int .u32 t368, .int .u32 t369] 24 (0, 0))) ∧ Aside0 (wc.heap[gb392]? = some (.cells #[.int .u32 t389, .int .u32 t390] 24 (0, 0))) ∧ Aside0 (Below w.heap.size w wc))
                            case first =>
                              have H := HC69.out
                              clear HC69
                              by_cases c79 : t388 = 0
                              · rw [if_pos c79] at H
                                have c79b0 : (t388 == 0) = true := beq_iff_eq.mpr c79
                                have c79b1 : (t388 != 0) = false := bne_eq_false_iff_eq.mpr c79
                                clear c79
                                (first | rw [c79b0] | (simp only [i64_w, i32_w]; rw [c79b0]) | skip)
                                by_cases c80 : t391 = 0
                                · rw [if_pos c80] at H
                                  have c80b0 : (t391 == 0) = true := beq_iff_eq.mpr c80
                                  have c80b1 : (t391 != 0) = false := bne_eq_false_iff_eq.mpr c80
                                  clear c80
                                  replace H := Option.bind_eq_some_iff.mp H
                                  obtain ⟨t393, A810, H⟩ := H
                                  replace H : (lamplighterlaw19_IntervalSound.j3 k3 a3 (wrap64 (1 + t367)) a5 t370 (rd y374 x59_2) y374 (y374.length : Int) x59_2 (!t393) a0_0 a0_1 a1_0 a1_1 t368 t369) = some r := H
                                  have A81 := am A810
                                  clear A810
                                  have H' := am H
                                  clear H
                                  have hnb82 := NB392_362.out
                                  have hnc82 := NB362_392.out
                                  have hnb83 := NB392_363.out
                                  have hnc83 := NB363_392.out
                                  have hnb84 := NB392_372.out
                                  have hnc84 := NB372_392.out
                                  have hcz85_0 : w74.cell? ⟨gb392, 0, none⟩ = some (.int .u32 0) := cz BK392
                                  have hcz85_1 : w74.cell? ⟨gb392, 1, none⟩ = some (.int .u32 0) := cz BK392
                                  have hfz85_0 := blk_frozen BK392.out 0
                                  have hfz85_1 := blk_frozen BK392.out 1
                                  go_wp2_with (first | (go_at_call 23; (with_reducible refine (interval_Has.calls k3 t389 t390 t387 t393 _ A81.out).mono ?_); rintro e w86 ⟨rfl, hb⟩; have n0_ := am (Kd.R_below (by (with_reducible repeat (first | apply Kd.R_alloc | apply Kd.R_drewN | apply Kd.R_drew)); exact (Kd.R_mono (Kd.R_far (p := ⟨gb392, 1, none⟩) (Kd.R_far (p := ⟨gb392, 0, none⟩) (Kd.R_types HO_57.out BK392.out (by decide)) (fun _ hk => hk.2) (.int .u32 t389)) (fun _ hk => hk.2) (.int .u32 t390)) (fun _ h_ => h_.1))) hb); have n1_ := am (Kd.R_below (by (with_reducible repeat (first | apply Kd.R_alloc | apply Kd.R_drewN | apply Kd.R_drew)); exact (Kd.R_mono (Kd.R_far (p := ⟨gb392, 1, none⟩) (Kd.R_far (p := ⟨gb392, 0, none⟩) (Kd.R_types HO_70.out BK392.out (by decide)) (fun _ hk => hk.2) (.int .u32 t389)) (fun _ hk => hk.2) (.int .u32 t390)) (fun _ h_ => h_.1))) hb); have n2_ := am (blk_below (g := gb362) (o := .cells #[.int .u32 a0_0, .int .u32 a0_1] 24 (0, 0)) (by refine bkT ?_; refine blk_far ?_ NB362_392.out _; refine bkT ?_; refine blk_far ?_ NB362_392.out _; refine bkT ?_; exact BK362.out) hb); have n3_ := am (blk_below (g := gb363) (o := .cells #[.int .u32 a1_0, .int .u32 a1_1] 24 (0, 0)) (by refine bkT ?_; refine blk_far ?_ NB363_392.out _; refine bkT ?_; refine blk_far ?_ NB363_392.out _; refine bkT ?_; exact BK363.out) hb); have n4_ := am (blk_below (g := gb372) (o := .cells #[.int .u32 t368, .int .u32 t369] 24 (0, 0)) (by refine bkT ?_; refine blk_far ?_ NB372_392.out _; refine bkT ?_; refine blk_far ?_ NB372_392.out _; refine bkT ?_; exact BK372.out) hb); have n5_ := am (blk_below (g := gb392) (o := .cells #[.int .u32 t389, .int .u32 t390] 24 (0, 0)) (by refine bkT ?_; refine blk_put (cs := #[.int .u32 t389, .int .u32 0]) ?_ 1 _ rfl; refine bkT ?_; refine blk_put (cs := #[.int .u32 0, .int .u32 0]) ?_ 0 _ rfl; refine bkT ?_; exact BK392.out) hb); have n6_ := am (below_step (hbA HB) hb); clear HO_57; clear HO_70; clear BK362; clear BK363; clear BK372; clear BK392; clear HB; have HO_57 := n0_; have HO_70 := n1_; have BK362 := n2_; have BK363 := n3_; have BK372 := n4_; have BK392 := n5_; have HB := n6_; clear n0_ n1_ n2_ n3_ n4_ n5_ n6_; (try clear hb); (try clear hb2); (try clear hk); (try clear hi)))
                                  go_meet
                                  case rel => exact ⟨_, (!t393), (by first | rfl | (simp; done) | (simp [*]; done)), H', ⟨by have := HJ8.out; have := HK2.out; have := HK3.out; first | omega | exact Nat.le_refl _⟩, ⟨by (with_reducible repeat (first | apply Kd.R_alloc | apply Kd.R_drewN | apply Kd.R_drew)); exact Kd.R_mono HO_57.out (fun _ hk => trivial)⟩, ⟨by refine bkT ?_; exact BK362.out⟩, ⟨by refine bkT ?_; exact BK363.out⟩, ⟨by refine bkT ?_; exact BK372.out⟩, ⟨by refine bkT ?_; exact BK392.out⟩, ⟨by repeat (first | (with_reducible first | exact HB.out | apply below_alloc | apply pw_below_drewN | apply below_drew1 | refine below_set ?_ GE362.out | refine below_set ?_ GE363.out | refine below_set ?_ GE372.out | refine below_set ?_ GE392.out) | exact HB.out)⟩⟩
                                · rw [if_neg c80] at H
                                  have c80b0 : (t391 == 0) = false := beq_eq_false_iff_ne.mpr c80
                                  have c80b1 : (t391 != 0) = true := bne_iff_ne.mpr c80
                                  have H' := am H
                                  clear H
                                  go_wp2
                                  go_meet
                                  case rel => exact ⟨_, (true), (by first | rfl | (simp; done) | (simp [*]; done)), H', ⟨by have := HJ8.out; have := HK2.out; have := HK3.out; first | omega | exact Nat.le_refl _⟩, ⟨by (with_reducible repeat (first | apply Kd.R_alloc | apply Kd.R_drewN | apply Kd.R_drew)); exact Kd.R_mono (Kd.R_far (p := ⟨gb392, 1, none⟩) (Kd.R_far (p := ⟨gb392, 0, none⟩) (Kd.R_types HO_57.out BK392.out (by decide)) (fun _ hk => hk.2) (.int .u32 t389)) (fun _ hk => hk.2) (.int .u32 t390)) (fun _ hk => trivial)⟩, ⟨by refine bkT ?_; refine blk_far ?_ NB362_392.out _; refine bkT ?_; refine blk_far ?_ NB362_392.out _; refine bkT ?_; exact BK362.out⟩, ⟨by refine bkT ?_; refine blk_far ?_ NB363_392.out _; refine bkT ?_; refine blk_far ?_ NB363_392.out _; refine bkT ?_; exact BK363.out⟩, ⟨by refine bkT ?_; refine blk_far ?_ NB372_392.out _; refine bkT ?_; refine blk_far ?_ NB372_392.out _; refine bkT ?_; exact BK372.out⟩, ⟨by refine bkT ?_; refine blk_put (cs := #[.int .u32 t389, .int .u32 0]) ?_ 1 _ rfl; refine bkT ?_; refine blk_put (cs := #[.int .u32 0, .int .u32 0]) ?_ 0 _ rfl; refine bkT ?_; exact BK392.out⟩, ⟨by repeat (first | (with_reducible first | exact HB.out | apply below_alloc | apply pw_below_drewN | apply below_drew1 | refine below_set ?_ GE362.out | refine below_set ?_ GE363.out | refine below_set ?_ GE372.out | refine below_set ?_ GE392.out) | exact HB.out)⟩⟩
                              · rw [if_neg c79] at H
                                have c79b0 : (t388 == 0) = false := beq_eq_false_iff_ne.mpr c79
                                have c79b1 : (t388 != 0) = true := bne_iff_ne.mpr c79
                                (first | rw [c79b0] | (simp only [i64_w, i32_w]; rw [c79b0]) | skip)
                                have H' := am H
                                clear H
                                go_wp2
                                go_meet
                                case rel => exact ⟨_, (true), (by first | rfl | (simp; done) | (simp [*]; done)), H', ⟨by have := HJ8.out; have := HK2.out; have := HK3.out; first | omega | exact Nat.le_refl _⟩, ⟨by (with_reducible repeat (first | apply Kd.R_alloc | apply Kd.R_drewN | apply Kd.R_drew)); exact Kd.R_mono (Kd.R_far (p := ⟨gb392, 1, none⟩) (Kd.R_far (p := ⟨gb392, 0, none⟩) (Kd.R_types HO_57.out BK392.out (by decide)) (fun _ hk => hk.2) (.int .u32 t389)) (fun _ hk => hk.2) (.int .u32 t390)) (fun _ hk => trivial)⟩, ⟨by refine bkT ?_; refine blk_far ?_ NB362_392.out _; refine bkT ?_; refine blk_far ?_ NB362_392.out _; refine bkT ?_; exact BK362.out⟩, ⟨by refine bkT ?_; refine blk_far ?_ NB363_392.out _; refine bkT ?_; refine blk_far ?_ NB363_392.out _; refine bkT ?_; exact BK363.out⟩, ⟨by refine bkT ?_; refine blk_far ?_ NB372_392.out _; refine bkT ?_; refine blk_far ?_ NB372_392.out _; refine bkT ?_; exact BK372.out⟩, ⟨by refine bkT ?_; refine blk_put (cs := #[.int .u32 t389, .int .u32 0]) ?_ 1 _ rfl; refine bkT ?_; refine blk_put (cs := #[.int .u32 0, .int .u32 0]) ?_ 0 _ rfl; refine bkT ?_; exact BK392.out⟩, ⟨by repeat (first | (with_reducible first | exact HB.out | apply below_alloc | apply pw_below_drewN | apply below_drew1 | refine below_set ?_ GE362.out | refine below_set ?_ GE363.out | refine below_set ?_ GE372.out | refine below_set ?_ GE392.out) | exact HB.out)⟩⟩
                            case rest =>
                              clear HC69
                              try clear c1
                              try clear c2
                              try clear p2
                              try clear c3
                              try clear p3
                              try clear q3
                              try clear hx3
                              try clear c4
                              try clear c5
                              try clear c6
                              try clear p6
                              try clear c7
                              try clear c8
                              try clear c9
                              try clear c10
                              try clear c11
                              try clear c14
                              try clear c14b0
                              try clear c14b1
                              try clear c16
                              try clear c21
                              try clear c22
                              try clear c24
                              try clear c27
                              try clear c27b0
                              try clear c27b1
                              try clear c29
                              try clear c34
                              try clear c35
                              try clear p37
                              try clear q37
                              try clear hx37
                              try clear p38
                              try clear q38
                              try clear hx38
                              try clear c43
                              try clear c43b0
                              try clear c44
                              try clear c44b0
                              try clear c45
                              try clear c45b0
                              try clear c52
                              try clear c52b0
                              try clear c53
                              try clear c53b0
                              try clear c54
                              try clear c54b0
                              try clear c56
                              try clear c56b0
                              try clear c56b1
                              try clear c57
                              try clear c59
                              try clear c61
                              try clear c62
                              try clear p64
                              try clear c70
                              try clear c71
                              try clear c75
                              try clear c76
                              try clear c77
                              try clear c79
                              try clear c79b0
                              try clear c79b1
                              try clear c80
                              try clear c80b0
                              try clear c80b1
                              try clear c82
                              try clear c83
                              try clear c84
                              try clear hcz17_0
                              try clear hcz17_1
                              try clear hcz19_0
                              try clear hcz19_1
                              try clear hcz22_0
                              try clear hcz22_1
                              try clear hcz30_0
                              try clear hcz30_1
                              try clear hcz31_0
                              try clear hcz31_1
                              try clear hcz36_0
                              try clear hcz36_1
                              try clear hcz63_0
                              try clear hcz63_1
                              try clear hcz72_0
                              try clear hcz72_1
                              try clear hcz78_0
                              try clear hcz78_1
                              try clear hcz85_0
                              try clear hcz85_1
                              try clear hfz17_0
                              try clear hfz17_1
                              try clear hfz19_0
                              try clear hfz19_1
                              try clear hfz22_0
                              try clear hfz22_1
                              try clear hfz30_0
                              try clear hfz30_1
                              try clear hfz31_0
                              try clear hfz31_1
                              try clear hfz36_0
                              try clear hfz36_1
                              try clear hfz63_0
                              try clear hfz63_1
                              try clear hfz72_0
                              try clear hfz72_1
                              try clear hfz78_0
                              try clear hfz78_1
                              try clear hfz85_0
                              try clear hfz85_1
                              try clear hx377_0
                              try clear hx382_0
                              try clear p2
                              try clear p3
                              try clear p37
                              try clear p377
                              try clear p382
                              try clear p6
                              try clear q3
                              try clear q37
                              try clear q377
                              try clear q382
                              obtain ⟨kq, x122_68, rfl, HA, HJ68, HO_57, BK362, BK363, BK372, BK392, HB⟩ := hcut
                              cases kq with
                              | zero => exact absurd HA.out (by simp [lamplighterlaw19_IntervalSound.j3])
                              | succ kj68 =>
                                have H := HA.out
                                clear HA
                                simp only [lamplighterlaw19_IntervalSound.j3] at H
                                by_cases c87 : x122_68 = true
                                · subst c87
                                  have H1 : (some false) = some r := by rw [if_pos rfl] at H; exact H
                                  clear H
                                  have H := H1
                                  clear H1
                                  exact absurd ((Option.some.inj H).trans hr_.out) (by decide)
                                · replace c87 := Bool.eq_false_iff.mpr c87
                                  subst c87
                                  have H1 : ((lamplighterref01_Cut.f (rd y374 x59_2) a5).bind fun bt394 => ((interval_Cut.f kj68 a0_0 a0_1 a5).bind fun bt396 => (if ((bt394.2 == 0) != (bt396.2.2 == 0)) = true then (some false) else (if bt394.2 = 0 then ((interval_Has.f kj68 bt396.1 bt396.2.1 bt394.1).bind fun t399 => (if t399 = true then ((interval_Join.f kj68 a0_0 a0_1 a1_0 a1_1).bind fun bt400 => ((interval_Has.f kj68 bt400.1 bt400.2 (rd y374 x59_2)).bind fun t402 => (if t402 = true then ((interval_Widen.f kj68 a1_0 a1_1 a0_0 a0_1).bind fun bt403 => ((interval_Has.f kj68 bt403.1 bt403.2 (rd y374 x59_2)).bind fun t405 => (if t405 = true then (lamplighterlaw19_IntervalSound.l0 kj68 a3 (wrap64 (1 + t367)) a5 t370 y374 (y374.length : Int) (wrap64 (x59_2 + 1)) a0_0 a0_1 a1_0 a1_1 t368 t369) else (some false)))) else (some false)))) else (some false))) else ((interval_Join.f kj68 a0_0 a0_1 a1_0 a1_1).bind fun bt406 => ((interval_Has.f kj68 bt406.1 bt406.2 (rd y374 x59_2)).bind fun t408 => (if t408 = true then ((interval_Widen.f kj68 a1_0 a1_1 a0_0 a0_1).bind fun bt409 => ((interval_Has.f kj68 bt409.1 bt409.2 (rd y374 x59_2)).bind fun t411 => (if t411 = true then (lamplighterlaw19_IntervalSound.l0 kj68 a3 (wrap64 (1 + t367)) a5 t370 y374 (y374.length : Int) (wrap64 (x59_2 + 1)) a0_0 a0_1 a1_0 a1_1 t368 t369) else (some false)))) else (some false)))))))) = some r := by rw [if_neg (show ¬ (false = true) by decide)] at H; exact H
                                  clear H
                                  have H := H1
                                  clear H1
                                  replace H := Option.bind_eq_some_iff.mp H
                                  obtain ⟨⟨t394, t395⟩, A880, H⟩ := H
                                  replace H : ((interval_Cut.f kj68 a0_0 a0_1 a5).bind fun bt396 => (if ((t395 == 0) != (bt396.2.2 == 0)) = true then (some false) else (if t395 = 0 then ((interval_Has.f kj68 bt396.1 bt396.2.1 t394).bind fun t399 => (if t399 = true then ((interval_Join.f kj68 a0_0 a0_1 a1_0 a1_1).bind fun bt400 => ((interval_Has.f kj68 bt400.1 bt400.2 (rd y374 x59_2)).bind fun t402 => (if t402 = true then ((interval_Widen.f kj68 a1_0 a1_1 a0_0 a0_1).bind fun bt403 => ((interval_Has.f kj68 bt403.1 bt403.2 (rd y374 x59_2)).bind fun t405 => (if t405 = true then (lamplighterlaw19_IntervalSound.l0 kj68 a3 (wrap64 (1 + t367)) a5 t370 y374 (y374.length : Int) (wrap64 (x59_2 + 1)) a0_0 a0_1 a1_0 a1_1 t368 t369) else (some false)))) else (some false)))) else (some false))) else ((interval_Join.f kj68 a0_0 a0_1 a1_0 a1_1).bind fun bt406 => ((interval_Has.f kj68 bt406.1 bt406.2 (rd y374 x59_2)).bind fun t408 => (if t408 = true then ((interval_Widen.f kj68 a1_0 a1_1 a0_0 a0_1).bind fun bt409 => ((interval_Has.f kj68 bt409.1 bt409.2 (rd y374 x59_2)).bind fun t411 => (if t411 = true then (lamplighterlaw19_IntervalSound.l0 kj68 a3 (wrap64 (1 + t367)) a5 t370 y374 (y374.length : Int) (wrap64 (x59_2 + 1)) a0_0 a0_1 a1_0 a1_1 t368 t369) else (some false)))) else (some false))))))) = some r := H
                                  have A88 := am A880
                                  clear A880
                                  replace H := Option.bind_eq_some_iff.mp H
                                  obtain ⟨⟨t396, t397, t398⟩, A890, H⟩ := H
                                  replace H : (if ((t395 == 0) != (t398 == 0)) = true then (some false) else (if t395 = 0 then ((interval_Has.f kj68 t396 t397 t394).bind fun t399 => (if t399 = true then ((interval_Join.f kj68 a0_0 a0_1 a1_0 a1_1).bind fun bt400 => ((interval_Has.f kj68 bt400.1 bt400.2 (rd y374 x59_2)).bind fun t402 => (if t402 = true then ((interval_Widen.f kj68 a1_0 a1_1 a0_0 a0_1).bind fun bt403 => ((interval_Has.f kj68 bt403.1 bt403.2 (rd y374 x59_2)).bind fun t405 => (if t405 = true then (lamplighterlaw19_IntervalSound.l0 kj68 a3 (wrap64 (1 + t367)) a5 t370 y374 (y374.length : Int) (wrap64 (x59_2 + 1)) a0_0 a0_1 a1_0 a1_1 t368 t369) else (some false)))) else (some false)))) else (some false))) else ((interval_Join.f kj68 a0_0 a0_1 a1_0 a1_1).bind fun bt406 => ((interval_Has.f kj68 bt406.1 bt406.2 (rd y374 x59_2)).bind fun t408 => (if t408 = true then ((interval_Widen.f kj68 a1_0 a1_1 a0_0 a0_1).bind fun bt409 => ((interval_Has.f kj68 bt409.1 bt409.2 (rd y374 x59_2)).bind fun t411 => (if t411 = true then (lamplighterlaw19_IntervalSound.l0 kj68 a3 (wrap64 (1 + t367)) a5 t370 y374 (y374.length : Int) (wrap64 (x59_2 + 1)) a0_0 a0_1 a1_0 a1_1 t368 t369) else (some false)))) else (some false)))))) = some r := H
                                  have A89 := am A890
                                  clear A890
                                  by_cases c90 : ((t395 == 0) != (t398 == 0)) = true
                                  · rw [if_pos c90] at H
                                    have c90b0 : ((t395 == 0) != (t398 == 0)) = true := c90
                                    (try (have c90b1 : decide ((t395 == 0) = (t398 == 0)) = false := by simpa using c90))
                                    (try (have c90b2 : ((t395 == 0) == (t398 == 0)) = false := by simpa using c90))
                                    (try (have c90b3 : ¬ ((t395 == 0) = (t398 == 0)) := by simpa using c90))
                                    clear c90
                                    exact absurd ((Option.some.inj H).trans hr_.out) (by decide)
                                  · rw [if_neg c90] at H
                                    have c90b0 : ((t395 == 0) != (t398 == 0)) = false := by simpa using c90
                                    (try (have c90b1 : decide ((t395 == 0) = (t398 == 0)) = true := by simpa using c90))
                                    (try (have c90b2 : ((t395 == 0) == (t398 == 0)) = true := by simpa using c90))
                                    (try (have c90b3 : (t398 == 0) = (t395 == 0) := by revert c90; cases ((t395 == 0)) <;> cases ((t398 == 0)) <;> simp))
                                    clear c90
                                    by_cases c91 : t395 = 0
                                    · rw [if_pos c91] at H
                                      have c91b0 : (t395 == 0) = true := beq_iff_eq.mpr c91
                                      have c91b1 : (t395 != 0) = false := bne_eq_false_iff_eq.mpr c91
                                      clear c91
                                      replace H := Option.bind_eq_some_iff.mp H
                                      obtain ⟨t399, A920, H⟩ := H
                                      replace H : (if t399 = true then ((interval_Join.f kj68 a0_0 a0_1 a1_0 a1_1).bind fun bt400 => ((interval_Has.f kj68 bt400.1 bt400.2 (rd y374 x59_2)).bind fun t402 => (if t402 = true then ((interval_Widen.f kj68 a1_0 a1_1 a0_0 a0_1).bind fun bt403 => ((interval_Has.f kj68 bt403.1 bt403.2 (rd y374 x59_2)).bind fun t405 => (if t405 = true then (lamplighterlaw19_IntervalSound.l0 kj68 a3 (wrap64 (1 + t367)) a5 t370 y374 (y374.length : Int) (wrap64 (x59_2 + 1)) a0_0 a0_1 a1_0 a1_1 t368 t369) else (some false)))) else (some false)))) else (some false)) = some r := H
                                      have A92 := am A920
                                      clear A920
                                      by_cases c93 : t399 = true
                                      · subst c93
                                        have H1 : ((interval_Join.f kj68 a0_0 a0_1 a1_0 a1_1).bind fun bt400 => ((interval_Has.f kj68 bt400.1 bt400.2 (rd y374 x59_2)).bind fun t402 => (if t402 = true then ((interval_Widen.f kj68 a1_0 a1_1 a0_0 a0_1).bind fun bt403 => ((interval_Has.f kj68 bt403.1 bt403.2 (rd y374 x59_2)).bind fun t405 => (if t405 = true then (lamplighterlaw19_IntervalSound.l0 kj68 a3 (wrap64 (1 + t367)) a5 t370 y374 (y374.length : Int) (wrap64 (x59_2 + 1)) a0_0 a0_1 a1_0 a1_1 t368 t369) else (some false)))) else (some false)))) = some r := by rw [if_pos rfl] at H; exact H
                                        clear H
                                        have H := H1
                                        clear H1
                                        replace H := Option.bind_eq_some_iff.mp H
                                        obtain ⟨⟨t400, t401⟩, A940, H⟩ := H
                                        replace H : ((interval_Has.f kj68 t400 t401 (rd y374 x59_2)).bind fun t402 => (if t402 = true then ((interval_Widen.f kj68 a1_0 a1_1 a0_0 a0_1).bind fun bt403 => ((interval_Has.f kj68 bt403.1 bt403.2 (rd y374 x59_2)).bind fun t405 => (if t405 = true then (lamplighterlaw19_IntervalSound.l0 kj68 a3 (wrap64 (1 + t367)) a5 t370 y374 (y374.length : Int) (wrap64 (x59_2 + 1)) a0_0 a0_1 a1_0 a1_1 t368 t369) else (some false)))) else (some false))) = some r := H
                                        have A94 := am A940
                                        clear A940
                                        replace H := Option.bind_eq_some_iff.mp H
                                        obtain ⟨t402, A950, H⟩ := H
                                        replace H : (if t402 = true then ((interval_Widen.f kj68 a1_0 a1_1 a0_0 a0_1).bind fun bt403 => ((interval_Has.f kj68 bt403.1 bt403.2 (rd y374 x59_2)).bind fun t405 => (if t405 = true then (lamplighterlaw19_IntervalSound.l0 kj68 a3 (wrap64 (1 + t367)) a5 t370 y374 (y374.length : Int) (wrap64 (x59_2 + 1)) a0_0 a0_1 a1_0 a1_1 t368 t369) else (some false)))) else (some false)) = some r := H
                                        have A95 := am A950
                                        clear A950
                                        by_cases c96 : t402 = true
                                        · subst c96
                                          have H1 : ((interval_Widen.f kj68 a1_0 a1_1 a0_0 a0_1).bind fun bt403 => ((interval_Has.f kj68 bt403.1 bt403.2 (rd y374 x59_2)).bind fun t405 => (if t405 = true then (lamplighterlaw19_IntervalSound.l0 kj68 a3 (wrap64 (1 + t367)) a5 t370 y374 (y374.length : Int) (wrap64 (x59_2 + 1)) a0_0 a0_1 a1_0 a1_1 t368 t369) else (some false)))) = some r := by rw [if_pos rfl] at H; exact H
                                          clear H
                                          have H := H1
                                          clear H1
                                          replace H := Option.bind_eq_some_iff.mp H
                                          obtain ⟨⟨t403, t404⟩, A970, H⟩ := H
                                          replace H : ((interval_Has.f kj68 t403 t404 (rd y374 x59_2)).bind fun t405 => (if t405 = true then (lamplighterlaw19_IntervalSound.l0 kj68 a3 (wrap64 (1 + t367)) a5 t370 y374 (y374.length : Int) (wrap64 (x59_2 + 1)) a0_0 a0_1 a1_0 a1_1 t368 t369) else (some false))) = some r := H
                                          have A97 := am A970
                                          clear A970
                                          replace H := Option.bind_eq_some_iff.mp H
                                          obtain ⟨t405, A980, H⟩ := H
                                          replace H : (if t405 = true then (lamplighterlaw19_IntervalSound.l0 kj68 a3 (wrap64 (1 + t367)) a5 t370 y374 (y374.length : Int) (wrap64 (x59_2 + 1)) a0_0 a0_1 a1_0 a1_1 t368 t369) else (some false)) = some r := H
                                          have A98 := am A980
                                          clear A980
                                          by_cases c99 : t405 = true
                                          · subst c99
                                            have H1 : (lamplighterlaw19_IntervalSound.l0 kj68 a3 (wrap64 (1 + t367)) a5 t370 y374 (y374.length : Int) (wrap64 (x59_2 + 1)) a0_0 a0_1 a1_0 a1_1 t368 t369) = some r := by rw [if_pos rfl] at H; exact H
                                            clear H
                                            have H := H1
                                            clear H1
                                            have H' := am H
                                            clear H
                                            go_wp2_with (first | ((with_reducible refine gate_callee (f := 25) rfl ?_); refine goesL_ (some 126) rfl rfl Try.func25 (by kernel_rfl) rfl #[.int .u32 (rd y374 x59_2), .int .i64 a5] rfl (by (try simp only [List.map_toArray, List.map_cons, List.map_nil]); first | done | rfl | (simp only [List.length_drop, List.length_take]; rfl)) ?_; (with_reducible refine (lamplighterref01_Cut.calls (rd y374 x59_2) a5 t394 t395 _ A88.out).mono ?_); rintro e w' ⟨rfl, ⟨nd, rfl⟩⟩; refine ⟨_, rfl, ?_⟩; (try (rw [drewN_self wc]; generalize hq_ : World.drewN wc _ = wc; have n0_ : Aside0 (Kd.R (Kd.int .u32) 22 wc w.heap.size (fun _ => True) (.slice (some ad377) y374.length co42) y374) := ⟨by rw [← hq_]; exact (by (with_reducible repeat (first | apply Kd.R_alloc | apply Kd.R_drewN | apply Kd.R_drew)); exact HO_57.out)⟩; have n1_ : Aside0 (wc.heap[gb362]? = some (.cells #[.int .u32 a0_0, .int .u32 a0_1] 24 (0, 0))) := ⟨by rw [← hq_]; exact (bkA BK362)⟩; have n2_ : Aside0 (wc.heap[gb363]? = some (.cells #[.int .u32 a1_0, .int .u32 a1_1] 24 (0, 0))) := ⟨by rw [← hq_]; exact (bkA BK363)⟩; have n3_ : Aside0 (wc.heap[gb372]? = some (.cells #[.int .u32 t368, .int .u32 t369] 24 (0, 0))) := ⟨by rw [← hq_]; exact (bkA BK372)⟩; have n4_ : Aside0 (wc.heap[gb392]? = some (.cells #[.int .u32 t389, .int .u32 t390] 24 (0, 0))) := ⟨by rw [← hq_]; exact (bkA BK392)⟩; have n5_ : Aside0 (Below w.heap.size w wc) := ⟨by rw [← hq_]; exact (hbA HB)⟩; clear HO_57 BK362 BK363 BK372 BK392 HB hq_; have HO_57 := n0_; have BK362 := n1_; have BK363 := n2_; have BK372 := n3_; have BK392 := n4_; have HB := n5_; clear n0_ n1_ n2_ n3_ n4_ n5_)); have hnb100 := NB362_363.out; have hnc100 := NB363_362.out; have hnb101 := NB362_372.out; have hnc101 := NB372_362.out; have hnb102 := NB362_392.out; have hnc102 := NB392_362.out; have hcz103_0 : wc.cell? ⟨gb362, 0, none⟩ = some (.int .u32 a0_0) := cz BK362; have hcz103_1 : wc.cell? ⟨gb362, 1, none⟩ = some (.int .u32 a0_1) := cz BK362; have hfz103_0 := blk_frozen BK362.out 0; have hfz103_1 := blk_frozen BK362.out 1) | ((with_reducible refine gate_callee (f := 17) rfl ?_); refine goesL_ (some 132) rfl rfl Try.func17 (by kernel_rfl) rfl #[.agg #[.int .u32 a0_0, .int .u32 a0_1], .int .i64 a5] rfl (by (try simp only [List.map_toArray, List.map_cons, List.map_nil]); first | done | rfl | (simp only [List.length_drop, List.length_take]; rfl)) ?_; (with_reducible refine (interval_Cut.calls kj68 a0_0 a0_1 a5 t396 t397 t398 _ A89.out).mono ?_); rintro e w104 ⟨rfl, hb⟩; refine ⟨_, rfl, ?_⟩; have n0_ := am (Kd.R_below (by (with_reducible repeat (first | apply Kd.R_alloc | apply Kd.R_drewN | apply Kd.R_drew)); exact HO_57.out) hb); have n1_ := am (blk_below (g := gb362) (o := .cells #[.int .u32 a0_0, .int .u32 a0_1] 24 (0, 0)) (bkA BK362) hb); have n2_ := am (blk_below (g := gb363) (o := .cells #[.int .u32 a1_0, .int .u32 a1_1] 24 (0, 0)) (bkA BK363) hb); have n3_ := am (blk_below (g := gb372) (o := .cells #[.int .u32 t368, .int .u32 t369] 24 (0, 0)) (bkA BK372) hb); have n4_ := am (blk_below (g := gb392) (o := .cells #[.int .u32 t389, .int .u32 t390] 24 (0, 0)) (bkA BK392) hb); have n5_ := am (below_step (hbA HB) hb); clear HO_57; clear BK362; clear BK363; clear BK372; clear BK392; clear HB; have HO_57 := n0_; have BK362 := n1_; have BK363 := n2_; have BK372 := n3_; have BK392 := n4_; have HB := n5_; clear n0_ n1_ n2_ n3_ n4_ n5_; (try clear hb); (try clear hb2); (try clear hk); (try clear hi); have hnb105 := NB392_363.out; have hnc105 := NB363_392.out; have hnb106 := NB392_372.out; have hnc106 := NB372_392.out; have hcz107_0 : w104.cell? ⟨gb392, 0, none⟩ = some (.int .u32 t389) := cz BK392; have hcz107_1 : w104.cell? ⟨gb392, 1, none⟩ = some (.int .u32 t390) := cz BK392; have hfz107_0 := blk_frozen BK392.out 0; have hfz107_1 := blk_frozen BK392.out 1) | (go_at_call 23; (with_reducible refine (interval_Has.calls kj68 t396 t397 t394 true _ A92.out).mono ?_); rintro e w108 ⟨rfl, hb⟩; have n0_ := am (Kd.R_below (by (with_reducible repeat (first | apply Kd.R_alloc | apply Kd.R_drewN | apply Kd.R_drew)); exact (Kd.R_mono (Kd.R_far (p := ⟨gb392, 1, none⟩) (Kd.R_far (p := ⟨gb392, 0, none⟩) (Kd.R_types HO_57.out BK392.out (by decide)) (fun _ hk => hk.2) (.int .u32 t396)) (fun _ hk => hk.2) (.int .u32 t397)) (fun _ h_ => h_.1))) hb); have n1_ := am (blk_below (g := gb362) (o := .cells #[.int .u32 a0_0, .int .u32 a0_1] 24 (0, 0)) (by refine bkT ?_; refine blk_far ?_ NB362_392.out _; refine bkT ?_; refine blk_far ?_ NB362_392.out _; refine bkT ?_; exact BK362.out) hb); have n2_ := am (blk_below (g := gb363) (o := .cells #[.int .u32 a1_0, .int .u32 a1_1] 24 (0, 0)) (by refine bkT ?_; refine blk_far ?_ NB363_392.out _; refine bkT ?_; refine blk_far ?_ NB363_392.out _; refine bkT ?_; exact BK363.out) hb); have n3_ := am (blk_below (g := gb372) (o := .cells #[.int .u32 t368, .int .u32 t369] 24 (0, 0)) (by refine bkT ?_; refine blk_far ?_ NB372_392.out _; refine bkT ?_; refine blk_far ?_ NB372_392.out _; refine bkT ?_; exact BK372.out) hb); have n4_ := am (blk_below (g := gb392) (o := .cells #[.int .u32 t396, .int .u32 t397] 24 (0, 0)) (by refine bkT ?_; refine blk_put (cs := #[.int .u32 t396, .int .u32 t390]) ?_ 1 _ rfl; refine bkT ?_; refine blk_put (cs := #[.int .u32 t389, .int .u32 t390]) ?_ 0 _ rfl; refine bkT ?_; exact BK392.out) hb); have n5_ := am (below_step (hbA HB) hb); clear HO_57; clear BK362; clear BK363; clear BK372; clear BK392; clear HB; have HO_57 := n0_; have BK362 := n1_; have BK363 := n2_; have BK372 := n3_; have BK392 := n4_; have HB := n5_; clear n0_ n1_ n2_ n3_ n4_ n5_; (try clear hb); (try clear hb2); (try clear hk); (try clear hi); have hcz109_0 : w108.cell? ⟨gb362, 0, none⟩ = some (.int .u32 a0_0) := cz BK362; have hcz109_1 : w108.cell? ⟨gb362, 1, none⟩ = some (.int .u32 a0_1) := cz BK362; have hfz109_0 := blk_frozen BK362.out 0; have hfz109_1 := blk_frozen BK362.out 1; have hnb110 := NB363_372.out; have hnc110 := NB372_363.out; have hcz111_0 : w108.cell? ⟨gb363, 0, none⟩ = some (.int .u32 a1_0) := cz BK363; have hcz111_1 : w108.cell? ⟨gb363, 1, none⟩ = some (.int .u32 a1_1) := cz BK363; have hfz111_0 := blk_frozen BK363.out 0; have hfz111_1 := blk_frozen BK363.out 1) | (go_at_call 12; (with_reducible refine (interval_Join.calls kj68 a0_0 a0_1 a1_0 a1_1 t400 t401 _ A94.out).mono ?_); rintro e w112 ⟨rfl, hb⟩; have n0_ := am (Kd.R_below (by (with_reducible repeat (first | apply Kd.R_alloc | apply Kd.R_drewN | apply Kd.R_drew)); exact HO_57.out) hb); have n1_ := am (blk_below (g := gb362) (o := .cells #[.int .u32 a0_0, .int .u32 a0_1] 24 (0, 0)) (bkA BK362) hb); have n2_ := am (blk_below (g := gb363) (o := .cells #[.int .u32 a1_0, .int .u32 a1_1] 24 (0, 0)) (bkA BK363) hb); have n3_ := am (blk_below (g := gb372) (o := .cells #[.int .u32 t368, .int .u32 t369] 24 (0, 0)) (bkA BK372) hb); have n4_ := am (blk_below (g := gb392) (o := .cells #[.int .u32 t396, .int .u32 t397] 24 (0, 0)) (bkA BK392) hb); have n5_ := am (below_step (hbA HB) hb); clear HO_57; clear BK362; clear BK363; clear BK372; clear BK392; clear HB; have HO_57 := n0_; have BK362 := n1_; have BK363 := n2_; have BK372 := n3_; have BK392 := n4_; have HB := n5_; clear n0_ n1_ n2_ n3_ n4_ n5_; (try clear hb); (try clear hb2); (try clear hk); (try clear hi)) | (go_at_call 23; (with_reducible refine (interval_Has.calls kj68 t400 t401 (rd y374 x59_2) true _ A95.out).mono ?_); rintro e w113 ⟨rfl, hb⟩; have n0_ := am (Kd.R_below (by (with_reducible repeat (first | apply Kd.R_alloc | apply Kd.R_drewN | apply Kd.R_drew)); exact HO_57.out) hb); have n1_ := am (blk_below (g := gb362) (o := .cells #[.int .u32 a0_0, .int .u32 a0_1] 24 (0, 0)) (bkA BK362) hb); have n2_ := am (blk_below (g := gb363) (o := .cells #[.int .u32 a1_0, .int .u32 a1_1] 24 (0, 0)) (bkA BK363) hb); have n3_ := am (blk_below (g := gb372) (o := .cells #[.int .u32 t368, .int .u32 t369] 24 (0, 0)) (bkA BK372) hb); have n4_ := am (blk_below (g := gb392) (o := .cells #[.int .u32 t396, .int .u32 t397] 24 (0, 0)) (bkA BK392) hb); have n5_ := am (below_step (hbA HB) hb); clear HO_57; clear BK362; clear BK363; clear BK372; clear BK392; clear HB; have HO_57 := n0_; have BK362 := n1_; have BK363 := n2_; have BK372 := n3_; have BK392 := n4_; have HB := n5_; clear n0_ n1_ n2_ n3_ n4_ n5_; (try clear hb); (try clear hb2); (try clear hk); (try clear hi); have hcz114_0 : w113.cell? ⟨gb363, 0, none⟩ = some (.int .u32 a1_0) := cz BK363; have hcz114_1 : w113.cell? ⟨gb363, 1, none⟩ = some (.int .u32 a1_1) := cz BK363; have hfz114_0 := blk_frozen BK363.out 0; have hfz114_1 := blk_frozen BK363.out 1; have hcz115_0 : w113.cell? ⟨gb362, 0, none⟩ = some (.int .u32 a0_0) := cz BK362; have hcz115_1 : w113.cell? ⟨gb362, 1, none⟩ = some (.int .u32 a0_1) := cz BK362; have hfz115_0 := blk_frozen BK362.out 0; have hfz115_1 := blk_frozen BK362.out 1) | (go_at_call 15; (with_reducible refine (interval_Widen.calls kj68 a1_0 a1_1 a0_0 a0_1 t403 t404 _ A97.out).mono ?_); rintro e w116 ⟨rfl, hb⟩; have n0_ := am (Kd.R_below (by (with_reducible repeat (first | apply Kd.R_alloc | apply Kd.R_drewN | apply Kd.R_drew)); exact HO_57.out) hb); have n1_ := am (blk_below (g := gb362) (o := .cells #[.int .u32 a0_0, .int .u32 a0_1] 24 (0, 0)) (bkA BK362) hb); have n2_ := am (blk_below (g := gb363) (o := .cells #[.int .u32 a1_0, .int .u32 a1_1] 24 (0, 0)) (bkA BK363) hb); have n3_ := am (blk_below (g := gb372) (o := .cells #[.int .u32 t368, .int .u32 t369] 24 (0, 0)) (bkA BK372) hb); have n4_ := am (blk_below (g := gb392) (o := .cells #[.int .u32 t396, .int .u32 t397] 24 (0, 0)) (bkA BK392) hb); have n5_ := am (below_step (hbA HB) hb); clear HO_57; clear BK362; clear BK363; clear BK372; clear BK392; clear HB; have HO_57 := n0_; have BK362 := n1_; have BK363 := n2_; have BK372 := n3_; have BK392 := n4_; have HB := n5_; clear n0_ n1_ n2_ n3_ n4_ n5_; (try clear hb); (try clear hb2); (try clear hk); (try clear hi)) | (go_at_call 23; (with_reducible refine (interval_Has.calls kj68 t403 t404 (rd y374 x59_2) true _ A98.out).mono ?_); rintro e w117 ⟨rfl, hb⟩; have n0_ := am (Kd.R_below (by (with_reducible repeat (first | apply Kd.R_alloc | apply Kd.R_drewN | apply Kd.R_drew)); exact HO_57.out) hb); have n1_ := am (blk_below (g := gb362) (o := .cells #[.int .u32 a0_0, .int .u32 a0_1] 24 (0, 0)) (bkA BK362) hb); have n2_ := am (blk_below (g := gb363) (o := .cells #[.int .u32 a1_0, .int .u32 a1_1] 24 (0, 0)) (bkA BK363) hb); have n3_ := am (blk_below (g := gb372) (o := .cells #[.int .u32 t368, .int .u32 t369] 24 (0, 0)) (bkA BK372) hb); have n4_ := am (blk_below (g := gb392) (o := .cells #[.int .u32 t396, .int .u32 t397] 24 (0, 0)) (bkA BK392) hb); have n5_ := am (below_step (hbA HB) hb); clear HO_57; clear BK362; clear BK363; clear BK372; clear BK392; clear HB; have HO_57 := n0_; have BK362 := n1_; have BK363 := n2_; have BK372 := n3_; have BK392 := n4_; have HB := n5_; clear n0_ n1_ n2_ n3_ n4_ n5_; (try clear hb); (try clear hb2); (try clear hk); (try clear hi)))
                                            go_roundg kj68
                                            case measure => have := HJ8.out; have := HK2.out; have := HK3.out; have := HJ68.out; omega
                                            case rel => exact ⟨(wrap64 (x59_2 + 1)), (by first | rfl | (simp; done) | (simp [*]; done)), H', ⟨by have := HJ8.out; have := HK2.out; have := HK3.out; have := HJ68.out; omega⟩, ⟨by (with_reducible repeat (first | apply Kd.R_alloc | apply Kd.R_drewN | apply Kd.R_drew)); exact HO_57.out⟩, ⟨by refine bkT ?_; exact BK362.out⟩, ⟨by refine bkT ?_; exact BK363.out⟩, ⟨by refine bkT ?_; exact BK372.out⟩, ⟨by repeat (first | (with_reducible first | exact HB.out | apply below_alloc | apply pw_below_drewN | apply below_drew1 | refine below_set ?_ GE362.out | refine below_set ?_ GE363.out | refine below_set ?_ GE372.out | refine below_set ?_ GE392.out) | exact HB.out)⟩⟩
                                          · replace c99 := Bool.eq_false_iff.mpr c99
                                            subst c99
                                            have H1 : (some false) = some r := by rw [if_neg (show ¬ (false = true) by decide)] at H; exact H
                                            clear H
                                            have H := H1
                                            clear H1
                                            exact absurd ((Option.some.inj H).trans hr_.out) (by decide)
                                        · replace c96 := Bool.eq_false_iff.mpr c96
                                          subst c96
                                          have H1 : (some false) = some r := by rw [if_neg (show ¬ (false = true) by decide)] at H; exact H
                                          clear H
                                          have H := H1
                                          clear H1
                                          exact absurd ((Option.some.inj H).trans hr_.out) (by decide)
                                      · replace c93 := Bool.eq_false_iff.mpr c93
                                        subst c93
                                        have H1 : (some false) = some r := by rw [if_neg (show ¬ (false = true) by decide)] at H; exact H
                                        clear H
                                        have H := H1
                                        clear H1
                                        exact absurd ((Option.some.inj H).trans hr_.out) (by decide)
                                    · rw [if_neg c91] at H
                                      have c91b0 : (t395 == 0) = false := beq_eq_false_iff_ne.mpr c91
                                      have c91b1 : (t395 != 0) = true := bne_iff_ne.mpr c91
                                      replace H := Option.bind_eq_some_iff.mp H
                                      obtain ⟨⟨t406, t407⟩, A1180, H⟩ := H
                                      replace H : ((interval_Has.f kj68 t406 t407 (rd y374 x59_2)).bind fun t408 => (if t408 = true then ((interval_Widen.f kj68 a1_0 a1_1 a0_0 a0_1).bind fun bt409 => ((interval_Has.f kj68 bt409.1 bt409.2 (rd y374 x59_2)).bind fun t411 => (if t411 = true then (lamplighterlaw19_IntervalSound.l0 kj68 a3 (wrap64 (1 + t367)) a5 t370 y374 (y374.length : Int) (wrap64 (x59_2 + 1)) a0_0 a0_1 a1_0 a1_1 t368 t369) else (some false)))) else (some false))) = some r := H
                                      have A118 := am A1180
                                      clear A1180
                                      replace H := Option.bind_eq_some_iff.mp H
                                      obtain ⟨t408, A1190, H⟩ := H
                                      replace H : (if t408 = true then ((interval_Widen.f kj68 a1_0 a1_1 a0_0 a0_1).bind fun bt409 => ((interval_Has.f kj68 bt409.1 bt409.2 (rd y374 x59_2)).bind fun t411 => (if t411 = true then (lamplighterlaw19_IntervalSound.l0 kj68 a3 (wrap64 (1 + t367)) a5 t370 y374 (y374.length : Int) (wrap64 (x59_2 + 1)) a0_0 a0_1 a1_0 a1_1 t368 t369) else (some false)))) else (some false)) = some r := H
                                      have A119 := am A1190
                                      clear A1190
                                      by_cases c120 : t408 = true
                                      · subst c120
                                        have H1 : ((interval_Widen.f kj68 a1_0 a1_1 a0_0 a0_1).bind fun bt409 => ((interval_Has.f kj68 bt409.1 bt409.2 (rd y374 x59_2)).bind fun t411 => (if t411 = true then (lamplighterlaw19_IntervalSound.l0 kj68 a3 (wrap64 (1 + t367)) a5 t370 y374 (y374.length : Int) (wrap64 (x59_2 + 1)) a0_0 a0_1 a1_0 a1_1 t368 t369) else (some false)))) = some r := by rw [if_pos rfl] at H; exact H
                                        clear H
                                        have H := H1
                                        clear H1
                                        replace H := Option.bind_eq_some_iff.mp H
                                        obtain ⟨⟨t409, t410⟩, A1210, H⟩ := H
                                        replace H : ((interval_Has.f kj68 t409 t410 (rd y374 x59_2)).bind fun t411 => (if t411 = true then (lamplighterlaw19_IntervalSound.l0 kj68 a3 (wrap64 (1 + t367)) a5 t370 y374 (y374.length : Int) (wrap64 (x59_2 + 1)) a0_0 a0_1 a1_0 a1_1 t368 t369) else (some false))) = some r := H
                                        have A121 := am A1210
                                        clear A1210
                                        replace H := Option.bind_eq_some_iff.mp H
                                        obtain ⟨t411, A1220, H⟩ := H
                                        replace H : (if t411 = true then (lamplighterlaw19_IntervalSound.l0 kj68 a3 (wrap64 (1 + t367)) a5 t370 y374 (y374.length : Int) (wrap64 (x59_2 + 1)) a0_0 a0_1 a1_0 a1_1 t368 t369) else (some false)) = some r := H
                                        have A122 := am A1220
                                        clear A1220
                                        by_cases c123 : t411 = true
                                        · subst c123
                                          have H1 : (lamplighterlaw19_IntervalSound.l0 kj68 a3 (wrap64 (1 + t367)) a5 t370 y374 (y374.length : Int) (wrap64 (x59_2 + 1)) a0_0 a0_1 a1_0 a1_1 t368 t369) = some r := by rw [if_pos rfl] at H; exact H
                                          clear H
                                          have H := H1
                                          clear H1
                                          have H' := am H
                                          clear H
                                          go_wp2_with (first | ((with_reducible refine gate_callee (f := 25) rfl ?_); refine goesL_ (some 126) rfl rfl Try.func25 (by kernel_rfl) rfl #[.int .u32 (rd y374 x59_2), .int .i64 a5] rfl (by (try simp only [List.map_toArray, List.map_cons, List.map_nil]); first | done | rfl | (simp only [List.length_drop, List.length_take]; rfl)) ?_; (with_reducible refine (lamplighterref01_Cut.calls (rd y374 x59_2) a5 t394 t395 _ A88.out).mono ?_); rintro e w' ⟨rfl, ⟨nd, rfl⟩⟩; refine ⟨_, rfl, ?_⟩; (try (rw [drewN_self wc]; generalize hq_ : World.drewN wc _ = wc; have n0_ : Aside0 (Kd.R (Kd.int .u32) 22 wc w.heap.size (fun _ => True) (.slice (some ad377) y374.length co42) y374) := ⟨by rw [← hq_]; exact (by (with_reducible repeat (first | apply Kd.R_alloc | apply Kd.R_drewN | apply Kd.R_drew)); exact HO_57.out)⟩; have n1_ : Aside0 (wc.heap[gb362]? = some (.cells #[.int .u32 a0_0, .int .u32 a0_1] 24 (0, 0))) := ⟨by rw [← hq_]; exact (bkA BK362)⟩; have n2_ : Aside0 (wc.heap[gb363]? = some (.cells #[.int .u32 a1_0, .int .u32 a1_1] 24 (0, 0))) := ⟨by rw [← hq_]; exact (bkA BK363)⟩; have n3_ : Aside0 (wc.heap[gb372]? = some (.cells #[.int .u32 t368, .int .u32 t369] 24 (0, 0))) := ⟨by rw [← hq_]; exact (bkA BK372)⟩; have n4_ : Aside0 (wc.heap[gb392]? = some (.cells #[.int .u32 t389, .int .u32 t390] 24 (0, 0))) := ⟨by rw [← hq_]; exact (bkA BK392)⟩; have n5_ : Aside0 (Below w.heap.size w wc) := ⟨by rw [← hq_]; exact (hbA HB)⟩; clear HO_57 BK362 BK363 BK372 BK392 HB hq_; have HO_57 := n0_; have BK362 := n1_; have BK363 := n2_; have BK372 := n3_; have BK392 := n4_; have HB := n5_; clear n0_ n1_ n2_ n3_ n4_ n5_)); have hnb124 := NB362_363.out; have hnc124 := NB363_362.out; have hnb125 := NB362_372.out; have hnc125 := NB372_362.out; have hnb126 := NB362_392.out; have hnc126 := NB392_362.out; have hcz127_0 : wc.cell? ⟨gb362, 0, none⟩ = some (.int .u32 a0_0) := cz BK362; have hcz127_1 : wc.cell? ⟨gb362, 1, none⟩ = some (.int .u32 a0_1) := cz BK362; have hfz127_0 := blk_frozen BK362.out 0; have hfz127_1 := blk_frozen BK362.out 1) | ((with_reducible refine gate_callee (f := 17) rfl ?_); refine goesL_ (some 132) rfl rfl Try.func17 (by kernel_rfl) rfl #[.agg #[.int .u32 a0_0, .int .u32 a0_1], .int .i64 a5] rfl (by (try simp only [List.map_toArray, List.map_cons, List.map_nil]); first | done | rfl | (simp only [List.length_drop, List.length_take]; rfl)) ?_; (with_reducible refine (interval_Cut.calls kj68 a0_0 a0_1 a5 t396 t397 t398 _ A89.out).mono ?_); rintro e w128 ⟨rfl, hb⟩; refine ⟨_, rfl, ?_⟩; have n0_ := am (Kd.R_below (by (with_reducible repeat (first | apply Kd.R_alloc | apply Kd.R_drewN | apply Kd.R_drew)); exact HO_57.out) hb); have n1_ := am (blk_below (g := gb362) (o := .cells #[.int .u32 a0_0, .int .u32 a0_1] 24 (0, 0)) (bkA BK362) hb); have n2_ := am (blk_below (g := gb363) (o := .cells #[.int .u32 a1_0, .int .u32 a1_1] 24 (0, 0)) (bkA BK363) hb); have n3_ := am (blk_below (g := gb372) (o := .cells #[.int .u32 t368, .int .u32 t369] 24 (0, 0)) (bkA BK372) hb); have n4_ := am (blk_below (g := gb392) (o := .cells #[.int .u32 t389, .int .u32 t390] 24 (0, 0)) (bkA BK392) hb); have n5_ := am (below_step (hbA HB) hb); clear HO_57; clear BK362; clear BK363; clear BK372; clear BK392; clear HB; have HO_57 := n0_; have BK362 := n1_; have BK363 := n2_; have BK372 := n3_; have BK392 := n4_; have HB := n5_; clear n0_ n1_ n2_ n3_ n4_ n5_; (try clear hb); (try clear hb2); (try clear hk); (try clear hi); have hnb129 := NB392_363.out; have hnc129 := NB363_392.out; have hnb130 := NB392_372.out; have hnc130 := NB372_392.out; have hcz131_0 : w128.cell? ⟨gb392, 0, none⟩ = some (.int .u32 t389) := cz BK392; have hcz131_1 : w128.cell? ⟨gb392, 1, none⟩ = some (.int .u32 t390) := cz BK392; have hfz131_0 := blk_frozen BK392.out 0; have hfz131_1 := blk_frozen BK392.out 1; have hcz132_0 : w128.cell? ⟨gb362, 0, none⟩ = some (.int .u32 a0_0) := cz BK362; have hcz132_1 : w128.cell? ⟨gb362, 1, none⟩ = some (.int .u32 a0_1) := cz BK362; have hfz132_0 := blk_frozen BK362.out 0; have hfz132_1 := blk_frozen BK362.out 1; have hnb133 := NB363_372.out; have hnc133 := NB372_363.out; have hcz134_0 : w128.cell? ⟨gb363, 0, none⟩ = some (.int .u32 a1_0) := cz BK363; have hcz134_1 : w128.cell? ⟨gb363, 1, none⟩ = some (.int .u32 a1_1) := cz BK363; have hfz134_0 := blk_frozen BK363.out 0; have hfz134_1 := blk_frozen BK363.out 1) | (go_at_call 12; (with_reducible refine (interval_Join.calls kj68 a0_0 a0_1 a1_0 a1_1 t406 t407 _ A118.out).mono ?_); rintro e w135 ⟨rfl, hb⟩; have n0_ := am (Kd.R_below (by (with_reducible repeat (first | apply Kd.R_alloc | apply Kd.R_drewN | apply Kd.R_drew)); exact (Kd.R_mono (Kd.R_far (p := ⟨gb392, 1, none⟩) (Kd.R_far (p := ⟨gb392, 0, none⟩) (Kd.R_types HO_57.out BK392.out (by decide)) (fun _ hk => hk.2) (.int .u32 t396)) (fun _ hk => hk.2) (.int .u32 t397)) (fun _ h_ => h_.1))) hb); have n1_ := am (blk_below (g := gb362) (o := .cells #[.int .u32 a0_0, .int .u32 a0_1] 24 (0, 0)) (by refine bkT ?_; refine blk_far ?_ NB362_392.out _; refine bkT ?_; refine blk_far ?_ NB362_392.out _; refine bkT ?_; exact BK362.out) hb); have n2_ := am (blk_below (g := gb363) (o := .cells #[.int .u32 a1_0, .int .u32 a1_1] 24 (0, 0)) (by refine bkT ?_; refine blk_far ?_ NB363_392.out _; refine bkT ?_; refine blk_far ?_ NB363_392.out _; refine bkT ?_; exact BK363.out) hb); have n3_ := am (blk_below (g := gb372) (o := .cells #[.int .u32 t368, .int .u32 t369] 24 (0, 0)) (by refine bkT ?_; refine blk_far ?_ NB372_392.out _; refine bkT ?_; refine blk_far ?_ NB372_392.out _; refine bkT ?_; exact BK372.out) hb); have n4_ := am (blk_below (g := gb392) (o := .cells #[.int .u32 t396, .int .u32 t397] 24 (0, 0)) (by refine bkT ?_; refine blk_put (cs := #[.int .u32 t396, .int .u32 t390]) ?_ 1 _ rfl; refine bkT ?_; refine blk_put (cs := #[.int .u32 t389, .int .u32 t390]) ?_ 0 _ rfl; refine bkT ?_; exact BK392.out) hb); have n5_ := am (below_step (hbA HB) hb); clear HO_57; clear BK362; clear BK363; clear BK372; clear BK392; clear HB; have HO_57 := n0_; have BK362 := n1_; have BK363 := n2_; have BK372 := n3_; have BK392 := n4_; have HB := n5_; clear n0_ n1_ n2_ n3_ n4_ n5_; (try clear hb); (try clear hb2); (try clear hk); (try clear hi)) | (go_at_call 23; (with_reducible refine (interval_Has.calls kj68 t406 t407 (rd y374 x59_2) true _ A119.out).mono ?_); rintro e w136 ⟨rfl, hb⟩; have n0_ := am (Kd.R_below (by (with_reducible repeat (first | apply Kd.R_alloc | apply Kd.R_drewN | apply Kd.R_drew)); exact HO_57.out) hb); have n1_ := am (blk_below (g := gb362) (o := .cells #[.int .u32 a0_0, .int .u32 a0_1] 24 (0, 0)) (bkA BK362) hb); have n2_ := am (blk_below (g := gb363) (o := .cells #[.int .u32 a1_0, .int .u32 a1_1] 24 (0, 0)) (bkA BK363) hb); have n3_ := am (blk_below (g := gb372) (o := .cells #[.int .u32 t368, .int .u32 t369] 24 (0, 0)) (bkA BK372) hb); have n4_ := am (blk_below (g := gb392) (o := .cells #[.int .u32 t396, .int .u32 t397] 24 (0, 0)) (bkA BK392) hb); have n5_ := am (below_step (hbA HB) hb); clear HO_57; clear BK362; clear BK363; clear BK372; clear BK392; clear HB; have HO_57 := n0_; have BK362 := n1_; have BK363 := n2_; have BK372 := n3_; have BK392 := n4_; have HB := n5_; clear n0_ n1_ n2_ n3_ n4_ n5_; (try clear hb); (try clear hb2); (try clear hk); (try clear hi); have hcz137_0 : w136.cell? ⟨gb363, 0, none⟩ = some (.int .u32 a1_0) := cz BK363; have hcz137_1 : w136.cell? ⟨gb363, 1, none⟩ = some (.int .u32 a1_1) := cz BK363; have hfz137_0 := blk_frozen BK363.out 0; have hfz137_1 := blk_frozen BK363.out 1; have hcz138_0 : w136.cell? ⟨gb362, 0, none⟩ = some (.int .u32 a0_0) := cz BK362; have hcz138_1 : w136.cell? ⟨gb362, 1, none⟩ = some (.int .u32 a0_1) := cz BK362; have hfz138_0 := blk_frozen BK362.out 0; have hfz138_1 := blk_frozen BK362.out 1) | (go_at_call 15; (with_reducible refine (interval_Widen.calls kj68 a1_0 a1_1 a0_0 a0_1 t409 t410 _ A121.out).mono ?_); rintro e w139 ⟨rfl, hb⟩; have n0_ := am (Kd.R_below (by (with_reducible repeat (first | apply Kd.R_alloc | apply Kd.R_drewN | apply Kd.R_drew)); exact HO_57.out) hb); have n1_ := am (blk_below (g := gb362) (o := .cells #[.int .u32 a0_0, .int .u32 a0_1] 24 (0, 0)) (bkA BK362) hb); have n2_ := am (blk_below (g := gb363) (o := .cells #[.int .u32 a1_0, .int .u32 a1_1] 24 (0, 0)) (bkA BK363) hb); have n3_ := am (blk_below (g := gb372) (o := .cells #[.int .u32 t368, .int .u32 t369] 24 (0, 0)) (bkA BK372) hb); have n4_ := am (blk_below (g := gb392) (o := .cells #[.int .u32 t396, .int .u32 t397] 24 (0, 0)) (bkA BK392) hb); have n5_ := am (below_step (hbA HB) hb); clear HO_57; clear BK362; clear BK363; clear BK372; clear BK392; clear HB; have HO_57 := n0_; have BK362 := n1_; have BK363 := n2_; have BK372 := n3_; have BK392 := n4_; have HB := n5_; clear n0_ n1_ n2_ n3_ n4_ n5_; (try clear hb); (try clear hb2); (try clear hk); (try clear hi)) | (go_at_call 23; (with_reducible refine (interval_Has.calls kj68 t409 t410 (rd y374 x59_2) true _ A122.out).mono ?_); rintro e w140 ⟨rfl, hb⟩; have n0_ := am (Kd.R_below (by (with_reducible repeat (first | apply Kd.R_alloc | apply Kd.R_drewN | apply Kd.R_drew)); exact HO_57.out) hb); have n1_ := am (blk_below (g := gb362) (o := .cells #[.int .u32 a0_0, .int .u32 a0_1] 24 (0, 0)) (bkA BK362) hb); have n2_ := am (blk_below (g := gb363) (o := .cells #[.int .u32 a1_0, .int .u32 a1_1] 24 (0, 0)) (bkA BK363) hb); have n3_ := am (blk_below (g := gb372) (o := .cells #[.int .u32 t368, .int .u32 t369] 24 (0, 0)) (bkA BK372) hb); have n4_ := am (blk_below (g := gb392) (o := .cells #[.int .u32 t396, .int .u32 t397] 24 (0, 0)) (bkA BK392) hb); have n5_ := am (below_step (hbA HB) hb); clear HO_57; clear BK362; clear BK363; clear BK372; clear BK392; clear HB; have HO_57 := n0_; have BK362 := n1_; have BK363 := n2_; have BK372 := n3_; have BK392 := n4_; have HB := n5_; clear n0_ n1_ n2_ n3_ n4_ n5_; (try clear hb); (try clear hb2); (try clear hk); (try clear hi)))
                                          go_roundg kj68
                                          case measure => have := HJ8.out; have := HK2.out; have := HK3.out; have := HJ68.out; omega
                                          case rel => exact ⟨(wrap64 (x59_2 + 1)), (by first | rfl | (simp; done) | (simp [*]; done)), H', ⟨by have := HJ8.out; have := HK2.out; have := HK3.out; have := HJ68.out; omega⟩, ⟨by (with_reducible repeat (first | apply Kd.R_alloc | apply Kd.R_drewN | apply Kd.R_drew)); exact HO_57.out⟩, ⟨by refine bkT ?_; exact BK362.out⟩, ⟨by refine bkT ?_; exact BK363.out⟩, ⟨by refine bkT ?_; exact BK372.out⟩, ⟨by repeat (first | (with_reducible first | exact HB.out | apply below_alloc | apply pw_below_drewN | apply below_drew1 | refine below_set ?_ GE362.out | refine below_set ?_ GE363.out | refine below_set ?_ GE372.out | refine below_set ?_ GE392.out) | exact HB.out)⟩⟩
                                        · replace c123 := Bool.eq_false_iff.mpr c123
                                          subst c123
                                          have H1 : (some false) = some r := by rw [if_neg (show ¬ (false = true) by decide)] at H; exact H
                                          clear H
                                          have H := H1
                                          clear H1
                                          exact absurd ((Option.some.inj H).trans hr_.out) (by decide)
                                      · replace c120 := Bool.eq_false_iff.mpr c120
                                        subst c120
                                        have H1 : (some false) = some r := by rw [if_neg (show ¬ (false = true) by decide)] at H; exact H
                                        clear H
                                        have H := H1
                                        clear H1
                                        exact absurd ((Option.some.inj H).trans hr_.out) (by decide)
                    · rw [if_neg c45] at H
                      exact absurd H (by simp)
                  · rw [if_neg c44] at H
                    exact absurd H (by simp)
                · rw [if_neg c43] at H
                  have c43b0 : decide (x59_2 < (y374.length : Int)) = false := decide_eq_false c43
                  clear c43
                  by_cases c141 : t370 = true
                  · subst c141
                    have H1 : (some true) = some r := by rw [if_pos rfl] at H; exact H
                    clear H
                    have H := H1
                    clear H1
                    obtain rfl := Option.some.inj H
                    go_wp2
                    go_ret
                    exact ⟨by first | rfl | (simp [errW_none, errW_some] <;> rfl) | (simp [*, errW_none, errW_some] <;> rfl), hbA HB⟩
                  · replace c141 := Bool.eq_false_iff.mpr c141
                    subst c141
                    have H1 : (some (a1_0 == 0 && (a1_1 == 0))) = some r := by rw [if_neg (show ¬ (false = true) by decide)] at H; exact H
                    clear H
                    have H := H1
                    clear H1
                    obtain rfl := Option.some.inj H
                    have hnb142 := NB363_362.out
                    have hnc142 := NB362_363.out
                    have hnb143 := NB363_372.out
                    have hnc143 := NB372_363.out
                    have hcz144_0 : wr.cell? ⟨gb363, 0, none⟩ = some (.int .u32 a1_0) := cz BK363
                    have hcz144_1 : wr.cell? ⟨gb363, 1, none⟩ = some (.int .u32 a1_1) := cz BK363
                    have hfz144_0 := blk_frozen BK363.out 0
                    have hfz144_1 := blk_frozen BK363.out 1
                    go_wp2
                    go_ret
                    exact ⟨by first | rfl | (simp [errW_none, errW_some] <;> rfl) | (simp [*, errW_none, errW_some] <;> rfl), hbA HB⟩
          · rw [if_neg c27] at H
            have c27b0 : (t371 == 0) = false := beq_eq_false_iff_ne.mpr c27
            have c27b1 : (t371 != 0) = true := bne_iff_ne.mpr c27
            exact absurd ((Option.some.inj H).trans hr_.out) (by decide)
  · replace c8 := Bool.eq_false_iff.mpr c8
    subst c8
    have H1 : (some false) = some r := by rw [if_neg (show ¬ (false = true) by decide)] at H; exact H
    clear H
    have H := H1
    clear H1
    exact absurd ((Option.some.inj H).trans hr_.out) (by decide)

end Go.Proofs.Ytmhmfnjbioplhaa.PIntervalSound
