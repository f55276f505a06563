/- Contracts of Go functions of the given program, written by a program of this session: wherever the plain Lean function NAME.f answers 'some r', the call of the Go function returns r and leaves what was in memory as it was. Conditions: none beyond those that each theorem names. -/
import Derived.Test.YtmhmfnjbioplhaaPIntervalNamesx0
import Derived.Test.YtmhmfnjbioplhaaPIntervalNamesx1
import Derived.Test.YtmhmfnjbioplhaaPIntervalNamesx2
import Derived.Test.YtmhmfnjbioplhaaPIntervalNamesx3
import Derived.Test.YtmhmfnjbioplhaaPIntervalNamesx4
import Derived.Test.YtmhmfnjbioplhaaPIntervalNamesx5
import Derived.Test.YtmhmfnjbioplhaaPIntervalNamesx6
import Derived.Test.YtmhmfnjbioplhaaPIntervalNamesx7
namespace Go.Proofs.Ytmhmfnjbioplhaa.PIntervalNames
open Go.RowKit Go.Proofs.YtmhmfnjbioplhaaW.PrintWords Go.Proofs.YtmhmfnjbioplhaaW.PrintLast Go.Proofs.YtmhmfnjbioplhaaW.PrintMore Go.Proofs.Ytmhmfnjbioplhaa.Help
attribute [local go_sem] max2_int min2_int max_two min_two max_three min_three max_four min_four   -- for this text's walks alone
set_option linter.unusedVariables false
set_option linter.unusedSimpArgs false

attribute [local go_sem high] eqA24
/-! ### lamplighterlaw19_IntervalNames: function 4 -/
def lamplighterlaw19_IntervalNames.f (k : Nat)  : Option (Bool) := (lamplighterlaw19_r.f 0 1).bind fun bt339 => ((lamplighterlaw19_r.f 0 1).bind fun bt341 => ((interval_Do.f k 0 bt339.1 bt339.2 bt341.1 bt341.2).bind fun bt343 => ((lamplighterlaw19_r.f 0 1).bind fun bt348 => ((interval_Un.f k 4 bt348.1 bt348.2).bind fun bt350 => ((lamplighterlaw19_r.f 0 1).bind fun bt354 => ((interval_Cut.f k bt354.1 bt354.2 9).bind fun bt356 => ((lamplighterlaw19_r.f 0 1).bind fun bt360 => ((lamplighterlaw19_r.f 2 3).bind fun bt362 => ((interval_Meet.f k bt360.1 bt360.2 bt362.1 bt362.2).bind fun bt364 => ((lamplighterlaw19_r.f 255 256).bind fun bt368 => ((interval_Cut.f k bt368.1 bt368.2 8).bind fun bt370 => ((lamplighterlaw19_r.f 256 257).bind fun bt374 => ((interval_Cut.f k bt374.1 bt374.2 8).bind fun bt376 => ((lamplighterlaw19_lives.f k).bind fun t380 => (if t380 = true then ((interval_All.f).bind fun bt381 => ((lamplighterlaw19_r.f 0 4294967295).bind fun bt383 => (if (bt381.1 == bt383.1 && (bt381.2 == bt383.2)) = true then ((interval_One.f 3).bind fun bt385 => ((lamplighterlaw19_r.f 3 3).bind fun bt387 => (if (bt385.1 == bt387.1 && (bt385.2 == bt387.2)) = true then ((lamplighterlaw19_r.f 2 1).bind fun bt389 => ((interval_Check.f bt389.1 bt389.2).bind fun t391 => (if t391 = 2 then (if bt343.2.2.2 = 2 then (if bt350.2.2 = 2 then (if bt356.2.2 = 2 then (if bt364.2.2 = true then (some false) else ((lamplighterlaw19_r.f 0 255).bind fun bt392 => (if (bt370.1 == bt392.1 && (bt370.2.1 == bt392.2)) = true then ((lamplighterlaw19_r.f 0 1).bind fun bt394 => (some (bt376.1 == bt394.1 && (bt376.2.1 == bt394.2)))) else (some false)))) else (some false)) else (some false)) else (some false)) else (some false)))) else (some false)))) else (some false)))) else (some false))))))))))))))))
theorem lamplighterlaw19_IntervalNames.mono : ∀ k, LeO (lamplighterlaw19_IntervalNames.f k ) (lamplighterlaw19_IntervalNames.f (k + 1) ) := by
  intro  k
  unfold lamplighterlaw19_IntervalNames.f
  repeat' first
      | (with_reducible exact interval_Cut.mono _ _ _ _)
      | (with_reducible exact interval_Do.mono _ _ _ _ _ _)
      | (with_reducible exact interval_Meet.mono _ _ _ _ _)
      | (with_reducible exact interval_Un.mono _ _ _ _)
      | (with_reducible exact lamplighterlaw19_lives.mono _)
      | (with_reducible exact LeO.refl _)
      | (with_reducible exact LeO.none _)
      | (with_reducible refine LeO.ite ?_ ?_)
      | (with_reducible refine LeO.bind ?_ (fun _ => ?_))
      | exact interval_Cut.mono _ _ _ _
      | exact interval_Do.mono _ _ _ _ _ _
      | exact interval_Meet.mono _ _ _ _ _
      | exact interval_Un.mono _ _ _ _
      | exact lamplighterlaw19_lives.mono _
      | exact LeO.none _
      | refine LeO.ite ?_ ?_
      | refine LeO.bind ?_ (fun _ => ?_)
def lamplighterlaw19_IntervalNames.T7 : Bool × List (List Nat × List Nat) := (true, [([], []), ([0, 0], [0]), ([1, 1], [1]), ([2, 1], [1]), ([2, 3, 1], [1, 2, 3]), ([1, 4], [1, 4]), ([5, 3], [5]), ([6, 6], [6]), ([7, 6], [6]), ([7, 8, 6], [6, 7, 8]), ([6, 9], [6, 9]), ([10, 8], [10]), ([11, 11], [11]), ([12, 12, 11], [11, 12]), ([13, 11], [11, 13]), ([11, 14], [11, 14]), ([15, 13], [15]), ([16], [16]), ([17, 16], [16, 17]), ([16, 18], [16, 18]), ([19, 16], [19]), ([20], [20]), ([21, 20], [20, 21]), ([20, 22], [20, 22]), ([23, 20], [23]), ([24], [24]), ([25, 24], [24, 25]), ([24, 26], [24, 26]), ([27, 24], [27]), ([28], [28]), ([29, 28], [28, 29]), ([28, 30], [28, 30]), ([31, 28], [31]), ([32], [32]), ([32, 32], [32]), ([33, 34, 32], [32, 33, 34]), ([32, 35], [32, 35]), ([36, 34], [36]), ([37], [37]), ([37, 37], [37]), ([38, 39, 37], [37, 38, 39]), ([37, 40], [37, 40]), ([41, 39, 0, 1, 2, 3, 4, 5, 6, 7, 8, 9, 10, 11, 12, 13, 14, 15, 16, 17, 18, 19, 20, 21, 22, 23, 24, 25, 26, 27, 28, 29, 30, 31, 32, 33, 34, 35, 36, 37, 38, 39, 40, 41], [41])])
def lamplighterlaw19_IntervalNames.B7 : List Nat := [0, 1, 3, 7, 15, 31, 63, 127, 255, 511, 1023, 2047, 4095, 8191, 16383, 32767, 65535, 131071, 262143, 524287, 1048575, 2097151, 4194303, 8388607, 16777215, 33554431, 67108863, 134217727, 268435455, 536870911, 1073741823, 2147483647, 4294967295, 8589934591, 8589934591, 34359738367, 68719476735, 137438953471, 274877906943, 274877906943, 1099511627775, 2199023255551, 4398046511103]
theorem lamplighterlaw19_IntervalNames.tab7 : rtab .any (opsOf Try.f4 7) = lamplighterlaw19_IntervalNames.T7 := by kernel_rfl
theorem lamplighterlaw19_IntervalNames.bits7 : waitsOk lamplighterlaw19_IntervalNames.T7.2 lamplighterlaw19_IntervalNames.B7 = true := by kernel_rfl
set_option maxHeartbeats 8000000 in
set_option maxRecDepth 100000 in
theorem lamplighterlaw19_IntervalNames.calls (k : Nat)  (r : Bool) (w : World) (h : lamplighterlaw19_IntervalNames.f k  = some r) (hr_ : Aside0 (r = true)) :
    Calls Try.prog 4 #[] w fun e w' => e = .returned (.bool r) ∧ Below w.heap.size w w' := by
  have hu24 := Try.underlying24
  have HB := am (Below.refl w.heap.size w)
  have H : ((lamplighterlaw19_r.f 0 1).bind fun bt339 => ((lamplighterlaw19_r.f 0 1).bind fun bt341 => ((interval_Do.f k 0 bt339.1 bt339.2 bt341.1 bt341.2).bind fun bt343 => ((lamplighterlaw19_r.f 0 1).bind fun bt348 => ((interval_Un.f k 4 bt348.1 bt348.2).bind fun bt350 => ((lamplighterlaw19_r.f 0 1).bind fun bt354 => ((interval_Cut.f k bt354.1 bt354.2 9).bind fun bt356 => ((lamplighterlaw19_r.f 0 1).bind fun bt360 => ((lamplighterlaw19_r.f 2 3).bind fun bt362 => ((interval_Meet.f k bt360.1 bt360.2 bt362.1 bt362.2).bind fun bt364 => ((lamplighterlaw19_r.f 255 256).bind fun bt368 => ((interval_Cut.f k bt368.1 bt368.2 8).bind fun bt370 => ((lamplighterlaw19_r.f 256 257).bind fun bt374 => ((interval_Cut.f k bt374.1 bt374.2 8).bind fun bt376 => ((lamplighterlaw19_lives.f k).bind fun t380 => (if t380 = true then ((interval_All.f).bind fun bt381 => ((lamplighterlaw19_r.f 0 4294967295).bind fun bt383 => (if (bt381.1 == bt383.1 && (bt381.2 == bt383.2)) = true then ((interval_One.f 3).bind fun bt385 => ((lamplighterlaw19_r.f 3 3).bind fun bt387 => (if (bt385.1 == bt387.1 && (bt385.2 == bt387.2)) = true then ((lamplighterlaw19_r.f 2 1).bind fun bt389 => ((interval_Check.f bt389.1 bt389.2).bind fun t391 => (if t391 = 2 then (if bt343.2.2.2 = 2 then (if bt350.2.2 = 2 then (if bt356.2.2 = 2 then (if bt364.2.2 = true then (some false) else ((lamplighterlaw19_r.f 0 255).bind fun bt392 => (if (bt370.1 == bt392.1 && (bt370.2.1 == bt392.2)) = true then ((lamplighterlaw19_r.f 0 1).bind fun bt394 => (some (bt376.1 == bt394.1 && (bt376.2.1 == bt394.2)))) else (some false)))) else (some false)) else (some false)) else (some false)) else (some false)))) else (some false)))) else (some false)))) else (some false))))))))))))))))) = some r := h
  clear h
  replace H := Option.bind_eq_some_iff.mp H
  obtain ⟨⟨t339, t340⟩, A10, H⟩ := H
  replace H : ((lamplighterlaw19_r.f 0 1).bind fun bt341 => ((interval_Do.f k 0 t339 t340 bt341.1 bt341.2).bind fun bt343 => ((lamplighterlaw19_r.f 0 1).bind fun bt348 => ((interval_Un.f k 4 bt348.1 bt348.2).bind fun bt350 => ((lamplighterlaw19_r.f 0 1).bind fun bt354 => ((interval_Cut.f k bt354.1 bt354.2 9).bind fun bt356 => ((lamplighterlaw19_r.f 0 1).bind fun bt360 => ((lamplighterlaw19_r.f 2 3).bind fun bt362 => ((interval_Meet.f k bt360.1 bt360.2 bt362.1 bt362.2).bind fun bt364 => ((lamplighterlaw19_r.f 255 256).bind fun bt368 => ((interval_Cut.f k bt368.1 bt368.2 8).bind fun bt370 => ((lamplighterlaw19_r.f 256 257).bind fun bt374 => ((interval_Cut.f k bt374.1 bt374.2 8).bind fun bt376 => ((lamplighterlaw19_lives.f k).bind fun t380 => (if t380 = true then ((interval_All.f).bind fun bt381 => ((lamplighterlaw19_r.f 0 4294967295).bind fun bt383 => (if (bt381.1 == bt383.1 && (bt381.2 == bt383.2)) = true then ((interval_One.f 3).bind fun bt385 => ((lamplighterlaw19_r.f 3 3).bind fun bt387 => (if (bt385.1 == bt387.1 && (bt385.2 == bt387.2)) = true then ((lamplighterlaw19_r.f 2 1).bind fun bt389 => ((interval_Check.f bt389.1 bt389.2).bind fun t391 => (if t391 = 2 then (if bt343.2.2.2 = 2 then (if bt350.2.2 = 2 then (if bt356.2.2 = 2 then (if bt364.2.2 = true then (some false) else ((lamplighterlaw19_r.f 0 255).bind fun bt392 => (if (bt370.1 == bt392.1 && (bt370.2.1 == bt392.2)) = true then ((lamplighterlaw19_r.f 0 1).bind fun bt394 => (some (bt376.1 == bt394.1 && (bt376.2.1 == bt394.2)))) else (some false)))) else (some false)) else (some false)) else (some false)) else (some false)))) else (some false)))) else (some false)))) else (some false)))))))))))))))) = some r := H
  have A1 := am A10
  clear A10
  replace H := Option.bind_eq_some_iff.mp H
  obtain ⟨⟨t341, t342⟩, A20, H⟩ := H
  replace H : ((interval_Do.f k 0 t339 t340 t341 t342).bind fun bt343 => ((lamplighterlaw19_r.f 0 1).bind fun bt348 => ((interval_Un.f k 4 bt348.1 bt348.2).bind fun bt350 => ((lamplighterlaw19_r.f 0 1).bind fun bt354 => ((interval_Cut.f k bt354.1 bt354.2 9).bind fun bt356 => ((lamplighterlaw19_r.f 0 1).bind fun bt360 => ((lamplighterlaw19_r.f 2 3).bind fun bt362 => ((interval_Meet.f k bt360.1 bt360.2 bt362.1 bt362.2).bind fun bt364 => ((lamplighterlaw19_r.f 255 256).bind fun bt368 => ((interval_Cut.f k bt368.1 bt368.2 8).bind fun bt370 => ((lamplighterlaw19_r.f 256 257).bind fun bt374 => ((interval_Cut.f k bt374.1 bt374.2 8).bind fun bt376 => ((lamplighterlaw19_lives.f k).bind fun t380 => (if t380 = true then ((interval_All.f).bind fun bt381 => ((lamplighterlaw19_r.f 0 4294967295).bind fun bt383 => (if (bt381.1 == bt383.1 && (bt381.2 == bt383.2)) = true then ((interval_One.f 3).bind fun bt385 => ((lamplighterlaw19_r.f 3 3).bind fun bt387 => (if (bt385.1 == bt387.1 && (bt385.2 == bt387.2)) = true then ((lamplighterlaw19_r.f 2 1).bind fun bt389 => ((interval_Check.f bt389.1 bt389.2).bind fun t391 => (if t391 = 2 then (if bt343.2.2.2 = 2 then (if bt350.2.2 = 2 then (if bt356.2.2 = 2 then (if bt364.2.2 = true then (some false) else ((lamplighterlaw19_r.f 0 255).bind fun bt392 => (if (bt370.1 == bt392.1 && (bt370.2.1 == bt392.2)) = true then ((lamplighterlaw19_r.f 0 1).bind fun bt394 => (some (bt376.1 == bt394.1 && (bt376.2.1 == bt394.2)))) else (some false)))) else (some false)) else (some false)) else (some false)) else (some false)))) else (some false)))) else (some false)))) else (some false))))))))))))))) = some r := H
  have A2 := am A20
  clear A20
  replace H := Option.bind_eq_some_iff.mp H
  obtain ⟨⟨t343, t344, t345, t346⟩, A30, H⟩ := H
  replace H : ((lamplighterlaw19_r.f 0 1).bind fun bt348 => ((interval_Un.f k 4 bt348.1 bt348.2).bind fun bt350 => ((lamplighterlaw19_r.f 0 1).bind fun bt354 => ((interval_Cut.f k bt354.1 bt354.2 9).bind fun bt356 => ((lamplighterlaw19_r.f 0 1).bind fun bt360 => ((lamplighterlaw19_r.f 2 3).bind fun bt362 => ((interval_Meet.f k bt360.1 bt360.2 bt362.1 bt362.2).bind fun bt364 => ((lamplighterlaw19_r.f 255 256).bind fun bt368 => ((interval_Cut.f k bt368.1 bt368.2 8).bind fun bt370 => ((lamplighterlaw19_r.f 256 257).bind fun bt374 => ((interval_Cut.f k bt374.1 bt374.2 8).bind fun bt376 => ((lamplighterlaw19_lives.f k).bind fun t380 => (if t380 = true then ((interval_All.f).bind fun bt381 => ((lamplighterlaw19_r.f 0 4294967295).bind fun bt383 => (if (bt381.1 == bt383.1 && (bt381.2 == bt383.2)) = true then ((interval_One.f 3).bind fun bt385 => ((lamplighterlaw19_r.f 3 3).bind fun bt387 => (if (bt385.1 == bt387.1 && (bt385.2 == bt387.2)) = true then ((lamplighterlaw19_r.f 2 1).bind fun bt389 => ((interval_Check.f bt389.1 bt389.2).bind fun t391 => (if t391 = 2 then (if t346 = 2 then (if bt350.2.2 = 2 then (if bt356.2.2 = 2 then (if bt364.2.2 = true then (some false) else ((lamplighterlaw19_r.f 0 255).bind fun bt392 => (if (bt370.1 == bt392.1 && (bt370.2.1 == bt392.2)) = true then ((lamplighterlaw19_r.f 0 1).bind fun bt394 => (some (bt376.1 == bt394.1 && (bt376.2.1 == bt394.2)))) else (some false)))) else (some false)) else (some false)) else (some false)) else (some false)))) else (some false)))) else (some false)))) else (some false)))))))))))))) = some r := H
  have A3 := am A30
  clear A30
  replace H := Option.bind_eq_some_iff.mp H
  obtain ⟨⟨t348, t349⟩, A40, H⟩ := H
  replace H : ((interval_Un.f k 4 t348 t349).bind fun bt350 => ((lamplighterlaw19_r.f 0 1).bind fun bt354 => ((interval_Cut.f k bt354.1 bt354.2 9).bind fun bt356 => ((lamplighterlaw19_r.f 0 1).bind fun bt360 => ((lamplighterlaw19_r.f 2 3).bind fun bt362 => ((interval_Meet.f k bt360.1 bt360.2 bt362.1 bt362.2).bind fun bt364 => ((lamplighterlaw19_r.f 255 256).bind fun bt368 => ((interval_Cut.f k bt368.1 bt368.2 8).bind fun bt370 => ((lamplighterlaw19_r.f 256 257).bind fun bt374 => ((interval_Cut.f k bt374.1 bt374.2 8).bind fun bt376 => ((lamplighterlaw19_lives.f k).bind fun t380 => (if t380 = true then ((interval_All.f).bind fun bt381 => ((lamplighterlaw19_r.f 0 4294967295).bind fun bt383 => (if (bt381.1 == bt383.1 && (bt381.2 == bt383.2)) = true then ((interval_One.f 3).bind fun bt385 => ((lamplighterlaw19_r.f 3 3).bind fun bt387 => (if (bt385.1 == bt387.1 && (bt385.2 == bt387.2)) = true then ((lamplighterlaw19_r.f 2 1).bind fun bt389 => ((interval_Check.f bt389.1 bt389.2).bind fun t391 => (if t391 = 2 then (if t346 = 2 then (if bt350.2.2 = 2 then (if bt356.2.2 = 2 then (if bt364.2.2 = true then (some false) else ((lamplighterlaw19_r.f 0 255).bind fun bt392 => (if (bt370.1 == bt392.1 && (bt370.2.1 == bt392.2)) = true then ((lamplighterlaw19_r.f 0 1).bind fun bt394 => (some (bt376.1 == bt394.1 && (bt376.2.1 == bt394.2)))) else (some false)))) else (some false)) else (some false)) else (some false)) else (some false)))) else (some false)))) else (some false)))) else (some false))))))))))))) = some r := H
  have A4 := am A40
  clear A40
  replace H := Option.bind_eq_some_iff.mp H
  obtain ⟨⟨t350, t351, t352⟩, A50, H⟩ := H
  replace H : ((lamplighterlaw19_r.f 0 1).bind fun bt354 => ((interval_Cut.f k bt354.1 bt354.2 9).bind fun bt356 => ((lamplighterlaw19_r.f 0 1).bind fun bt360 => ((lamplighterlaw19_r.f 2 3).bind fun bt362 => ((interval_Meet.f k bt360.1 bt360.2 bt362.1 bt362.2).bind fun bt364 => ((lamplighterlaw19_r.f 255 256).bind fun bt368 => ((interval_Cut.f k bt368.1 bt368.2 8).bind fun bt370 => ((lamplighterlaw19_r.f 256 257).bind fun bt374 => ((interval_Cut.f k bt374.1 bt374.2 8).bind fun bt376 => ((lamplighterlaw19_lives.f k).bind fun t380 => (if t380 = true then ((interval_All.f).bind fun bt381 => ((lamplighterlaw19_r.f 0 4294967295).bind fun bt383 => (if (bt381.1 == bt383.1 && (bt381.2 == bt383.2)) = true then ((interval_One.f 3).bind fun bt385 => ((lamplighterlaw19_r.f 3 3).bind fun bt387 => (if (bt385.1 == bt387.1 && (bt385.2 == bt387.2)) = true then ((lamplighterlaw19_r.f 2 1).bind fun bt389 => ((interval_Check.f bt389.1 bt389.2).bind fun t391 => (if t391 = 2 then (if t346 = 2 then (if t352 = 2 then (if bt356.2.2 = 2 then (if bt364.2.2 = true then (some false) else ((lamplighterlaw19_r.f 0 255).bind fun bt392 => (if (bt370.1 == bt392.1 && (bt370.2.1 == bt392.2)) = true then ((lamplighterlaw19_r.f 0 1).bind fun bt394 => (some (bt376.1 == bt394.1 && (bt376.2.1 == bt394.2)))) else (some false)))) else (some false)) else (some false)) else (some false)) else (some false)))) else (some false)))) else (some false)))) else (some false)))))))))))) = some r := H
  have A5 := am A50
  clear A50
  replace H := Option.bind_eq_some_iff.mp H
  obtain ⟨⟨t354, t355⟩, A60, H⟩ := H
  replace H : ((interval_Cut.f k t354 t355 9).bind fun bt356 => ((lamplighterlaw19_r.f 0 1).bind fun bt360 => ((lamplighterlaw19_r.f 2 3).bind fun bt362 => ((interval_Meet.f k bt360.1 bt360.2 bt362.1 bt362.2).bind fun bt364 => ((lamplighterlaw19_r.f 255 256).bind fun bt368 => ((interval_Cut.f k bt368.1 bt368.2 8).bind fun bt370 => ((lamplighterlaw19_r.f 256 257).bind fun bt374 => ((interval_Cut.f k bt374.1 bt374.2 8).bind fun bt376 => ((lamplighterlaw19_lives.f k).bind fun t380 => (if t380 = true then ((interval_All.f).bind fun bt381 => ((lamplighterlaw19_r.f 0 4294967295).bind fun bt383 => (if (bt381.1 == bt383.1 && (bt381.2 == bt383.2)) = true then ((interval_One.f 3).bind fun bt385 => ((lamplighterlaw19_r.f 3 3).bind fun bt387 => (if (bt385.1 == bt387.1 && (bt385.2 == bt387.2)) = true then ((lamplighterlaw19_r.f 2 1).bind fun bt389 => ((interval_Check.f bt389.1 bt389.2).bind fun t391 => (if t391 = 2 then (if t346 = 2 then (if t352 = 2 then (if bt356.2.2 = 2 then (if bt364.2.2 = true then (some false) else ((lamplighterlaw19_r.f 0 255).bind fun bt392 => (if (bt370.1 == bt392.1 && (bt370.2.1 == bt392.2)) = true then ((lamplighterlaw19_r.f 0 1).bind fun bt394 => (some (bt376.1 == bt394.1 && (bt376.2.1 == bt394.2)))) else (some false)))) else (some false)) else (some false)) else (some false)) else (some false)))) else (some false)))) else (some false)))) else (some false))))))))))) = some r := H
  have A6 := am A60
  clear A60
  replace H := Option.bind_eq_some_iff.mp H
  obtain ⟨⟨t356, t357, t358⟩, A70, H⟩ := H
  replace H : ((lamplighterlaw19_r.f 0 1).bind fun bt360 => ((lamplighterlaw19_r.f 2 3).bind fun bt362 => ((interval_Meet.f k bt360.1 bt360.2 bt362.1 bt362.2).bind fun bt364 => ((lamplighterlaw19_r.f 255 256).bind fun bt368 => ((interval_Cut.f k bt368.1 bt368.2 8).bind fun bt370 => ((lamplighterlaw19_r.f 256 257).bind fun bt374 => ((interval_Cut.f k bt374.1 bt374.2 8).bind fun bt376 => ((lamplighterlaw19_lives.f k).bind fun t380 => (if t380 = true then ((interval_All.f).bind fun bt381 => ((lamplighterlaw19_r.f 0 4294967295).bind fun bt383 => (if (bt381.1 == bt383.1 && (bt381.2 == bt383.2)) = true then ((interval_One.f 3).bind fun bt385 => ((lamplighterlaw19_r.f 3 3).bind fun bt387 => (if (bt385.1 == bt387.1 && (bt385.2 == bt387.2)) = true then ((lamplighterlaw19_r.f 2 1).bind fun bt389 => ((interval_Check.f bt389.1 bt389.2).bind fun t391 => (if t391 = 2 then (if t346 = 2 then (if t352 = 2 then (if t358 = 2 then (if bt364.2.2 = true then (some false) else ((lamplighterlaw19_r.f 0 255).bind fun bt392 => (if (bt370.1 == bt392.1 && (bt370.2.1 == bt392.2)) = true then ((lamplighterlaw19_r.f 0 1).bind fun bt394 => (some (bt376.1 == bt394.1 && (bt376.2.1 == bt394.2)))) else (some false)))) else (some false)) else (some false)) else (some false)) else (some false)))) else (some false)))) else (some false)))) else (some false)))))))))) = some r := H
  have A7 := am A70
  clear A70
  replace H := Option.bind_eq_some_iff.mp H
  obtain ⟨⟨t360, t361⟩, A80, H⟩ := H
  replace H : ((lamplighterlaw19_r.f 2 3).bind fun bt362 => ((interval_Meet.f k t360 t361 bt362.1 bt362.2).bind fun bt364 => ((lamplighterlaw19_r.f 255 256).bind fun bt368 => ((interval_Cut.f k bt368.1 bt368.2 8).bind fun bt370 => ((lamplighterlaw19_r.f 256 257).bind fun bt374 => ((interval_Cut.f k bt374.1 bt374.2 8).bind fun bt376 => ((lamplighterlaw19_lives.f k).bind fun t380 => (if t380 = true then ((interval_All.f).bind fun bt381 => ((lamplighterlaw19_r.f 0 4294967295).bind fun bt383 => (if (bt381.1 == bt383.1 && (bt381.2 == bt383.2)) = true then ((interval_One.f 3).bind fun bt385 => ((lamplighterlaw19_r.f 3 3).bind fun bt387 => (if (bt385.1 == bt387.1 && (bt385.2 == bt387.2)) = true then ((lamplighterlaw19_r.f 2 1).bind fun bt389 => ((interval_Check.f bt389.1 bt389.2).bind fun t391 => (if t391 = 2 then (if t346 = 2 then (if t352 = 2 then (if t358 = 2 then (if bt364.2.2 = true then (some false) else ((lamplighterlaw19_r.f 0 255).bind fun bt392 => (if (bt370.1 == bt392.1 && (bt370.2.1 == bt392.2)) = true then ((lamplighterlaw19_r.f 0 1).bind fun bt394 => (some (bt376.1 == bt394.1 && (bt376.2.1 == bt394.2)))) else (some false)))) else (some false)) else (some false)) else (some false)) else (some false)))) else (some false)))) else (some false)))) else (some false))))))))) = some r := H
  have A8 := am A80
  clear A80
  replace H := Option.bind_eq_some_iff.mp H
  obtain ⟨⟨t362, t363⟩, A90, H⟩ := H
  replace H : ((interval_Meet.f k t360 t361 t362 t363).bind fun bt364 => ((lamplighterlaw19_r.f 255 256).bind fun bt368 => ((interval_Cut.f k bt368.1 bt368.2 8).bind fun bt370 => ((lamplighterlaw19_r.f 256 257).bind fun bt374 => ((interval_Cut.f k bt374.1 bt374.2 8).bind fun bt376 => ((lamplighterlaw19_lives.f k).bind fun t380 => (if t380 = true then ((interval_All.f).bind fun bt381 => ((lamplighterlaw19_r.f 0 4294967295).bind fun bt383 => (if (bt381.1 == bt383.1 && (bt381.2 == bt383.2)) = true then ((interval_One.f 3).bind fun bt385 => ((lamplighterlaw19_r.f 3 3).bind fun bt387 => (if (bt385.1 == bt387.1 && (bt385.2 == bt387.2)) = true then ((lamplighterlaw19_r.f 2 1).bind fun bt389 => ((interval_Check.f bt389.1 bt389.2).bind fun t391 => (if t391 = 2 then (if t346 = 2 then (if t352 = 2 then (if t358 = 2 then (if bt364.2.2 = true then (some false) else ((lamplighterlaw19_r.f 0 255).bind fun bt392 => (if (bt370.1 == bt392.1 && (bt370.2.1 == bt392.2)) = true then ((lamplighterlaw19_r.f 0 1).bind fun bt394 => (some (bt376.1 == bt394.1 && (bt376.2.1 == bt394.2)))) else (some false)))) else (some false)) else (some false)) else (some false)) else (some false)))) else (some false)))) else (some false)))) else (some false)))))))) = some r := H
  have A9 := am A90
  clear A90
  replace H := Option.bind_eq_some_iff.mp H
  obtain ⟨⟨t364, t365, t366⟩, A100, H⟩ := H
  replace H : ((lamplighterlaw19_r.f 255 256).bind fun bt368 => ((interval_Cut.f k bt368.1 bt368.2 8).bind fun bt370 => ((lamplighterlaw19_r.f 256 257).bind fun bt374 => ((interval_Cut.f k bt374.1 bt374.2 8).bind fun bt376 => ((lamplighterlaw19_lives.f k).bind fun t380 => (if t380 = true then ((interval_All.f).bind fun bt381 => ((lamplighterlaw19_r.f 0 4294967295).bind fun bt383 => (if (bt381.1 == bt383.1 && (bt381.2 == bt383.2)) = true then ((interval_One.f 3).bind fun bt385 => ((lamplighterlaw19_r.f 3 3).bind fun bt387 => (if (bt385.1 == bt387.1 && (bt385.2 == bt387.2)) = true then ((lamplighterlaw19_r.f 2 1).bind fun bt389 => ((interval_Check.f bt389.1 bt389.2).bind fun t391 => (if t391 = 2 then (if t346 = 2 then (if t352 = 2 then (if t358 = 2 then (if t366 = true then (some false) else ((lamplighterlaw19_r.f 0 255).bind fun bt392 => (if (bt370.1 == bt392.1 && (bt370.2.1 == bt392.2)) = true then ((lamplighterlaw19_r.f 0 1).bind fun bt394 => (some (bt376.1 == bt394.1 && (bt376.2.1 == bt394.2)))) else (some false)))) else (some false)) else (some false)) else (some false)) else (some false)))) else (some false)))) else (some false)))) else (some false))))))) = some r := H
  have A10 := am A100
  clear A100
  replace H := Option.bind_eq_some_iff.mp H
  obtain ⟨⟨t368, t369⟩, A110, H⟩ := H
  replace H : ((interval_Cut.f k t368 t369 8).bind fun bt370 => ((lamplighterlaw19_r.f 256 257).bind fun bt374 => ((interval_Cut.f k bt374.1 bt374.2 8).bind fun bt376 => ((lamplighterlaw19_lives.f k).bind fun t380 => (if t380 = true then ((interval_All.f).bind fun bt381 => ((lamplighterlaw19_r.f 0 4294967295).bind fun bt383 => (if (bt381.1 == bt383.1 && (bt381.2 == bt383.2)) = true then ((interval_One.f 3).bind fun bt385 => ((lamplighterlaw19_r.f 3 3).bind fun bt387 => (if (bt385.1 == bt387.1 && (bt385.2 == bt387.2)) = true then ((lamplighterlaw19_r.f 2 1).bind fun bt389 => ((interval_Check.f bt389.1 bt389.2).bind fun t391 => (if t391 = 2 then (if t346 = 2 then (if t352 = 2 then (if t358 = 2 then (if t366 = true then (some false) else ((lamplighterlaw19_r.f 0 255).bind fun bt392 => (if (bt370.1 == bt392.1 && (bt370.2.1 == bt392.2)) = true then ((lamplighterlaw19_r.f 0 1).bind fun bt394 => (some (bt376.1 == bt394.1 && (bt376.2.1 == bt394.2)))) else (some false)))) else (some false)) else (some false)) else (some false)) else (some false)))) else (some false)))) else (some false)))) else (some false)))))) = some r := H
  have A11 := am A110
  clear A110
  replace H := Option.bind_eq_some_iff.mp H
  obtain ⟨⟨t370, t371, t372⟩, A120, H⟩ := H
  replace H : ((lamplighterlaw19_r.f 256 257).bind fun bt374 => ((interval_Cut.f k bt374.1 bt374.2 8).bind fun bt376 => ((lamplighterlaw19_lives.f k).bind fun t380 => (if t380 = true then ((interval_All.f).bind fun bt381 => ((lamplighterlaw19_r.f 0 4294967295).bind fun bt383 => (if (bt381.1 == bt383.1 && (bt381.2 == bt383.2)) = true then ((interval_One.f 3).bind fun bt385 => ((lamplighterlaw19_r.f 3 3).bind fun bt387 => (if (bt385.1 == bt387.1 && (bt385.2 == bt387.2)) = true then ((lamplighterlaw19_r.f 2 1).bind fun bt389 => ((interval_Check.f bt389.1 bt389.2).bind fun t391 => (if t391 = 2 then (if t346 = 2 then (if t352 = 2 then (if t358 = 2 then (if t366 = true then (some false) else ((lamplighterlaw19_r.f 0 255).bind fun bt392 => (if (t370 == bt392.1 && (t371 == bt392.2)) = true then ((lamplighterlaw19_r.f 0 1).bind fun bt394 => (some (bt376.1 == bt394.1 && (bt376.2.1 == bt394.2)))) else (some false)))) else (some false)) else (some false)) else (some false)) else (some false)))) else (some false)))) else (some false)))) else (some false))))) = some r := H
  have A12 := am A120
  clear A120
  replace H := Option.bind_eq_some_iff.mp H
  obtain ⟨⟨t374, t375⟩, A130, H⟩ := H
  replace H : ((interval_Cut.f k t374 t375 8).bind fun bt376 => ((lamplighterlaw19_lives.f k).bind fun t380 => (if t380 = true then ((interval_All.f).bind fun bt381 => ((lamplighterlaw19_r.f 0 4294967295).bind fun bt383 => (if (bt381.1 == bt383.1 && (bt381.2 == bt383.2)) = true then ((interval_One.f 3).bind fun bt385 => ((lamplighterlaw19_r.f 3 3).bind fun bt387 => (if (bt385.1 == bt387.1 && (bt385.2 == bt387.2)) = true then ((lamplighterlaw19_r.f 2 1).bind fun bt389 => ((interval_Check.f bt389.1 bt389.2).bind fun t391 => (if t391 = 2 then (if t346 = 2 then (if t352 = 2 then (if t358 = 2 then (if t366 = true then (some false) else ((lamplighterlaw19_r.f 0 255).bind fun bt392 => (if (t370 == bt392.1 && (t371 == bt392.2)) = true then ((lamplighterlaw19_r.f 0 1).bind fun bt394 => (some (bt376.1 == bt394.1 && (bt376.2.1 == bt394.2)))) else (some false)))) else (some false)) else (some false)) else (some false)) else (some false)))) else (some false)))) else (some false)))) else (some false)))) = some r := H
  have A13 := am A130
  clear A130
  replace H := Option.bind_eq_some_iff.mp H
  obtain ⟨⟨t376, t377, t378⟩, A140, H⟩ := H
  replace H : ((lamplighterlaw19_lives.f k).bind fun t380 => (if t380 = true then ((interval_All.f).bind fun bt381 => ((lamplighterlaw19_r.f 0 4294967295).bind fun bt383 => (if (bt381.1 == bt383.1 && (bt381.2 == bt383.2)) = true then ((interval_One.f 3).bind fun bt385 => ((lamplighterlaw19_r.f 3 3).bind fun bt387 => (if (bt385.1 == bt387.1 && (bt385.2 == bt387.2)) = true then ((lamplighterlaw19_r.f 2 1).bind fun bt389 => ((interval_Check.f bt389.1 bt389.2).bind fun t391 => (if t391 = 2 then (if t346 = 2 then (if t352 = 2 then (if t358 = 2 then (if t366 = true then (some false) else ((lamplighterlaw19_r.f 0 255).bind fun bt392 => (if (t370 == bt392.1 && (t371 == bt392.2)) = true then ((lamplighterlaw19_r.f 0 1).bind fun bt394 => (some (t376 == bt394.1 && (t377 == bt394.2)))) else (some false)))) else (some false)) else (some false)) else (some false)) else (some false)))) else (some false)))) else (some false)))) else (some false))) = some r := H
  have A14 := am A140
  clear A140
  replace H := Option.bind_eq_some_iff.mp H
  obtain ⟨t380, A150, H⟩ := H
  replace H : (if t380 = true then ((interval_All.f).bind fun bt381 => ((lamplighterlaw19_r.f 0 4294967295).bind fun bt383 => (if (bt381.1 == bt383.1 && (bt381.2 == bt383.2)) = true then ((interval_One.f 3).bind fun bt385 => ((lamplighterlaw19_r.f 3 3).bind fun bt387 => (if (bt385.1 == bt387.1 && (bt385.2 == bt387.2)) = true then ((lamplighterlaw19_r.f 2 1).bind fun bt389 => ((interval_Check.f bt389.1 bt389.2).bind fun t391 => (if t391 = 2 then (if t346 = 2 then (if t352 = 2 then (if t358 = 2 then (if t366 = true then (some false) else ((lamplighterlaw19_r.f 0 255).bind fun bt392 => (if (t370 == bt392.1 && (t371 == bt392.2)) = true then ((lamplighterlaw19_r.f 0 1).bind fun bt394 => (some (t376 == bt394.1 && (t377 == bt394.2)))) else (some false)))) else (some false)) else (some false)) else (some false)) else (some false)))) else (some false)))) else (some false)))) else (some false)) = some r := H
  have A15 := am A150
  clear A150
  by_cases c16 : t380 = true
  · subst c16
    have H1 : ((interval_All.f).bind fun bt381 => ((lamplighterlaw19_r.f 0 4294967295).bind fun bt383 => (if (bt381.1 == bt383.1 && (bt381.2 == bt383.2)) = true then ((interval_One.f 3).bind fun bt385 => ((lamplighterlaw19_r.f 3 3).bind fun bt387 => (if (bt385.1 == bt387.1 && (bt385.2 == bt387.2)) = true then ((lamplighterlaw19_r.f 2 1).bind fun bt389 => ((interval_Check.f bt389.1 bt389.2).bind fun t391 => (if t391 = 2 then (if t346 = 2 then (if t352 = 2 then (if t358 = 2 then (if t366 = true then (some false) else ((lamplighterlaw19_r.f 0 255).bind fun bt392 => (if (t370 == bt392.1 && (t371 == bt392.2)) = true then ((lamplighterlaw19_r.f 0 1).bind fun bt394 => (some (t376 == bt394.1 && (t377 == bt394.2)))) else (some false)))) else (some false)) else (some false)) else (some false)) else (some false)))) else (some false)))) else (some false)))) = some r := by rw [if_pos rfl] at H; exact H
    clear H
    have H := H1
    clear H1
    replace H := Option.bind_eq_some_iff.mp H
    obtain ⟨⟨t381, t382⟩, A170, H⟩ := H
    replace H : ((lamplighterlaw19_r.f 0 4294967295).bind fun bt383 => (if (t381 == bt383.1 && (t382 == bt383.2)) = true then ((interval_One.f 3).bind fun bt385 => ((lamplighterlaw19_r.f 3 3).bind fun bt387 => (if (bt385.1 == bt387.1 && (bt385.2 == bt387.2)) = true then ((lamplighterlaw19_r.f 2 1).bind fun bt389 => ((interval_Check.f bt389.1 bt389.2).bind fun t391 => (if t391 = 2 then (if t346 = 2 then (if t352 = 2 then (if t358 = 2 then (if t366 = true then (some false) else ((lamplighterlaw19_r.f 0 255).bind fun bt392 => (if (t370 == bt392.1 && (t371 == bt392.2)) = true then ((lamplighterlaw19_r.f 0 1).bind fun bt394 => (some (t376 == bt394.1 && (t377 == bt394.2)))) else (some false)))) else (some false)) else (some false)) else (some false)) else (some false)))) else (some false)))) else (some false))) = some r := H
    have A17 := am A170
    clear A170
    replace H := Option.bind_eq_some_iff.mp H
    obtain ⟨⟨t383, t384⟩, A180, H⟩ := H
    replace H : (if (t381 == t383 && (t382 == t384)) = true then ((interval_One.f 3).bind fun bt385 => ((lamplighterlaw19_r.f 3 3).bind fun bt387 => (if (bt385.1 == bt387.1 && (bt385.2 == bt387.2)) = true then ((lamplighterlaw19_r.f 2 1).bind fun bt389 => ((interval_Check.f bt389.1 bt389.2).bind fun t391 => (if t391 = 2 then (if t346 = 2 then (if t352 = 2 then (if t358 = 2 then (if t366 = true then (some false) else ((lamplighterlaw19_r.f 0 255).bind fun bt392 => (if (t370 == bt392.1 && (t371 == bt392.2)) = true then ((lamplighterlaw19_r.f 0 1).bind fun bt394 => (some (t376 == bt394.1 && (t377 == bt394.2)))) else (some false)))) else (some false)) else (some false)) else (some false)) else (some false)))) else (some false)))) else (some false)) = some r := H
    have A18 := am A180
    clear A180
    by_cases c19 : (t381 == t383 && (t382 == t384)) = true
    · rw [if_pos c19] at H
      have c19b0 : (t381 == t383 && (t382 == t384)) = true := c19
      (try (have c19b1 : decide (t381 = t383 && (t382 == t384)) = true := by simpa using c19))
      (try (have c19b2 : (t381 == t383 && (t382 == t384)) = true := by simpa using c19))
      clear c19
      replace H := Option.bind_eq_some_iff.mp H
      obtain ⟨⟨t385, t386⟩, A200, H⟩ := H
      replace H : ((lamplighterlaw19_r.f 3 3).bind fun bt387 => (if (t385 == bt387.1 && (t386 == bt387.2)) = true then ((lamplighterlaw19_r.f 2 1).bind fun bt389 => ((interval_Check.f bt389.1 bt389.2).bind fun t391 => (if t391 = 2 then (if t346 = 2 then (if t352 = 2 then (if t358 = 2 then (if t366 = true then (some false) else ((lamplighterlaw19_r.f 0 255).bind fun bt392 => (if (t370 == bt392.1 && (t371 == bt392.2)) = true then ((lamplighterlaw19_r.f 0 1).bind fun bt394 => (some (t376 == bt394.1 && (t377 == bt394.2)))) else (some false)))) else (some false)) else (some false)) else (some false)) else (some false)))) else (some false))) = some r := H
      have A20 := am A200
      clear A200
      replace H := Option.bind_eq_some_iff.mp H
      obtain ⟨⟨t387, t388⟩, A210, H⟩ := H
      replace H : (if (t385 == t387 && (t386 == t388)) = true then ((lamplighterlaw19_r.f 2 1).bind fun bt389 => ((interval_Check.f bt389.1 bt389.2).bind fun t391 => (if t391 = 2 then (if t346 = 2 then (if t352 = 2 then (if t358 = 2 then (if t366 = true then (some false) else ((lamplighterlaw19_r.f 0 255).bind fun bt392 => (if (t370 == bt392.1 && (t371 == bt392.2)) = true then ((lamplighterlaw19_r.f 0 1).bind fun bt394 => (some (t376 == bt394.1 && (t377 == bt394.2)))) else (some false)))) else (some false)) else (some false)) else (some false)) else (some false)))) else (some false)) = some r := H
      have A21 := am A210
      clear A210
      by_cases c22 : (t385 == t387 && (t386 == t388)) = true
      · rw [if_pos c22] at H
        have c22b0 : (t385 == t387 && (t386 == t388)) = true := c22
        (try (have c22b1 : decide (t385 = t387 && (t386 == t388)) = true := by simpa using c22))
        (try (have c22b2 : (t385 == t387 && (t386 == t388)) = true := by simpa using c22))
        clear c22
        replace H := Option.bind_eq_some_iff.mp H
        obtain ⟨⟨t389, t390⟩, A230, H⟩ := H
        replace H : ((interval_Check.f t389 t390).bind fun t391 => (if t391 = 2 then (if t346 = 2 then (if t352 = 2 then (if t358 = 2 then (if t366 = true then (some false) else ((lamplighterlaw19_r.f 0 255).bind fun bt392 => (if (t370 == bt392.1 && (t371 == bt392.2)) = true then ((lamplighterlaw19_r.f 0 1).bind fun bt394 => (some (t376 == bt394.1 && (t377 == bt394.2)))) else (some false)))) else (some false)) else (some false)) else (some false)) else (some false))) = some r := H
        have A23 := am A230
        clear A230
        replace H := Option.bind_eq_some_iff.mp H
        obtain ⟨t391, A240, H⟩ := H
        replace H : (if t391 = 2 then (if t346 = 2 then (if t352 = 2 then (if t358 = 2 then (if t366 = true then (some false) else ((lamplighterlaw19_r.f 0 255).bind fun bt392 => (if (t370 == bt392.1 && (t371 == bt392.2)) = true then ((lamplighterlaw19_r.f 0 1).bind fun bt394 => (some (t376 == bt394.1 && (t377 == bt394.2)))) else (some false)))) else (some false)) else (some false)) else (some false)) else (some false)) = some r := H
        have A24 := am A240
        clear A240
        by_cases c25 : t391 = 2
        · rw [if_pos c25] at H
          have c25b0 : (t391 == 2) = true := beq_iff_eq.mpr c25
          have c25b1 : (t391 != 2) = false := bne_eq_false_iff_eq.mpr c25
          clear c25
          by_cases c26 : t346 = 2
          · rw [if_pos c26] at H
            have c26b0 : (t346 == 2) = true := beq_iff_eq.mpr c26
            have c26b1 : (t346 != 2) = false := bne_eq_false_iff_eq.mpr c26
            clear c26
            by_cases c27 : t352 = 2
            · rw [if_pos c27] at H
              have c27b0 : (t352 == 2) = true := beq_iff_eq.mpr c27
              have c27b1 : (t352 != 2) = false := bne_eq_false_iff_eq.mpr c27
              clear c27
              by_cases c28 : t358 = 2
              · rw [if_pos c28] at H
                have c28b0 : (t358 == 2) = true := beq_iff_eq.mpr c28
                have c28b1 : (t358 != 2) = false := bne_eq_false_iff_eq.mpr c28
                clear c28
                by_cases c29 : t366 = true
                · subst c29
                  have H1 : (some false) = some r := by rw [if_pos rfl] at H; exact H
                  clear H
                  have H := H1
                  clear H1
                  exact absurd ((Option.some.inj H).trans hr_.out) (by decide)
                · replace c29 := Bool.eq_false_iff.mpr c29
                  subst c29
                  have H1 : ((lamplighterlaw19_r.f 0 255).bind fun bt392 => (if (t370 == bt392.1 && (t371 == bt392.2)) = true then ((lamplighterlaw19_r.f 0 1).bind fun bt394 => (some (t376 == bt394.1 && (t377 == bt394.2)))) else (some false))) = some r := by rw [if_neg (show ¬ (false = true) by decide)] at H; exact H
                  clear H
                  have H := H1
                  clear H1
                  replace H := Option.bind_eq_some_iff.mp H
                  obtain ⟨⟨t392, t393⟩, A300, H⟩ := H
                  replace H : (if (t370 == t392 && (t371 == t393)) = true then ((lamplighterlaw19_r.f 0 1).bind fun bt394 => (some (t376 == bt394.1 && (t377 == bt394.2)))) else (some false)) = some r := H
                  have A30 := am A300
                  clear A300
                  by_cases c31 : (t370 == t392 && (t371 == t393)) = true
                  · rw [if_pos c31] at H
                    have c31b0 : (t370 == t392 && (t371 == t393)) = true := c31
                    (try (have c31b1 : decide (t370 = t392 && (t371 == t393)) = true := by simpa using c31))
                    (try (have c31b2 : (t370 == t392 && (t371 == t393)) = true := by simpa using c31))
                    clear c31
                    replace H := Option.bind_eq_some_iff.mp H
                    obtain ⟨⟨t394, t395⟩, A320, H⟩ := H
                    replace H : (some (t376 == t394 && (t377 == t395))) = some r := H
                    have A32 := am A320
                    clear A320
                    obtain rfl := Option.some.inj H
                    go_enter Try.func4, Try.ntmps4
                    try go_wp2_with (first | ((with_reducible refine gate_callee (f := 16) rfl ?_); refine goesL_ (some 15) rfl rfl Try.func16 (by kernel_rfl) rfl #[.int .u32 0, .int .u32 1] rfl (by (try simp only [List.map_toArray, List.map_cons, List.map_nil]); first | done | rfl | (simp only [List.length_drop, List.length_take]; rfl)) ?_; (with_reducible refine (lamplighterlaw19_r.calls 0 1 t339 t340 _ A1.out).mono ?_); rintro e w33 ⟨rfl, hb⟩; refine ⟨_, rfl, ?_⟩; have n0_ := am (below_step (hbA HB) hb); clear HB; have HB := n0_; clear n0_; (try clear hb); (try clear hb2); (try clear hk); (try clear hi)) | ((with_reducible refine gate_callee (f := 16) rfl ?_); refine goesL_ (some 16) rfl rfl Try.func16 (by kernel_rfl) rfl #[.int .u32 0, .int .u32 1] rfl (by (try simp only [List.map_toArray, List.map_cons, List.map_nil]); first | done | rfl | (simp only [List.length_drop, List.length_take]; rfl)) ?_; (with_reducible refine (lamplighterlaw19_r.calls 0 1 t341 t342 _ A2.out).mono ?_); rintro e w34 ⟨rfl, hb⟩; refine ⟨_, rfl, ?_⟩; have n0_ := am (below_step (hbA HB) hb); clear HB; have HB := n0_; clear n0_; (try clear hb); (try clear hb2); (try clear hk); (try clear hi)) | ((with_reducible refine gate_callee (f := 11) rfl ?_); refine goesL_ (some 17) rfl rfl Try.func11 (by kernel_rfl) rfl #[.int .i64 0, .agg #[.int .u32 t339, .int .u32 t340], .agg #[.int .u32 t341, .int .u32 t342]] rfl (by (try simp only [List.map_toArray, List.map_cons, List.map_nil]); first | done | rfl | (simp only [List.length_drop, List.length_take]; rfl)) ?_; (with_reducible refine (interval_Do.calls k 0 t339 t340 t341 t342 t343 t344 t345 t346 _ A3.out).mono ?_); rintro e w35 ⟨rfl, hb⟩; refine ⟨_, rfl, ?_⟩; have n0_ := am (below_step (hbA HB) hb); clear HB; have HB := n0_; clear n0_; (try clear hb); (try clear hb2); (try clear hk); (try clear hi)) | ((with_reducible refine gate_dst (N := 1) rfl ?_); refine box_event ?hg (N := 1) ?hd (cs := #[.int .u32 0, .int .u32 0]) (t := 24) ?hr ?_; (case hd => rfl); (case hg => rfl); (case hr => first | (go_simp; done) | (go_simp; rfl)); intro gb347 hg w36 hbox hb; have n0_ := am (below_step (hbA HB) hb); have n1_ := am (hbox); have n2_ := am ((by rw [hg]; exact (below_size (hbA HB)) : w.heap.size ≤ gb347)); have n3_ := am ((by rw [hg]; exact (below_size (hbA HB)) : w.heap.size ≤ gb347)); clear HB; have HB := n0_; have BK347 := n1_; have GW347 := n2_; have GE347 := n3_; clear n0_ n1_ n2_ n3_; clear hb hbox hg; have hcz37_0 : w36.cell? ⟨gb347, 0, none⟩ = some (.int .u32 0) := (blk_cell BK347.out 0).trans rfl; have hcz37_1 : w36.cell? ⟨gb347, 1, none⟩ = some (.int .u32 0) := (blk_cell BK347.out 1).trans rfl; have hfz37_0 := blk_frozen BK347.out 0; have hfz37_1 := blk_frozen BK347.out 1) | ((with_reducible refine gate_callee (f := 16) rfl ?_); refine goesL_ (some 22) rfl rfl Try.func16 (by kernel_rfl) rfl #[.int .u32 0, .int .u32 1] rfl (by (try simp only [List.map_toArray, List.map_cons, List.map_nil]); first | done | rfl | (simp only [List.length_drop, List.length_take]; rfl)) ?_; (with_reducible refine (lamplighterlaw19_r.calls 0 1 t348 t349 _ A4.out).mono ?_); rintro e w38 ⟨rfl, hb⟩; refine ⟨_, rfl, ?_⟩; have n0_ := am (blk_below (g := gb347) (o := .cells #[.int .u32 t343, .int .u32 t344] 24 (0, 0)) (by (with_reducible repeat (first | refine blk_drewN ?_ _ | refine blk_drew ?_ | refine blk_alloc ?_ _)); refine blk_put (cs := #[.int .u32 t343, .int .u32 0]) ?_ 1 _ rfl; (with_reducible repeat (first | refine blk_drewN ?_ _ | refine blk_drew ?_ | refine blk_alloc ?_ _)); refine blk_put (cs := #[.int .u32 0, .int .u32 0]) ?_ 0 _ rfl; (with_reducible repeat (first | refine blk_drewN ?_ _ | refine blk_drew ?_ | refine blk_alloc ?_ _)); exact BK347.out) hb); have n1_ := am (below_step (hbA HB) hb); clear BK347; clear HB; have BK347 := n0_; have HB := n1_; clear n0_ n1_; (try clear hb); (try clear hb2); (try clear hk); (try clear hi)) | ((with_reducible refine gate_callee (f := 14) rfl ?_); refine goesL_ (some 23) rfl rfl Try.func14 (by kernel_rfl) rfl #[.int .i64 4, .agg #[.int .u32 t348, .int .u32 t349]] rfl (by (try simp only [List.map_toArray, List.map_cons, List.map_nil]); first | done | rfl | (simp only [List.length_drop, List.length_take]; rfl)) ?_; (with_reducible refine (interval_Un.calls k 4 t348 t349 t350 t351 t352 _ A5.out).mono ?_); rintro e w39 ⟨rfl, hb⟩; refine ⟨_, rfl, ?_⟩; have n0_ := am (blk_below (g := gb347) (o := .cells #[.int .u32 t343, .int .u32 t344] 24 (0, 0)) (bkA BK347) hb); have n1_ := am (below_step (hbA HB) hb); clear BK347; clear HB; have BK347 := n0_; have HB := n1_; clear n0_ n1_; (try clear hb); (try clear hb2); (try clear hk); (try clear hi)) | ((with_reducible refine gate_dst (N := 4) rfl ?_); refine box_event ?hg (N := 4) ?hd (cs := #[.int .u32 0, .int .u32 0]) (t := 24) ?hr ?_; (case hd => rfl); (case hg => rfl); (case hr => first | (go_simp; done) | (go_simp; rfl)); intro gb353 hg w40 hbox hb; have n0_ := am (blk_below (g := gb347) (o := .cells #[.int .u32 t343, .int .u32 t344] 24 (0, 0)) (bkA BK347) hb); have n1_ := am (below_step (hbA HB) hb); have n2_ := am (hbox); have n3_ := am ((by rw [hg]; exact (below_size (hbA HB)) : w.heap.size ≤ gb353)); have n4_ := am ((by rw [hg]; exact (below_size (hbA HB)) : w.heap.size ≤ gb353)); have n5_ := am ((by rw [hg]; exact Nat.ne_of_lt (blk_lt (g := gb347) (o := .cells #[.int .u32 t343, .int .u32 t344] 24 (0, 0)) (bkA BK347)) : gb347 ≠ gb353)); have n6_ := am ((by rw [hg]; exact Nat.ne_of_gt (blk_lt (g := gb347) (o := .cells #[.int .u32 t343, .int .u32 t344] 24 (0, 0)) (bkA BK347)) : gb353 ≠ gb347)); clear BK347; clear HB; have BK347 := n0_; have HB := n1_; have BK353 := n2_; have GW353 := n3_; have GE353 := n4_; have NB347_353 := n5_; have NB353_347 := n6_; clear n0_ n1_ n2_ n3_ n4_ n5_ n6_; clear hb hbox hg; have hnb41 := NB353_347.out; have hnc41 := NB347_353.out; have hcz42_0 : w40.cell? ⟨gb353, 0, none⟩ = some (.int .u32 0) := (blk_cell BK353.out 0).trans rfl; have hcz42_1 : w40.cell? ⟨gb353, 1, none⟩ = some (.int .u32 0) := (blk_cell BK353.out 1).trans rfl; have hfz42_0 := blk_frozen BK353.out 0; have hfz42_1 := blk_frozen BK353.out 1) | ((with_reducible refine gate_callee (f := 16) rfl ?_); refine goesL_ (some 27) rfl rfl Try.func16 (by kernel_rfl) rfl #[.int .u32 0, .int .u32 1] rfl (by (try simp only [List.map_toArray, List.map_cons, List.map_nil]); first | done | rfl | (simp only [List.length_drop, List.length_take]; rfl)) ?_; (with_reducible refine (lamplighterlaw19_r.calls 0 1 t354 t355 _ A6.out).mono ?_); rintro e w43 ⟨rfl, hb⟩; refine ⟨_, rfl, ?_⟩; have n0_ := am (blk_below (g := gb347) (o := .cells #[.int .u32 t343, .int .u32 t344] 24 (0, 0)) (by (with_reducible repeat (first | refine blk_drewN ?_ _ | refine blk_drew ?_ | refine blk_alloc ?_ _)); refine blk_far ?_ NB347_353.out _; (with_reducible repeat (first | refine blk_drewN ?_ _ | refine blk_drew ?_ | refine blk_alloc ?_ _)); refine blk_far ?_ NB347_353.out _; (with_reducible repeat (first | refine blk_drewN ?_ _ | refine blk_drew ?_ | refine blk_alloc ?_ _)); exact BK347.out) hb); have n1_ := am (blk_below (g := gb353) (o := .cells #[.int .u32 t350, .int .u32 t351] 24 (0, 0)) (by (with_reducible repeat (first | refine blk_drewN ?_ _ | refine blk_drew ?_ | refine blk_alloc ?_ _)); refine blk_put (cs := #[.int .u32 t350, .int .u32 0]) ?_ 1 _ rfl; (with_reducible repeat (first | refine blk_drewN ?_ _ | refine blk_drew ?_ | refine blk_alloc ?_ _)); refine blk_put (cs := #[.int .u32 0, .int .u32 0]) ?_ 0 _ rfl; (with_reducible repeat (first | refine blk_drewN ?_ _ | refine blk_drew ?_ | refine blk_alloc ?_ _)); exact BK353.out) hb); have n2_ := am (below_step (hbA HB) hb); clear BK347; clear BK353; clear HB; have BK347 := n0_; have BK353 := n1_; have HB := n2_; clear n0_ n1_ n2_; (try clear hb); (try clear hb2); (try clear hk); (try clear hi)) | ((with_reducible refine gate_callee (f := 17) rfl ?_); refine goesL_ (some 28) rfl rfl Try.func17 (by kernel_rfl) rfl #[.agg #[.int .u32 t354, .int .u32 t355], .int .i64 9] rfl (by (try simp only [List.map_toArray, List.map_cons, List.map_nil]); first | done | rfl | (simp only [List.length_drop, List.length_take]; rfl)) ?_; (with_reducible refine (interval_Cut.calls k t354 t355 9 t356 t357 t358 _ A7.out).mono ?_); rintro e w44 ⟨rfl, hb⟩; refine ⟨_, rfl, ?_⟩; have n0_ := am (blk_below (g := gb347) (o := .cells #[.int .u32 t343, .int .u32 t344] 24 (0, 0)) (bkA BK347) hb); have n1_ := am (blk_below (g := gb353) (o := .cells #[.int .u32 t350, .int .u32 t351] 24 (0, 0)) (bkA BK353) hb); have n2_ := am (below_step (hbA HB) hb); clear BK347; clear BK353; clear HB; have BK347 := n0_; have BK353 := n1_; have HB := n2_; clear n0_ n1_ n2_; (try clear hb); (try clear hb2); (try clear hk); (try clear hi)) | ((with_reducible refine gate_dst (N := 6) rfl ?_); refine box_event ?hg (N := 6) ?hd (cs := #[.int .u32 0, .int .u32 0]) (t := 24) ?hr ?_; (case hd => rfl); (case hg => rfl); (case hr => first | (go_simp; done) | (go_simp; rfl)); intro gb359 hg w45 hbox hb; have n0_ := am (blk_below (g := gb347) (o := .cells #[.int .u32 t343, .int .u32 t344] 24 (0, 0)) (bkA BK347) hb); have n1_ := am (blk_below (g := gb353) (o := .cells #[.int .u32 t350, .int .u32 t351] 24 (0, 0)) (bkA BK353) hb); have n2_ := am (below_step (hbA HB) hb); have n3_ := am (hbox); have n4_ := am ((by rw [hg]; exact (below_size (hbA HB)) : w.heap.size ≤ gb359)); have n5_ := am ((by rw [hg]; exact (below_size (hbA HB)) : w.heap.size ≤ gb359)); have n6_ := am ((by rw [hg]; exact Nat.ne_of_lt (blk_lt (g := gb347) (o := .cells #[.int .u32 t343, .int .u32 t344] 24 (0, 0)) (bkA BK347)) : gb347 ≠ gb359)); have n7_ := am ((by rw [hg]; exact Nat.ne_of_gt (blk_lt (g := gb347) (o := .cells #[.int .u32 t343, .int .u32 t344] 24 (0, 0)) (bkA BK347)) : gb359 ≠ gb347)); have n8_ := am ((by rw [hg]; exact Nat.ne_of_lt (blk_lt (g := gb353) (o := .cells #[.int .u32 t350, .int .u32 t351] 24 (0, 0)) (bkA BK353)) : gb353 ≠ gb359)); have n9_ := am ((by rw [hg]; exact Nat.ne_of_gt (blk_lt (g := gb353) (o := .cells #[.int .u32 t350, .int .u32 t351] 24 (0, 0)) (bkA BK353)) : gb359 ≠ gb353)); clear BK347; clear BK353; clear HB; have BK347 := n0_; have BK353 := n1_; have HB := n2_; have BK359 := n3_; have GW359 := n4_; have GE359 := n5_; have NB347_359 := n6_; have NB359_347 := n7_; have NB353_359 := n8_; have NB359_353 := n9_; clear n0_ n1_ n2_ n3_ n4_ n5_ n6_ n7_ n8_ n9_; clear hb hbox hg; have hnb46 := NB359_347.out; have hnc46 := NB347_359.out; have hnb47 := NB359_353.out; have hnc47 := NB353_359.out; have hcz48_0 : w45.cell? ⟨gb359, 0, none⟩ = some (.int .u32 0) := (blk_cell BK359.out 0).trans rfl; have hcz48_1 : w45.cell? ⟨gb359, 1, none⟩ = some (.int .u32 0) := (blk_cell BK359.out 1).trans rfl; have hfz48_0 := blk_frozen BK359.out 0; have hfz48_1 := blk_frozen BK359.out 1) | ((with_reducible refine gate_callee (f := 16) rfl ?_); refine goesL_ (some 32) rfl rfl Try.func16 (by kernel_rfl) rfl #[.int .u32 0, .int .u32 1] rfl (by (try simp only [List.map_toArray, List.map_cons, List.map_nil]); first | done | rfl | (simp only [List.length_drop, List.length_take]; rfl)) ?_; (with_reducible refine (lamplighterlaw19_r.calls 0 1 t360 t361 _ A8.out).mono ?_); rintro e w49 ⟨rfl, hb⟩; refine ⟨_, rfl, ?_⟩; have n0_ := am (blk_below (g := gb347) (o := .cells #[.int .u32 t343, .int .u32 t344] 24 (0, 0)) (by (with_reducible repeat (first | refine blk_drewN ?_ _ | refine blk_drew ?_ | refine blk_alloc ?_ _)); refine blk_far ?_ NB347_359.out _; (with_reducible repeat (first | refine blk_drewN ?_ _ | refine blk_drew ?_ | refine blk_alloc ?_ _)); refine blk_far ?_ NB347_359.out _; (with_reducible repeat (first | refine blk_drewN ?_ _ | refine blk_drew ?_ | refine blk_alloc ?_ _)); exact BK347.out) hb); have n1_ := am (blk_below (g := gb353) (o := .cells #[.int .u32 t350, .int .u32 t351] 24 (0, 0)) (by (with_reducible repeat (first | refine blk_drewN ?_ _ | refine blk_drew ?_ | refine blk_alloc ?_ _)); refine blk_far ?_ NB353_359.out _; (with_reducible repeat (first | refine blk_drewN ?_ _ | refine blk_drew ?_ | refine blk_alloc ?_ _)); refine blk_far ?_ NB353_359.out _; (with_reducible repeat (first | refine blk_drewN ?_ _ | refine blk_drew ?_ | refine blk_alloc ?_ _)); exact BK353.out) hb); have n2_ := am (blk_below (g := gb359) (o := .cells #[.int .u32 t356, .int .u32 t357] 24 (0, 0)) (by (with_reducible repeat (first | refine blk_drewN ?_ _ | refine blk_drew ?_ | refine blk_alloc ?_ _)); refine blk_put (cs := #[.int .u32 t356, .int .u32 0]) ?_ 1 _ rfl; (with_reducible repeat (first | refine blk_drewN ?_ _ | refine blk_drew ?_ | refine blk_alloc ?_ _)); refine blk_put (cs := #[.int .u32 0, .int .u32 0]) ?_ 0 _ rfl; (with_reducible repeat (first | refine blk_drewN ?_ _ | refine blk_drew ?_ | refine blk_alloc ?_ _)); exact BK359.out) hb); have n3_ := am (below_step (hbA HB) hb); clear BK347; clear BK353; clear BK359; clear HB; have BK347 := n0_; have BK353 := n1_; have BK359 := n2_; have HB := n3_; clear n0_ n1_ n2_ n3_; (try clear hb); (try clear hb2); (try clear hk); (try clear hi)) | ((with_reducible refine gate_callee (f := 16) rfl ?_); refine goesL_ (some 33) rfl rfl Try.func16 (by kernel_rfl) rfl #[.int .u32 2, .int .u32 3] rfl (by (try simp only [List.map_toArray, List.map_cons, List.map_nil]); first | done | rfl | (simp only [List.length_drop, List.length_take]; rfl)) ?_; (with_reducible refine (lamplighterlaw19_r.calls 2 3 t362 t363 _ A9.out).mono ?_); rintro e w50 ⟨rfl, hb⟩; refine ⟨_, rfl, ?_⟩; have n0_ := am (blk_below (g := gb347) (o := .cells #[.int .u32 t343, .int .u32 t344] 24 (0, 0)) (bkA BK347) hb); have n1_ := am (blk_below (g := gb353) (o := .cells #[.int .u32 t350, .int .u32 t351] 24 (0, 0)) (bkA BK353) hb); have n2_ := am (blk_below (g := gb359) (o := .cells #[.int .u32 t356, .int .u32 t357] 24 (0, 0)) (bkA BK359) hb); have n3_ := am (below_step (hbA HB) hb); clear BK347; clear BK353; clear BK359; clear HB; have BK347 := n0_; have BK353 := n1_; have BK359 := n2_; have HB := n3_; clear n0_ n1_ n2_ n3_; (try clear hb); (try clear hb2); (try clear hk); (try clear hi)) | ((with_reducible refine gate_callee (f := 18) rfl ?_); refine goesL_ (some 34) rfl rfl Try.func18 (by kernel_rfl) rfl #[.agg #[.int .u32 t360, .int .u32 t361], .agg #[.int .u32 t362, .int .u32 t363]] rfl (by (try simp only [List.map_toArray, List.map_cons, List.map_nil]); first | done | rfl | (simp only [List.length_drop, List.length_take]; rfl)) ?_; (with_reducible refine (interval_Meet.calls k t360 t361 t362 t363 t364 t365 false _ A10.out).mono ?_); rintro e w51 ⟨rfl, hb⟩; refine ⟨_, rfl, ?_⟩; have n0_ := am (blk_below (g := gb347) (o := .cells #[.int .u32 t343, .int .u32 t344] 24 (0, 0)) (bkA BK347) hb); have n1_ := am (blk_below (g := gb353) (o := .cells #[.int .u32 t350, .int .u32 t351] 24 (0, 0)) (bkA BK353) hb); have n2_ := am (blk_below (g := gb359) (o := .cells #[.int .u32 t356, .int .u32 t357] 24 (0, 0)) (bkA BK359) hb); have n3_ := am (below_step (hbA HB) hb); clear BK347; clear BK353; clear BK359; clear HB; have BK347 := n0_; have BK353 := n1_; have BK359 := n2_; have HB := n3_; clear n0_ n1_ n2_ n3_; (try clear hb); (try clear hb2); (try clear hk); (try clear hi)) | ((with_reducible refine gate_dst (N := 8) rfl ?_); refine box_event ?hg (N := 8) ?hd (cs := #[.int .u32 0, .int .u32 0]) (t := 24) ?hr ?_; (case hd => rfl); (case hg => rfl); (case hr => first | (go_simp; done) | (go_simp; rfl)); intro gb367 hg w52 hbox hb; have n0_ := am (blk_below (g := gb347) (o := .cells #[.int .u32 t343, .int .u32 t344] 24 (0, 0)) (bkA BK347) hb); have n1_ := am (blk_below (g := gb353) (o := .cells #[.int .u32 t350, .int .u32 t351] 24 (0, 0)) (bkA BK353) hb); have n2_ := am (blk_below (g := gb359) (o := .cells #[.int .u32 t356, .int .u32 t357] 24 (0, 0)) (bkA BK359) hb); have n3_ := am (below_step (hbA HB) hb); have n4_ := am (hbox); have n5_ := am ((by rw [hg]; exact (below_size (hbA HB)) : w.heap.size ≤ gb367)); have n6_ := am ((by rw [hg]; exact (below_size (hbA HB)) : w.heap.size ≤ gb367)); have n7_ := am ((by rw [hg]; exact Nat.ne_of_lt (blk_lt (g := gb347) (o := .cells #[.int .u32 t343, .int .u32 t344] 24 (0, 0)) (bkA BK347)) : gb347 ≠ gb367)); have n8_ := am ((by rw [hg]; exact Nat.ne_of_gt (blk_lt (g := gb347) (o := .cells #[.int .u32 t343, .int .u32 t344] 24 (0, 0)) (bkA BK347)) : gb367 ≠ gb347)); have n9_ := am ((by rw [hg]; exact Nat.ne_of_lt (blk_lt (g := gb353) (o := .cells #[.int .u32 t350, .int .u32 t351] 24 (0, 0)) (bkA BK353)) : gb353 ≠ gb367)); have n10_ := am ((by rw [hg]; exact Nat.ne_of_gt (blk_lt (g := gb353) (o := .cells #[.int .u32 t350, .int .u32 t351] 24 (0, 0)) (bkA BK353)) : gb367 ≠ gb353)); have n11_ := am ((by rw [hg]; exact Nat.ne_of_lt (blk_lt (g := gb359) (o := .cells #[.int .u32 t356, .int .u32 t357] 24 (0, 0)) (bkA BK359)) : gb359 ≠ gb367)); have n12_ := am ((by rw [hg]; exact Nat.ne_of_gt (blk_lt (g := gb359) (o := .cells #[.int .u32 t356, .int .u32 t357] 24 (0, 0)) (bkA BK359)) : gb367 ≠ gb359)); clear BK347; clear BK353; clear BK359; clear HB; have BK347 := n0_; have BK353 := n1_; have BK359 := n2_; have HB := n3_; have BK367 := n4_; have GW367 := n5_; have GE367 := n6_; have NB347_367 := n7_; have NB367_347 := n8_; have NB353_367 := n9_; have NB367_353 := n10_; have NB359_367 := n11_; have NB367_359 := n12_; clear n0_ n1_ n2_ n3_ n4_ n5_ n6_ n7_ n8_ n9_ n10_ n11_ n12_; clear hb hbox hg; have hnb53 := NB367_347.out; have hnc53 := NB347_367.out; have hnb54 := NB367_353.out; have hnc54 := NB353_367.out; have hnb55 := NB367_359.out; have hnc55 := NB359_367.out; have hcz56_0 : w52.cell? ⟨gb367, 0, none⟩ = some (.int .u32 0) := (blk_cell BK367.out 0).trans rfl; have hcz56_1 : w52.cell? ⟨gb367, 1, none⟩ = some (.int .u32 0) := (blk_cell BK367.out 1).trans rfl; have hfz56_0 := blk_frozen BK367.out 0; have hfz56_1 := blk_frozen BK367.out 1) | ((with_reducible refine gate_callee (f := 16) rfl ?_); refine goesL_ (some 38) rfl rfl Try.func16 (by kernel_rfl) rfl #[.int .u32 255, .int .u32 256] rfl (by (try simp only [List.map_toArray, List.map_cons, List.map_nil]); first | done | rfl | (simp only [List.length_drop, List.length_take]; rfl)) ?_; (with_reducible refine (lamplighterlaw19_r.calls 255 256 t368 t369 _ A11.out).mono ?_); rintro e w57 ⟨rfl, hb⟩; refine ⟨_, rfl, ?_⟩; have n0_ := am (blk_below (g := gb347) (o := .cells #[.int .u32 t343, .int .u32 t344] 24 (0, 0)) (by (with_reducible repeat (first | refine blk_drewN ?_ _ | refine blk_drew ?_ | refine blk_alloc ?_ _)); refine blk_far ?_ NB347_367.out _; (with_reducible repeat (first | refine blk_drewN ?_ _ | refine blk_drew ?_ | refine blk_alloc ?_ _)); refine blk_far ?_ NB347_367.out _; (with_reducible repeat (first | refine blk_drewN ?_ _ | refine blk_drew ?_ | refine blk_alloc ?_ _)); exact BK347.out) hb); have n1_ := am (blk_below (g := gb353) (o := .cells #[.int .u32 t350, .int .u32 t351] 24 (0, 0)) (by (with_reducible repeat (first | refine blk_drewN ?_ _ | refine blk_drew ?_ | refine blk_alloc ?_ _)); refine blk_far ?_ NB353_367.out _; (with_reducible repeat (first | refine blk_drewN ?_ _ | refine blk_drew ?_ | refine blk_alloc ?_ _)); refine blk_far ?_ NB353_367.out _; (with_reducible repeat (first | refine blk_drewN ?_ _ | refine blk_drew ?_ | refine blk_alloc ?_ _)); exact BK353.out) hb); have n2_ := am (blk_below (g := gb359) (o := .cells #[.int .u32 t356, .int .u32 t357] 24 (0, 0)) (by (with_reducible repeat (first | refine blk_drewN ?_ _ | refine blk_drew ?_ | refine blk_alloc ?_ _)); refine blk_far ?_ NB359_367.out _; (with_reducible repeat (first | refine blk_drewN ?_ _ | refine blk_drew ?_ | refine blk_alloc ?_ _)); refine blk_far ?_ NB359_367.out _; (with_reducible repeat (first | refine blk_drewN ?_ _ | refine blk_drew ?_ | refine blk_alloc ?_ _)); exact BK359.out) hb); have n3_ := am (blk_below (g := gb367) (o := .cells #[.int .u32 t364, .int .u32 t365] 24 (0, 0)) (by (with_reducible repeat (first | refine blk_drewN ?_ _ | refine blk_drew ?_ | refine blk_alloc ?_ _)); refine blk_put (cs := #[.int .u32 t364, .int .u32 0]) ?_ 1 _ rfl; (with_reducible repeat (first | refine blk_drewN ?_ _ | refine blk_drew ?_ | refine blk_alloc ?_ _)); refine blk_put (cs := #[.int .u32 0, .int .u32 0]) ?_ 0 _ rfl; (with_reducible repeat (first | refine blk_drewN ?_ _ | refine blk_drew ?_ | refine blk_alloc ?_ _)); exact BK367.out) hb); have n4_ := am (below_step (hbA HB) hb); clear BK347; clear BK353; clear BK359; clear BK367; clear HB; have BK347 := n0_; have BK353 := n1_; have BK359 := n2_; have BK367 := n3_; have HB := n4_; clear n0_ n1_ n2_ n3_ n4_; (try clear hb); (try clear hb2); (try clear hk); (try clear hi)) | ((with_reducible refine gate_callee (f := 17) rfl ?_); refine goesL_ (some 39) rfl rfl Try.func17 (by kernel_rfl) rfl #[.agg #[.int .u32 t368, .int .u32 t369], .int .i64 8] rfl (by (try simp only [List.map_toArray, List.map_cons, List.map_nil]); first | done | rfl | (simp only [List.length_drop, List.length_take]; rfl)) ?_; (with_reducible refine (interval_Cut.calls k t368 t369 8 t370 t371 t372 _ A12.out).mono ?_); rintro e w58 ⟨rfl, hb⟩; refine ⟨_, rfl, ?_⟩; have n0_ := am (blk_below (g := gb347) (o := .cells #[.int .u32 t343, .int .u32 t344] 24 (0, 0)) (bkA BK347) hb); have n1_ := am (blk_below (g := gb353) (o := .cells #[.int .u32 t350, .int .u32 t351] 24 (0, 0)) (bkA BK353) hb); have n2_ := am (blk_below (g := gb359) (o := .cells #[.int .u32 t356, .int .u32 t357] 24 (0, 0)) (bkA BK359) hb); have n3_ := am (blk_below (g := gb367) (o := .cells #[.int .u32 t364, .int .u32 t365] 24 (0, 0)) (bkA BK367) hb); have n4_ := am (below_step (hbA HB) hb); clear BK347; clear BK353; clear BK359; clear BK367; clear HB; have BK347 := n0_; have BK353 := n1_; have BK359 := n2_; have BK367 := n3_; have HB := n4_; clear n0_ n1_ n2_ n3_ n4_; (try clear hb); (try clear hb2); (try clear hk); (try clear hi)) | ((with_reducible refine gate_dst (N := 10) rfl ?_); refine box_event ?hg (N := 10) ?hd (cs := #[.int .u32 0, .int .u32 0]) (t := 24) ?hr ?_; (case hd => rfl); (case hg => rfl); (case hr => first | (go_simp; done) | (go_simp; rfl)); intro gb373 hg w59 hbox hb; have n0_ := am (blk_below (g := gb347) (o := .cells #[.int .u32 t343, .int .u32 t344] 24 (0, 0)) (bkA BK347) hb); have n1_ := am (blk_below (g := gb353) (o := .cells #[.int .u32 t350, .int .u32 t351] 24 (0, 0)) (bkA BK353) hb); have n2_ := am (blk_below (g := gb359) (o := .cells #[.int .u32 t356, .int .u32 t357] 24 (0, 0)) (bkA BK359) hb); have n3_ := am (blk_below (g := gb367) (o := .cells #[.int .u32 t364, .int .u32 t365] 24 (0, 0)) (bkA BK367) hb); have n4_ := am (below_step (hbA HB) hb); have n5_ := am (hbox); have n6_ := am ((by rw [hg]; exact (below_size (hbA HB)) : w.heap.size ≤ gb373)); have n7_ := am ((by rw [hg]; exact (below_size (hbA HB)) : w.heap.size ≤ gb373)); have n8_ := am ((by rw [hg]; exact Nat.ne_of_lt (blk_lt (g := gb347) (o := .cells #[.int .u32 t343, .int .u32 t344] 24 (0, 0)) (bkA BK347)) : gb347 ≠ gb373)); have n9_ := am ((by rw [hg]; exact Nat.ne_of_gt (blk_lt (g := gb347) (o := .cells #[.int .u32 t343, .int .u32 t344] 24 (0, 0)) (bkA BK347)) : gb373 ≠ gb347)); have n10_ := am ((by rw [hg]; exact Nat.ne_of_lt (blk_lt (g := gb353) (o := .cells #[.int .u32 t350, .int .u32 t351] 24 (0, 0)) (bkA BK353)) : gb353 ≠ gb373)); have n11_ := am ((by rw [hg]; exact Nat.ne_of_gt (blk_lt (g := gb353) (o := .cells #[.int .u32 t350, .int .u32 t351] 24 (0, 0)) (bkA BK353)) : gb373 ≠ gb353)); have n12_ := am ((by rw [hg]; exact Nat.ne_of_lt (blk_lt (g := gb359) (o := .cells #[.int .u32 t356, .int .u32 t357] 24 (0, 0)) (bkA BK359)) : gb359 ≠ gb373)); have n13_ := am ((by rw [hg]; exact Nat.ne_of_gt (blk_lt (g := gb359) (o := .cells #[.int .u32 t356, .int .u32 t357] 24 (0, 0)) (bkA BK359)) : gb373 ≠ gb359)); have n14_ := am ((by rw [hg]; exact Nat.ne_of_lt (blk_lt (g := gb367) (o := .cells #[.int .u32 t364, .int .u32 t365] 24 (0, 0)) (bkA BK367)) : gb367 ≠ gb373)); have n15_ := am ((by rw [hg]; exact Nat.ne_of_gt (blk_lt (g := gb367) (o := .cells #[.int .u32 t364, .int .u32 t365] 24 (0, 0)) (bkA BK367)) : gb373 ≠ gb367)); clear BK347; clear BK353; clear BK359; clear BK367; clear HB; have BK347 := n0_; have BK353 := n1_; have BK359 := n2_; have BK367 := n3_; have HB := n4_; have BK373 := n5_; have GW373 := n6_; have GE373 := n7_; have NB347_373 := n8_; have NB373_347 := n9_; have NB353_373 := n10_; have NB373_353 := n11_; have NB359_373 := n12_; have NB373_359 := n13_; have NB367_373 := n14_; have NB373_367 := n15_; clear n0_ n1_ n2_ n3_ n4_ n5_ n6_ n7_ n8_ n9_ n10_ n11_ n12_ n13_ n14_ n15_; clear hb hbox hg; have hnb60 := NB373_347.out; have hnc60 := NB347_373.out; have hnb61 := NB373_353.out; have hnc61 := NB353_373.out; have hnb62 := NB373_359.out; have hnc62 := NB359_373.out; have hnb63 := NB373_367.out; have hnc63 := NB367_373.out; have hcz64_0 : w59.cell? ⟨gb373, 0, none⟩ = some (.int .u32 0) := (blk_cell BK373.out 0).trans rfl; have hcz64_1 : w59.cell? ⟨gb373, 1, none⟩ = some (.int .u32 0) := (blk_cell BK373.out 1).trans rfl; have hfz64_0 := blk_frozen BK373.out 0; have hfz64_1 := blk_frozen BK373.out 1) | ((with_reducible refine gate_callee (f := 16) rfl ?_); refine goesL_ (some 43) rfl rfl Try.func16 (by kernel_rfl) rfl #[.int .u32 256, .int .u32 257] rfl (by (try simp only [List.map_toArray, List.map_cons, List.map_nil]); first | done | rfl | (simp only [List.length_drop, List.length_take]; rfl)) ?_; (with_reducible refine (lamplighterlaw19_r.calls 256 257 t374 t375 _ A13.out).mono ?_); rintro e w65 ⟨rfl, hb⟩; refine ⟨_, rfl, ?_⟩; have n0_ := am (blk_below (g := gb347) (o := .cells #[.int .u32 t343, .int .u32 t344] 24 (0, 0)) (by (with_reducible repeat (first | refine blk_drewN ?_ _ | refine blk_drew ?_ | refine blk_alloc ?_ _)); refine blk_far ?_ NB347_373.out _; (with_reducible repeat (first | refine blk_drewN ?_ _ | refine blk_drew ?_ | refine blk_alloc ?_ _)); refine blk_far ?_ NB347_373.out _; (with_reducible repeat (first | refine blk_drewN ?_ _ | refine blk_drew ?_ | refine blk_alloc ?_ _)); exact BK347.out) hb); have n1_ := am (blk_below (g := gb353) (o := .cells #[.int .u32 t350, .int .u32 t351] 24 (0, 0)) (by (with_reducible repeat (first | refine blk_drewN ?_ _ | refine blk_drew ?_ | refine blk_alloc ?_ _)); refine blk_far ?_ NB353_373.out _; (with_reducible repeat (first | refine blk_drewN ?_ _ | refine blk_drew ?_ | refine blk_alloc ?_ _)); refine blk_far ?_ NB353_373.out _; (with_reducible repeat (first | refine blk_drewN ?_ _ | refine blk_drew ?_ | refine blk_alloc ?_ _)); exact BK353.out) hb); have n2_ := am (blk_below (g := gb359) (o := .cells #[.int .u32 t356, .int .u32 t357] 24 (0, 0)) (by (with_reducible repeat (first | refine blk_drewN ?_ _ | refine blk_drew ?_ | refine blk_alloc ?_ _)); refine blk_far ?_ NB359_373.out _; (with_reducible repeat (first | refine blk_drewN ?_ _ | refine blk_drew ?_ | refine blk_alloc ?_ _)); refine blk_far ?_ NB359_373.out _; (with_reducible repeat (first | refine blk_drewN ?_ _ | refine blk_drew ?_ | refine blk_alloc ?_ _)); exact BK359.out) hb); have n3_ := am (blk_below (g := gb367) (o := .cells #[.int .u32 t364, .int .u32 t365] 24 (0, 0)) (by (with_reducible repeat (first | refine blk_drewN ?_ _ | refine blk_drew ?_ | refine blk_alloc ?_ _)); refine blk_far ?_ NB367_373.out _; (with_reducible repeat (first | refine blk_drewN ?_ _ | refine blk_drew ?_ | refine blk_alloc ?_ _)); refine blk_far ?_ NB367_373.out _; (with_reducible repeat (first | refine blk_drewN ?_ _ | refine blk_drew ?_ | refine blk_alloc ?_ _)); exact BK367.out) hb); have n4_ := am (blk_below (g := gb373) (o := .cells #[.int .u32 t370, .int .u32 t371] 24 (0, 0)) (by (with_reducible repeat (first | refine blk_drewN ?_ _ | refine blk_drew ?_ | refine blk_alloc ?_ _)); refine blk_put (cs := #[.int .u32 t370, .int .u32 0]) ?_ 1 _ rfl; (with_reducible repeat (first | refine blk_drewN ?_ _ | refine blk_drew ?_ | refine blk_alloc ?_ _)); refine blk_put (cs := #[.int .u32 0, .int .u32 0]) ?_ 0 _ rfl; (with_reducible repeat (first | refine blk_drewN ?_ _ | refine blk_drew ?_ | refine blk_alloc ?_ _)); exact BK373.out) hb); have n5_ := am (below_step (hbA HB) hb); clear BK347; clear BK353; clear BK359; clear BK367; clear BK373; clear HB; have BK347 := n0_; have BK353 := n1_; have BK359 := n2_; have BK367 := n3_; have BK373 := n4_; have HB := n5_; clear n0_ n1_ n2_ n3_ n4_ n5_; (try clear hb); (try clear hb2); (try clear hk); (try clear hi)) | ((with_reducible refine gate_callee (f := 17) rfl ?_); refine goesL_ (some 44) rfl rfl Try.func17 (by kernel_rfl) rfl #[.agg #[.int .u32 t374, .int .u32 t375], .int .i64 8] rfl (by (try simp only [List.map_toArray, List.map_cons, List.map_nil]); first | done | rfl | (simp only [List.length_drop, List.length_take]; rfl)) ?_; (with_reducible refine (interval_Cut.calls k t374 t375 8 t376 t377 t378 _ A14.out).mono ?_); rintro e w66 ⟨rfl, hb⟩; refine ⟨_, rfl, ?_⟩; have n0_ := am (blk_below (g := gb347) (o := .cells #[.int .u32 t343, .int .u32 t344] 24 (0, 0)) (bkA BK347) hb); have n1_ := am (blk_below (g := gb353) (o := .cells #[.int .u32 t350, .int .u32 t351] 24 (0, 0)) (bkA BK353) hb); have n2_ := am (blk_below (g := gb359) (o := .cells #[.int .u32 t356, .int .u32 t357] 24 (0, 0)) (bkA BK359) hb); have n3_ := am (blk_below (g := gb367) (o := .cells #[.int .u32 t364, .int .u32 t365] 24 (0, 0)) (bkA BK367) hb); have n4_ := am (blk_below (g := gb373) (o := .cells #[.int .u32 t370, .int .u32 t371] 24 (0, 0)) (bkA BK373) hb); have n5_ := am (below_step (hbA HB) hb); clear BK347; clear BK353; clear BK359; clear BK367; clear BK373; clear HB; have BK347 := n0_; have BK353 := n1_; have BK359 := n2_; have BK367 := n3_; have BK373 := n4_; have HB := n5_; clear n0_ n1_ n2_ n3_ n4_ n5_; (try clear hb); (try clear hb2); (try clear hk); (try clear hi)) | ((with_reducible refine gate_dst (N := 12) rfl ?_); refine box_event ?hg (N := 12) ?hd (cs := #[.int .u32 0, .int .u32 0]) (t := 24) ?hr ?_; (case hd => rfl); (case hg => rfl); (case hr => first | (go_simp; done) | (go_simp; rfl)); intro gb379 hg w67 hbox hb; have n0_ := am (blk_below (g := gb347) (o := .cells #[.int .u32 t343, .int .u32 t344] 24 (0, 0)) (bkA BK347) hb); have n1_ := am (blk_below (g := gb353) (o := .cells #[.int .u32 t350, .int .u32 t351] 24 (0, 0)) (bkA BK353) hb); have n2_ := am (blk_below (g := gb359) (o := .cells #[.int .u32 t356, .int .u32 t357] 24 (0, 0)) (bkA BK359) hb); have n3_ := am (blk_below (g := gb367) (o := .cells #[.int .u32 t364, .int .u32 t365] 24 (0, 0)) (bkA BK367) hb); have n4_ := am (blk_below (g := gb373) (o := .cells #[.int .u32 t370, .int .u32 t371] 24 (0, 0)) (bkA BK373) hb); have n5_ := am (below_step (hbA HB) hb); have n6_ := am (hbox); have n7_ := am ((by rw [hg]; exact (below_size (hbA HB)) : w.heap.size ≤ gb379)); have n8_ := am ((by rw [hg]; exact (below_size (hbA HB)) : w.heap.size ≤ gb379)); have n9_ := am ((by rw [hg]; exact Nat.ne_of_lt (blk_lt (g := gb347) (o := .cells #[.int .u32 t343, .int .u32 t344] 24 (0, 0)) (bkA BK347)) : gb347 ≠ gb379)); have n10_ := am ((by rw [hg]; exact Nat.ne_of_gt (blk_lt (g := gb347) (o := .cells #[.int .u32 t343, .int .u32 t344] 24 (0, 0)) (bkA BK347)) : gb379 ≠ gb347)); have n11_ := am ((by rw [hg]; exact Nat.ne_of_lt (blk_lt (g := gb353) (o := .cells #[.int .u32 t350, .int .u32 t351] 24 (0, 0)) (bkA BK353)) : gb353 ≠ gb379)); have n12_ := am ((by rw [hg]; exact Nat.ne_of_gt (blk_lt (g := gb353) (o := .cells #[.int .u32 t350, .int .u32 t351] 24 (0, 0)) (bkA BK353)) : gb379 ≠ gb353)); have n13_ := am ((by rw [hg]; exact Nat.ne_of_lt (blk_lt (g := gb359) (o := .cells #[.int .u32 t356, .int .u32 t357] 24 (0, 0)) (bkA BK359)) : gb359 ≠ gb379)); have n14_ := am ((by rw [hg]; exact Nat.ne_of_gt (blk_lt (g := gb359) (o := .cells #[.int .u32 t356, .int .u32 t357] 24 (0, 0)) (bkA BK359)) : gb379 ≠ gb359)); have n15_ := am ((by rw [hg]; exact Nat.ne_of_lt (blk_lt (g := gb367) (o := .cells #[.int .u32 t364, .int .u32 t365] 24 (0, 0)) (bkA BK367)) : gb367 ≠ gb379)); have n16_ := am ((by rw [hg]; exact Nat.ne_of_gt (blk_lt (g := gb367) (o := .cells #[.int .u32 t364, .int .u32 t365] 24 (0, 0)) (bkA BK367)) : gb379 ≠ gb367)); have n17_ := am ((by rw [hg]; exact Nat.ne_of_lt (blk_lt (g := gb373) (o := .cells #[.int .u32 t370, .int .u32 t371] 24 (0, 0)) (bkA BK373)) : gb373 ≠ gb379)); have n18_ := am ((by rw [hg]; exact Nat.ne_of_gt (blk_lt (g := gb373) (o := .cells #[.int .u32 t370, .int .u32 t371] 24 (0, 0)) (bkA BK373)) : gb379 ≠ gb373)); clear BK347; clear BK353; clear BK359; clear BK367; clear BK373; clear HB; have BK347 := n0_; have BK353 := n1_; have BK359 := n2_; have BK367 := n3_; have BK373 := n4_; have HB := n5_; have BK379 := n6_; have GW379 := n7_; have GE379 := n8_; have NB347_379 := n9_; have NB379_347 := n10_; have NB353_379 := n11_; have NB379_353 := n12_; have NB359_379 := n13_; have NB379_359 := n14_; have NB367_379 := n15_; have NB379_367 := n16_; have NB373_379 := n17_; have NB379_373 := n18_; clear n0_ n1_ n2_ n3_ n4_ n5_ n6_ n7_ n8_ n9_ n10_ n11_ n12_ n13_ n14_ n15_ n16_ n17_ n18_; clear hb hbox hg; have hnb68 := NB379_347.out; have hnc68 := NB347_379.out; have hnb69 := NB379_353.out; have hnc69 := NB353_379.out; have hnb70 := NB379_359.out; have hnc70 := NB359_379.out; have hnb71 := NB379_367.out; have hnc71 := NB367_379.out; have hnb72 := NB379_373.out; have hnc72 := NB373_379.out; have hcz73_0 : w67.cell? ⟨gb379, 0, none⟩ = some (.int .u32 0) := (blk_cell BK379.out 0).trans rfl; have hcz73_1 : w67.cell? ⟨gb379, 1, none⟩ = some (.int .u32 0) := (blk_cell BK379.out 1).trans rfl; have hfz73_0 := blk_frozen BK379.out 0; have hfz73_1 := blk_frozen BK379.out 1))
                    have n0_ : Aside0 (((w67.setCell ⟨gb379, 0, none⟩ (.int .u32 t376)).setCell ⟨gb379, 1, none⟩ (.int .u32 t377)).heap[gb347]? = some (.cells #[.int .u32 t343, .int .u32 t344] 24 (0, 0))) := ⟨by (with_reducible repeat (first | refine blk_drewN ?_ _ | refine blk_drew ?_ | refine blk_alloc ?_ _)); refine blk_far ?_ NB347_379.out _; (with_reducible repeat (first | refine blk_drewN ?_ _ | refine blk_drew ?_ | refine blk_alloc ?_ _)); refine blk_far ?_ NB347_379.out _; (with_reducible repeat (first | refine blk_drewN ?_ _ | refine blk_drew ?_ | refine blk_alloc ?_ _)); exact BK347.out⟩
                    have n1_ : Aside0 (((w67.setCell ⟨gb379, 0, none⟩ (.int .u32 t376)).setCell ⟨gb379, 1, none⟩ (.int .u32 t377)).heap[gb353]? = some (.cells #[.int .u32 t350, .int .u32 t351] 24 (0, 0))) := ⟨by (with_reducible repeat (first | refine blk_drewN ?_ _ | refine blk_drew ?_ | refine blk_alloc ?_ _)); refine blk_far ?_ NB353_379.out _; (with_reducible repeat (first | refine blk_drewN ?_ _ | refine blk_drew ?_ | refine blk_alloc ?_ _)); refine blk_far ?_ NB353_379.out _; (with_reducible repeat (first | refine blk_drewN ?_ _ | refine blk_drew ?_ | refine blk_alloc ?_ _)); exact BK353.out⟩
                    have n2_ : Aside0 (((w67.setCell ⟨gb379, 0, none⟩ (.int .u32 t376)).setCell ⟨gb379, 1, none⟩ (.int .u32 t377)).heap[gb359]? = some (.cells #[.int .u32 t356, .int .u32 t357] 24 (0, 0))) := ⟨by (with_reducible repeat (first | refine blk_drewN ?_ _ | refine blk_drew ?_ | refine blk_alloc ?_ _)); refine blk_far ?_ NB359_379.out _; (with_reducible repeat (first | refine blk_drewN ?_ _ | refine blk_drew ?_ | refine blk_alloc ?_ _)); refine blk_far ?_ NB359_379.out _; (with_reducible repeat (first | refine blk_drewN ?_ _ | refine blk_drew ?_ | refine blk_alloc ?_ _)); exact BK359.out⟩
                    have n3_ : Aside0 (((w67.setCell ⟨gb379, 0, none⟩ (.int .u32 t376)).setCell ⟨gb379, 1, none⟩ (.int .u32 t377)).heap[gb367]? = some (.cells #[.int .u32 t364, .int .u32 t365] 24 (0, 0))) := ⟨by (with_reducible repeat (first | refine blk_drewN ?_ _ | refine blk_drew ?_ | refine blk_alloc ?_ _)); refine blk_far ?_ NB367_379.out _; (with_reducible repeat (first | refine blk_drewN ?_ _ | refine blk_drew ?_ | refine blk_alloc ?_ _)); refine blk_far ?_ NB367_379.out _; (with_reducible repeat (first | refine blk_drewN ?_ _ | refine blk_drew ?_ | refine blk_alloc ?_ _)); exact BK367.out⟩
                    have n4_ : Aside0 (((w67.setCell ⟨gb379, 0, none⟩ (.int .u32 t376)).setCell ⟨gb379, 1, none⟩ (.int .u32 t377)).heap[gb373]? = some (.cells #[.int .u32 t370, .int .u32 t371] 24 (0, 0))) := ⟨by (with_reducible repeat (first | refine blk_drewN ?_ _ | refine blk_drew ?_ | refine blk_alloc ?_ _)); refine blk_far ?_ NB373_379.out _; (with_reducible repeat (first | refine blk_drewN ?_ _ | refine blk_drew ?_ | refine blk_alloc ?_ _)); refine blk_far ?_ NB373_379.out _; (with_reducible repeat (first | refine blk_drewN ?_ _ | refine blk_drew ?_ | refine blk_alloc ?_ _)); exact BK373.out⟩
                    have n5_ : Aside0 (((w67.setCell ⟨gb379, 0, none⟩ (.int .u32 t376)).setCell ⟨gb379, 1, none⟩ (.int .u32 t377)).heap[gb379]? = some (.cells #[.int .u32 t376, .int .u32 t377] 24 (0, 0))) := ⟨by (with_reducible repeat (first | refine blk_drewN ?_ _ | refine blk_drew ?_ | refine blk_alloc ?_ _)); refine blk_put (cs := #[.int .u32 t376, .int .u32 0]) ?_ 1 _ rfl; (with_reducible repeat (first | refine blk_drewN ?_ _ | refine blk_drew ?_ | refine blk_alloc ?_ _)); refine blk_put (cs := #[.int .u32 0, .int .u32 0]) ?_ 0 _ rfl; (with_reducible repeat (first | refine blk_drewN ?_ _ | refine blk_drew ?_ | refine blk_alloc ?_ _)); exact BK379.out⟩
                    have n6_ : Aside0 (Below w.heap.size w ((w67.setCell ⟨gb379, 0, none⟩ (.int .u32 t376)).setCell ⟨gb379, 1, none⟩ (.int .u32 t377))) := ⟨by repeat (first | (with_reducible first | exact HB.out | apply below_alloc | apply pw_below_drewN | apply below_drew1 | refine below_set ?_ GE347.out | refine below_set ?_ GE353.out | refine below_set ?_ GE359.out | refine below_set ?_ GE367.out | refine below_set ?_ GE373.out | refine below_set ?_ GE379.out) | exact HB.out)⟩
                    (try clear BK347)
                    (try clear BK353)
                    (try clear BK359)
                    (try clear BK367)
                    (try clear BK373)
                    (try clear BK379)
                    (try clear HB)
                    generalize ((w67.setCell ⟨gb379, 0, none⟩ (.int .u32 t376)).setCell ⟨gb379, 1, none⟩ (.int .u32 t377)) = w74 at n0_ n1_ n2_ n3_ n4_ n5_ n6_ ⊢
                    have BK347 := n0_
                    have BK353 := n1_
                    have BK359 := n2_
                    have BK367 := n3_
                    have BK373 := n4_
                    have BK379 := n5_
                    have HB := n6_
                    clear n0_ n1_ n2_ n3_ n4_ n5_ n6_
                    have n0_ := am (blk_drew BK347.out)
                    have n1_ := am (blk_drew BK353.out)
                    have n2_ := am (blk_drew BK359.out)
                    have n3_ := am (blk_drew BK367.out)
                    have n4_ := am (blk_drew BK373.out)
                    have n5_ := am (blk_drew BK379.out)
                    have n6_ := am (below_drew1 HB.out)
                    clear BK347
                    clear BK353
                    clear BK359
                    clear BK367
                    clear BK373
                    clear BK379
                    clear HB
                    have BK347 := n0_
                    have BK353 := n1_
                    have BK359 := n2_
                    have BK367 := n3_
                    have BK373 := n4_
                    have BK379 := n5_
                    have HB := n6_
                    clear n0_ n1_ n2_ n3_ n4_ n5_ n6_
                    refine start_ (n := 43) (S := fun w' => w'.cell? ⟨gb373, 0, none⟩ = some (.int .u32 t370) ∧ w'.cell? ⟨gb373, 1, none⟩ = some (.int .u32 t371) ∧ w'.cell? ⟨gb379, 0, none⟩ = some (.int .u32 t376) ∧ w'.cell? ⟨gb379, 1, none⟩ = some (.int .u32 t377)) (ds := []) #[false, false, false, false, false, false, false, false, false, false, false, false, false, false, false, false, false, false, false, false, false, false, false, false, false, false, false, false, false, false, false, false, false, false, false, false, false, false, false, false, false, false, false] (by kernel_rfl) rfl rfl ⟨(blk_cell BK373.out 0).trans rfl, (blk_cell BK373.out 1).trans rfl, (blk_cell BK379.out 0).trans rfl, (blk_cell BK379.out 1).trans rfl⟩ (fun hHeld => ?_); refine with_tabW lamplighterlaw19_IntervalNames.tab7 lamplighterlaw19_IntervalNames.bits7 (fun HT_ HW_ => ?_)
                    generalize w74.drew = w75 at BK347 BK353 BK359 BK367 BK373 BK379 HB hHeld ⊢
                    refine one_ (i := 0) (N := some 47) #[true, false, false, false, false, false, false, false, false, false, false, false, false, false, false, false, false, false, false, false, false, false, false, false, false, false, false, false, false, false, false, false, false, false, false, false, false, false, false, false, false, false, false] rfl rfl (one_of HT_.out (by kernel_rfl)) (by decide) (fun K hK => ?_)
                    refine goes_ Try.func8 (by kernel_rfl) rfl #[] (by rfl) rfl rfl (by (try simp only [List.map_toArray, List.map_cons, List.map_nil]); first | done | rfl | (simp only [List.length_drop, List.length_take]; rfl)) ?_
                    with_reducible refine (lamplighterlaw19_lives.calls k  true _ A15.out ⟨rfl⟩).mono ?_
                    rintro e w76 ⟨rfl, hb⟩
                    refine ⟨_, rfl, ?_⟩
                    have n0_ := am (blk_below (g := gb347) (o := .cells #[.int .u32 t343, .int .u32 t344] 24 (0, 0)) (bkA BK347) hb)
                    have n1_ := am (blk_below (g := gb353) (o := .cells #[.int .u32 t350, .int .u32 t351] 24 (0, 0)) (bkA BK353) hb)
                    have n2_ := am (blk_below (g := gb359) (o := .cells #[.int .u32 t356, .int .u32 t357] 24 (0, 0)) (bkA BK359) hb)
                    have n3_ := am (blk_below (g := gb367) (o := .cells #[.int .u32 t364, .int .u32 t365] 24 (0, 0)) (bkA BK367) hb)
                    have n4_ := am (blk_below (g := gb373) (o := .cells #[.int .u32 t370, .int .u32 t371] 24 (0, 0)) (bkA BK373) hb)
                    have n5_ := am (blk_below (g := gb379) (o := .cells #[.int .u32 t376, .int .u32 t377] 24 (0, 0)) (bkA BK379) hb)
                    have n6_ := am (below_step (hbA HB) hb)
                    clear BK347
                    clear BK353
                    clear BK359
                    clear BK367
                    clear BK373
                    clear BK379
                    clear HB
                    have BK347 := n0_
                    have BK353 := n1_
                    have BK359 := n2_
                    have BK367 := n3_
                    have BK373 := n4_
                    have BK379 := n5_
                    have HB := n6_
                    clear n0_ n1_ n2_ n3_ n4_ n5_ n6_
                    (try clear hb)
                    (try clear hb2)
                    (try clear hk)
                    (try clear hi)
                    refine hK.out _ _ ⟨(blk_cell BK373.out 0).trans rfl, (blk_cell BK373.out 1).trans rfl, (blk_cell BK379.out 0).trans rfl, (blk_cell BK379.out 1).trans rfl⟩ (fun hHeld => ?_)
                    clear hK K
                    refine norm_ (a' := ?_) ?_ ?_
                    rotate_left
                    · show Act.put _ (some 47) _ = _
                      simp only [Act.put, List.setIfInBounds_toArray, List.set_cons_zero, List.set_cons_succ, i64_w, i32_w]
                      rfl
                    refine pure_ (i := 1) (N := some 48) (v := ?_) (a' := ?_) #[true, true, false, false, false, false, false, false, false, false, false, false, false, false, false, false, false, false, false, false, false, false, false, false, false, false, false, false, false, false, false, false, false, false, false, false, false, false, false, false, false, false, false] rfl rfl (any_of HT_.out (by kernel_rfl)) (fun _ _ _ h => h) (Or.inl ⟨by rfl, ?_⟩) ?_ ?_
                    rotate_left
                    · intro w'
                      go_simp
                      with_reducible rfl
                    rotate_left
                    · simp only [Act.put, List.setIfInBounds_toArray, List.set_cons_zero, List.set_cons_succ, i64_w, i32_w]
                      rfl
                    refine one_ (i := 2) (N := some 49) #[true, true, true, false, false, false, false, false, false, false, false, false, false, false, false, false, false, false, false, false, false, false, false, false, false, false, false, false, false, false, false, false, false, false, false, false, false, false, false, false, false, false, false] rfl rfl (one_of HT_.out (by kernel_rfl)) (by decide) (fun K hK => ?_)
                    refine goes_ Try.func19 (by kernel_rfl) rfl #[] (by rfl) rfl rfl (by (try simp only [List.map_toArray, List.map_cons, List.map_nil]); first | done | rfl | (simp only [List.length_drop, List.length_take]; rfl)) ?_
                    with_reducible refine (interval_All.calls  t381 t382 _ A17.out).mono ?_
                    rintro e w77 ⟨rfl, hb⟩
                    refine ⟨_, rfl, ?_⟩
                    have n0_ := am (blk_below (g := gb347) (o := .cells #[.int .u32 t343, .int .u32 t344] 24 (0, 0)) (bkA BK347) hb)
                    have n1_ := am (blk_below (g := gb353) (o := .cells #[.int .u32 t350, .int .u32 t351] 24 (0, 0)) (bkA BK353) hb)
                    have n2_ := am (blk_below (g := gb359) (o := .cells #[.int .u32 t356, .int .u32 t357] 24 (0, 0)) (bkA BK359) hb)
                    have n3_ := am (blk_below (g := gb367) (o := .cells #[.int .u32 t364, .int .u32 t365] 24 (0, 0)) (bkA BK367) hb)
                    have n4_ := am (blk_below (g := gb373) (o := .cells #[.int .u32 t370, .int .u32 t371] 24 (0, 0)) (bkA BK373) hb)
                    have n5_ := am (blk_below (g := gb379) (o := .cells #[.int .u32 t376, .int .u32 t377] 24 (0, 0)) (bkA BK379) hb)
                    have n6_ := am (below_step (hbA HB) hb)
                    clear BK347
                    clear BK353
                    clear BK359
                    clear BK367
                    clear BK373
                    clear BK379
                    clear HB
                    have BK347 := n0_
                    have BK353 := n1_
                    have BK359 := n2_
                    have BK367 := n3_
                    have BK373 := n4_
                    have BK379 := n5_
                    have HB := n6_
                    clear n0_ n1_ n2_ n3_ n4_ n5_ n6_
                    (try clear hb)
                    (try clear hb2)
                    (try clear hk)
                    (try clear hi)
                    refine hK.out _ _ ⟨(blk_cell BK373.out 0).trans rfl, (blk_cell BK373.out 1).trans rfl, (blk_cell BK379.out 0).trans rfl, (blk_cell BK379.out 1).trans rfl⟩ (fun hHeld => ?_)
                    clear hK K
                    refine norm_ (a' := ?_) ?_ ?_
                    rotate_left
                    · show Act.put _ (some 49) _ = _
                      simp only [Act.put, List.setIfInBounds_toArray, List.set_cons_zero, List.set_cons_succ, i64_w, i32_w]
                      rfl
                    refine one_ (i := 3) (N := some 50) #[true, true, true, true, false, false, false, false, false, false, false, false, false, false, false, false, false, false, false, false, false, false, false, false, false, false, false, false, false, false, false, false, false, false, false, false, false, false, false, false, false, false, false] rfl rfl (one_of HT_.out (by kernel_rfl)) (by decide) (fun K hK => ?_)
                    refine goes_ Try.func16 (by kernel_rfl) rfl #[.int .u32 0, .int .u32 4294967295] (by rfl) rfl rfl (by (try simp only [List.map_toArray, List.map_cons, List.map_nil]); first | done | rfl | (simp only [List.length_drop, List.length_take]; rfl)) ?_
                    with_reducible refine (lamplighterlaw19_r.calls 0 4294967295 t383 t384 _ A18.out).mono ?_
                    rintro e w78 ⟨rfl, hb⟩
                    refine ⟨_, rfl, ?_⟩
                    have n0_ := am (blk_below (g := gb347) (o := .cells #[.int .u32 t343, .int .u32 t344] 24 (0, 0)) (bkA BK347) hb)
                    have n1_ := am (blk_below (g := gb353) (o := .cells #[.int .u32 t350, .int .u32 t351] 24 (0, 0)) (bkA BK353) hb)
                    have n2_ := am (blk_below (g := gb359) (o := .cells #[.int .u32 t356, .int .u32 t357] 24 (0, 0)) (bkA BK359) hb)
                    have n3_ := am (blk_below (g := gb367) (o := .cells #[.int .u32 t364, .int .u32 t365] 24 (0, 0)) (bkA BK367) hb)
                    have n4_ := am (blk_below (g := gb373) (o := .cells #[.int .u32 t370, .int .u32 t371] 24 (0, 0)) (bkA BK373) hb)
                    have n5_ := am (blk_below (g := gb379) (o := .cells #[.int .u32 t376, .int .u32 t377] 24 (0, 0)) (bkA BK379) hb)
                    have n6_ := am (below_step (hbA HB) hb)
                    clear BK347
                    clear BK353
                    clear BK359
                    clear BK367
                    clear BK373
                    clear BK379
                    clear HB
                    have BK347 := n0_
                    have BK353 := n1_
                    have BK359 := n2_
                    have BK367 := n3_
                    have BK373 := n4_
                    have BK379 := n5_
                    have HB := n6_
                    clear n0_ n1_ n2_ n3_ n4_ n5_ n6_
                    (try clear hb)
                    (try clear hb2)
                    (try clear hk)
                    (try clear hi)
                    refine hK.out _ _ ⟨(blk_cell BK373.out 0).trans rfl, (blk_cell BK373.out 1).trans rfl, (blk_cell BK379.out 0).trans rfl, (blk_cell BK379.out 1).trans rfl⟩ (fun hHeld => ?_)
                    clear hK K
                    refine norm_ (a' := ?_) ?_ ?_
                    rotate_left
                    · show Act.put _ (some 50) _ = _
                      simp only [Act.put, List.setIfInBounds_toArray, List.set_cons_zero, List.set_cons_succ, i64_w, i32_w]
                      rfl
                    refine pure_ (i := 4) (N := some 51) (v := ?_) (a' := ?_) #[true, true, true, true, true, false, false, false, false, false, false, false, false, false, false, false, false, false, false, false, false, false, false, false, false, false, false, false, false, false, false, false, false, false, false, false, false, false, false, false, false, false, false] rfl rfl (any_of HT_.out (by kernel_rfl)) (fun _ _ _ h => h) (Or.inl ⟨by rfl, ?_⟩) ?_ ?_
                    rotate_left
                    · intro w'
                      go_simp
                      with_reducible rfl
                    rotate_left
                    · simp only [Act.put, List.setIfInBounds_toArray, List.set_cons_zero, List.set_cons_succ, i64_w, i32_w]
                      rfl
                    refine pure_ (i := 5) (N := some 52) (v := ?_) (a' := ?_) #[true, true, true, true, true, true, false, false, false, false, false, false, false, false, false, false, false, false, false, false, false, false, false, false, false, false, false, false, false, false, false, false, false, false, false, false, false, false, false, false, false, false, false] rfl rfl (any_of HT_.out (by kernel_rfl)) (fun _ _ _ h => h) (Or.inl ⟨by rfl, ?_⟩) ?_ ?_
                    rotate_left
                    · intro w'
                      go_simp
                      with_reducible rfl
                    rotate_left
                    · simp only [Act.put, List.setIfInBounds_toArray, List.set_cons_zero, List.set_cons_succ, i64_w, i32_w]
                      rfl
                    refine pure_ (i := 6) (N := some 53) (v := ?_) (a' := ?_) #[true, true, true, true, true, true, true, false, false, false, false, false, false, false, false, false, false, false, false, false, false, false, false, false, false, false, false, false, false, false, false, false, false, false, false, false, false, false, false, false, false, false, false] rfl rfl (any_of HT_.out (by kernel_rfl)) (fun _ _ _ h => h) (Or.inl ⟨by rfl, ?_⟩) ?_ ?_
                    rotate_left
                    · intro w'
                      go_simp
                      with_reducible rfl
                    rotate_left
                    · simp only [Act.put, List.setIfInBounds_toArray, List.set_cons_zero, List.set_cons_succ, i64_w, i32_w]
                      rfl
                    refine one_ (i := 7) (N := some 54) #[true, true, true, true, true, true, true, true, false, false, false, false, false, false, false, false, false, false, false, false, false, false, false, false, false, false, false, false, false, false, false, false, false, false, false, false, false, false, false, false, false, false, false] rfl rfl (one_of HT_.out (by kernel_rfl)) (by decide) (fun K hK => ?_)
                    refine goes_ Try.func20 (by kernel_rfl) rfl #[.int .u32 3] (by rfl) rfl rfl (by (try simp only [List.map_toArray, List.map_cons, List.map_nil]); first | done | rfl | (simp only [List.length_drop, List.length_take]; rfl)) ?_
                    with_reducible refine (interval_One.calls 3 t385 t386 _ A20.out).mono ?_
                    rintro e w79 ⟨rfl, hb⟩
                    refine ⟨_, rfl, ?_⟩
                    have n0_ := am (blk_below (g := gb347) (o := .cells #[.int .u32 t343, .int .u32 t344] 24 (0, 0)) (bkA BK347) hb)
                    have n1_ := am (blk_below (g := gb353) (o := .cells #[.int .u32 t350, .int .u32 t351] 24 (0, 0)) (bkA BK353) hb)
                    have n2_ := am (blk_below (g := gb359) (o := .cells #[.int .u32 t356, .int .u32 t357] 24 (0, 0)) (bkA BK359) hb)
                    have n3_ := am (blk_below (g := gb367) (o := .cells #[.int .u32 t364, .int .u32 t365] 24 (0, 0)) (bkA BK367) hb)
                    have n4_ := am (blk_below (g := gb373) (o := .cells #[.int .u32 t370, .int .u32 t371] 24 (0, 0)) (bkA BK373) hb)
                    have n5_ := am (blk_below (g := gb379) (o := .cells #[.int .u32 t376, .int .u32 t377] 24 (0, 0)) (bkA BK379) hb)
                    have n6_ := am (below_step (hbA HB) hb)
                    clear BK347
                    clear BK353
                    clear BK359
                    clear BK367
                    clear BK373
                    clear BK379
                    clear HB
                    have BK347 := n0_
                    have BK353 := n1_
                    have BK359 := n2_
                    have BK367 := n3_
                    have BK373 := n4_
                    have BK379 := n5_
                    have HB := n6_
                    clear n0_ n1_ n2_ n3_ n4_ n5_ n6_
                    (try clear hb)
                    (try clear hb2)
                    (try clear hk)
                    (try clear hi)
                    refine hK.out _ _ ⟨(blk_cell BK373.out 0).trans rfl, (blk_cell BK373.out 1).trans rfl, (blk_cell BK379.out 0).trans rfl, (blk_cell BK379.out 1).trans rfl⟩ (fun hHeld => ?_)
                    clear hK K
                    refine norm_ (a' := ?_) ?_ ?_
                    rotate_left
                    · show Act.put _ (some 54) _ = _
                      simp only [Act.put, List.setIfInBounds_toArray, List.set_cons_zero, List.set_cons_succ, i64_w, i32_w]
                      rfl
                    refine one_ (i := 8) (N := some 55) #[true, true, true, true, true, true, true, true, true, false, false, false, false, false, false, false, false, false, false, false, false, false, false, false, false, false, false, false, false, false, false, false, false, false, false, false, false, false, false, false, false, false, false] rfl rfl (one_of HT_.out (by kernel_rfl)) (by decide) (fun K hK => ?_)
                    refine goes_ Try.func16 (by kernel_rfl) rfl #[.int .u32 3, .int .u32 3] (by rfl) rfl rfl (by (try simp only [List.map_toArray, List.map_cons, List.map_nil]); first | done | rfl | (simp only [List.length_drop, List.length_take]; rfl)) ?_
                    with_reducible refine (lamplighterlaw19_r.calls 3 3 t387 t388 _ A21.out).mono ?_
                    rintro e w80 ⟨rfl, hb⟩
                    refine ⟨_, rfl, ?_⟩
                    have n0_ := am (blk_below (g := gb347) (o := .cells #[.int .u32 t343, .int .u32 t344] 24 (0, 0)) (bkA BK347) hb)
                    have n1_ := am (blk_below (g := gb353) (o := .cells #[.int .u32 t350, .int .u32 t351] 24 (0, 0)) (bkA BK353) hb)
                    have n2_ := am (blk_below (g := gb359) (o := .cells #[.int .u32 t356, .int .u32 t357] 24 (0, 0)) (bkA BK359) hb)
                    have n3_ := am (blk_below (g := gb367) (o := .cells #[.int .u32 t364, .int .u32 t365] 24 (0, 0)) (bkA BK367) hb)
                    have n4_ := am (blk_below (g := gb373) (o := .cells #[.int .u32 t370, .int .u32 t371] 24 (0, 0)) (bkA BK373) hb)
                    have n5_ := am (blk_below (g := gb379) (o := .cells #[.int .u32 t376, .int .u32 t377] 24 (0, 0)) (bkA BK379) hb)
                    have n6_ := am (below_step (hbA HB) hb)
                    clear BK347
                    clear BK353
                    clear BK359
                    clear BK367
                    clear BK373
                    clear BK379
                    clear HB
                    have BK347 := n0_
                    have BK353 := n1_
                    have BK359 := n2_
                    have BK367 := n3_
                    have BK373 := n4_
                    have BK379 := n5_
                    have HB := n6_
                    clear n0_ n1_ n2_ n3_ n4_ n5_ n6_
                    (try clear hb)
                    (try clear hb2)
                    (try clear hk)
                    (try clear hi)
                    refine hK.out _ _ ⟨(blk_cell BK373.out 0).trans rfl, (blk_cell BK373.out 1).trans rfl, (blk_cell BK379.out 0).trans rfl, (blk_cell BK379.out 1).trans rfl⟩ (fun hHeld => ?_)
                    clear hK K
                    refine norm_ (a' := ?_) ?_ ?_
                    rotate_left
                    · show Act.put _ (some 55) _ = _
                      simp only [Act.put, List.setIfInBounds_toArray, List.set_cons_zero, List.set_cons_succ, i64_w, i32_w]
                      rfl
                    refine pure_ (i := 9) (N := some 56) (v := ?_) (a' := ?_) #[true, true, true, true, true, true, true, true, true, true, false, false, false, false, false, false, false, false, false, false, false, false, false, false, false, false, false, false, false, false, false, false, false, false, false, false, false, false, false, false, false, false, false] rfl rfl (any_of HT_.out (by kernel_rfl)) (fun _ _ _ h => h) (Or.inl ⟨by rfl, ?_⟩) ?_ ?_
                    rotate_left
                    · intro w'
                      go_simp
                      with_reducible rfl
                    rotate_left
                    · simp only [Act.put, List.setIfInBounds_toArray, List.set_cons_zero, List.set_cons_succ, i64_w, i32_w]
                      rfl
                    refine pure_ (i := 10) (N := some 57) (v := ?_) (a' := ?_) #[true, true, true, true, true, true, true, true, true, true, true, false, false, false, false, false, false, false, false, false, false, false, false, false, false, false, false, false, false, false, false, false, false, false, false, false, false, false, false, false, false, false, false] rfl rfl (any_of HT_.out (by kernel_rfl)) (fun _ _ _ h => h) (Or.inl ⟨by rfl, ?_⟩) ?_ ?_
                    rotate_left
                    · intro w'
                      go_simp
                      with_reducible rfl
                    rotate_left
                    · simp only [Act.put, List.setIfInBounds_toArray, List.set_cons_zero, List.set_cons_succ, i64_w, i32_w]
                      rfl
                    refine pure_ (i := 11) (N := some 58) (v := ?_) (a' := ?_) #[true, true, true, true, true, true, true, true, true, true, true, true, false, false, false, false, false, false, false, false, false, false, false, false, false, false, false, false, false, false, false, false, false, false, false, false, false, false, false, false, false, false, false] rfl rfl (any_of HT_.out (by kernel_rfl)) (fun _ _ _ h => h) (Or.inl ⟨by rfl, ?_⟩) ?_ ?_
                    rotate_left
                    · intro w'
                      go_simp
                      with_reducible rfl
                    rotate_left
                    · simp only [Act.put, List.setIfInBounds_toArray, List.set_cons_zero, List.set_cons_succ, i64_w, i32_w]
                      rfl
                    refine one_ (i := 12) (N := some 59) #[true, true, true, true, true, true, true, true, true, true, true, true, true, false, false, false, false, false, false, false, false, false, false, false, false, false, false, false, false, false, false, false, false, false, false, false, false, false, false, false, false, false, false] rfl rfl (one_of HT_.out (by kernel_rfl)) (by decide) (fun K hK => ?_)
                    refine goes_ Try.func16 (by kernel_rfl) rfl #[.int .u32 2, .int .u32 1] (by rfl) rfl rfl (by (try simp only [List.map_toArray, List.map_cons, List.map_nil]); first | done | rfl | (simp only [List.length_drop, List.length_take]; rfl)) ?_
                    with_reducible refine (lamplighterlaw19_r.calls 2 1 t389 t390 _ A23.out).mono ?_
                    rintro e w81 ⟨rfl, hb⟩
                    refine ⟨_, rfl, ?_⟩
                    have n0_ := am (blk_below (g := gb347) (o := .cells #[.int .u32 t343, .int .u32 t344] 24 (0, 0)) (bkA BK347) hb)
                    have n1_ := am (blk_below (g := gb353) (o := .cells #[.int .u32 t350, .int .u32 t351] 24 (0, 0)) (bkA BK353) hb)
                    have n2_ := am (blk_below (g := gb359) (o := .cells #[.int .u32 t356, .int .u32 t357] 24 (0, 0)) (bkA BK359) hb)
                    have n3_ := am (blk_below (g := gb367) (o := .cells #[.int .u32 t364, .int .u32 t365] 24 (0, 0)) (bkA BK367) hb)
                    have n4_ := am (blk_below (g := gb373) (o := .cells #[.int .u32 t370, .int .u32 t371] 24 (0, 0)) (bkA BK373) hb)
                    have n5_ := am (blk_below (g := gb379) (o := .cells #[.int .u32 t376, .int .u32 t377] 24 (0, 0)) (bkA BK379) hb)
                    have n6_ := am (below_step (hbA HB) hb)
                    clear BK347
                    clear BK353
                    clear BK359
                    clear BK367
                    clear BK373
                    clear BK379
                    clear HB
                    have BK347 := n0_
                    have BK353 := n1_
                    have BK359 := n2_
                    have BK367 := n3_
                    have BK373 := n4_
                    have BK379 := n5_
                    have HB := n6_
                    clear n0_ n1_ n2_ n3_ n4_ n5_ n6_
                    (try clear hb)
                    (try clear hb2)
                    (try clear hk)
                    (try clear hi)
                    refine hK.out _ _ ⟨(blk_cell BK373.out 0).trans rfl, (blk_cell BK373.out 1).trans rfl, (blk_cell BK379.out 0).trans rfl, (blk_cell BK379.out 1).trans rfl⟩ (fun hHeld => ?_)
                    clear hK K
                    refine norm_ (a' := ?_) ?_ ?_
                    rotate_left
                    · show Act.put _ (some 59) _ = _
                      simp only [Act.put, List.setIfInBounds_toArray, List.set_cons_zero, List.set_cons_succ, i64_w, i32_w]
                      rfl
                    refine one_ (i := 13) (N := some 60) #[true, true, true, true, true, true, true, true, true, true, true, true, true, true, false, false, false, false, false, false, false, false, false, false, false, false, false, false, false, false, false, false, false, false, false, false, false, false, false, false, false, false, false] rfl rfl (one_of HT_.out (by kernel_rfl)) (by decide) (fun K hK => ?_)
                    refine goes_ Try.func9 (by kernel_rfl) rfl #[.agg #[.int .u32 t389, .int .u32 t390]] (by rfl) rfl rfl (by (try simp only [List.map_toArray, List.map_cons, List.map_nil]); first | done | rfl | (simp only [List.length_drop, List.length_take]; rfl)) ?_
                    with_reducible refine (interval_Check.calls t389 t390 t391 _ A24.out).mono ?_
                    rintro e w82 ⟨rfl, hb⟩
                    refine ⟨_, rfl, ?_⟩
                    have n0_ := am (blk_below (g := gb347) (o := .cells #[.int .u32 t343, .int .u32 t344] 24 (0, 0)) (bkA BK347) hb)
                    have n1_ := am (blk_below (g := gb353) (o := .cells #[.int .u32 t350, .int .u32 t351] 24 (0, 0)) (bkA BK353) hb)
                    have n2_ := am (blk_below (g := gb359) (o := .cells #[.int .u32 t356, .int .u32 t357] 24 (0, 0)) (bkA BK359) hb)
                    have n3_ := am (blk_below (g := gb367) (o := .cells #[.int .u32 t364, .int .u32 t365] 24 (0, 0)) (bkA BK367) hb)
                    have n4_ := am (blk_below (g := gb373) (o := .cells #[.int .u32 t370, .int .u32 t371] 24 (0, 0)) (bkA BK373) hb)
                    have n5_ := am (blk_below (g := gb379) (o := .cells #[.int .u32 t376, .int .u32 t377] 24 (0, 0)) (bkA BK379) hb)
                    have n6_ := am (below_step (hbA HB) hb)
                    clear BK347
                    clear BK353
                    clear BK359
                    clear BK367
                    clear BK373
                    clear BK379
                    clear HB
                    have BK347 := n0_
                    have BK353 := n1_
                    have BK359 := n2_
                    have BK367 := n3_
                    have BK373 := n4_
                    have BK379 := n5_
                    have HB := n6_
                    clear n0_ n1_ n2_ n3_ n4_ n5_ n6_
                    (try clear hb)
                    (try clear hb2)
                    (try clear hk)
                    (try clear hi)
                    refine hK.out _ _ ⟨(blk_cell BK373.out 0).trans rfl, (blk_cell BK373.out 1).trans rfl, (blk_cell BK379.out 0).trans rfl, (blk_cell BK379.out 1).trans rfl⟩ (fun hHeld => ?_)
                    clear hK K
                    refine norm_ (a' := ?_) ?_ ?_
                    rotate_left
                    · show Act.put _ (some 60) _ = _
                      simp only [Act.put, List.setIfInBounds_toArray, List.set_cons_zero, List.set_cons_succ, i64_w, i32_w]
                      rfl
                    refine pure_ (i := 14) (N := some 61) (v := ?_) (a' := ?_) #[true, true, true, true, true, true, true, true, true, true, true, true, true, true, true, false, false, false, false, false, false, false, false, false, false, false, false, false, false, false, false, false, false, false, false, false, false, false, false, false, false, false, false] rfl rfl (any_of HT_.out (by kernel_rfl)) (fun _ _ _ h => h) (Or.inl ⟨by rfl, ?_⟩) ?_ ?_
                    rotate_left
                    · intro w'
                      go_simp
                      with_reducible rfl
                    rotate_left
                    · simp only [Act.put, List.setIfInBounds_toArray, List.set_cons_zero, List.set_cons_succ, i64_w, i32_w]
                      rfl
                    refine pure_ (i := 15) (N := some 62) (v := ?_) (a' := ?_) #[true, true, true, true, true, true, true, true, true, true, true, true, true, true, true, true, false, false, false, false, false, false, false, false, false, false, false, false, false, false, false, false, false, false, false, false, false, false, false, false, false, false, false] rfl rfl (any_of HT_.out (by kernel_rfl)) (fun _ _ _ h => h) (Or.inl ⟨by rfl, ?_⟩) ?_ ?_
                    rotate_left
                    · intro w'
                      go_simp
                      with_reducible rfl
                    rotate_left
                    · simp only [Act.put, List.setIfInBounds_toArray, List.set_cons_zero, List.set_cons_succ, i64_w, i32_w]
                      rfl
                    refine pure_ (i := 16) (N := some 63) (v := ?_) (a' := ?_) #[true, true, true, true, true, true, true, true, true, true, true, true, true, true, true, true, true, false, false, false, false, false, false, false, false, false, false, false, false, false, false, false, false, false, false, false, false, false, false, false, false, false, false] rfl rfl (any_of HT_.out (by kernel_rfl)) (fun _ _ _ h => h) (Or.inl ⟨by rfl, ?_⟩) ?_ ?_
                    rotate_left
                    · intro w'
                      go_simp
                      with_reducible rfl
                    rotate_left
                    · simp only [Act.put, List.setIfInBounds_toArray, List.set_cons_zero, List.set_cons_succ, i64_w, i32_w]
                      rfl
                    refine pure_ (i := 17) (N := some 64) (v := ?_) (a' := ?_) #[true, true, true, true, true, true, true, true, true, true, true, true, true, true, true, true, true, true, false, false, false, false, false, false, false, false, false, false, false, false, false, false, false, false, false, false, false, false, false, false, false, false, false] rfl rfl (any_of HT_.out (by kernel_rfl)) (fun _ _ _ h => h) (Or.inl ⟨by rfl, ?_⟩) ?_ ?_
                    rotate_left
                    · intro w'
                      go_simp
                      with_reducible rfl
                    rotate_left
                    · simp only [Act.put, List.setIfInBounds_toArray, List.set_cons_zero, List.set_cons_succ, i64_w, i32_w]
                      rfl
                    refine pure_ (i := 18) (N := some 65) (v := ?_) (a' := ?_) #[true, true, true, true, true, true, true, true, true, true, true, true, true, true, true, true, true, true, true, false, false, false, false, false, false, false, false, false, false, false, false, false, false, false, false, false, false, false, false, false, false, false, false] rfl rfl (any_of HT_.out (by kernel_rfl)) (fun _ _ _ h => h) (Or.inl ⟨by rfl, ?_⟩) ?_ ?_
                    rotate_left
                    · intro w'
                      go_simp
                      with_reducible rfl
                    rotate_left
                    · simp only [Act.put, List.setIfInBounds_toArray, List.set_cons_zero, List.set_cons_succ, i64_w, i32_w]
                      rfl
                    refine pure_ (i := 19) (N := some 66) (v := ?_) (a' := ?_) #[true, true, true, true, true, true, true, true, true, true, true, true, true, true, true, true, true, true, true, true, false, false, false, false, false, false, false, false, false, false, false, false, false, false, false, false, false, false, false, false, false, false, false] rfl rfl (any_of HT_.out (by kernel_rfl)) (fun _ _ _ h => h) (Or.inl ⟨by rfl, ?_⟩) ?_ ?_
                    rotate_left
                    · intro w'
                      go_simp
                      with_reducible rfl
                    rotate_left
                    · simp only [Act.put, List.setIfInBounds_toArray, List.set_cons_zero, List.set_cons_succ, i64_w, i32_w]
                      rfl
                    refine pure_ (i := 20) (N := some 67) (v := ?_) (a' := ?_) #[true, true, true, true, true, true, true, true, true, true, true, true, true, true, true, true, true, true, true, true, true, false, false, false, false, false, false, false, false, false, false, false, false, false, false, false, false, false, false, false, false, false, false] rfl rfl (any_of HT_.out (by kernel_rfl)) (fun _ _ _ h => h) (Or.inl ⟨by rfl, ?_⟩) ?_ ?_
                    rotate_left
                    · intro w'
                      go_simp
                      with_reducible rfl
                    rotate_left
                    · simp only [Act.put, List.setIfInBounds_toArray, List.set_cons_zero, List.set_cons_succ, i64_w, i32_w]
                      rfl
                    refine pure_ (i := 21) (N := some 68) (v := ?_) (a' := ?_) #[true, true, true, true, true, true, true, true, true, true, true, true, true, true, true, true, true, true, true, true, true, true, false, false, false, false, false, false, false, false, false, false, false, false, false, false, false, false, false, false, false, false, false] rfl rfl (any_of HT_.out (by kernel_rfl)) (fun _ _ _ h => h) (Or.inl ⟨by rfl, ?_⟩) ?_ ?_
                    rotate_left
                    · intro w'
                      go_simp
                      with_reducible rfl
                    rotate_left
                    · simp only [Act.put, List.setIfInBounds_toArray, List.set_cons_zero, List.set_cons_succ, i64_w, i32_w]
                      rfl
                    refine pure_ (i := 22) (N := some 69) (v := ?_) (a' := ?_) #[true, true, true, true, true, true, true, true, true, true, true, true, true, true, true, true, true, true, true, true, true, true, true, false, false, false, false, false, false, false, false, false, false, false, false, false, false, false, false, false, false, false, false] rfl rfl (any_of HT_.out (by kernel_rfl)) (fun _ _ _ h => h) (Or.inl ⟨by rfl, ?_⟩) ?_ ?_
                    rotate_left
                    · intro w'
                      go_simp
                      with_reducible rfl
                    rotate_left
                    · simp only [Act.put, List.setIfInBounds_toArray, List.set_cons_zero, List.set_cons_succ, i64_w, i32_w]
                      rfl
                    refine pure_ (i := 23) (N := some 70) (v := ?_) (a' := ?_) #[true, true, true, true, true, true, true, true, true, true, true, true, true, true, true, true, true, true, true, true, true, true, true, true, false, false, false, false, false, false, false, false, false, false, false, false, false, false, false, false, false, false, false] rfl rfl (any_of HT_.out (by kernel_rfl)) (fun _ _ _ h => h) (Or.inl ⟨by rfl, ?_⟩) ?_ ?_
                    rotate_left
                    · intro w'
                      go_simp
                      with_reducible rfl
                    rotate_left
                    · simp only [Act.put, List.setIfInBounds_toArray, List.set_cons_zero, List.set_cons_succ, i64_w, i32_w]
                      rfl
                    refine pure_ (i := 24) (N := some 71) (v := ?_) (a' := ?_) #[true, true, true, true, true, true, true, true, true, true, true, true, true, true, true, true, true, true, true, true, true, true, true, true, true, false, false, false, false, false, false, false, false, false, false, false, false, false, false, false, false, false, false] rfl rfl (any_of HT_.out (by kernel_rfl)) (fun _ _ _ h => h) (Or.inl ⟨by rfl, ?_⟩) ?_ ?_
                    rotate_left
                    · intro w'
                      go_simp
                      with_reducible rfl
                    rotate_left
                    · simp only [Act.put, List.setIfInBounds_toArray, List.set_cons_zero, List.set_cons_succ, i64_w, i32_w]
                      rfl
                    refine pure_ (i := 25) (N := some 72) (v := ?_) (a' := ?_) #[true, true, true, true, true, true, true, true, true, true, true, true, true, true, true, true, true, true, true, true, true, true, true, true, true, true, false, false, false, false, false, false, false, false, false, false, false, false, false, false, false, false, false] rfl rfl (any_of HT_.out (by kernel_rfl)) (fun _ _ _ h => h) (Or.inl ⟨by rfl, ?_⟩) ?_ ?_
                    rotate_left
                    · intro w'
                      go_simp
                      with_reducible rfl
                    rotate_left
                    · simp only [Act.put, List.setIfInBounds_toArray, List.set_cons_zero, List.set_cons_succ, i64_w, i32_w]
                      rfl
                    refine pure_ (i := 26) (N := some 73) (v := ?_) (a' := ?_) #[true, true, true, true, true, true, true, true, true, true, true, true, true, true, true, true, true, true, true, true, true, true, true, true, true, true, true, false, false, false, false, false, false, false, false, false, false, false, false, false, false, false, false] rfl rfl (any_of HT_.out (by kernel_rfl)) (fun _ _ _ h => h) (Or.inl ⟨by rfl, ?_⟩) ?_ ?_
                    rotate_left
                    · intro w'
                      go_simp
                      with_reducible rfl
                    rotate_left
                    · simp only [Act.put, List.setIfInBounds_toArray, List.set_cons_zero, List.set_cons_succ, i64_w, i32_w]
                      rfl
                    refine pure_ (i := 27) (N := some 74) (v := ?_) (a' := ?_) #[true, true, true, true, true, true, true, true, true, true, true, true, true, true, true, true, true, true, true, true, true, true, true, true, true, true, true, true, false, false, false, false, false, false, false, false, false, false, false, false, false, false, false] rfl rfl (any_of HT_.out (by kernel_rfl)) (fun _ _ _ h => h) (Or.inl ⟨by rfl, ?_⟩) ?_ ?_
                    rotate_left
                    · intro w'
                      go_simp
                      with_reducible rfl
                    rotate_left
                    · simp only [Act.put, List.setIfInBounds_toArray, List.set_cons_zero, List.set_cons_succ, i64_w, i32_w]
                      rfl
                    refine pure_ (i := 28) (N := some 75) (v := ?_) (a' := ?_) #[true, true, true, true, true, true, true, true, true, true, true, true, true, true, true, true, true, true, true, true, true, true, true, true, true, true, true, true, true, false, false, false, false, false, false, false, false, false, false, false, false, false, false] rfl rfl (any_of HT_.out (by kernel_rfl)) (fun _ _ _ h => h) (Or.inl ⟨by rfl, ?_⟩) ?_ ?_
                    rotate_left
                    · intro w'
                      go_simp
                      with_reducible rfl
                    rotate_left
                    · simp only [Act.put, List.setIfInBounds_toArray, List.set_cons_zero, List.set_cons_succ, i64_w, i32_w]
                      rfl
                    refine pure_ (i := 29) (N := some 76) (v := ?_) (a' := ?_) #[true, true, true, true, true, true, true, true, true, true, true, true, true, true, true, true, true, true, true, true, true, true, true, true, true, true, true, true, true, true, false, false, false, false, false, false, false, false, false, false, false, false, false] rfl rfl (any_of HT_.out (by kernel_rfl)) (fun _ _ _ h => h) (Or.inl ⟨by rfl, ?_⟩) ?_ ?_
                    rotate_left
                    · intro w'
                      go_simp
                      with_reducible rfl
                    rotate_left
                    · simp only [Act.put, List.setIfInBounds_toArray, List.set_cons_zero, List.set_cons_succ, i64_w, i32_w]
                      rfl
                    refine pure_ (i := 30) (N := some 77) (v := ?_) (a' := ?_) #[true, true, true, true, true, true, true, true, true, true, true, true, true, true, true, true, true, true, true, true, true, true, true, true, true, true, true, true, true, true, true, false, false, false, false, false, false, false, false, false, false, false, false] rfl rfl (any_of HT_.out (by kernel_rfl)) (fun _ _ _ h => h) (Or.inl ⟨by rfl, ?_⟩) ?_ ?_
                    rotate_left
                    · intro w'
                      go_simp
                      with_reducible rfl
                    rotate_left
                    · simp only [Act.put, List.setIfInBounds_toArray, List.set_cons_zero, List.set_cons_succ, i64_w, i32_w]
                      rfl
                    refine pure_ (i := 31) (N := some 78) (v := ?_) (a' := ?_) #[true, true, true, true, true, true, true, true, true, true, true, true, true, true, true, true, true, true, true, true, true, true, true, true, true, true, true, true, true, true, true, true, false, false, false, false, false, false, false, false, false, false, false] rfl rfl (any_of HT_.out (by kernel_rfl)) (fun _ _ _ h => h) (Or.inl ⟨by rfl, ?_⟩) ?_ ?_
                    rotate_left
                    · intro w'
                      go_simp
                      with_reducible rfl
                    rotate_left
                    · simp only [Act.put, List.setIfInBounds_toArray, List.set_cons_zero, List.set_cons_succ, i64_w, i32_w]
                      rfl
                    refine pure_ (i := 32) (N := some 79) (v := ?_) (a' := ?_) #[true, true, true, true, true, true, true, true, true, true, true, true, true, true, true, true, true, true, true, true, true, true, true, true, true, true, true, true, true, true, true, true, true, false, false, false, false, false, false, false, false, false, false] rfl rfl (any_of HT_.out (by kernel_rfl)) (fun _ _ _ h => h) (Or.inl ⟨by rfl, ?_⟩) ?_ ?_
                    rotate_left
                    · intro w'
                      go_simp
                      with_reducible rfl
                    rotate_left
                    · simp only [Act.put, List.setIfInBounds_toArray, List.set_cons_zero, List.set_cons_succ, i64_w, i32_w]
                      rfl
                    refine take_ (i := 33) (N := some 80) (v := ?_) (a' := ?_) #[true, true, true, true, true, true, true, true, true, true, true, true, true, true, true, true, true, true, true, true, true, true, true, true, true, true, true, true, true, true, true, true, true, true, false, false, false, false, false, false, false, false, false] rfl rfl (take_ofW HT_.out HW_.out (by kernel_rfl)) (fun _ _ _ h => h) (Or.inl ⟨by rfl, ?_⟩) hHeld ?_ ?_
                    rotate_left
                    · rintro w' ⟨s0, s1, s2, s3⟩
                      go_simp
                      with_reducible rfl
                    rotate_left
                    · simp only [Act.put, List.setIfInBounds_toArray, List.set_cons_zero, List.set_cons_succ, i64_w, i32_w]
                      rfl
                    refine one_ (i := 34) (N := some 81) #[true, true, true, true, true, true, true, true, true, true, true, true, true, true, true, true, true, true, true, true, true, true, true, true, true, true, true, true, true, true, true, true, true, true, true, false, false, false, false, false, false, false, false] rfl rfl (one_of HT_.out (by kernel_rfl)) (by decide) (fun K hK => ?_)
                    refine goes_ Try.func16 (by kernel_rfl) rfl #[.int .u32 0, .int .u32 255] (by rfl) rfl rfl (by (try simp only [List.map_toArray, List.map_cons, List.map_nil]); first | done | rfl | (simp only [List.length_drop, List.length_take]; rfl)) ?_
                    with_reducible refine (lamplighterlaw19_r.calls 0 255 t392 t393 _ A30.out).mono ?_
                    rintro e w83 ⟨rfl, hb⟩
                    refine ⟨_, rfl, ?_⟩
                    have n0_ := am (blk_below (g := gb347) (o := .cells #[.int .u32 t343, .int .u32 t344] 24 (0, 0)) (bkA BK347) hb)
                    have n1_ := am (blk_below (g := gb353) (o := .cells #[.int .u32 t350, .int .u32 t351] 24 (0, 0)) (bkA BK353) hb)
                    have n2_ := am (blk_below (g := gb359) (o := .cells #[.int .u32 t356, .int .u32 t357] 24 (0, 0)) (bkA BK359) hb)
                    have n3_ := am (blk_below (g := gb367) (o := .cells #[.int .u32 t364, .int .u32 t365] 24 (0, 0)) (bkA BK367) hb)
                    have n4_ := am (blk_below (g := gb373) (o := .cells #[.int .u32 t370, .int .u32 t371] 24 (0, 0)) (bkA BK373) hb)
                    have n5_ := am (blk_below (g := gb379) (o := .cells #[.int .u32 t376, .int .u32 t377] 24 (0, 0)) (bkA BK379) hb)
                    have n6_ := am (below_step (hbA HB) hb)
                    clear BK347
                    clear BK353
                    clear BK359
                    clear BK367
                    clear BK373
                    clear BK379
                    clear HB
                    have BK347 := n0_
                    have BK353 := n1_
                    have BK359 := n2_
                    have BK367 := n3_
                    have BK373 := n4_
                    have BK379 := n5_
                    have HB := n6_
                    clear n0_ n1_ n2_ n3_ n4_ n5_ n6_
                    (try clear hb)
                    (try clear hb2)
                    (try clear hk)
                    (try clear hi)
                    refine hK.out _ _ ⟨(blk_cell BK373.out 0).trans rfl, (blk_cell BK373.out 1).trans rfl, (blk_cell BK379.out 0).trans rfl, (blk_cell BK379.out 1).trans rfl⟩ (fun hHeld => ?_)
                    clear hK K
                    refine norm_ (a' := ?_) ?_ ?_
                    rotate_left
                    · show Act.put _ (some 81) _ = _
                      simp only [Act.put, List.setIfInBounds_toArray, List.set_cons_zero, List.set_cons_succ, i64_w, i32_w]
                      rfl
                    refine pure_ (i := 35) (N := some 82) (v := ?_) (a' := ?_) #[true, true, true, true, true, true, true, true, true, true, true, true, true, true, true, true, true, true, true, true, true, true, true, true, true, true, true, true, true, true, true, true, true, true, true, true, false, false, false, false, false, false, false] rfl rfl (any_of HT_.out (by kernel_rfl)) (fun _ _ _ h => h) (Or.inl ⟨by rfl, ?_⟩) ?_ ?_
                    rotate_left
                    · intro w'
                      go_simp
                      with_reducible rfl
                    rotate_left
                    · simp only [Act.put, List.setIfInBounds_toArray, List.set_cons_zero, List.set_cons_succ, i64_w, i32_w]
                      rfl
                    refine pure_ (i := 36) (N := some 83) (v := ?_) (a' := ?_) #[true, true, true, true, true, true, true, true, true, true, true, true, true, true, true, true, true, true, true, true, true, true, true, true, true, true, true, true, true, true, true, true, true, true, true, true, true, false, false, false, false, false, false] rfl rfl (any_of HT_.out (by kernel_rfl)) (fun _ _ _ h => h) (Or.inl ⟨by rfl, ?_⟩) ?_ ?_
                    rotate_left
                    · intro w'
                      go_simp
                      with_reducible rfl
                    rotate_left
                    · simp only [Act.put, List.setIfInBounds_toArray, List.set_cons_zero, List.set_cons_succ, i64_w, i32_w]
                      rfl
                    refine pure_ (i := 37) (N := some 84) (v := ?_) (a' := ?_) #[true, true, true, true, true, true, true, true, true, true, true, true, true, true, true, true, true, true, true, true, true, true, true, true, true, true, true, true, true, true, true, true, true, true, true, true, true, true, false, false, false, false, false] rfl rfl (any_of HT_.out (by kernel_rfl)) (fun _ _ _ h => h) (Or.inl ⟨by rfl, ?_⟩) ?_ ?_
                    rotate_left
                    · intro w'
                      go_simp
                      with_reducible rfl
                    rotate_left
                    · simp only [Act.put, List.setIfInBounds_toArray, List.set_cons_zero, List.set_cons_succ, i64_w, i32_w]
                      rfl
                    refine take_ (i := 38) (N := some 85) (v := ?_) (a' := ?_) #[true, true, true, true, true, true, true, true, true, true, true, true, true, true, true, true, true, true, true, true, true, true, true, true, true, true, true, true, true, true, true, true, true, true, true, true, true, true, true, false, false, false, false] rfl rfl (take_ofW HT_.out HW_.out (by kernel_rfl)) (fun _ _ _ h => h) (Or.inl ⟨by rfl, ?_⟩) hHeld ?_ ?_
                    rotate_left
                    · rintro w' ⟨s0, s1, s2, s3⟩
                      go_simp
                      with_reducible rfl
                    rotate_left
                    · simp only [Act.put, List.setIfInBounds_toArray, List.set_cons_zero, List.set_cons_succ, i64_w, i32_w]
                      rfl
                    refine one_ (i := 39) (N := some 86) #[true, true, true, true, true, true, true, true, true, true, true, true, true, true, true, true, true, true, true, true, true, true, true, true, true, true, true, true, true, true, true, true, true, true, true, true, true, true, true, true, false, false, false] rfl rfl (one_of HT_.out (by kernel_rfl)) (by decide) (fun K hK => ?_)
                    refine goes_ Try.func16 (by kernel_rfl) rfl #[.int .u32 0, .int .u32 1] (by rfl) rfl rfl (by (try simp only [List.map_toArray, List.map_cons, List.map_nil]); first | done | rfl | (simp only [List.length_drop, List.length_take]; rfl)) ?_
                    with_reducible refine (lamplighterlaw19_r.calls 0 1 t394 t395 _ A32.out).mono ?_
                    rintro e w84 ⟨rfl, hb⟩
                    refine ⟨_, rfl, ?_⟩
                    have n0_ := am (blk_below (g := gb347) (o := .cells #[.int .u32 t343, .int .u32 t344] 24 (0, 0)) (bkA BK347) hb)
                    have n1_ := am (blk_below (g := gb353) (o := .cells #[.int .u32 t350, .int .u32 t351] 24 (0, 0)) (bkA BK353) hb)
                    have n2_ := am (blk_below (g := gb359) (o := .cells #[.int .u32 t356, .int .u32 t357] 24 (0, 0)) (bkA BK359) hb)
                    have n3_ := am (blk_below (g := gb367) (o := .cells #[.int .u32 t364, .int .u32 t365] 24 (0, 0)) (bkA BK367) hb)
                    have n4_ := am (blk_below (g := gb373) (o := .cells #[.int .u32 t370, .int .u32 t371] 24 (0, 0)) (bkA BK373) hb)
                    have n5_ := am (blk_below (g := gb379) (o := .cells #[.int .u32 t376, .int .u32 t377] 24 (0, 0)) (bkA BK379) hb)
                    have n6_ := am (below_step (hbA HB) hb)
                    clear BK347
                    clear BK353
                    clear BK359
                    clear BK367
                    clear BK373
                    clear BK379
                    clear HB
                    have BK347 := n0_
                    have BK353 := n1_
                    have BK359 := n2_
                    have BK367 := n3_
                    have BK373 := n4_
                    have BK379 := n5_
                    have HB := n6_
                    clear n0_ n1_ n2_ n3_ n4_ n5_ n6_
                    (try clear hb)
                    (try clear hb2)
                    (try clear hk)
                    (try clear hi)
                    refine hK.out _ _ ⟨(blk_cell BK373.out 0).trans rfl, (blk_cell BK373.out 1).trans rfl, (blk_cell BK379.out 0).trans rfl, (blk_cell BK379.out 1).trans rfl⟩ (fun hHeld => ?_)
                    clear hK K
                    refine norm_ (a' := ?_) ?_ ?_
                    rotate_left
                    · show Act.put _ (some 86) _ = _
                      simp only [Act.put, List.setIfInBounds_toArray, List.set_cons_zero, List.set_cons_succ, i64_w, i32_w]
                      rfl
                    refine pure_ (i := 40) (N := some 87) (v := ?_) (a' := ?_) #[true, true, true, true, true, true, true, true, true, true, true, true, true, true, true, true, true, true, true, true, true, true, true, true, true, true, true, true, true, true, true, true, true, true, true, true, true, true, true, true, true, false, false] rfl rfl (any_of HT_.out (by kernel_rfl)) (fun _ _ _ h => h) (Or.inl ⟨by rfl, ?_⟩) ?_ ?_
                    rotate_left
                    · intro w'
                      go_simp
                      with_reducible rfl
                    rotate_left
                    · simp only [Act.put, List.setIfInBounds_toArray, List.set_cons_zero, List.set_cons_succ, i64_w, i32_w]
                      rfl
                    refine pure_ (i := 41) (N := some 88) (v := ?_) (a' := ?_) #[true, true, true, true, true, true, true, true, true, true, true, true, true, true, true, true, true, true, true, true, true, true, true, true, true, true, true, true, true, true, true, true, true, true, true, true, true, true, true, true, true, true, false] rfl rfl (any_of HT_.out (by kernel_rfl)) (fun _ _ _ h => h) (Or.inl ⟨by rfl, ?_⟩) ?_ ?_
                    rotate_left
                    · intro w'
                      go_simp
                      with_reducible rfl
                    rotate_left
                    · simp only [Act.put, List.setIfInBounds_toArray, List.set_cons_zero, List.set_cons_succ, i64_w, i32_w]
                      rfl
                    refine pure_ (i := 42) (N := some 0) (v := ?_) (a' := ?_) #[true, true, true, true, true, true, true, true, true, true, true, true, true, true, true, true, true, true, true, true, true, true, true, true, true, true, true, true, true, true, true, true, true, true, true, true, true, true, true, true, true, true, true] rfl rfl (any_of HT_.out (by kernel_rfl)) (fun _ _ _ h => h) (Or.inl ⟨by rfl, ?_⟩) ?_ ?_
                    rotate_left
                    · intro w'
                      go_simp
                      with_reducible rfl
                    rotate_left
                    · simp only [Act.put, List.setIfInBounds_toArray, List.set_cons_zero, List.set_cons_succ, i64_w, i32_w]
                      rfl
                    refine done_ (done_of HT_.out (by kernel_rfl)) ?_
                    try go_wp2
                    go_ret
                    exact ⟨by first | rfl | (simp [errW_none, errW_some] <;> rfl) | (simp [*, errW_none, errW_some] <;> rfl), hbA HB⟩
                  · rw [if_neg c31] at H
                    have c31b0 : (t370 == t392 && (t371 == t393)) = false := by simpa using c31
                    (try (have c31b1 : decide (t370 = t392 && (t371 == t393)) = false := by simpa using c31))
                    (try (have c31b2 : (t370 == t392 && (t371 == t393)) = false := by simpa using c31))
                    (try (have c31b3 : ¬ (t370 = t392 && (t371 == t393)) := by simpa using c31))
                    clear c31
                    exact absurd ((Option.some.inj H).trans hr_.out) (by decide)
              · rw [if_neg c28] at H
                have c28b0 : (t358 == 2) = false := beq_eq_false_iff_ne.mpr c28
                have c28b1 : (t358 != 2) = true := bne_iff_ne.mpr c28
                exact absurd ((Option.some.inj H).trans hr_.out) (by decide)
            · rw [if_neg c27] at H
              have c27b0 : (t352 == 2) = false := beq_eq_false_iff_ne.mpr c27
              have c27b1 : (t352 != 2) = true := bne_iff_ne.mpr c27
              exact absurd ((Option.some.inj H).trans hr_.out) (by decide)
          · rw [if_neg c26] at H
            have c26b0 : (t346 == 2) = false := beq_eq_false_iff_ne.mpr c26
            have c26b1 : (t346 != 2) = true := bne_iff_ne.mpr c26
            exact absurd ((Option.some.inj H).trans hr_.out) (by decide)
        · rw [if_neg c25] at H
          have c25b0 : (t391 == 2) = false := beq_eq_false_iff_ne.mpr c25
          have c25b1 : (t391 != 2) = true := bne_iff_ne.mpr c25
          exact absurd ((Option.some.inj H).trans hr_.out) (by decide)
      · rw [if_neg c22] at H
        have c22b0 : (t385 == t387 && (t386 == t388)) = false := by simpa using c22
        (try (have c22b1 : decide (t385 = t387 && (t386 == t388)) = false := by simpa using c22))
        (try (have c22b2 : (t385 == t387 && (t386 == t388)) = false := by simpa using c22))
        (try (have c22b3 : ¬ (t385 = t387 && (t386 == t388)) := by simpa using c22))
        clear c22
        exact absurd ((Option.some.inj H).trans hr_.out) (by decide)
    · rw [if_neg c19] at H
      have c19b0 : (t381 == t383 && (t382 == t384)) = false := by simpa using c19
      (try (have c19b1 : decide (t381 = t383 && (t382 == t384)) = false := by simpa using c19))
      (try (have c19b2 : (t381 == t383 && (t382 == t384)) = false := by simpa using c19))
      (try (have c19b3 : ¬ (t381 = t383 && (t382 == t384)) := by simpa using c19))
      clear c19
      exact absurd ((Option.some.inj H).trans hr_.out) (by decide)
  · replace c16 := Bool.eq_false_iff.mpr c16
    subst c16
    have H1 : (some false) = some r := by rw [if_neg (show ¬ (false = true) by decide)] at H; exact H
    clear H
    have H := H1
    clear H1
    exact absurd ((Option.some.inj H).trans hr_.out) (by decide)

/-- THE ONE PURE STATEMENT of lamplighterlaw19_IntervalNames: yours. -/
def lamplighterlaw19_IntervalNames.Pure : Prop := ∃ k, lamplighterlaw19_IntervalNames.f k  = some true
theorem lamplighterlaw19_IntervalNames.walk (P : lamplighterlaw19_IntervalNames.Pure)  (w : World)  :
    Calls Try.prog 4 #[] w fun e w' => e = .returned (.bool true) ∧ Below w.heap.size w w' := by
  obtain ⟨k, h⟩ := P  
  refine (lamplighterlaw19_IntervalNames.calls k  true w h ⟨rfl⟩).mono ?_
  rintro e w' ⟨rfl, hd⟩
  exact ⟨rfl, hd⟩

end Go.Proofs.Ytmhmfnjbioplhaa.PIntervalNames
