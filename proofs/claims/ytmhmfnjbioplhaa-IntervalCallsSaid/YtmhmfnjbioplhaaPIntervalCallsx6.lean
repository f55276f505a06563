/- Contracts of Go functions of the given program: where NAME.f answers, the call returns that. Conditions: those each theorem names. -/
import Derived.Test.YtmhmfnjbioplhaaPIntervalCallsx0
import Derived.Test.YtmhmfnjbioplhaaPIntervalCallsx1
import Derived.Test.YtmhmfnjbioplhaaPIntervalCallsx4
import Derived.Test.YtmhmfnjbioplhaaPIntervalCallsx5
namespace Go.Proofs.Ytmhmfnjbioplhaa.PIntervalCalls
open Go.RowKit Go.Proofs.YtmhmfnjbioplhaaW.PrintWords Go.Proofs.YtmhmfnjbioplhaaW.PrintLast Go.Proofs.YtmhmfnjbioplhaaW.PrintMore Go.Proofs.Ytmhmfnjbioplhaa.Help
attribute [local go_sem] max2_int min2_int max_two min_two max_three min_three max_four min_four   -- for this text's walks alone
set_option linter.unusedVariables false
set_option linter.unusedSimpArgs false

attribute [local go_sem high] eqA24
/-! ### lamplighterlaw19_lives: function 8 -/
def lamplighterlaw19_lives.f (k : Nat)  : Option (Bool) := (lamplighterlaw19_r.f 1 2).bind fun bt266 => ((lamplighterlaw19_r.f 4294967295 4294967295).bind fun bt268 => ((interval_Do.f k 1 bt266.1 bt266.2 bt268.1 bt268.2).bind fun bt270 => ((lamplighterlaw19_r.f 1 2).bind fun bt275 => ((lamplighterlaw19_r.f 4294967294 4294967294).bind fun bt277 => ((interval_Do.f k 1 bt275.1 bt275.2 bt277.1 bt277.2).bind fun bt279 => ((lamplighterlaw19_r.f 10 20).bind fun bt284 => ((lamplighterlaw19_r.f 0 5).bind fun bt286 => ((interval_Do.f k 4 bt284.1 bt284.2 bt286.1 bt286.2).bind fun bt288 => ((lamplighterlaw19_r.f 1 1).bind fun bt293 => ((lamplighterlaw19_r.f 0 0).bind fun bt295 => ((interval_Do.f k 4 bt293.1 bt293.2 bt295.1 bt295.2).bind fun bt297 => ((lamplighterlaw19_r.f 0 1).bind fun bt302 => (if (bt270.1 == bt302.1 && (bt270.2.1 == bt302.2)) = true then ((lamplighterlaw19_r.f 0 4294967295).bind fun bt304 => (if (bt279.1 == bt304.1 && (bt279.2.1 == bt304.2)) = true then ((lamplighterlaw19_r.f 2 20).bind fun bt306 => (if (bt288.1 == bt306.1 && (bt288.2.1 == bt306.2)) = true then (if bt270.2.2.1 = true then (if bt279.2.2.1 = true then (if bt288.2.2.1 = true then (if bt297.2.2.1 = true then (some false) else (if bt270.2.2.2 = 0 then (if bt279.2.2.2 = 0 then (if bt288.2.2.2 = 0 then (if bt297.2.2.2 = 0 then ((lamplighterlaw19_r.f 3 7).bind fun bt308 => ((lamplighterlaw19_r.f 2 300).bind fun bt310 => ((interval_Widen.f k bt308.1 bt308.2 bt310.1 bt310.2).bind fun bt312 => ((lamplighterlaw19_r.f 1 65535).bind fun bt314 => (some (bt312.1 == bt314.1 && (bt312.2 == bt314.2))))))) else (some false)) else (some false)) else (some false)) else (some false))) else (some false)) else (some false)) else (some false)) else (some false))) else (some false))) else (some false))))))))))))))
theorem lamplighterlaw19_lives.mono : ∀ k, LeO (lamplighterlaw19_lives.f k ) (lamplighterlaw19_lives.f (k + 1) ) := by
  intro  k
  unfold lamplighterlaw19_lives.f
  repeat' first
      | (with_reducible exact interval_Do.mono _ _ _ _ _ _)
      | (with_reducible exact interval_Widen.mono _ _ _ _ _)
      | (with_reducible exact LeO.refl _)
      | (with_reducible exact LeO.none _)
      | (with_reducible refine LeO.ite ?_ ?_)
      | (with_reducible refine LeO.bind ?_ (fun _ => ?_))
      | exact interval_Do.mono _ _ _ _ _ _
      | exact interval_Widen.mono _ _ _ _ _
      | exact LeO.none _
      | refine LeO.ite ?_ ?_
      | refine LeO.bind ?_ (fun _ => ?_)
def lamplighterlaw19_lives.T5 : Bool × List (List Nat × List Nat) := (true, [([], []), ([], []), ([0, 1], [0, 1]), ([2, 1], [2]), ([3], [3]), ([3, 3], [3]), ([4, 5, 3], [3, 4, 5]), ([3, 6], [3, 6]), ([7, 5], [7]), ([8], [8]), ([8, 8], [8]), ([9, 10, 8], [8, 9, 10]), ([8, 11], [8, 11]), ([12, 10], [12]), ([13], [13]), ([13, 14], [13, 14]), ([15, 13], [15]), ([16], [16]), ([16, 17], [16, 17]), ([18, 16], [18]), ([19], [19]), ([19, 20], [19, 20]), ([21, 19], [21]), ([22], [22]), ([23, 22], [22, 23]), ([22, 24], [22, 24]), ([25, 22], [25]), ([26], [26]), ([27, 26], [26, 27]), ([26, 28], [26, 28]), ([29, 26], [29]), ([30], [30]), ([31, 30], [30, 31]), ([30, 32], [30, 32]), ([33, 30], [33]), ([34], [34]), ([35, 34], [34, 35]), ([34, 36], [34, 36]), ([37, 34], [37]), ([38], [38]), ([39, 38], [38, 39]), ([38, 40], [38, 40]), ([41, 38], [41]), ([42, 42], [42]), ([43, 42], [42]), ([43, 44, 44, 42], [42, 43, 44]), ([45, 42], [42]), ([45, 46, 42], [42, 45, 46]), ([42, 47], [42, 47]), ([48, 46, 0, 1, 2, 3, 4, 5, 6, 7, 8, 9, 10, 11, 12, 13, 14, 15, 16, 17, 18, 19, 20, 21, 22, 23, 24, 25, 26, 27, 28, 29, 30, 31, 32, 33, 34, 35, 36, 37, 38, 39, 40, 41, 42, 43, 44, 45, 46, 47, 48], [48])])
def lamplighterlaw19_lives.B5 : List Nat := [0, 0, 3, 7, 15, 15, 63, 127, 255, 511, 511, 2047, 4095, 8191, 16383, 32767, 65535, 131071, 262143, 524287, 1048575, 2097151, 4194303, 8388607, 16777215, 33554431, 67108863, 134217727, 268435455, 536870911, 1073741823, 2147483647, 4294967295, 8589934591, 17179869183, 34359738367, 68719476735, 137438953471, 274877906943, 549755813887, 1099511627775, 2199023255551, 4398046511103, 8796093022207, 17592186044415, 35184372088831, 70368744177663, 140737488355327, 281474976710655, 562949953421311]
theorem lamplighterlaw19_lives.tab5 : rtab .any (opsOf Try.f8 5) = lamplighterlaw19_lives.T5 := by kernel_rfl
theorem lamplighterlaw19_lives.bits5 : waitsOk lamplighterlaw19_lives.T5.2 lamplighterlaw19_lives.B5 = true := by kernel_rfl
set_option maxHeartbeats 8000000 in
set_option maxRecDepth 100000 in
theorem lamplighterlaw19_lives.calls (k : Nat)  (r : Bool) (w : World) (h : lamplighterlaw19_lives.f k  = some r) (hr_ : Aside0 (r = true)) :
    Calls Try.prog 8 #[] w fun e w' => e = .returned (.bool r) ∧ Below w.heap.size w w' := by
  have hu24 := Try.underlying24
  have HB := am (Below.refl w.heap.size w)
  have H : ((lamplighterlaw19_r.f 1 2).bind fun bt266 => ((lamplighterlaw19_r.f 4294967295 4294967295).bind fun bt268 => ((interval_Do.f k 1 bt266.1 bt266.2 bt268.1 bt268.2).bind fun bt270 => ((lamplighterlaw19_r.f 1 2).bind fun bt275 => ((lamplighterlaw19_r.f 4294967294 4294967294).bind fun bt277 => ((interval_Do.f k 1 bt275.1 bt275.2 bt277.1 bt277.2).bind fun bt279 => ((lamplighterlaw19_r.f 10 20).bind fun bt284 => ((lamplighterlaw19_r.f 0 5).bind fun bt286 => ((interval_Do.f k 4 bt284.1 bt284.2 bt286.1 bt286.2).bind fun bt288 => ((lamplighterlaw19_r.f 1 1).bind fun bt293 => ((lamplighterlaw19_r.f 0 0).bind fun bt295 => ((interval_Do.f k 4 bt293.1 bt293.2 bt295.1 bt295.2).bind fun bt297 => ((lamplighterlaw19_r.f 0 1).bind fun bt302 => (if (bt270.1 == bt302.1 && (bt270.2.1 == bt302.2)) = true then ((lamplighterlaw19_r.f 0 4294967295).bind fun bt304 => (if (bt279.1 == bt304.1 && (bt279.2.1 == bt304.2)) = true then ((lamplighterlaw19_r.f 2 20).bind fun bt306 => (if (bt288.1 == bt306.1 && (bt288.2.1 == bt306.2)) = true then (if bt270.2.2.1 = true then (if bt279.2.2.1 = true then (if bt288.2.2.1 = true then (if bt297.2.2.1 = true then (some false) else (if bt270.2.2.2 = 0 then (if bt279.2.2.2 = 0 then (if bt288.2.2.2 = 0 then (if bt297.2.2.2 = 0 then ((lamplighterlaw19_r.f 3 7).bind fun bt308 => ((lamplighterlaw19_r.f 2 300).bind fun bt310 => ((interval_Widen.f k bt308.1 bt308.2 bt310.1 bt310.2).bind fun bt312 => ((lamplighterlaw19_r.f 1 65535).bind fun bt314 => (some (bt312.1 == bt314.1 && (bt312.2 == bt314.2))))))) else (some false)) else (some false)) else (some false)) else (some false))) else (some false)) else (some false)) else (some false)) else (some false))) else (some false))) else (some false))))))))))))))) = some r := h
  clear h; replace H := Option.bind_eq_some_iff.mp H; obtain ⟨⟨t266, t267⟩, A10, H⟩ := H; replace H : ((lamplighterlaw19_r.f 4294967295 4294967295).bind fun bt268 => ((interval_Do.f k 1 t266 t267 bt268.1 bt268.2).bind fun bt270 => ((lamplighterlaw19_r.f 1 2).bind fun bt275 => ((lamplighterlaw19_r.f 4294967294 4294967294).bind fun bt277 => ((interval_Do.f k 1 bt275.1 bt275.2 bt277.1 bt277.2).bind fun bt279 => ((lamplighterlaw19_r.f 10 20).bind fun bt284 => ((lamplighterlaw19_r.f 0 5).bind fun bt286 => ((interval_Do.f k 4 bt284.1 bt284.2 bt286.1 bt286.2).bind fun bt288 => ((lamplighterlaw19_r.f 1 1).bind fun bt293 => ((lamplighterlaw19_r.f 0 0).bind fun bt295 => ((interval_Do.f k 4 bt293.1 bt293.2 bt295.1 bt295.2).bind fun bt297 => ((lamplighterlaw19_r.f 0 1).bind fun bt302 => (if (bt270.1 == bt302.1 && (bt270.2.1 == bt302.2)) = true then ((lamplighterlaw19_r.f 0 4294967295).bind fun bt304 => (if (bt279.1 == bt304.1 && (bt279.2.1 == bt304.2)) = true then ((lamplighterlaw19_r.f 2 20).bind fun bt306 => (if (bt288.1 == bt306.1 && (bt288.2.1 == bt306.2)) = true then (if bt270.2.2.1 = true then (if bt279.2.2.1 = true then (if bt288.2.2.1 = true then (if bt297.2.2.1 = true then (some false) else (if bt270.2.2.2 = 0 then (if bt279.2.2.2 = 0 then (if bt288.2.2.2 = 0 then (if bt297.2.2.2 = 0 then ((lamplighterlaw19_r.f 3 7).bind fun bt308 => ((lamplighterlaw19_r.f 2 300).bind fun bt310 => ((interval_Widen.f k bt308.1 bt308.2 bt310.1 bt310.2).bind fun bt312 => ((lamplighterlaw19_r.f 1 65535).bind fun bt314 => (some (bt312.1 == bt314.1 && (bt312.2 == bt314.2))))))) else (some false)) else (some false)) else (some false)) else (some false))) else (some false)) else (some false)) else (some false)) else (some false))) else (some false))) else (some false)))))))))))))) = some r := H; have A1 := am A10; clear A10; replace H := Option.bind_eq_some_iff.mp H; obtain ⟨⟨t268, t269⟩, A20, H⟩ := H; replace H : ((interval_Do.f k 1 t266 t267 t268 t269).bind fun bt270 => ((lamplighterlaw19_r.f 1 2).bind fun bt275 => ((lamplighterlaw19_r.f 4294967294 4294967294).bind fun bt277 => ((interval_Do.f k 1 bt275.1 bt275.2 bt277.1 bt277.2).bind fun bt279 => ((lamplighterlaw19_r.f 10 20).bind fun bt284 => ((lamplighterlaw19_r.f 0 5).bind fun bt286 => ((interval_Do.f k 4 bt284.1 bt284.2 bt286.1 bt286.2).bind fun bt288 => ((lamplighterlaw19_r.f 1 1).bind fun bt293 => ((lamplighterlaw19_r.f 0 0).bind fun bt295 => ((interval_Do.f k 4 bt293.1 bt293.2 bt295.1 bt295.2).bind fun bt297 => ((lamplighterlaw19_r.f 0 1).bind fun bt302 => (if (bt270.1 == bt302.1 && (bt270.2.1 == bt302.2)) = true then ((lamplighterlaw19_r.f 0 4294967295).bind fun bt304 => (if (bt279.1 == bt304.1 && (bt279.2.1 == bt304.2)) = true then ((lamplighterlaw19_r.f 2 20).bind fun bt306 => (if (bt288.1 == bt306.1 && (bt288.2.1 == bt306.2)) = true then (if bt270.2.2.1 = true then (if bt279.2.2.1 = true then (if bt288.2.2.1 = true then (if bt297.2.2.1 = true then (some false) else (if bt270.2.2.2 = 0 then (if bt279.2.2.2 = 0 then (if bt288.2.2.2 = 0 then (if bt297.2.2.2 = 0 then ((lamplighterlaw19_r.f 3 7).bind fun bt308 => ((lamplighterlaw19_r.f 2 300).bind fun bt310 => ((interval_Widen.f k bt308.1 bt308.2 bt310.1 bt310.2).bind fun bt312 => ((lamplighterlaw19_r.f 1 65535).bind fun bt314 => (some (bt312.1 == bt314.1 && (bt312.2 == bt314.2))))))) else (some false)) else (some false)) else (some false)) else (some false))) else (some false)) else (some false)) else (some false)) else (some false))) else (some false))) else (some false))))))))))))) = some r := H; have A2 := am A20; clear A20; replace H := Option.bind_eq_some_iff.mp H; obtain ⟨⟨t270, t271, t272, t273⟩, A30, H⟩ := H; replace H : ((lamplighterlaw19_r.f 1 2).bind fun bt275 => ((lamplighterlaw19_r.f 4294967294 4294967294).bind fun bt277 => ((interval_Do.f k 1 bt275.1 bt275.2 bt277.1 bt277.2).bind fun bt279 => ((lamplighterlaw19_r.f 10 20).bind fun bt284 => ((lamplighterlaw19_r.f 0 5).bind fun bt286 => ((interval_Do.f k 4 bt284.1 bt284.2 bt286.1 bt286.2).bind fun bt288 => ((lamplighterlaw19_r.f 1 1).bind fun bt293 => ((lamplighterlaw19_r.f 0 0).bind fun bt295 => ((interval_Do.f k 4 bt293.1 bt293.2 bt295.1 bt295.2).bind fun bt297 => ((lamplighterlaw19_r.f 0 1).bind fun bt302 => (if (t270 == bt302.1 && (t271 == bt302.2)) = true then ((lamplighterlaw19_r.f 0 4294967295).bind fun bt304 => (if (bt279.1 == bt304.1 && (bt279.2.1 == bt304.2)) = true then ((lamplighterlaw19_r.f 2 20).bind fun bt306 => (if (bt288.1 == bt306.1 && (bt288.2.1 == bt306.2)) = true then (if t272 = true then (if bt279.2.2.1 = true then (if bt288.2.2.1 = true then (if bt297.2.2.1 = true then (some false) else (if t273 = 0 then (if bt279.2.2.2 = 0 then (if bt288.2.2.2 = 0 then (if bt297.2.2.2 = 0 then ((lamplighterlaw19_r.f 3 7).bind fun bt308 => ((lamplighterlaw19_r.f 2 300).bind fun bt310 => ((interval_Widen.f k bt308.1 bt308.2 bt310.1 bt310.2).bind fun bt312 => ((lamplighterlaw19_r.f 1 65535).bind fun bt314 => (some (bt312.1 == bt314.1 && (bt312.2 == bt314.2))))))) else (some false)) else (some false)) else (some false)) else (some false))) else (some false)) else (some false)) else (some false)) else (some false))) else (some false))) else (some false)))))))))))) = some r := H; have A3 := am A30; clear A30; replace H := Option.bind_eq_some_iff.mp H; obtain ⟨⟨t275, t276⟩, A40, H⟩ := H; replace H : ((lamplighterlaw19_r.f 4294967294 4294967294).bind fun bt277 => ((interval_Do.f k 1 t275 t276 bt277.1 bt277.2).bind fun bt279 => ((lamplighterlaw19_r.f 10 20).bind fun bt284 => ((lamplighterlaw19_r.f 0 5).bind fun bt286 => ((interval_Do.f k 4 bt284.1 bt284.2 bt286.1 bt286.2).bind fun bt288 => ((lamplighterlaw19_r.f 1 1).bind fun bt293 => ((lamplighterlaw19_r.f 0 0).bind fun bt295 => ((interval_Do.f k 4 bt293.1 bt293.2 bt295.1 bt295.2).bind fun bt297 => ((lamplighterlaw19_r.f 0 1).bind fun bt302 => (if (t270 == bt302.1 && (t271 == bt302.2)) = true then ((lamplighterlaw19_r.f 0 4294967295).bind fun bt304 => (if (bt279.1 == bt304.1 && (bt279.2.1 == bt304.2)) = true then ((lamplighterlaw19_r.f 2 20).bind fun bt306 => (if (bt288.1 == bt306.1 && (bt288.2.1 == bt306.2)) = true then (if t272 = true then (if bt279.2.2.1 = true then (if bt288.2.2.1 = true then (if bt297.2.2.1 = true then (some false) else (if t273 = 0 then (if bt279.2.2.2 = 0 then (if bt288.2.2.2 = 0 then (if bt297.2.2.2 = 0 then ((lamplighterlaw19_r.f 3 7).bind fun bt308 => ((lamplighterlaw19_r.f 2 300).bind fun bt310 => ((interval_Widen.f k bt308.1 bt308.2 bt310.1 bt310.2).bind fun bt312 => ((lamplighterlaw19_r.f 1 65535).bind fun bt314 => (some (bt312.1 == bt314.1 && (bt312.2 == bt314.2))))))) else (some false)) else (some false)) else (some false)) else (some false))) else (some false)) else (some false)) else (some false)) else (some false))) else (some false))) else (some false))))))))))) = some r := H; have A4 := am A40; clear A40; replace H := Option.bind_eq_some_iff.mp H; obtain ⟨⟨t277, t278⟩, A50, H⟩ := H; replace H : ((interval_Do.f k 1 t275 t276 t277 t278).bind fun bt279 => ((lamplighterlaw19_r.f 10 20).bind fun bt284 => ((lamplighterlaw19_r.f 0 5).bind fun bt286 => ((interval_Do.f k 4 bt284.1 bt284.2 bt286.1 bt286.2).bind fun bt288 => ((lamplighterlaw19_r.f 1 1).bind fun bt293 => ((lamplighterlaw19_r.f 0 0).bind fun bt295 => ((interval_Do.f k 4 bt293.1 bt293.2 bt295.1 bt295.2).bind fun bt297 => ((lamplighterlaw19_r.f 0 1).bind fun bt302 => (if (t270 == bt302.1 && (t271 == bt302.2)) = true then ((lamplighterlaw19_r.f 0 4294967295).bind fun bt304 => (if (bt279.1 == bt304.1 && (bt279.2.1 == bt304.2)) = true then ((lamplighterlaw19_r.f 2 20).bind fun bt306 => (if (bt288.1 == bt306.1 && (bt288.2.1 == bt306.2)) = true then (if t272 = true then (if bt279.2.2.1 = true then (if bt288.2.2.1 = true then (if bt297.2.2.1 = true then (some false) else (if t273 = 0 then (if bt279.2.2.2 = 0 then (if bt288.2.2.2 = 0 then (if bt297.2.2.2 = 0 then ((lamplighterlaw19_r.f 3 7).bind fun bt308 => ((lamplighterlaw19_r.f 2 300).bind fun bt310 => ((interval_Widen.f k bt308.1 bt308.2 bt310.1 bt310.2).bind fun bt312 => ((lamplighterlaw19_r.f 1 65535).bind fun bt314 => (some (bt312.1 == bt314.1 && (bt312.2 == bt314.2))))))) else (some false)) else (some false)) else (some false)) else (some false))) else (some false)) else (some false)) else (some false)) else (some false))) else (some false))) else (some false)))))))))) = some r := H; have A5 := am A50; clear A50; replace H := Option.bind_eq_some_iff.mp H; obtain ⟨⟨t279, t280, t281, t282⟩, A60, H⟩ := H; replace H : ((lamplighterlaw19_r.f 10 20).bind fun bt284 => ((lamplighterlaw19_r.f 0 5).bind fun bt286 => ((interval_Do.f k 4 bt284.1 bt284.2 bt286.1 bt286.2).bind fun bt288 => ((lamplighterlaw19_r.f 1 1).bind fun bt293 => ((lamplighterlaw19_r.f 0 0).bind fun bt295 => ((interval_Do.f k 4 bt293.1 bt293.2 bt295.1 bt295.2).bind fun bt297 => ((lamplighterlaw19_r.f 0 1).bind fun bt302 => (if (t270 == bt302.1 && (t271 == bt302.2)) = true then ((lamplighterlaw19_r.f 0 4294967295).bind fun bt304 => (if (t279 == bt304.1 && (t280 == bt304.2)) = true then ((lamplighterlaw19_r.f 2 20).bind fun bt306 => (if (bt288.1 == bt306.1 && (bt288.2.1 == bt306.2)) = true then (if t272 = true then (if t281 = true then (if bt288.2.2.1 = true then (if bt297.2.2.1 = true then (some false) else (if t273 = 0 then (if t282 = 0 then (if bt288.2.2.2 = 0 then (if bt297.2.2.2 = 0 then ((lamplighterlaw19_r.f 3 7).bind fun bt308 => ((lamplighterlaw19_r.f 2 300).bind fun bt310 => ((interval_Widen.f k bt308.1 bt308.2 bt310.1 bt310.2).bind fun bt312 => ((lamplighterlaw19_r.f 1 65535).bind fun bt314 => (some (bt312.1 == bt314.1 && (bt312.2 == bt314.2))))))) else (some false)) else (some false)) else (some false)) else (some false))) else (some false)) else (some false)) else (some false)) else (some false))) else (some false))) else (some false))))))))) = some r := H; have A6 := am A60; clear A60; replace H := Option.bind_eq_some_iff.mp H; obtain ⟨⟨t284, t285⟩, A70, H⟩ := H; replace H : ((lamplighterlaw19_r.f 0 5).bind fun bt286 => ((interval_Do.f k 4 t284 t285 bt286.1 bt286.2).bind fun bt288 => ((lamplighterlaw19_r.f 1 1).bind fun bt293 => ((lamplighterlaw19_r.f 0 0).bind fun bt295 => ((interval_Do.f k 4 bt293.1 bt293.2 bt295.1 bt295.2).bind fun bt297 => ((lamplighterlaw19_r.f 0 1).bind fun bt302 => (if (t270 == bt302.1 && (t271 == bt302.2)) = true then ((lamplighterlaw19_r.f 0 4294967295).bind fun bt304 => (if (t279 == bt304.1 && (t280 == bt304.2)) = true then ((lamplighterlaw19_r.f 2 20).bind fun bt306 => (if (bt288.1 == bt306.1 && (bt288.2.1 == bt306.2)) = true then (if t272 = true then (if t281 = true then (if bt288.2.2.1 = true then (if bt297.2.2.1 = true then (some false) else (if t273 = 0 then (if t282 = 0 then (if bt288.2.2.2 = 0 then (if bt297.2.2.2 = 0 then ((lamplighterlaw19_r.f 3 7).bind fun bt308 => ((lamplighterlaw19_r.f 2 300).bind fun bt310 => ((interval_Widen.f k bt308.1 bt308.2 bt310.1 bt310.2).bind fun bt312 => ((lamplighterlaw19_r.f 1 65535).bind fun bt314 => (some (bt312.1 == bt314.1 && (bt312.2 == bt314.2))))))) else (some false)) else (some false)) else (some false)) else (some false))) else (some false)) else (some false)) else (some false)) else (some false))) else (some false))) else (some false)))))))) = some r := H; have A7 := am A70; clear A70; replace H := Option.bind_eq_some_iff.mp H; obtain ⟨⟨t286, t287⟩, A80, H⟩ := H; replace H : ((interval_Do.f k 4 t284 t285 t286 t287).bind fun bt288 => ((lamplighterlaw19_r.f 1 1).bind fun bt293 => ((lamplighterlaw19_r.f 0 0).bind fun bt295 => ((interval_Do.f k 4 bt293.1 bt293.2 bt295.1 bt295.2).bind fun bt297 => ((lamplighterlaw19_r.f 0 1).bind fun bt302 => (if (t270 == bt302.1 && (t271 == bt302.2)) = true then ((lamplighterlaw19_r.f 0 4294967295).bind fun bt304 => (if (t279 == bt304.1 && (t280 == bt304.2)) = true then ((lamplighterlaw19_r.f 2 20).bind fun bt306 => (if (bt288.1 == bt306.1 && (bt288.2.1 == bt306.2)) = true then (if t272 = true then (if t281 = true then (if bt288.2.2.1 = true then (if bt297.2.2.1 = true then (some false) else (if t273 = 0 then (if t282 = 0 then (if bt288.2.2.2 = 0 then (if bt297.2.2.2 = 0 then ((lamplighterlaw19_r.f 3 7).bind fun bt308 => ((lamplighterlaw19_r.f 2 300).bind fun bt310 => ((interval_Widen.f k bt308.1 bt308.2 bt310.1 bt310.2).bind fun bt312 => ((lamplighterlaw19_r.f 1 65535).bind fun bt314 => (some (bt312.1 == bt314.1 && (bt312.2 == bt314.2))))))) else (some false)) else (some false)) else (some false)) else (some false))) else (some false)) else (some false)) else (some false)) else (some false))) else (some false))) else (some false))))))) = some r := H; have A8 := am A80; clear A80; replace H := Option.bind_eq_some_iff.mp H; obtain ⟨⟨t288, t289, t290, t291⟩, A90, H⟩ := H; replace H : ((lamplighterlaw19_r.f 1 1).bind fun bt293 => ((lamplighterlaw19_r.f 0 0).bind fun bt295 => ((interval_Do.f k 4 bt293.1 bt293.2 bt295.1 bt295.2).bind fun bt297 => ((lamplighterlaw19_r.f 0 1).bind fun bt302 => (if (t270 == bt302.1 && (t271 == bt302.2)) = true then ((lamplighterlaw19_r.f 0 4294967295).bind fun bt304 => (if (t279 == bt304.1 && (t280 == bt304.2)) = true then ((lamplighterlaw19_r.f 2 20).bind fun bt306 => (if (t288 == bt306.1 && (t289 == bt306.2)) = true then (if t272 = true then (if t281 = true then (if t290 = true then (if bt297.2.2.1 = true then (some false) else (if t273 = 0 then (if t282 = 0 then (if t291 = 0 then (if bt297.2.2.2 = 0 then ((lamplighterlaw19_r.f 3 7).bind fun bt308 => ((lamplighterlaw19_r.f 2 300).bind fun bt310 => ((interval_Widen.f k bt308.1 bt308.2 bt310.1 bt310.2).bind fun bt312 => ((lamplighterlaw19_r.f 1 65535).bind fun bt314 => (some (bt312.1 == bt314.1 && (bt312.2 == bt314.2))))))) else (some false)) else (some false)) else (some false)) else (some false))) else (some false)) else (some false)) else (some false)) else (some false))) else (some false))) else (some false)))))) = some r := H; have A9 := am A90; clear A90; replace H := Option.bind_eq_some_iff.mp H; obtain ⟨⟨t293, t294⟩, A100, H⟩ := H; replace H : ((lamplighterlaw19_r.f 0 0).bind fun bt295 => ((interval_Do.f k 4 t293 t294 bt295.1 bt295.2).bind fun bt297 => ((lamplighterlaw19_r.f 0 1).bind fun bt302 => (if (t270 == bt302.1 && (t271 == bt302.2)) = true then ((lamplighterlaw19_r.f 0 4294967295).bind fun bt304 => (if (t279 == bt304.1 && (t280 == bt304.2)) = true then ((lamplighterlaw19_r.f 2 20).bind fun bt306 => (if (t288 == bt306.1 && (t289 == bt306.2)) = true then (if t272 = true then (if t281 = true then (if t290 = true then (if bt297.2.2.1 = true then (some false) else (if t273 = 0 then (if t282 = 0 then (if t291 = 0 then (if bt297.2.2.2 = 0 then ((lamplighterlaw19_r.f 3 7).bind fun bt308 => ((lamplighterlaw19_r.f 2 300).bind fun bt310 => ((interval_Widen.f k bt308.1 bt308.2 bt310.1 bt310.2).bind fun bt312 => ((lamplighterlaw19_r.f 1 65535).bind fun bt314 => (some (bt312.1 == bt314.1 && (bt312.2 == bt314.2))))))) else (some false)) else (some false)) else (some false)) else (some false))) else (some false)) else (some false)) else (some false)) else (some false))) else (some false))) else (some false))))) = some r := H; have A10 := am A100; clear A100; replace H := Option.bind_eq_some_iff.mp H; obtain ⟨⟨t295, t296⟩, A110, H⟩ := H; replace H : ((interval_Do.f k 4 t293 t294 t295 t296).bind fun bt297 => ((lamplighterlaw19_r.f 0 1).bind fun bt302 => (if (t270 == bt302.1 && (t271 == bt302.2)) = true then ((lamplighterlaw19_r.f 0 4294967295).bind fun bt304 => (if (t279 == bt304.1 && (t280 == bt304.2)) = true then ((lamplighterlaw19_r.f 2 20).bind fun bt306 => (if (t288 == bt306.1 && (t289 == bt306.2)) = true then (if t272 = true then (if t281 = true then (if t290 = true then (if bt297.2.2.1 = true then (some false) else (if t273 = 0 then (if t282 = 0 then (if t291 = 0 then (if bt297.2.2.2 = 0 then ((lamplighterlaw19_r.f 3 7).bind fun bt308 => ((lamplighterlaw19_r.f 2 300).bind fun bt310 => ((interval_Widen.f k bt308.1 bt308.2 bt310.1 bt310.2).bind fun bt312 => ((lamplighterlaw19_r.f 1 65535).bind fun bt314 => (some (bt312.1 == bt314.1 && (bt312.2 == bt314.2))))))) else (some false)) else (some false)) else (some false)) else (some false))) else (some false)) else (some false)) else (some false)) else (some false))) else (some false))) else (some false)))) = some r := H; have A11 := am A110; clear A110; replace H := Option.bind_eq_some_iff.mp H; obtain ⟨⟨t297, t298, t299, t300⟩, A120, H⟩ := H; replace H : ((lamplighterlaw19_r.f 0 1).bind fun bt302 => (if (t270 == bt302.1 && (t271 == bt302.2)) = true then ((lamplighterlaw19_r.f 0 4294967295).bind fun bt304 => (if (t279 == bt304.1 && (t280 == bt304.2)) = true then ((lamplighterlaw19_r.f 2 20).bind fun bt306 => (if (t288 == bt306.1 && (t289 == bt306.2)) = true then (if t272 = true then (if t281 = true then (if t290 = true then (if t299 = true then (some false) else (if t273 = 0 then (if t282 = 0 then (if t291 = 0 then (if t300 = 0 then ((lamplighterlaw19_r.f 3 7).bind fun bt308 => ((lamplighterlaw19_r.f 2 300).bind fun bt310 => ((interval_Widen.f k bt308.1 bt308.2 bt310.1 bt310.2).bind fun bt312 => ((lamplighterlaw19_r.f 1 65535).bind fun bt314 => (some (bt312.1 == bt314.1 && (bt312.2 == bt314.2))))))) else (some false)) else (some false)) else (some false)) else (some false))) else (some false)) else (some false)) else (some false)) else (some false))) else (some false))) else (some false))) = some r := H; have A12 := am A120; clear A120; replace H := Option.bind_eq_some_iff.mp H; obtain ⟨⟨t302, t303⟩, A130, H⟩ := H; replace H : (if (t270 == t302 && (t271 == t303)) = true then ((lamplighterlaw19_r.f 0 4294967295).bind fun bt304 => (if (t279 == bt304.1 && (t280 == bt304.2)) = true then ((lamplighterlaw19_r.f 2 20).bind fun bt306 => (if (t288 == bt306.1 && (t289 == bt306.2)) = true then (if t272 = true then (if t281 = true then (if t290 = true then (if t299 = true then (some false) else (if t273 = 0 then (if t282 = 0 then (if t291 = 0 then (if t300 = 0 then ((lamplighterlaw19_r.f 3 7).bind fun bt308 => ((lamplighterlaw19_r.f 2 300).bind fun bt310 => ((interval_Widen.f k bt308.1 bt308.2 bt310.1 bt310.2).bind fun bt312 => ((lamplighterlaw19_r.f 1 65535).bind fun bt314 => (some (bt312.1 == bt314.1 && (bt312.2 == bt314.2))))))) else (some false)) else (some false)) else (some false)) else (some false))) else (some false)) else (some false)) else (some false)) else (some false))) else (some false))) else (some false)) = some r := H; have A13 := am A130; clear A130; by_cases c14 : (t270 == t302 && (t271 == t303)) = true
  · rw [if_pos c14] at H; have c14b0 : (t270 == t302 && (t271 == t303)) = true := c14
    (try (have c14b1 : decide (t270 = t302 && (t271 == t303)) = true := by simpa using c14))
    (try (have c14b2 : (t270 == t302 && (t271 == t303)) = true := by simpa using c14))
    clear c14; replace H := Option.bind_eq_some_iff.mp H; obtain ⟨⟨t304, t305⟩, A150, H⟩ := H; replace H : (if (t279 == t304 && (t280 == t305)) = true then ((lamplighterlaw19_r.f 2 20).bind fun bt306 => (if (t288 == bt306.1 && (t289 == bt306.2)) = true then (if t272 = true then (if t281 = true then (if t290 = true then (if t299 = true then (some false) else (if t273 = 0 then (if t282 = 0 then (if t291 = 0 then (if t300 = 0 then ((lamplighterlaw19_r.f 3 7).bind fun bt308 => ((lamplighterlaw19_r.f 2 300).bind fun bt310 => ((interval_Widen.f k bt308.1 bt308.2 bt310.1 bt310.2).bind fun bt312 => ((lamplighterlaw19_r.f 1 65535).bind fun bt314 => (some (bt312.1 == bt314.1 && (bt312.2 == bt314.2))))))) else (some false)) else (some false)) else (some false)) else (some false))) else (some false)) else (some false)) else (some false)) else (some false))) else (some false)) = some r := H; have A15 := am A150; clear A150; by_cases c16 : (t279 == t304 && (t280 == t305)) = true
    · rw [if_pos c16] at H; have c16b0 : (t279 == t304 && (t280 == t305)) = true := c16
      (try (have c16b1 : decide (t279 = t304 && (t280 == t305)) = true := by simpa using c16))
      (try (have c16b2 : (t279 == t304 && (t280 == t305)) = true := by simpa using c16))
      clear c16; replace H := Option.bind_eq_some_iff.mp H; obtain ⟨⟨t306, t307⟩, A170, H⟩ := H; replace H : (if (t288 == t306 && (t289 == t307)) = true then (if t272 = true then (if t281 = true then (if t290 = true then (if t299 = true then (some false) else (if t273 = 0 then (if t282 = 0 then (if t291 = 0 then (if t300 = 0 then ((lamplighterlaw19_r.f 3 7).bind fun bt308 => ((lamplighterlaw19_r.f 2 300).bind fun bt310 => ((interval_Widen.f k bt308.1 bt308.2 bt310.1 bt310.2).bind fun bt312 => ((lamplighterlaw19_r.f 1 65535).bind fun bt314 => (some (bt312.1 == bt314.1 && (bt312.2 == bt314.2))))))) else (some false)) else (some false)) else (some false)) else (some false))) else (some false)) else (some false)) else (some false)) else (some false)) = some r := H; have A17 := am A170; clear A170; by_cases c18 : (t288 == t306 && (t289 == t307)) = true
      · rw [if_pos c18] at H; have c18b0 : (t288 == t306 && (t289 == t307)) = true := c18
        (try (have c18b1 : decide (t288 = t306 && (t289 == t307)) = true := by simpa using c18))
        (try (have c18b2 : (t288 == t306 && (t289 == t307)) = true := by simpa using c18))
        clear c18; by_cases c19 : t272 = true
        · subst c19; have H1 : (if t281 = true then (if t290 = true then (if t299 = true then (some false) else (if t273 = 0 then (if t282 = 0 then (if t291 = 0 then (if t300 = 0 then ((lamplighterlaw19_r.f 3 7).bind fun bt308 => ((lamplighterlaw19_r.f 2 300).bind fun bt310 => ((interval_Widen.f k bt308.1 bt308.2 bt310.1 bt310.2).bind fun bt312 => ((lamplighterlaw19_r.f 1 65535).bind fun bt314 => (some (bt312.1 == bt314.1 && (bt312.2 == bt314.2))))))) else (some false)) else (some false)) else (some false)) else (some false))) else (some false)) else (some false)) = some r := by rw [if_pos rfl] at H; exact H
          clear H; have H := H1; clear H1; by_cases c20 : t281 = true
          · subst c20; have H1 : (if t290 = true then (if t299 = true then (some false) else (if t273 = 0 then (if t282 = 0 then (if t291 = 0 then (if t300 = 0 then ((lamplighterlaw19_r.f 3 7).bind fun bt308 => ((lamplighterlaw19_r.f 2 300).bind fun bt310 => ((interval_Widen.f k bt308.1 bt308.2 bt310.1 bt310.2).bind fun bt312 => ((lamplighterlaw19_r.f 1 65535).bind fun bt314 => (some (bt312.1 == bt314.1 && (bt312.2 == bt314.2))))))) else (some false)) else (some false)) else (some false)) else (some false))) else (some false)) = some r := by rw [if_pos rfl] at H; exact H
            clear H; have H := H1; clear H1; by_cases c21 : t290 = true
            · subst c21; have H1 : (if t299 = true then (some false) else (if t273 = 0 then (if t282 = 0 then (if t291 = 0 then (if t300 = 0 then ((lamplighterlaw19_r.f 3 7).bind fun bt308 => ((lamplighterlaw19_r.f 2 300).bind fun bt310 => ((interval_Widen.f k bt308.1 bt308.2 bt310.1 bt310.2).bind fun bt312 => ((lamplighterlaw19_r.f 1 65535).bind fun bt314 => (some (bt312.1 == bt314.1 && (bt312.2 == bt314.2))))))) else (some false)) else (some false)) else (some false)) else (some false))) = some r := by rw [if_pos rfl] at H; exact H
              clear H; have H := H1; clear H1; by_cases c22 : t299 = true
              · subst c22; have H1 : (some false) = some r := by rw [if_pos rfl] at H; exact H
                clear H; have H := H1; clear H1; exact absurd ((Option.some.inj H).trans hr_.out) (by decide)
              replace c22 := Bool.eq_false_iff.mpr c22; subst c22; have H1 : (if t273 = 0 then (if t282 = 0 then (if t291 = 0 then (if t300 = 0 then ((lamplighterlaw19_r.f 3 7).bind fun bt308 => ((lamplighterlaw19_r.f 2 300).bind fun bt310 => ((interval_Widen.f k bt308.1 bt308.2 bt310.1 bt310.2).bind fun bt312 => ((lamplighterlaw19_r.f 1 65535).bind fun bt314 => (some (bt312.1 == bt314.1 && (bt312.2 == bt314.2))))))) else (some false)) else (some false)) else (some false)) else (some false)) = some r := by rw [if_neg (show ¬ (false = true) by decide)] at H; exact H
              clear H; have H := H1; clear H1; by_cases c23 : t273 = 0
              · rw [if_pos c23] at H; have c23b0 : (t273 == 0) = true := beq_iff_eq.mpr c23; have c23b1 : (t273 != 0) = false := bne_eq_false_iff_eq.mpr c23; clear c23; by_cases c24 : t282 = 0
                · rw [if_pos c24] at H; have c24b0 : (t282 == 0) = true := beq_iff_eq.mpr c24; have c24b1 : (t282 != 0) = false := bne_eq_false_iff_eq.mpr c24; clear c24; by_cases c25 : t291 = 0
                  · rw [if_pos c25] at H; have c25b0 : (t291 == 0) = true := beq_iff_eq.mpr c25; have c25b1 : (t291 != 0) = false := bne_eq_false_iff_eq.mpr c25; clear c25; by_cases c26 : t300 = 0
                    · rw [if_pos c26] at H; have c26b0 : (t300 == 0) = true := beq_iff_eq.mpr c26; have c26b1 : (t300 != 0) = false := bne_eq_false_iff_eq.mpr c26; clear c26; replace H := Option.bind_eq_some_iff.mp H; obtain ⟨⟨t308, t309⟩, A270, H⟩ := H; replace H : ((lamplighterlaw19_r.f 2 300).bind fun bt310 => ((interval_Widen.f k t308 t309 bt310.1 bt310.2).bind fun bt312 => ((lamplighterlaw19_r.f 1 65535).bind fun bt314 => (some (bt312.1 == bt314.1 && (bt312.2 == bt314.2)))))) = some r := H; have A27 := am A270; clear A270; replace H := Option.bind_eq_some_iff.mp H; obtain ⟨⟨t310, t311⟩, A280, H⟩ := H; replace H : ((interval_Widen.f k t308 t309 t310 t311).bind fun bt312 => ((lamplighterlaw19_r.f 1 65535).bind fun bt314 => (some (bt312.1 == bt314.1 && (bt312.2 == bt314.2))))) = some r := H; have A28 := am A280; clear A280; replace H := Option.bind_eq_some_iff.mp H; obtain ⟨⟨t312, t313⟩, A290, H⟩ := H; replace H : ((lamplighterlaw19_r.f 1 65535).bind fun bt314 => (some (t312 == bt314.1 && (t313 == bt314.2)))) = some r := H; have A29 := am A290; clear A290; replace H := Option.bind_eq_some_iff.mp H; obtain ⟨⟨t314, t315⟩, A300, H⟩ := H; replace H : (some (t312 == t314 && (t313 == t315))) = some r := H; have A30 := am A300; clear A300; obtain rfl := Option.some.inj H
                      go_enter Try.func8, Try.ntmps8
                      try go_wp2_with (first | ((with_reducible refine gate_callee (f := 16) rfl ?_); refine goesL_ (some 14) rfl rfl Try.func16 (by kernel_rfl) rfl #[.int .u32 1, .int .u32 2] rfl (by (try simp only [List.map_toArray, List.map_cons, List.map_nil]); first | done | rfl | (simp only [List.length_drop, List.length_take]; rfl)) ?_; (with_reducible refine (lamplighterlaw19_r.calls 1 2 t266 t267 _ A1.out).mono ?_); rintro e w31 ⟨rfl, hb⟩; refine ⟨_, rfl, ?_⟩; replace HB := bsA HB hb; (try clear hb); (try clear hb2); (try clear hk); (try clear hi)) | ((with_reducible refine gate_callee (f := 16) rfl ?_); refine goesL_ (some 15) rfl rfl Try.func16 (by kernel_rfl) rfl #[.int .u32 4294967295, .int .u32 4294967295] rfl (by (try simp only [List.map_toArray, List.map_cons, List.map_nil]); first | done | rfl | (simp only [List.length_drop, List.length_take]; rfl)) ?_; (with_reducible refine (lamplighterlaw19_r.calls 4294967295 4294967295 t268 t269 _ A2.out).mono ?_); rintro e w32 ⟨rfl, hb⟩; refine ⟨_, rfl, ?_⟩; replace HB := bsA HB hb; (try clear hb); (try clear hb2); (try clear hk); (try clear hi)) | ((with_reducible refine gate_callee (f := 11) rfl ?_); refine goesL_ (some 16) rfl rfl Try.func11 (by kernel_rfl) rfl #[.int .i64 1, .agg #[.int .u32 t266, .int .u32 t267], .agg #[.int .u32 t268, .int .u32 t269]] rfl (by (try simp only [List.map_toArray, List.map_cons, List.map_nil]); first | done | rfl | (simp only [List.length_drop, List.length_take]; rfl)) ?_; (with_reducible refine (interval_Do.calls k 1 t266 t267 t268 t269 t270 t271 true t273 _ A3.out).mono ?_); rintro e w33 ⟨rfl, hb⟩; refine ⟨_, rfl, ?_⟩; replace HB := bsA HB hb; (try clear hb); (try clear hb2); (try clear hk); (try clear hi)) | ((with_reducible refine gate_dst (N := 1) rfl ?_); refine bxE 1 #[.int .u32 0, .int .u32 0] 24 ?_; intro gb274 hg w34 hbox hb; have BK274 := am (hbox); have GW274 := gwA hg HB; have GE274 := gwA hg HB; replace HB := bsA HB hb; clear hb hbox hg; have hcz35_0 : w34.cell? ⟨gb274, 0, none⟩ = some (.int .u32 0) := cz BK274; have hcz35_1 : w34.cell? ⟨gb274, 1, none⟩ = some (.int .u32 0) := cz BK274; have hfz35_0 := blk_frozen BK274.out 0; have hfz35_1 := blk_frozen BK274.out 1) | ((with_reducible refine gate_callee (f := 16) rfl ?_); refine goesL_ (some 21) rfl rfl Try.func16 (by kernel_rfl) rfl #[.int .u32 1, .int .u32 2] rfl (by (try simp only [List.map_toArray, List.map_cons, List.map_nil]); first | done | rfl | (simp only [List.length_drop, List.length_take]; rfl)) ?_; (with_reducible refine (lamplighterlaw19_r.calls 1 2 t275 t276 _ A4.out).mono ?_); rintro e w36 ⟨rfl, hb⟩; refine ⟨_, rfl, ?_⟩; replace BK274 := am (blk_below (g := gb274) (o := .cells #[.int .u32 t270, .int .u32 t271] 24 (0, 0)) (by refine bkT ?_; refine blk_put (cs := #[.int .u32 t270, .int .u32 0]) ?_ 1 _ rfl; refine bkT ?_; refine blk_put (cs := #[.int .u32 0, .int .u32 0]) ?_ 0 _ rfl; refine bkT ?_; exact BK274.out) hb); replace HB := bsA HB hb; (try clear hb); (try clear hb2); (try clear hk); (try clear hi)) | ((with_reducible refine gate_callee (f := 16) rfl ?_); refine goesL_ (some 22) rfl rfl Try.func16 (by kernel_rfl) rfl #[.int .u32 4294967294, .int .u32 4294967294] rfl (by (try simp only [List.map_toArray, List.map_cons, List.map_nil]); first | done | rfl | (simp only [List.length_drop, List.length_take]; rfl)) ?_; (with_reducible refine (lamplighterlaw19_r.calls 4294967294 4294967294 t277 t278 _ A5.out).mono ?_); rintro e w37 ⟨rfl, hb⟩; refine ⟨_, rfl, ?_⟩; replace BK274 := bbA BK274 hb; replace HB := bsA HB hb; (try clear hb); (try clear hb2); (try clear hk); (try clear hi)) | ((with_reducible refine gate_callee (f := 11) rfl ?_); refine goesL_ (some 23) rfl rfl Try.func11 (by kernel_rfl) rfl #[.int .i64 1, .agg #[.int .u32 t275, .int .u32 t276], .agg #[.int .u32 t277, .int .u32 t278]] rfl (by (try simp only [List.map_toArray, List.map_cons, List.map_nil]); first | done | rfl | (simp only [List.length_drop, List.length_take]; rfl)) ?_; (with_reducible refine (interval_Do.calls k 1 t275 t276 t277 t278 t279 t280 true t282 _ A6.out).mono ?_); rintro e w38 ⟨rfl, hb⟩; refine ⟨_, rfl, ?_⟩; replace BK274 := bbA BK274 hb; replace HB := bsA HB hb; (try clear hb); (try clear hb2); (try clear hk); (try clear hi)) | ((with_reducible refine gate_dst (N := 4) rfl ?_); refine bxE 4 #[.int .u32 0, .int .u32 0] 24 ?_; intro gb283 hg w39 hbox hb; have BK283 := am (hbox); have GW283 := gwA hg HB; have GE283 := gwA hg HB; have NB274_283 := ltA hg BK274; have NB283_274 := gtA hg BK274; replace BK274 := bbA BK274 hb; replace HB := bsA HB hb; clear hb hbox hg; have hnb40 := NB283_274.out; have hnc40 := NB274_283.out; have hcz41_0 : w39.cell? ⟨gb283, 0, none⟩ = some (.int .u32 0) := cz BK283; have hcz41_1 : w39.cell? ⟨gb283, 1, none⟩ = some (.int .u32 0) := cz BK283; have hfz41_0 := blk_frozen BK283.out 0; have hfz41_1 := blk_frozen BK283.out 1) | ((with_reducible refine gate_callee (f := 16) rfl ?_); refine goesL_ (some 28) rfl rfl Try.func16 (by kernel_rfl) rfl #[.int .u32 10, .int .u32 20] rfl (by (try simp only [List.map_toArray, List.map_cons, List.map_nil]); first | done | rfl | (simp only [List.length_drop, List.length_take]; rfl)) ?_; (with_reducible refine (lamplighterlaw19_r.calls 10 20 t284 t285 _ A7.out).mono ?_); rintro e w42 ⟨rfl, hb⟩; refine ⟨_, rfl, ?_⟩; replace BK274 := am (blk_below (g := gb274) (o := .cells #[.int .u32 t270, .int .u32 t271] 24 (0, 0)) (by refine bkT ?_; refine blk_far ?_ NB274_283.out _; refine bkT ?_; refine blk_far ?_ NB274_283.out _; refine bkT ?_; exact BK274.out) hb); replace BK283 := am (blk_below (g := gb283) (o := .cells #[.int .u32 t279, .int .u32 t280] 24 (0, 0)) (by refine bkT ?_; refine blk_put (cs := #[.int .u32 t279, .int .u32 0]) ?_ 1 _ rfl; refine bkT ?_; refine blk_put (cs := #[.int .u32 0, .int .u32 0]) ?_ 0 _ rfl; refine bkT ?_; exact BK283.out) hb); replace HB := bsA HB hb; (try clear hb); (try clear hb2); (try clear hk); (try clear hi)) | ((with_reducible refine gate_callee (f := 16) rfl ?_); refine goesL_ (some 29) rfl rfl Try.func16 (by kernel_rfl) rfl #[.int .u32 0, .int .u32 5] rfl (by (try simp only [List.map_toArray, List.map_cons, List.map_nil]); first | done | rfl | (simp only [List.length_drop, List.length_take]; rfl)) ?_; (with_reducible refine (lamplighterlaw19_r.calls 0 5 t286 t287 _ A8.out).mono ?_); rintro e w43 ⟨rfl, hb⟩; refine ⟨_, rfl, ?_⟩; replace BK274 := bbA BK274 hb; replace BK283 := bbA BK283 hb; replace HB := bsA HB hb; (try clear hb); (try clear hb2); (try clear hk); (try clear hi)) | ((with_reducible refine gate_callee (f := 11) rfl ?_); refine goesL_ (some 30) rfl rfl Try.func11 (by kernel_rfl) rfl #[.int .i64 4, .agg #[.int .u32 t284, .int .u32 t285], .agg #[.int .u32 t286, .int .u32 t287]] rfl (by (try simp only [List.map_toArray, List.map_cons, List.map_nil]); first | done | rfl | (simp only [List.length_drop, List.length_take]; rfl)) ?_; (with_reducible refine (interval_Do.calls k 4 t284 t285 t286 t287 t288 t289 true t291 _ A9.out).mono ?_); rintro e w44 ⟨rfl, hb⟩; refine ⟨_, rfl, ?_⟩; replace BK274 := bbA BK274 hb; replace BK283 := bbA BK283 hb; replace HB := bsA HB hb; (try clear hb); (try clear hb2); (try clear hk); (try clear hi)) | ((with_reducible refine gate_dst (N := 7) rfl ?_); refine bxE 7 #[.int .u32 0, .int .u32 0] 24 ?_; intro gb292 hg w45 hbox hb; have BK292 := am (hbox); have GW292 := gwA hg HB; have GE292 := gwA hg HB; have NB274_292 := ltA hg BK274; have NB292_274 := gtA hg BK274; have NB283_292 := ltA hg BK283; have NB292_283 := gtA hg BK283; replace BK274 := bbA BK274 hb; replace BK283 := bbA BK283 hb; replace HB := bsA HB hb; clear hb hbox hg; have hnb46 := NB292_274.out; have hnc46 := NB274_292.out; have hnb47 := NB292_283.out; have hnc47 := NB283_292.out; have hcz48_0 : w45.cell? ⟨gb292, 0, none⟩ = some (.int .u32 0) := cz BK292; have hcz48_1 : w45.cell? ⟨gb292, 1, none⟩ = some (.int .u32 0) := cz BK292; have hfz48_0 := blk_frozen BK292.out 0; have hfz48_1 := blk_frozen BK292.out 1) | ((with_reducible refine gate_callee (f := 16) rfl ?_); refine goesL_ (some 35) rfl rfl Try.func16 (by kernel_rfl) rfl #[.int .u32 1, .int .u32 1] rfl (by (try simp only [List.map_toArray, List.map_cons, List.map_nil]); first | done | rfl | (simp only [List.length_drop, List.length_take]; rfl)) ?_; (with_reducible refine (lamplighterlaw19_r.calls 1 1 t293 t294 _ A10.out).mono ?_); rintro e w49 ⟨rfl, hb⟩; refine ⟨_, rfl, ?_⟩; replace BK274 := am (blk_below (g := gb274) (o := .cells #[.int .u32 t270, .int .u32 t271] 24 (0, 0)) (by refine bkT ?_; refine blk_far ?_ NB274_292.out _; refine bkT ?_; refine blk_far ?_ NB274_292.out _; refine bkT ?_; exact BK274.out) hb); replace BK283 := am (blk_below (g := gb283) (o := .cells #[.int .u32 t279, .int .u32 t280] 24 (0, 0)) (by refine bkT ?_; refine blk_far ?_ NB283_292.out _; refine bkT ?_; refine blk_far ?_ NB283_292.out _; refine bkT ?_; exact BK283.out) hb); replace BK292 := am (blk_below (g := gb292) (o := .cells #[.int .u32 t288, .int .u32 t289] 24 (0, 0)) (by refine bkT ?_; refine blk_put (cs := #[.int .u32 t288, .int .u32 0]) ?_ 1 _ rfl; refine bkT ?_; refine blk_put (cs := #[.int .u32 0, .int .u32 0]) ?_ 0 _ rfl; refine bkT ?_; exact BK292.out) hb); replace HB := bsA HB hb; (try clear hb); (try clear hb2); (try clear hk); (try clear hi)) | ((with_reducible refine gate_callee (f := 16) rfl ?_); refine goesL_ (some 36) rfl rfl Try.func16 (by kernel_rfl) rfl #[.int .u32 0, .int .u32 0] rfl (by (try simp only [List.map_toArray, List.map_cons, List.map_nil]); first | done | rfl | (simp only [List.length_drop, List.length_take]; rfl)) ?_; (with_reducible refine (lamplighterlaw19_r.calls 0 0 t295 t296 _ A11.out).mono ?_); rintro e w50 ⟨rfl, hb⟩; refine ⟨_, rfl, ?_⟩; replace BK274 := bbA BK274 hb; replace BK283 := bbA BK283 hb; replace BK292 := bbA BK292 hb; replace HB := bsA HB hb; (try clear hb); (try clear hb2); (try clear hk); (try clear hi)) | ((with_reducible refine gate_callee (f := 11) rfl ?_); refine goesL_ (some 37) rfl rfl Try.func11 (by kernel_rfl) rfl #[.int .i64 4, .agg #[.int .u32 t293, .int .u32 t294], .agg #[.int .u32 t295, .int .u32 t296]] rfl (by (try simp only [List.map_toArray, List.map_cons, List.map_nil]); first | done | rfl | (simp only [List.length_drop, List.length_take]; rfl)) ?_; (with_reducible refine (interval_Do.calls k 4 t293 t294 t295 t296 t297 t298 false t300 _ A12.out).mono ?_); rintro e w51 ⟨rfl, hb⟩; refine ⟨_, rfl, ?_⟩; replace BK274 := bbA BK274 hb; replace BK283 := bbA BK283 hb; replace BK292 := bbA BK292 hb; replace HB := bsA HB hb; (try clear hb); (try clear hb2); (try clear hk); (try clear hi)) | ((with_reducible refine gate_dst (N := 10) rfl ?_); refine bxE 10 #[.int .u32 0, .int .u32 0] 24 ?_; intro gb301 hg w52 hbox hb; have BK301 := am (hbox); have GW301 := gwA hg HB; have GE301 := gwA hg HB; have NB274_301 := ltA hg BK274; have NB301_274 := gtA hg BK274; have NB283_301 := ltA hg BK283; have NB301_283 := gtA hg BK283; have NB292_301 := ltA hg BK292; have NB301_292 := gtA hg BK292; replace BK274 := bbA BK274 hb; replace BK283 := bbA BK283 hb; replace BK292 := bbA BK292 hb; replace HB := bsA HB hb; clear hb hbox hg; have hnb53 := NB301_274.out; have hnc53 := NB274_301.out; have hnb54 := NB301_283.out; have hnc54 := NB283_301.out; have hnb55 := NB301_292.out; have hnc55 := NB292_301.out; have hcz56_0 : w52.cell? ⟨gb301, 0, none⟩ = some (.int .u32 0) := cz BK301; have hcz56_1 : w52.cell? ⟨gb301, 1, none⟩ = some (.int .u32 0) := cz BK301; have hfz56_0 := blk_frozen BK301.out 0; have hfz56_1 := blk_frozen BK301.out 1))
                      have n0_ : Aside0 (((w52.setCell ⟨gb301, 0, none⟩ (.int .u32 t297)).setCell ⟨gb301, 1, none⟩ (.int .u32 t298)).heap[gb274]? = some (.cells #[.int .u32 t270, .int .u32 t271] 24 (0, 0))) := ⟨by refine bkT ?_; refine blk_far ?_ NB274_301.out _; refine bkT ?_; refine blk_far ?_ NB274_301.out _; refine bkT ?_; exact BK274.out⟩
                      have n1_ : Aside0 (((w52.setCell ⟨gb301, 0, none⟩ (.int .u32 t297)).setCell ⟨gb301, 1, none⟩ (.int .u32 t298)).heap[gb283]? = some (.cells #[.int .u32 t279, .int .u32 t280] 24 (0, 0))) := ⟨by refine bkT ?_; refine blk_far ?_ NB283_301.out _; refine bkT ?_; refine blk_far ?_ NB283_301.out _; refine bkT ?_; exact BK283.out⟩
                      have n2_ : Aside0 (((w52.setCell ⟨gb301, 0, none⟩ (.int .u32 t297)).setCell ⟨gb301, 1, none⟩ (.int .u32 t298)).heap[gb292]? = some (.cells #[.int .u32 t288, .int .u32 t289] 24 (0, 0))) := ⟨by refine bkT ?_; refine blk_far ?_ NB292_301.out _; refine bkT ?_; refine blk_far ?_ NB292_301.out _; refine bkT ?_; exact BK292.out⟩
                      have n3_ : Aside0 (((w52.setCell ⟨gb301, 0, none⟩ (.int .u32 t297)).setCell ⟨gb301, 1, none⟩ (.int .u32 t298)).heap[gb301]? = some (.cells #[.int .u32 t297, .int .u32 t298] 24 (0, 0))) := ⟨by refine bkT ?_; refine blk_put (cs := #[.int .u32 t297, .int .u32 0]) ?_ 1 _ rfl; refine bkT ?_; refine blk_put (cs := #[.int .u32 0, .int .u32 0]) ?_ 0 _ rfl; refine bkT ?_; exact BK301.out⟩
                      have n4_ : Aside0 (Below w.heap.size w ((w52.setCell ⟨gb301, 0, none⟩ (.int .u32 t297)).setCell ⟨gb301, 1, none⟩ (.int .u32 t298))) := ⟨by repeat (first | (with_reducible first | exact HB.out | apply below_alloc | apply pw_below_drewN | apply below_drew1 | refine below_set ?_ GE274.out | refine below_set ?_ GE283.out | refine below_set ?_ GE292.out | refine below_set ?_ GE301.out) | exact HB.out)⟩
                      (try clear BK274)
                      (try clear BK283)
                      (try clear BK292)
                      (try clear BK301)
                      (try clear HB)
                      generalize ((w52.setCell ⟨gb301, 0, none⟩ (.int .u32 t297)).setCell ⟨gb301, 1, none⟩ (.int .u32 t298)) = w57 at n0_ n1_ n2_ n3_ n4_ ⊢
                      have BK274 := n0_; have BK283 := n1_; have BK292 := n2_; have BK301 := n3_; have HB := n4_; clear n0_ n1_ n2_ n3_ n4_; have n0_ := am (blk_drew BK274.out)
                      have n1_ := am (blk_drew BK283.out)
                      have n2_ := am (blk_drew BK292.out)
                      have n3_ := am (blk_drew BK301.out)
                      have n4_ := am (below_drew1 HB.out)
                      clear BK274; clear BK283; clear BK292; clear BK301; clear HB; have BK274 := n0_; have BK283 := n1_; have BK292 := n2_; have BK301 := n3_; have HB := n4_; clear n0_ n1_ n2_ n3_ n4_; refine start_ (n := 50) (S := fun w' => w'.cell? ⟨gb274, 0, none⟩ = some (.int .u32 t270) ∧ w'.cell? ⟨gb274, 1, none⟩ = some (.int .u32 t271) ∧ w'.cell? ⟨gb283, 0, none⟩ = some (.int .u32 t279) ∧ w'.cell? ⟨gb283, 1, none⟩ = some (.int .u32 t280) ∧ w'.cell? ⟨gb292, 0, none⟩ = some (.int .u32 t288) ∧ w'.cell? ⟨gb292, 1, none⟩ = some (.int .u32 t289)) (ds := []) #[false, false, false, false, false, false, false, false, false, false, false, false, false, false, false, false, false, false, false, false, false, false, false, false, false, false, false, false, false, false, false, false, false, false, false, false, false, false, false, false, false, false, false, false, false, false, false, false, false, false] (by kernel_rfl) rfl rfl ⟨(blk_cell BK274.out 0).trans rfl, (blk_cell BK274.out 1).trans rfl, (blk_cell BK283.out 0).trans rfl, (blk_cell BK283.out 1).trans rfl, (blk_cell BK292.out 0).trans rfl, (blk_cell BK292.out 1).trans rfl⟩ (fun hHeld => ?_); refine with_tabW lamplighterlaw19_lives.tab5 lamplighterlaw19_lives.bits5 (fun HT_ HW_ => ?_)
                      generalize w57.drew = w58 at BK274 BK283 BK292 BK301 HB hHeld ⊢
                      refine take_ (i := 0) (N := some 41) (v := ?_) (a' := ?_) #[true, false, false, false, false, false, false, false, false, false, false, false, false, false, false, false, false, false, false, false, false, false, false, false, false, false, false, false, false, false, false, false, false, false, false, false, false, false, false, false, false, false, false, false, false, false, false, false, false, false] rfl rfl (take_ofW HT_.out HW_.out (by kernel_rfl)) (fun _ _ _ h => h) (Or.inl ⟨by rfl, ?_⟩) hHeld ?_ ?_
                      rotate_left
                      · rintro w' ⟨s0, s1, s2, s3, s4, s5⟩
                        go_simp
                        with_reducible rfl
                      rotate_left
                      · simp only [Act.put, s1, s2, s3, i64_w, i32_w]
                        rfl
                      refine one_ (i := 1) (N := some 42) #[true, true, false, false, false, false, false, false, false, false, false, false, false, false, false, false, false, false, false, false, false, false, false, false, false, false, false, false, false, false, false, false, false, false, false, false, false, false, false, false, false, false, false, false, false, false, false, false, false, false] rfl rfl (one_of HT_.out (by kernel_rfl)) (by decide) (fun K hK => ?_)
                      refine goes_ Try.func16 (by kernel_rfl) rfl #[.int .u32 0, .int .u32 1] (by rfl) rfl rfl (by (try simp only [List.map_toArray, List.map_cons, List.map_nil]); first | done | rfl | (simp only [List.length_drop, List.length_take]; rfl)) ?_
                      with_reducible refine (lamplighterlaw19_r.calls 0 1 t302 t303 _ A13.out).mono ?_
                      rintro e w59 ⟨rfl, hb⟩
                      refine ⟨_, rfl, ?_⟩
                      have n0_ := bbA BK274 hb
                      have n1_ := bbA BK283 hb
                      have n2_ := bbA BK292 hb
                      have n3_ := bbA BK301 hb
                      have n4_ := bsA HB hb
                      clear BK274; clear BK283; clear BK292; clear BK301; clear HB; have BK274 := n0_; have BK283 := n1_; have BK292 := n2_; have BK301 := n3_; have HB := n4_; clear n0_ n1_ n2_ n3_ n4_; (try clear hb)
                      (try clear hb2)
                      (try clear hk)
                      (try clear hi)
                      refine hK.out _ _ ⟨(blk_cell BK274.out 0).trans rfl, (blk_cell BK274.out 1).trans rfl, (blk_cell BK283.out 0).trans rfl, (blk_cell BK283.out 1).trans rfl, (blk_cell BK292.out 0).trans rfl, (blk_cell BK292.out 1).trans rfl⟩ (fun hHeld => ?_)
                      clear hK K; refine norm_ (a' := ?_) ?_ ?_
                      rotate_left
                      · show Act.put _ (some 42) _ = _
                        simp only [Act.put, s1, s2, s3, i64_w, i32_w]
                        rfl
                      refine pure_ (i := 2) (N := some 43) (v := ?_) (a' := ?_) #[true, true, true, false, false, false, false, false, false, false, false, false, false, false, false, false, false, false, false, false, false, false, false, false, false, false, false, false, false, false, false, false, false, false, false, false, false, false, false, false, false, false, false, false, false, false, false, false, false, false] rfl rfl (any_of HT_.out (by kernel_rfl)) (fun _ _ _ h => h) (Or.inl ⟨by rfl, ?_⟩) ?_ ?_
                      rotate_left
                      · intro w'
                        go_simp
                        with_reducible rfl
                      rotate_left
                      · simp only [Act.put, s1, s2, s3, i64_w, i32_w]
                        rfl
                      refine pure_ (i := 3) (N := some 44) (v := ?_) (a' := ?_) #[true, true, true, true, false, false, false, false, false, false, false, false, false, false, false, false, false, false, false, false, false, false, false, false, false, false, false, false, false, false, false, false, false, false, false, false, false, false, false, false, false, false, false, false, false, false, false, false, false, false] rfl rfl (any_of HT_.out (by kernel_rfl)) (fun _ _ _ h => h) (Or.inl ⟨by rfl, ?_⟩) ?_ ?_
                      rotate_left
                      · intro w'
                        go_simp
                        with_reducible rfl
                      rotate_left
                      · simp only [Act.put, s1, s2, s3, i64_w, i32_w]
                        rfl
                      refine take_ (i := 4) (N := some 45) (v := ?_) (a' := ?_) #[true, true, true, true, true, false, false, false, false, false, false, false, false, false, false, false, false, false, false, false, false, false, false, false, false, false, false, false, false, false, false, false, false, false, false, false, false, false, false, false, false, false, false, false, false, false, false, false, false, false] rfl rfl (take_ofW HT_.out HW_.out (by kernel_rfl)) (fun _ _ _ h => h) (Or.inl ⟨by rfl, ?_⟩) hHeld ?_ ?_
                      rotate_left
                      · rintro w' ⟨s0, s1, s2, s3, s4, s5⟩
                        go_simp
                        with_reducible rfl
                      rotate_left
                      · simp only [Act.put, s1, s2, s3, i64_w, i32_w]
                        rfl
                      refine one_ (i := 5) (N := some 46) #[true, true, true, true, true, true, false, false, false, false, false, false, false, false, false, false, false, false, false, false, false, false, false, false, false, false, false, false, false, false, false, false, false, false, false, false, false, false, false, false, false, false, false, false, false, false, false, false, false, false] rfl rfl (one_of HT_.out (by kernel_rfl)) (by decide) (fun K hK => ?_)
                      refine goes_ Try.func16 (by kernel_rfl) rfl #[.int .u32 0, .int .u32 4294967295] (by rfl) rfl rfl (by (try simp only [List.map_toArray, List.map_cons, List.map_nil]); first | done | rfl | (simp only [List.length_drop, List.length_take]; rfl)) ?_
                      with_reducible refine (lamplighterlaw19_r.calls 0 4294967295 t304 t305 _ A15.out).mono ?_
                      rintro e w60 ⟨rfl, hb⟩
                      refine ⟨_, rfl, ?_⟩
                      have n0_ := bbA BK274 hb
                      have n1_ := bbA BK283 hb
                      have n2_ := bbA BK292 hb
                      have n3_ := bbA BK301 hb
                      have n4_ := bsA HB hb
                      clear BK274; clear BK283; clear BK292; clear BK301; clear HB; have BK274 := n0_; have BK283 := n1_; have BK292 := n2_; have BK301 := n3_; have HB := n4_; clear n0_ n1_ n2_ n3_ n4_; (try clear hb)
                      (try clear hb2)
                      (try clear hk)
                      (try clear hi)
                      refine hK.out _ _ ⟨(blk_cell BK274.out 0).trans rfl, (blk_cell BK274.out 1).trans rfl, (blk_cell BK283.out 0).trans rfl, (blk_cell BK283.out 1).trans rfl, (blk_cell BK292.out 0).trans rfl, (blk_cell BK292.out 1).trans rfl⟩ (fun hHeld => ?_)
                      clear hK K; refine norm_ (a' := ?_) ?_ ?_
                      rotate_left
                      · show Act.put _ (some 46) _ = _
                        simp only [Act.put, s1, s2, s3, i64_w, i32_w]
                        rfl
                      refine pure_ (i := 6) (N := some 47) (v := ?_) (a' := ?_) #[true, true, true, true, true, true, true, false, false, false, false, false, false, false, false, false, false, false, false, false, false, false, false, false, false, false, false, false, false, false, false, false, false, false, false, false, false, false, false, false, false, false, false, false, false, false, false, false, false, false] rfl rfl (any_of HT_.out (by kernel_rfl)) (fun _ _ _ h => h) (Or.inl ⟨by rfl, ?_⟩) ?_ ?_
                      rotate_left
                      · intro w'
                        go_simp
                        with_reducible rfl
                      rotate_left
                      · simp only [Act.put, s1, s2, s3, i64_w, i32_w]
                        rfl
                      refine pure_ (i := 7) (N := some 48) (v := ?_) (a' := ?_) #[true, true, true, true, true, true, true, true, false, false, false, false, false, false, false, false, false, false, false, false, false, false, false, false, false, false, false, false, false, false, false, false, false, false, false, false, false, false, false, false, false, false, false, false, false, false, false, false, false, false] rfl rfl (any_of HT_.out (by kernel_rfl)) (fun _ _ _ h => h) (Or.inl ⟨by rfl, ?_⟩) ?_ ?_
                      rotate_left
                      · intro w'
                        go_simp
                        with_reducible rfl
                      rotate_left
                      · simp only [Act.put, s1, s2, s3, i64_w, i32_w]
                        rfl
                      refine pure_ (i := 8) (N := some 49) (v := ?_) (a' := ?_) #[true, true, true, true, true, true, true, true, true, false, false, false, false, false, false, false, false, false, false, false, false, false, false, false, false, false, false, false, false, false, false, false, false, false, false, false, false, false, false, false, false, false, false, false, false, false, false, false, false, false] rfl rfl (any_of HT_.out (by kernel_rfl)) (fun _ _ _ h => h) (Or.inl ⟨by rfl, ?_⟩) ?_ ?_
                      rotate_left
                      · intro w'
                        go_simp
                        with_reducible rfl
                      rotate_left
                      · simp only [Act.put, s1, s2, s3, i64_w, i32_w]
                        rfl
                      refine take_ (i := 9) (N := some 50) (v := ?_) (a' := ?_) #[true, true, true, true, true, true, true, true, true, true, false, false, false, false, false, false, false, false, false, false, false, false, false, false, false, false, false, false, false, false, false, false, false, false, false, false, false, false, false, false, false, false, false, false, false, false, false, false, false, false] rfl rfl (take_ofW HT_.out HW_.out (by kernel_rfl)) (fun _ _ _ h => h) (Or.inl ⟨by rfl, ?_⟩) hHeld ?_ ?_
                      rotate_left
                      · rintro w' ⟨s0, s1, s2, s3, s4, s5⟩
                        go_simp
                        with_reducible rfl
                      rotate_left
                      · simp only [Act.put, s1, s2, s3, i64_w, i32_w]
                        rfl
                      refine one_ (i := 10) (N := some 51) #[true, true, true, true, true, true, true, true, true, true, true, false, false, false, false, false, false, false, false, false, false, false, false, false, false, false, false, false, false, false, false, false, false, false, false, false, false, false, false, false, false, false, false, false, false, false, false, false, false, false] rfl rfl (one_of HT_.out (by kernel_rfl)) (by decide) (fun K hK => ?_)
                      refine goes_ Try.func16 (by kernel_rfl) rfl #[.int .u32 2, .int .u32 20] (by rfl) rfl rfl (by (try simp only [List.map_toArray, List.map_cons, List.map_nil]); first | done | rfl | (simp only [List.length_drop, List.length_take]; rfl)) ?_
                      with_reducible refine (lamplighterlaw19_r.calls 2 20 t306 t307 _ A17.out).mono ?_
                      rintro e w61 ⟨rfl, hb⟩
                      refine ⟨_, rfl, ?_⟩
                      have n0_ := bbA BK274 hb
                      have n1_ := bbA BK283 hb
                      have n2_ := bbA BK292 hb
                      have n3_ := bbA BK301 hb
                      have n4_ := bsA HB hb
                      clear BK274; clear BK283; clear BK292; clear BK301; clear HB; have BK274 := n0_; have BK283 := n1_; have BK292 := n2_; have BK301 := n3_; have HB := n4_; clear n0_ n1_ n2_ n3_ n4_; (try clear hb)
                      (try clear hb2)
                      (try clear hk)
                      (try clear hi)
                      refine hK.out _ _ ⟨(blk_cell BK274.out 0).trans rfl, (blk_cell BK274.out 1).trans rfl, (blk_cell BK283.out 0).trans rfl, (blk_cell BK283.out 1).trans rfl, (blk_cell BK292.out 0).trans rfl, (blk_cell BK292.out 1).trans rfl⟩ (fun hHeld => ?_)
                      clear hK K; refine norm_ (a' := ?_) ?_ ?_
                      rotate_left
                      · show Act.put _ (some 51) _ = _
                        simp only [Act.put, s1, s2, s3, i64_w, i32_w]
                        rfl
                      refine pure_ (i := 11) (N := some 52) (v := ?_) (a' := ?_) #[true, true, true, true, true, true, true, true, true, true, true, true, false, false, false, false, false, false, false, false, false, false, false, false, false, false, false, false, false, false, false, false, false, false, false, false, false, false, false, false, false, false, false, false, false, false, false, false, false, false] rfl rfl (any_of HT_.out (by kernel_rfl)) (fun _ _ _ h => h) (Or.inl ⟨by rfl, ?_⟩) ?_ ?_
                      rotate_left
                      · intro w'
                        go_simp
                        with_reducible rfl
                      rotate_left
                      · simp only [Act.put, s1, s2, s3, i64_w, i32_w]
                        rfl
                      refine pure_ (i := 12) (N := some 53) (v := ?_) (a' := ?_) #[true, true, true, true, true, true, true, true, true, true, true, true, true, false, false, false, false, false, false, false, false, false, false, false, false, false, false, false, false, false, false, false, false, false, false, false, false, false, false, false, false, false, false, false, false, false, false, false, false, false] rfl rfl (any_of HT_.out (by kernel_rfl)) (fun _ _ _ h => h) (Or.inl ⟨by rfl, ?_⟩) ?_ ?_
                      rotate_left
                      · intro w'
                        go_simp
                        with_reducible rfl
                      rotate_left
                      · simp only [Act.put, s1, s2, s3, i64_w, i32_w]
                        rfl
                      refine pure_ (i := 13) (N := some 54) (v := ?_) (a' := ?_) #[true, true, true, true, true, true, true, true, true, true, true, true, true, true, false, false, false, false, false, false, false, false, false, false, false, false, false, false, false, false, false, false, false, false, false, false, false, false, false, false, false, false, false, false, false, false, false, false, false, false] rfl rfl (any_of HT_.out (by kernel_rfl)) (fun _ _ _ h => h) (Or.inl ⟨by rfl, ?_⟩) ?_ ?_
                      rotate_left
                      · intro w'
                        go_simp
                        with_reducible rfl
                      rotate_left
                      · simp only [Act.put, s1, s2, s3, i64_w, i32_w]
                        rfl
                      refine pure_ (i := 14) (N := some 55) (v := ?_) (a' := ?_) #[true, true, true, true, true, true, true, true, true, true, true, true, true, true, true, false, false, false, false, false, false, false, false, false, false, false, false, false, false, false, false, false, false, false, false, false, false, false, false, false, false, false, false, false, false, false, false, false, false, false] rfl rfl (any_of HT_.out (by kernel_rfl)) (fun _ _ _ h => h) (Or.inl ⟨by rfl, ?_⟩) ?_ ?_
                      rotate_left
                      · intro w'
                        go_simp
                        with_reducible rfl
                      rotate_left
                      · simp only [Act.put, s1, s2, s3, i64_w, i32_w]
                        rfl
                      refine pure_ (i := 15) (N := some 56) (v := ?_) (a' := ?_) #[true, true, true, true, true, true, true, true, true, true, true, true, true, true, true, true, false, false, false, false, false, false, false, false, false, false, false, false, false, false, false, false, false, false, false, false, false, false, false, false, false, false, false, false, false, false, false, false, false, false] rfl rfl (any_of HT_.out (by kernel_rfl)) (fun _ _ _ h => h) (Or.inl ⟨by rfl, ?_⟩) ?_ ?_
                      rotate_left
                      · intro w'
                        go_simp
                        with_reducible rfl
                      rotate_left
                      · simp only [Act.put, s1, s2, s3, i64_w, i32_w]
                        rfl
                      refine pure_ (i := 16) (N := some 57) (v := ?_) (a' := ?_) #[true, true, true, true, true, true, true, true, true, true, true, true, true, true, true, true, true, false, false, false, false, false, false, false, false, false, false, false, false, false, false, false, false, false, false, false, false, false, false, false, false, false, false, false, false, false, false, false, false, false] rfl rfl (any_of HT_.out (by kernel_rfl)) (fun _ _ _ h => h) (Or.inl ⟨by rfl, ?_⟩) ?_ ?_
                      rotate_left
                      · intro w'
                        go_simp
                        with_reducible rfl
                      rotate_left
                      · simp only [Act.put, s1, s2, s3, i64_w, i32_w]
                        rfl
                      refine pure_ (i := 17) (N := some 58) (v := ?_) (a' := ?_) #[true, true, true, true, true, true, true, true, true, true, true, true, true, true, true, true, true, true, false, false, false, false, false, false, false, false, false, false, false, false, false, false, false, false, false, false, false, false, false, false, false, false, false, false, false, false, false, false, false, false] rfl rfl (any_of HT_.out (by kernel_rfl)) (fun _ _ _ h => h) (Or.inl ⟨by rfl, ?_⟩) ?_ ?_
                      rotate_left
                      · intro w'
                        go_simp
                        with_reducible rfl
                      rotate_left
                      · simp only [Act.put, s1, s2, s3, i64_w, i32_w]
                        rfl
                      refine pure_ (i := 18) (N := some 59) (v := ?_) (a' := ?_) #[true, true, true, true, true, true, true, true, true, true, true, true, true, true, true, true, true, true, true, false, false, false, false, false, false, false, false, false, false, false, false, false, false, false, false, false, false, false, false, false, false, false, false, false, false, false, false, false, false, false] rfl rfl (any_of HT_.out (by kernel_rfl)) (fun _ _ _ h => h) (Or.inl ⟨by rfl, ?_⟩) ?_ ?_
                      rotate_left
                      · intro w'
                        go_simp
                        with_reducible rfl
                      rotate_left
                      · simp only [Act.put, s1, s2, s3, i64_w, i32_w]
                        rfl
                      refine pure_ (i := 19) (N := some 60) (v := ?_) (a' := ?_) #[true, true, true, true, true, true, true, true, true, true, true, true, true, true, true, true, true, true, true, true, false, false, false, false, false, false, false, false, false, false, false, false, false, false, false, false, false, false, false, false, false, false, false, false, false, false, false, false, false, false] rfl rfl (any_of HT_.out (by kernel_rfl)) (fun _ _ _ h => h) (Or.inl ⟨by rfl, ?_⟩) ?_ ?_
                      rotate_left
                      · intro w'
                        go_simp
                        with_reducible rfl
                      rotate_left
                      · simp only [Act.put, s1, s2, s3, i64_w, i32_w]
                        rfl
                      refine pure_ (i := 20) (N := some 61) (v := ?_) (a' := ?_) #[true, true, true, true, true, true, true, true, true, true, true, true, true, true, true, true, true, true, true, true, true, false, false, false, false, false, false, false, false, false, false, false, false, false, false, false, false, false, false, false, false, false, false, false, false, false, false, false, false, false] rfl rfl (any_of HT_.out (by kernel_rfl)) (fun _ _ _ h => h) (Or.inl ⟨by rfl, ?_⟩) ?_ ?_
                      rotate_left
                      · intro w'
                        go_simp
                        with_reducible rfl
                      rotate_left
                      · simp only [Act.put, s1, s2, s3, i64_w, i32_w]
                        rfl
                      refine pure_ (i := 21) (N := some 62) (v := ?_) (a' := ?_) #[true, true, true, true, true, true, true, true, true, true, true, true, true, true, true, true, true, true, true, true, true, true, false, false, false, false, false, false, false, false, false, false, false, false, false, false, false, false, false, false, false, false, false, false, false, false, false, false, false, false] rfl rfl (any_of HT_.out (by kernel_rfl)) (fun _ _ _ h => h) (Or.inl ⟨by rfl, ?_⟩) ?_ ?_
                      rotate_left
                      · intro w'
                        go_simp
                        with_reducible rfl
                      rotate_left
                      · simp only [Act.put, s1, s2, s3, i64_w, i32_w]
                        rfl
                      refine pure_ (i := 22) (N := some 63) (v := ?_) (a' := ?_) #[true, true, true, true, true, true, true, true, true, true, true, true, true, true, true, true, true, true, true, true, true, true, true, false, false, false, false, false, false, false, false, false, false, false, false, false, false, false, false, false, false, false, false, false, false, false, false, false, false, false] rfl rfl (any_of HT_.out (by kernel_rfl)) (fun _ _ _ h => h) (Or.inl ⟨by rfl, ?_⟩) ?_ ?_
                      rotate_left
                      · intro w'
                        go_simp
                        with_reducible rfl
                      rotate_left
                      · simp only [Act.put, s1, s2, s3, i64_w, i32_w]
                        rfl
                      refine pure_ (i := 23) (N := some 64) (v := ?_) (a' := ?_) #[true, true, true, true, true, true, true, true, true, true, true, true, true, true, true, true, true, true, true, true, true, true, true, true, false, false, false, false, false, false, false, false, false, false, false, false, false, false, false, false, false, false, false, false, false, false, false, false, false, false] rfl rfl (any_of HT_.out (by kernel_rfl)) (fun _ _ _ h => h) (Or.inl ⟨by rfl, ?_⟩) ?_ ?_
                      rotate_left
                      · intro w'
                        go_simp
                        with_reducible rfl
                      rotate_left
                      · simp only [Act.put, s1, s2, s3, i64_w, i32_w]
                        rfl
                      refine pure_ (i := 24) (N := some 65) (v := ?_) (a' := ?_) #[true, true, true, true, true, true, true, true, true, true, true, true, true, true, true, true, true, true, true, true, true, true, true, true, true, false, false, false, false, false, false, false, false, false, false, false, false, false, false, false, false, false, false, false, false, false, false, false, false, false] rfl rfl (any_of HT_.out (by kernel_rfl)) (fun _ _ _ h => h) (Or.inl ⟨by rfl, ?_⟩) ?_ ?_
                      rotate_left
                      · intro w'
                        go_simp
                        with_reducible rfl
                      rotate_left
                      · simp only [Act.put, s1, s2, s3, i64_w, i32_w]
                        rfl
                      refine pure_ (i := 25) (N := some 66) (v := ?_) (a' := ?_) #[true, true, true, true, true, true, true, true, true, true, true, true, true, true, true, true, true, true, true, true, true, true, true, true, true, true, false, false, false, false, false, false, false, false, false, false, false, false, false, false, false, false, false, false, false, false, false, false, false, false] rfl rfl (any_of HT_.out (by kernel_rfl)) (fun _ _ _ h => h) (Or.inl ⟨by rfl, ?_⟩) ?_ ?_
                      rotate_left
                      · intro w'
                        go_simp
                        with_reducible rfl
                      rotate_left
                      · simp only [Act.put, s1, s2, s3, i64_w, i32_w]
                        rfl
                      refine pure_ (i := 26) (N := some 67) (v := ?_) (a' := ?_) #[true, true, true, true, true, true, true, true, true, true, true, true, true, true, true, true, true, true, true, true, true, true, true, true, true, true, true, false, false, false, false, false, false, false, false, false, false, false, false, false, false, false, false, false, false, false, false, false, false, false] rfl rfl (any_of HT_.out (by kernel_rfl)) (fun _ _ _ h => h) (Or.inl ⟨by rfl, ?_⟩) ?_ ?_
                      rotate_left
                      · intro w'
                        go_simp
                        with_reducible rfl
                      rotate_left
                      · simp only [Act.put, s1, s2, s3, i64_w, i32_w]
                        rfl
                      refine pure_ (i := 27) (N := some 68) (v := ?_) (a' := ?_) #[true, true, true, true, true, true, true, true, true, true, true, true, true, true, true, true, true, true, true, true, true, true, true, true, true, true, true, true, false, false, false, false, false, false, false, false, false, false, false, false, false, false, false, false, false, false, false, false, false, false] rfl rfl (any_of HT_.out (by kernel_rfl)) (fun _ _ _ h => h) (Or.inl ⟨by rfl, ?_⟩) ?_ ?_
                      rotate_left
                      · intro w'
                        go_simp
                        with_reducible rfl
                      rotate_left
                      · simp only [Act.put, s1, s2, s3, i64_w, i32_w]
                        rfl
                      refine pure_ (i := 28) (N := some 69) (v := ?_) (a' := ?_) #[true, true, true, true, true, true, true, true, true, true, true, true, true, true, true, true, true, true, true, true, true, true, true, true, true, true, true, true, true, false, false, false, false, false, false, false, false, false, false, false, false, false, false, false, false, false, false, false, false, false] rfl rfl (any_of HT_.out (by kernel_rfl)) (fun _ _ _ h => h) (Or.inl ⟨by rfl, ?_⟩) ?_ ?_
                      rotate_left
                      · intro w'
                        go_simp
                        with_reducible rfl
                      rotate_left
                      · simp only [Act.put, s1, s2, s3, i64_w, i32_w]
                        rfl
                      refine pure_ (i := 29) (N := some 70) (v := ?_) (a' := ?_) #[true, true, true, true, true, true, true, true, true, true, true, true, true, true, true, true, true, true, true, true, true, true, true, true, true, true, true, true, true, true, false, false, false, false, false, false, false, false, false, false, false, false, false, false, false, false, false, false, false, false] rfl rfl (any_of HT_.out (by kernel_rfl)) (fun _ _ _ h => h) (Or.inl ⟨by rfl, ?_⟩) ?_ ?_
                      rotate_left
                      · intro w'
                        go_simp
                        with_reducible rfl
                      rotate_left
                      · simp only [Act.put, s1, s2, s3, i64_w, i32_w]
                        rfl
                      refine pure_ (i := 30) (N := some 71) (v := ?_) (a' := ?_) #[true, true, true, true, true, true, true, true, true, true, true, true, true, true, true, true, true, true, true, true, true, true, true, true, true, true, true, true, true, true, true, false, false, false, false, false, false, false, false, false, false, false, false, false, false, false, false, false, false, false] rfl rfl (any_of HT_.out (by kernel_rfl)) (fun _ _ _ h => h) (Or.inl ⟨by rfl, ?_⟩) ?_ ?_
                      rotate_left
                      · intro w'
                        go_simp
                        with_reducible rfl
                      rotate_left
                      · simp only [Act.put, s1, s2, s3, i64_w, i32_w]
                        rfl
                      refine pure_ (i := 31) (N := some 72) (v := ?_) (a' := ?_) #[true, true, true, true, true, true, true, true, true, true, true, true, true, true, true, true, true, true, true, true, true, true, true, true, true, true, true, true, true, true, true, true, false, false, false, false, false, false, false, false, false, false, false, false, false, false, false, false, false, false] rfl rfl (any_of HT_.out (by kernel_rfl)) (fun _ _ _ h => h) (Or.inl ⟨by rfl, ?_⟩) ?_ ?_
                      rotate_left
                      · intro w'
                        go_simp
                        with_reducible rfl
                      rotate_left
                      · simp only [Act.put, s1, s2, s3, i64_w, i32_w]
                        rfl
                      refine pure_ (i := 32) (N := some 73) (v := ?_) (a' := ?_) #[true, true, true, true, true, true, true, true, true, true, true, true, true, true, true, true, true, true, true, true, true, true, true, true, true, true, true, true, true, true, true, true, true, false, false, false, false, false, false, false, false, false, false, false, false, false, false, false, false, false] rfl rfl (any_of HT_.out (by kernel_rfl)) (fun _ _ _ h => h) (Or.inl ⟨by rfl, ?_⟩) ?_ ?_
                      rotate_left
                      · intro w'
                        go_simp
                        with_reducible rfl
                      rotate_left
                      · simp only [Act.put, s1, s2, s3, i64_w, i32_w]
                        rfl
                      refine pure_ (i := 33) (N := some 74) (v := ?_) (a' := ?_) #[true, true, true, true, true, true, true, true, true, true, true, true, true, true, true, true, true, true, true, true, true, true, true, true, true, true, true, true, true, true, true, true, true, true, false, false, false, false, false, false, false, false, false, false, false, false, false, false, false, false] rfl rfl (any_of HT_.out (by kernel_rfl)) (fun _ _ _ h => h) (Or.inl ⟨by rfl, ?_⟩) ?_ ?_
                      rotate_left
                      · intro w'
                        go_simp
                        with_reducible rfl
                      rotate_left
                      · simp only [Act.put, s1, s2, s3, i64_w, i32_w]
                        rfl
                      refine pure_ (i := 34) (N := some 75) (v := ?_) (a' := ?_) #[true, true, true, true, true, true, true, true, true, true, true, true, true, true, true, true, true, true, true, true, true, true, true, true, true, true, true, true, true, true, true, true, true, true, true, false, false, false, false, false, false, false, false, false, false, false, false, false, false, false] rfl rfl (any_of HT_.out (by kernel_rfl)) (fun _ _ _ h => h) (Or.inl ⟨by rfl, ?_⟩) ?_ ?_
                      rotate_left
                      · intro w'
                        go_simp
                        with_reducible rfl
                      rotate_left
                      · simp only [Act.put, s1, s2, s3, i64_w, i32_w]
                        rfl
                      refine pure_ (i := 35) (N := some 76) (v := ?_) (a' := ?_) #[true, true, true, true, true, true, true, true, true, true, true, true, true, true, true, true, true, true, true, true, true, true, true, true, true, true, true, true, true, true, true, true, true, true, true, true, false, false, false, false, false, false, false, false, false, false, false, false, false, false] rfl rfl (any_of HT_.out (by kernel_rfl)) (fun _ _ _ h => h) (Or.inl ⟨by rfl, ?_⟩) ?_ ?_
                      rotate_left
                      · intro w'
                        go_simp
                        with_reducible rfl
                      rotate_left
                      · simp only [Act.put, s1, s2, s3, i64_w, i32_w]
                        rfl
                      refine pure_ (i := 36) (N := some 77) (v := ?_) (a' := ?_) #[true, true, true, true, true, true, true, true, true, true, true, true, true, true, true, true, true, true, true, true, true, true, true, true, true, true, true, true, true, true, true, true, true, true, true, true, true, false, false, false, false, false, false, false, false, false, false, false, false, false] rfl rfl (any_of HT_.out (by kernel_rfl)) (fun _ _ _ h => h) (Or.inl ⟨by rfl, ?_⟩) ?_ ?_
                      rotate_left
                      · intro w'
                        go_simp
                        with_reducible rfl
                      rotate_left
                      · simp only [Act.put, s1, s2, s3, i64_w, i32_w]
                        rfl
                      refine pure_ (i := 37) (N := some 78) (v := ?_) (a' := ?_) #[true, true, true, true, true, true, true, true, true, true, true, true, true, true, true, true, true, true, true, true, true, true, true, true, true, true, true, true, true, true, true, true, true, true, true, true, true, true, false, false, false, false, false, false, false, false, false, false, false, false] rfl rfl (any_of HT_.out (by kernel_rfl)) (fun _ _ _ h => h) (Or.inl ⟨by rfl, ?_⟩) ?_ ?_
                      rotate_left
                      · intro w'
                        go_simp
                        with_reducible rfl
                      rotate_left
                      · simp only [Act.put, s1, s2, s3, i64_w, i32_w]
                        rfl
                      refine pure_ (i := 38) (N := some 79) (v := ?_) (a' := ?_) #[true, true, true, true, true, true, true, true, true, true, true, true, true, true, true, true, true, true, true, true, true, true, true, true, true, true, true, true, true, true, true, true, true, true, true, true, true, true, true, false, false, false, false, false, false, false, false, false, false, false] rfl rfl (any_of HT_.out (by kernel_rfl)) (fun _ _ _ h => h) (Or.inl ⟨by rfl, ?_⟩) ?_ ?_
                      rotate_left
                      · intro w'
                        go_simp
                        with_reducible rfl
                      rotate_left
                      · simp only [Act.put, s1, s2, s3, i64_w, i32_w]
                        rfl
                      refine pure_ (i := 39) (N := some 80) (v := ?_) (a' := ?_) #[true, true, true, true, true, true, true, true, true, true, true, true, true, true, true, true, true, true, true, true, true, true, true, true, true, true, true, true, true, true, true, true, true, true, true, true, true, true, true, true, false, false, false, false, false, false, false, false, false, false] rfl rfl (any_of HT_.out (by kernel_rfl)) (fun _ _ _ h => h) (Or.inl ⟨by rfl, ?_⟩) ?_ ?_
                      rotate_left
                      · intro w'
                        go_simp
                        with_reducible rfl
                      rotate_left
                      · simp only [Act.put, s1, s2, s3, i64_w, i32_w]
                        rfl
                      refine pure_ (i := 40) (N := some 81) (v := ?_) (a' := ?_) #[true, true, true, true, true, true, true, true, true, true, true, true, true, true, true, true, true, true, true, true, true, true, true, true, true, true, true, true, true, true, true, true, true, true, true, true, true, true, true, true, true, false, false, false, false, false, false, false, false, false] rfl rfl (any_of HT_.out (by kernel_rfl)) (fun _ _ _ h => h) (Or.inl ⟨by rfl, ?_⟩) ?_ ?_
                      rotate_left
                      · intro w'
                        go_simp
                        with_reducible rfl
                      rotate_left
                      · simp only [Act.put, s1, s2, s3, i64_w, i32_w]
                        rfl
                      refine pure_ (i := 41) (N := some 82) (v := ?_) (a' := ?_) #[true, true, true, true, true, true, true, true, true, true, true, true, true, true, true, true, true, true, true, true, true, true, true, true, true, true, true, true, true, true, true, true, true, true, true, true, true, true, true, true, true, true, false, false, false, false, false, false, false, false] rfl rfl (any_of HT_.out (by kernel_rfl)) (fun _ _ _ h => h) (Or.inl ⟨by rfl, ?_⟩) ?_ ?_
                      rotate_left
                      · intro w'
                        go_simp
                        with_reducible rfl
                      rotate_left
                      · simp only [Act.put, s1, s2, s3, i64_w, i32_w]
                        rfl
                      refine pure_ (i := 42) (N := some 83) (v := ?_) (a' := ?_) #[true, true, true, true, true, true, true, true, true, true, true, true, true, true, true, true, true, true, true, true, true, true, true, true, true, true, true, true, true, true, true, true, true, true, true, true, true, true, true, true, true, true, true, false, false, false, false, false, false, false] rfl rfl (any_of HT_.out (by kernel_rfl)) (fun _ _ _ h => h) (Or.inl ⟨by rfl, ?_⟩) ?_ ?_
                      rotate_left
                      · intro w'
                        go_simp
                        with_reducible rfl
                      rotate_left
                      · simp only [Act.put, s1, s2, s3, i64_w, i32_w]
                        rfl
                      refine one_ (i := 43) (N := some 84) #[true, true, true, true, true, true, true, true, true, true, true, true, true, true, true, true, true, true, true, true, true, true, true, true, true, true, true, true, true, true, true, true, true, true, true, true, true, true, true, true, true, true, true, true, false, false, false, false, false, false] rfl rfl (one_of HT_.out (by kernel_rfl)) (by decide) (fun K hK => ?_)
                      refine goes_ Try.func16 (by kernel_rfl) rfl #[.int .u32 3, .int .u32 7] (by rfl) rfl rfl (by (try simp only [List.map_toArray, List.map_cons, List.map_nil]); first | done | rfl | (simp only [List.length_drop, List.length_take]; rfl)) ?_
                      with_reducible refine (lamplighterlaw19_r.calls 3 7 t308 t309 _ A27.out).mono ?_
                      rintro e w62 ⟨rfl, hb⟩
                      refine ⟨_, rfl, ?_⟩
                      have n0_ := bbA BK274 hb
                      have n1_ := bbA BK283 hb
                      have n2_ := bbA BK292 hb
                      have n3_ := bbA BK301 hb
                      have n4_ := bsA HB hb
                      clear BK274; clear BK283; clear BK292; clear BK301; clear HB; have BK274 := n0_; have BK283 := n1_; have BK292 := n2_; have BK301 := n3_; have HB := n4_; clear n0_ n1_ n2_ n3_ n4_; (try clear hb)
                      (try clear hb2)
                      (try clear hk)
                      (try clear hi)
                      refine hK.out _ _ ⟨(blk_cell BK274.out 0).trans rfl, (blk_cell BK274.out 1).trans rfl, (blk_cell BK283.out 0).trans rfl, (blk_cell BK283.out 1).trans rfl, (blk_cell BK292.out 0).trans rfl, (blk_cell BK292.out 1).trans rfl⟩ (fun hHeld => ?_)
                      clear hK K; refine norm_ (a' := ?_) ?_ ?_
                      rotate_left
                      · show Act.put _ (some 84) _ = _
                        simp only [Act.put, s1, s2, s3, i64_w, i32_w]
                        rfl
                      refine one_ (i := 44) (N := some 85) #[true, true, true, true, true, true, true, true, true, true, true, true, true, true, true, true, true, true, true, true, true, true, true, true, true, true, true, true, true, true, true, true, true, true, true, true, true, true, true, true, true, true, true, true, true, false, false, false, false, false] rfl rfl (one_of HT_.out (by kernel_rfl)) (by decide) (fun K hK => ?_)
                      refine goes_ Try.func16 (by kernel_rfl) rfl #[.int .u32 2, .int .u32 300] (by rfl) rfl rfl (by (try simp only [List.map_toArray, List.map_cons, List.map_nil]); first | done | rfl | (simp only [List.length_drop, List.length_take]; rfl)) ?_
                      with_reducible refine (lamplighterlaw19_r.calls 2 300 t310 t311 _ A28.out).mono ?_
                      rintro e w63 ⟨rfl, hb⟩
                      refine ⟨_, rfl, ?_⟩
                      have n0_ := bbA BK274 hb
                      have n1_ := bbA BK283 hb
                      have n2_ := bbA BK292 hb
                      have n3_ := bbA BK301 hb
                      have n4_ := bsA HB hb
                      clear BK274; clear BK283; clear BK292; clear BK301; clear HB; have BK274 := n0_; have BK283 := n1_; have BK292 := n2_; have BK301 := n3_; have HB := n4_; clear n0_ n1_ n2_ n3_ n4_; (try clear hb)
                      (try clear hb2)
                      (try clear hk)
                      (try clear hi)
                      refine hK.out _ _ ⟨(blk_cell BK274.out 0).trans rfl, (blk_cell BK274.out 1).trans rfl, (blk_cell BK283.out 0).trans rfl, (blk_cell BK283.out 1).trans rfl, (blk_cell BK292.out 0).trans rfl, (blk_cell BK292.out 1).trans rfl⟩ (fun hHeld => ?_)
                      clear hK K; refine norm_ (a' := ?_) ?_ ?_
                      rotate_left
                      · show Act.put _ (some 85) _ = _
                        simp only [Act.put, s1, s2, s3, i64_w, i32_w]
                        rfl
                      refine one_ (i := 45) (N := some 86) #[true, true, true, true, true, true, true, true, true, true, true, true, true, true, true, true, true, true, true, true, true, true, true, true, true, true, true, true, true, true, true, true, true, true, true, true, true, true, true, true, true, true, true, true, true, true, false, false, false, false] rfl rfl (one_of HT_.out (by kernel_rfl)) (by decide) (fun K hK => ?_)
                      refine goes_ Try.func15 (by kernel_rfl) rfl #[.agg #[.int .u32 t308, .int .u32 t309], .agg #[.int .u32 t310, .int .u32 t311]] (by rfl) rfl rfl (by (try simp only [List.map_toArray, List.map_cons, List.map_nil]); first | done | rfl | (simp only [List.length_drop, List.length_take]; rfl)) ?_
                      with_reducible refine (interval_Widen.calls k t308 t309 t310 t311 t312 t313 _ A29.out).mono ?_
                      rintro e w64 ⟨rfl, hb⟩
                      refine ⟨_, rfl, ?_⟩
                      have n0_ := bbA BK274 hb
                      have n1_ := bbA BK283 hb
                      have n2_ := bbA BK292 hb
                      have n3_ := bbA BK301 hb
                      have n4_ := bsA HB hb
                      clear BK274; clear BK283; clear BK292; clear BK301; clear HB; have BK274 := n0_; have BK283 := n1_; have BK292 := n2_; have BK301 := n3_; have HB := n4_; clear n0_ n1_ n2_ n3_ n4_; (try clear hb)
                      (try clear hb2)
                      (try clear hk)
                      (try clear hi)
                      refine hK.out _ _ ⟨(blk_cell BK274.out 0).trans rfl, (blk_cell BK274.out 1).trans rfl, (blk_cell BK283.out 0).trans rfl, (blk_cell BK283.out 1).trans rfl, (blk_cell BK292.out 0).trans rfl, (blk_cell BK292.out 1).trans rfl⟩ (fun hHeld => ?_)
                      clear hK K; refine norm_ (a' := ?_) ?_ ?_
                      rotate_left
                      · show Act.put _ (some 86) _ = _
                        simp only [Act.put, s1, s2, s3, i64_w, i32_w]
                        rfl
                      refine one_ (i := 46) (N := some 87) #[true, true, true, true, true, true, true, true, true, true, true, true, true, true, true, true, true, true, true, true, true, true, true, true, true, true, true, true, true, true, true, true, true, true, true, true, true, true, true, true, true, true, true, true, true, true, true, false, false, false] rfl rfl (one_of HT_.out (by kernel_rfl)) (by decide) (fun K hK => ?_)
                      refine goes_ Try.func16 (by kernel_rfl) rfl #[.int .u32 1, .int .u32 65535] (by rfl) rfl rfl (by (try simp only [List.map_toArray, List.map_cons, List.map_nil]); first | done | rfl | (simp only [List.length_drop, List.length_take]; rfl)) ?_
                      with_reducible refine (lamplighterlaw19_r.calls 1 65535 t314 t315 _ A30.out).mono ?_
                      rintro e w65 ⟨rfl, hb⟩
                      refine ⟨_, rfl, ?_⟩
                      have n0_ := bbA BK274 hb
                      have n1_ := bbA BK283 hb
                      have n2_ := bbA BK292 hb
                      have n3_ := bbA BK301 hb
                      have n4_ := bsA HB hb
                      clear BK274; clear BK283; clear BK292; clear BK301; clear HB; have BK274 := n0_; have BK283 := n1_; have BK292 := n2_; have BK301 := n3_; have HB := n4_; clear n0_ n1_ n2_ n3_ n4_; (try clear hb)
                      (try clear hb2)
                      (try clear hk)
                      (try clear hi)
                      refine hK.out _ _ ⟨(blk_cell BK274.out 0).trans rfl, (blk_cell BK274.out 1).trans rfl, (blk_cell BK283.out 0).trans rfl, (blk_cell BK283.out 1).trans rfl, (blk_cell BK292.out 0).trans rfl, (blk_cell BK292.out 1).trans rfl⟩ (fun hHeld => ?_)
                      clear hK K; refine norm_ (a' := ?_) ?_ ?_
                      rotate_left
                      · show Act.put _ (some 87) _ = _
                        simp only [Act.put, s1, s2, s3, i64_w, i32_w]
                        rfl
                      refine pure_ (i := 47) (N := some 88) (v := ?_) (a' := ?_) #[true, true, true, true, true, true, true, true, true, true, true, true, true, true, true, true, true, true, true, true, true, true, true, true, true, true, true, true, true, true, true, true, true, true, true, true, true, true, true, true, true, true, true, true, true, true, true, true, false, false] rfl rfl (any_of HT_.out (by kernel_rfl)) (fun _ _ _ h => h) (Or.inl ⟨by rfl, ?_⟩) ?_ ?_
                      rotate_left
                      · intro w'
                        go_simp
                        with_reducible rfl
                      rotate_left
                      · simp only [Act.put, s1, s2, s3, i64_w, i32_w]
                        rfl
                      refine pure_ (i := 48) (N := some 89) (v := ?_) (a' := ?_) #[true, true, true, true, true, true, true, true, true, true, true, true, true, true, true, true, true, true, true, true, true, true, true, true, true, true, true, true, true, true, true, true, true, true, true, true, true, true, true, true, true, true, true, true, true, true, true, true, true, false] rfl rfl (any_of HT_.out (by kernel_rfl)) (fun _ _ _ h => h) (Or.inl ⟨by rfl, ?_⟩) ?_ ?_
                      rotate_left
                      · intro w'
                        go_simp
                        with_reducible rfl
                      rotate_left
                      · simp only [Act.put, s1, s2, s3, i64_w, i32_w]
                        rfl
                      refine pure_ (i := 49) (N := some 0) (v := ?_) (a' := ?_) #[true, true, true, true, true, true, true, true, true, true, true, true, true, true, true, true, true, true, true, true, true, true, true, true, true, true, true, true, true, true, true, true, true, true, true, true, true, true, true, true, true, true, true, true, true, true, true, true, true, true] rfl rfl (any_of HT_.out (by kernel_rfl)) (fun _ _ _ h => h) (Or.inl ⟨by rfl, ?_⟩) ?_ ?_
                      rotate_left
                      · intro w'
                        go_simp
                        with_reducible rfl
                      rotate_left
                      · simp only [Act.put, s1, s2, s3, i64_w, i32_w]
                        rfl
                      refine done_ (done_of HT_.out (by kernel_rfl)) ?_
                      try go_wp2
                      go_ret
                      exact ⟨by first | rfl | (simp [errW_none, errW_some] <;> rfl) | (simp [*, errW_none, errW_some] <;> rfl), hbA HB⟩
                    rw [if_neg c26] at H; have c26b0 : (t300 == 0) = false := beq_eq_false_iff_ne.mpr c26; have c26b1 : (t300 != 0) = true := bne_iff_ne.mpr c26; exact absurd ((Option.some.inj H).trans hr_.out) (by decide)
                  rw [if_neg c25] at H; have c25b0 : (t291 == 0) = false := beq_eq_false_iff_ne.mpr c25; have c25b1 : (t291 != 0) = true := bne_iff_ne.mpr c25; exact absurd ((Option.some.inj H).trans hr_.out) (by decide)
                rw [if_neg c24] at H; have c24b0 : (t282 == 0) = false := beq_eq_false_iff_ne.mpr c24; have c24b1 : (t282 != 0) = true := bne_iff_ne.mpr c24; exact absurd ((Option.some.inj H).trans hr_.out) (by decide)
              rw [if_neg c23] at H; have c23b0 : (t273 == 0) = false := beq_eq_false_iff_ne.mpr c23; have c23b1 : (t273 != 0) = true := bne_iff_ne.mpr c23; exact absurd ((Option.some.inj H).trans hr_.out) (by decide)
            replace c21 := Bool.eq_false_iff.mpr c21; subst c21; have H1 : (some false) = some r := by rw [if_neg (show ¬ (false = true) by decide)] at H; exact H
            clear H; have H := H1; clear H1; exact absurd ((Option.some.inj H).trans hr_.out) (by decide)
          replace c20 := Bool.eq_false_iff.mpr c20; subst c20; have H1 : (some false) = some r := by rw [if_neg (show ¬ (false = true) by decide)] at H; exact H
          clear H; have H := H1; clear H1; exact absurd ((Option.some.inj H).trans hr_.out) (by decide)
        replace c19 := Bool.eq_false_iff.mpr c19; subst c19; have H1 : (some false) = some r := by rw [if_neg (show ¬ (false = true) by decide)] at H; exact H
        clear H; have H := H1; clear H1; exact absurd ((Option.some.inj H).trans hr_.out) (by decide)
      rw [if_neg c18] at H; have c18b0 : (t288 == t306 && (t289 == t307)) = false := by simpa using c18
      (try (have c18b1 : decide (t288 = t306 && (t289 == t307)) = false := by simpa using c18))
      (try (have c18b2 : (t288 == t306 && (t289 == t307)) = false := by simpa using c18))
      (try (have c18b3 : ¬ (t288 = t306 && (t289 == t307)) := by simpa using c18))
      clear c18; exact absurd ((Option.some.inj H).trans hr_.out) (by decide)
    rw [if_neg c16] at H; have c16b0 : (t279 == t304 && (t280 == t305)) = false := by simpa using c16
    (try (have c16b1 : decide (t279 = t304 && (t280 == t305)) = false := by simpa using c16))
    (try (have c16b2 : (t279 == t304 && (t280 == t305)) = false := by simpa using c16))
    (try (have c16b3 : ¬ (t279 = t304 && (t280 == t305)) := by simpa using c16))
    clear c16; exact absurd ((Option.some.inj H).trans hr_.out) (by decide)
  rw [if_neg c14] at H; have c14b0 : (t270 == t302 && (t271 == t303)) = false := by simpa using c14
  (try (have c14b1 : decide (t270 = t302 && (t271 == t303)) = false := by simpa using c14))
  (try (have c14b2 : (t270 == t302 && (t271 == t303)) = false := by simpa using c14))
  (try (have c14b3 : ¬ (t270 = t302 && (t271 == t303)) := by simpa using c14))
  clear c14; exact absurd ((Option.some.inj H).trans hr_.out) (by decide)

/-! ### interval_Check: function 9 -/
def interval_Check.f (a0_0 : Int) (a0_1 : Int) : Option (Int) := if a0_0 > a0_1 then (some 2) else (some 0)
set_option maxHeartbeats 8000000 in
set_option maxRecDepth 100000 in
theorem interval_Check.calls (a0_0 : Int) (a0_1 : Int) (r : Int) (w : World) (h : interval_Check.f a0_0 a0_1 = some r) :
    Calls Try.prog 9 #[.agg #[.int .u32 a0_0, .int .u32 a0_1]] w fun e w' => e = .returned (.int .i64 r) ∧ Below w.heap.size w w' := by
  have hu24 := Try.underlying24
  have HB := am (Below.refl w.heap.size w)
  have H : (if a0_0 > a0_1 then (some 2) else (some 0)) = some r := h
  clear h; by_cases c2 : a0_0 > a0_1
  · rw [if_pos c2] at H; have c2b0 : decide (a0_1 < a0_0) = true := decide_eq_true c2; clear c2; obtain rfl := Option.some.inj H
    go_enter Try.func9, Try.ntmps9
    go_wp2_with (first | ((with_reducible refine gate_dst (N := 1) rfl ?_); refine bxE 1 #[.int .u32 a0_0, .int .u32 a0_1] 24 ?_; intro gb316 hg w3 hbox hb; have BK316 := am (hbox); have GW316 := gwA hg HB; have GE316 := gwA hg HB; replace HB := bsA HB hb; clear hb hbox hg; have hcz4_0 : w3.cell? ⟨gb316, 0, none⟩ = some (.int .u32 a0_0) := cz BK316; have hcz4_1 : w3.cell? ⟨gb316, 1, none⟩ = some (.int .u32 a0_1) := cz BK316; have hfz4_0 := blk_frozen BK316.out 0; have hfz4_1 := blk_frozen BK316.out 1))
    go_ret
    exact ⟨by first | rfl | (simp [errW_none, errW_some] <;> rfl) | (simp [*, errW_none, errW_some] <;> rfl), hbA HB⟩
  rw [if_neg c2] at H; have c2b0 : decide (a0_1 < a0_0) = false := decide_eq_false c2; clear c2; obtain rfl := Option.some.inj H
  go_enter Try.func9, Try.ntmps9
  go_wp2_with (first | ((with_reducible refine gate_dst (N := 1) rfl ?_); refine bxE 1 #[.int .u32 a0_0, .int .u32 a0_1] 24 ?_; intro gb316 hg w5 hbox hb; have BK316 := am (hbox); have GW316 := gwA hg HB; have GE316 := gwA hg HB; replace HB := bsA HB hb; clear hb hbox hg; have hcz6_0 : w5.cell? ⟨gb316, 0, none⟩ = some (.int .u32 a0_0) := cz BK316; have hcz6_1 : w5.cell? ⟨gb316, 1, none⟩ = some (.int .u32 a0_1) := cz BK316; have hfz6_0 := blk_frozen BK316.out 0; have hfz6_1 := blk_frozen BK316.out 1))
  go_ret
  exact ⟨by first | rfl | (simp [errW_none, errW_some] <;> rfl) | (simp [*, errW_none, errW_some] <;> rfl), hbA HB⟩

end Go.Proofs.Ytmhmfnjbioplhaa.PIntervalCalls
