/- The plain law ValueCalls. Conditions: those each theorem names. -/
import Derived.Test.YtdmondofdlkopaaGreatDoorPlainTxt
import Derived.Test.YtdmondofdlkopaaGreatDoorVCalls
namespace Go.Proofs.YtdmondofdlkopaaGreatDoor.V.Snd
open Go Go.RowKit Go.Proofs.YtdmondofdlkopaaGreatDoor.X Go.Proofs.YtdmondofdlkopaaGreatDoor.V Go.Vb
set_option linter.unusedVariables false
set_option linter.unusedSimpArgs false
theorem all_c : value_All.f = some (0, 4294967295, 0, 0) ∧ lamplighterref21_All.f = some (0, 4294967295, 0, 0) := ⟨rfl, rfl⟩
theorem one_c (x : Int) : value_One.f x = some (x, x, 4294967295, x) ∧ lamplighterref21_One.f x = some (x, x, 4294967295, x) := ⟨rfl, rfl⟩
theorem calls_holds (a b : S) (x op width : Int) : lamplighterlaw21_ValueCalls.f 100 a.lo.toNat a.hi.toNat a.K.toNat a.O.toNat b.lo.toNat b.hi.toNat b.K.toNat b.O.toNat x op width = some true := by
  obtain ⟨z1, e1, r1⟩ := c_fit a
  obtain ⟨z2, e2, r2⟩ := c_truth a
  obtain ⟨z3, e3, r3⟩ := c_check a
  obtain ⟨z4, e4, r4⟩ := c_has a x
  obtain ⟨z5, e5, r5⟩ := c_within a b
  obtain ⟨z6, e6, r6, _⟩ := c_join a b
  obtain ⟨z7, e7, r7⟩ := c_widen a b
  obtain ⟨z8, e8, r8⟩ := c_text a
  obtain ⟨r, ep, _, _⟩ := pick_is op (n := 19) (by decide) (by decide)
  obtain ⟨y1, d1, g1⟩ := c_do op a b
  obtain ⟨y2, d2, g2⟩ := c_un op a
  obtain ⟨y3, d3, g3⟩ := c_do (IntKind.i64.wrap (1 + r)) a b
  obtain ⟨y4, d4, g4⟩ := c_un (IntKind.i64.wrap (1 + r)) a
  obtain ⟨y5, d5, g5⟩ := c_cut width a
  unfold lamplighterlaw21_ValueCalls.f lamplighterlaw21_ValueCalls.b_j0 lamplighterlaw21_ValueCalls.j1 lamplighterlaw21_ValueCalls.b_j1 lamplighterlaw21_ValueCalls.j2 lamplighterlaw21_ValueCalls.b_j2 lamplighterlaw21_ValueCalls.j3 lamplighterlaw21_ValueCalls.b_j3 lamplighterlaw21_ValueCalls.j4 lamplighterlaw21_ValueCalls.b_j4 lamplighterlaw21_ValueCalls.j5 lamplighterlaw21_ValueCalls.b_j5 lamplighterlaw21_ValueCalls.j6 lamplighterlaw21_ValueCalls.b_j6 lamplighterlaw21_ValueCalls.j7 lamplighterlaw21_ValueCalls.b_j7 lamplighterlaw21_ValueCalls.j8 lamplighterlaw21_ValueCalls.b_j8 lamplighterlaw21_ValueCalls.j9 lamplighterlaw21_ValueCalls.b_j9 lamplighterlaw21_ValueCalls.j10
  simp only [lives_is, e1, r1, e2, r2, e3, r3, e4, r4, e5, r5, e6, r6, e7, r7, e8, r8, ep, d1, g1, d2, g2, d3, g3, d4, g4, d5, g5, all_c.1, all_c.2, (one_c x).1, (one_c x).2, Option.bind_some, beq_self_eq_true, Bool.and_self, Bool.not_true, br_f, br_t, eqI_refl]
namespace Holds
theorem calls (a0_0 a0_1 a0_2 a0_3 a1_0 a1_1 a1_2 a1_3 a2 a3 a4 : Int) (w00 : (Lit.int .u32 a0_0).wf = true) (w01 : (Lit.int .u32 a0_1).wf = true) (w02 : (Lit.int .u32 a0_2).wf = true) (w03 : (Lit.int .u32 a0_3).wf = true) (w10 : (Lit.int .u32 a1_0).wf = true) (w11 : (Lit.int .u32 a1_1).wf = true) (w12 : (Lit.int .u32 a1_2).wf = true) (w13 : (Lit.int .u32 a1_3).wf = true) (w2 : (Lit.int .u32 a2).wf = true) (_ : (Lit.int .i64 a3).wf = true) (_ : (Lit.int .i64 a4).wf = true) : lamplighterlaw21_ValueCalls.f 100 a0_0 a0_1 a0_2 a0_3 a1_0 a1_1 a1_2 a1_3 a2 a3 a4 = some true := by
  obtain ⟨p0, rfl⟩ := b_of' (u_wf w00)
  obtain ⟨p1, rfl⟩ := b_of' (u_wf w01)
  obtain ⟨p2, rfl⟩ := b_of' (u_wf w02)
  obtain ⟨p3, rfl⟩ := b_of' (u_wf w03)
  obtain ⟨q0, rfl⟩ := b_of' (u_wf w10)
  obtain ⟨q1, rfl⟩ := b_of' (u_wf w11)
  obtain ⟨q2, rfl⟩ := b_of' (u_wf w12)
  obtain ⟨q3, rfl⟩ := b_of' (u_wf w13)
  exact calls_holds ⟨p0, p1, p2, p3⟩ ⟨q0, q1, q2, q3⟩ a2 a3 a4
end Holds
end Go.Proofs.YtdmondofdlkopaaGreatDoor.V.Snd
