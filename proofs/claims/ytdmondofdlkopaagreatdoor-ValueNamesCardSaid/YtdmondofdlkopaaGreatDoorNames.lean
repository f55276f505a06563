/- The law ValueNames: the call returns true. Conditions: the listed package-level variables hold what the row lists. -/
import Derived.Test.YtdmondofdlkopaaGreatDoorVOne
namespace Go.Proofs.YtdmondofdlkopaaGreatDoor.V
open Go Go.RowKit Go.Proofs.YtdmondofdlkopaaGreatDoor.X
set_option linter.unusedVariables false
set_option maxRecDepth 100000
/-- Numbers told, in this one case. -/
def fu (a : Int) : Option ByteArray := match a with
  | 2 => some ⟨#[50]⟩
  | _ => none
def dS (x : AV) : Option ByteArray := match x with
  | .v (.string s) => some s
  | _ => none
theorem dS_ok (x : AV) (t : ByteArray) (h : dS x = some t) : x = .v (.string t) := by
  unfold dS at h
  split at h
  · obtain rfl := Option.some.inj h
    rfl
  · cases h
theorem fu_run : run (E64 100) 20 74 [.v (.int .u64 2), .v (.int .i64 10)] [] (fun x _ => dS x) = some ⟨#[50]⟩ := by kernel_rfl
def bits2 : ByteArray := ⟨#[48, 48, 48, 48, 48, 48, 48, 48, 48, 48, 48, 48, 48, 48, 48, 48, 48, 48, 48, 48, 48, 48, 48, 48, 48, 48, 48, 48, 48, 48, 49, 48]⟩
theorem kt_run : run (E64 100) 20 75 [.v (.agg ⟨[.int .u32 4294967295, .int .u32 2]⟩)] [] (fun x _ => dS x) = some bits2 := by kernel_rfl
noncomputable def sFu : Sum := { T := ByteArray, get := fun l => match l with | [.int .u64 2, .int .i64 10] => some (some ⟨#[50]⟩) | _ => none, enc := Value.string }
noncomputable def sKt : Sum := { T := ByteArray, get := fun l => match l with | [.agg ⟨[.int .u32 4294967295, .int .u32 2]⟩] => some (some bits2) | _ => none, enc := Value.string }
noncomputable def EN1 : Eng := (E64 100).add 74 sFu
noncomputable def EN2 : Eng := EN1.add 75 sKt
theorem allN1 : EngAll EN1 := (all64 100).add (by kernel_rfl) (by
  intro vs t w g h
  simp only [sFu] at h
  split at h
  · obtain rfl := Option.some.inj (Option.some.inj h)
    exact (all64 100).calls (vs := [.int .u64 2, .int .i64 10]) g dS_ok fu_run
  · cases h)
theorem allN2 : EngAll EN2 := allN1.add (by kernel_rfl) (by
  intro vs t w g h
  simp only [sKt] at h
  split at h
  · obtain rfl := Option.some.inj (Option.some.inj h)
    exact (all64 100).calls (vs := [.agg ⟨[.int .u32 4294967295, .int .u32 2]⟩]) (show G w from g) dS_ok kt_run
  · cases h)
theorem names_run : run EN2 20 6 [] [] (fun x _ => d5 x) = some true := by kernel_rfl
theorem names_calls {w : World} (g : G w) : Calls Tryz.prog 6 #[] w fun e w' => e = .returned (.bool true) ∧ Below w.heap.size w w' :=
  allN2.calls (vs := []) (show G w from g) d5_ok names_run
end Go.Proofs.YtdmondofdlkopaaGreatDoor.V
