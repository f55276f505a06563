/- The texts of values, by the program and by the reference. Conditions: those each theorem names. -/
import Derived.Test.YtdmondofdlkopaaGreatDoorPlainRef
import Derived.Test.YtdmondofdlkopaaGreatDoorVTxt
namespace Go.Proofs.YtdmondofdlkopaaGreatDoor.V.Snd
open Go Go.RowKit Go.Proofs.YtdmondofdlkopaaGreatDoor.X Go.Proofs.YtdmondofdlkopaaGreatDoor.V Go.Vb
set_option linter.unusedVariables false
set_option linter.unusedSimpArgs false
/-! ### The texts -/
/-- A bit's sign. -/
def cell (K O : Int) (j : Int) : Int := if eqI (bitw .and .u32 K (X.shl .u32 1 j)) 0 = true then 120 else if eqI (bitw .and .u32 O (X.shl .u32 1 j)) 0 = true then 48 else 49
theorem tx_0 (k n : Nat) (K O v0 v1 v2 v3 v4 v5 v6 v7 v8 v9 v10 v11 v12 v13 v14 v15 v16 v17 v18 v19 v20 v21 v22 v23 v24 v25 v26 v27 v28 v29 v30 v31 : Int) : known_Text.l69 k K O (n + 1) 0 v0 v1 v2 v3 v4 v5 v6 v7 v8 v9 v10 v11 v12 v13 v14 v15 v16 v17 v18 v19 v20 v21 v22 v23 v24 v25 v26 v27 v28 v29 v30 v31 = known_Text.l69 k K O n 1 (cell K O 31) v1 v2 v3 v4 v5 v6 v7 v8 v9 v10 v11 v12 v13 v14 v15 v16 v17 v18 v19 v20 v21 v22 v23 v24 v25 v26 v27 v28 v29 v30 v31 := by
  have e : known_Text.l69 k K O (n + 1) 0 v0 v1 v2 v3 v4 v5 v6 v7 v8 v9 v10 v11 v12 v13 v14 v15 v16 v17 v18 v19 v20 v21 v22 v23 v24 v25 v26 v27 v28 v29 v30 v31 = br (eqI (bitw .and .u32 K (X.shl .u32 1 31)) 0) (known_Text.l69 k K O n 1 120 v1 v2 v3 v4 v5 v6 v7 v8 v9 v10 v11 v12 v13 v14 v15 v16 v17 v18 v19 v20 v21 v22 v23 v24 v25 v26 v27 v28 v29 v30 v31) (br (!eqI (bitw .and .u32 O (X.shl .u32 1 31)) 0) (known_Text.l69 k K O n 1 49 v1 v2 v3 v4 v5 v6 v7 v8 v9 v10 v11 v12 v13 v14 v15 v16 v17 v18 v19 v20 v21 v22 v23 v24 v25 v26 v27 v28 v29 v30 v31) (known_Text.l69 k K O n 1 48 v1 v2 v3 v4 v5 v6 v7 v8 v9 v10 v11 v12 v13 v14 v15 v16 v17 v18 v19 v20 v21 v22 v23 v24 v25 v26 v27 v28 v29 v30 v31)) := by kernel_rfl
  rw [e]
  unfold cell
  cases eqI (bitw .and .u32 K (X.shl .u32 1 31)) 0 <;> cases eqI (bitw .and .u32 O (X.shl .u32 1 31)) 0 <;> rfl
theorem tx_1 (k n : Nat) (K O v0 v1 v2 v3 v4 v5 v6 v7 v8 v9 v10 v11 v12 v13 v14 v15 v16 v17 v18 v19 v20 v21 v22 v23 v24 v25 v26 v27 v28 v29 v30 v31 : Int) : known_Text.l69 k K O (n + 1) 1 v0 v1 v2 v3 v4 v5 v6 v7 v8 v9 v10 v11 v12 v13 v14 v15 v16 v17 v18 v19 v20 v21 v22 v23 v24 v25 v26 v27 v28 v29 v30 v31 = known_Text.l69 k K O n 2 v0 (cell K O 30) v2 v3 v4 v5 v6 v7 v8 v9 v10 v11 v12 v13 v14 v15 v16 v17 v18 v19 v20 v21 v22 v23 v24 v25 v26 v27 v28 v29 v30 v31 := by
  have e : known_Text.l69 k K O (n + 1) 1 v0 v1 v2 v3 v4 v5 v6 v7 v8 v9 v10 v11 v12 v13 v14 v15 v16 v17 v18 v19 v20 v21 v22 v23 v24 v25 v26 v27 v28 v29 v30 v31 = br (eqI (bitw .and .u32 K (X.shl .u32 1 30)) 0) (known_Text.l69 k K O n 2 v0 120 v2 v3 v4 v5 v6 v7 v8 v9 v10 v11 v12 v13 v14 v15 v16 v17 v18 v19 v20 v21 v22 v23 v24 v25 v26 v27 v28 v29 v30 v31) (br (!eqI (bitw .and .u32 O (X.shl .u32 1 30)) 0) (known_Text.l69 k K O n 2 v0 49 v2 v3 v4 v5 v6 v7 v8 v9 v10 v11 v12 v13 v14 v15 v16 v17 v18 v19 v20 v21 v22 v23 v24 v25 v26 v27 v28 v29 v30 v31) (known_Text.l69 k K O n 2 v0 48 v2 v3 v4 v5 v6 v7 v8 v9 v10 v11 v12 v13 v14 v15 v16 v17 v18 v19 v20 v21 v22 v23 v24 v25 v26 v27 v28 v29 v30 v31)) := by kernel_rfl
  rw [e]
  unfold cell
  cases eqI (bitw .and .u32 K (X.shl .u32 1 30)) 0 <;> cases eqI (bitw .and .u32 O (X.shl .u32 1 30)) 0 <;> rfl
theorem tx_2 (k n : Nat) (K O v0 v1 v2 v3 v4 v5 v6 v7 v8 v9 v10 v11 v12 v13 v14 v15 v16 v17 v18 v19 v20 v21 v22 v23 v24 v25 v26 v27 v28 v29 v30 v31 : Int) : known_Text.l69 k K O (n + 1) 2 v0 v1 v2 v3 v4 v5 v6 v7 v8 v9 v10 v11 v12 v13 v14 v15 v16 v17 v18 v19 v20 v21 v22 v23 v24 v25 v26 v27 v28 v29 v30 v31 = known_Text.l69 k K O n 3 v0 v1 (cell K O 29) v3 v4 v5 v6 v7 v8 v9 v10 v11 v12 v13 v14 v15 v16 v17 v18 v19 v20 v21 v22 v23 v24 v25 v26 v27 v28 v29 v30 v31 := by
  have e : known_Text.l69 k K O (n + 1) 2 v0 v1 v2 v3 v4 v5 v6 v7 v8 v9 v10 v11 v12 v13 v14 v15 v16 v17 v18 v19 v20 v21 v22 v23 v24 v25 v26 v27 v28 v29 v30 v31 = br (eqI (bitw .and .u32 K (X.shl .u32 1 29)) 0) (known_Text.l69 k K O n 3 v0 v1 120 v3 v4 v5 v6 v7 v8 v9 v10 v11 v12 v13 v14 v15 v16 v17 v18 v19 v20 v21 v22 v23 v24 v25 v26 v27 v28 v29 v30 v31) (br (!eqI (bitw .and .u32 O (X.shl .u32 1 29)) 0) (known_Text.l69 k K O n 3 v0 v1 49 v3 v4 v5 v6 v7 v8 v9 v10 v11 v12 v13 v14 v15 v16 v17 v18 v19 v20 v21 v22 v23 v24 v25 v26 v27 v28 v29 v30 v31) (known_Text.l69 k K O n 3 v0 v1 48 v3 v4 v5 v6 v7 v8 v9 v10 v11 v12 v13 v14 v15 v16 v17 v18 v19 v20 v21 v22 v23 v24 v25 v26 v27 v28 v29 v30 v31)) := by kernel_rfl
  rw [e]
  unfold cell
  cases eqI (bitw .and .u32 K (X.shl .u32 1 29)) 0 <;> cases eqI (bitw .and .u32 O (X.shl .u32 1 29)) 0 <;> rfl
theorem tx_3 (k n : Nat) (K O v0 v1 v2 v3 v4 v5 v6 v7 v8 v9 v10 v11 v12 v13 v14 v15 v16 v17 v18 v19 v20 v21 v22 v23 v24 v25 v26 v27 v28 v29 v30 v31 : Int) : known_Text.l69 k K O (n + 1) 3 v0 v1 v2 v3 v4 v5 v6 v7 v8 v9 v10 v11 v12 v13 v14 v15 v16 v17 v18 v19 v20 v21 v22 v23 v24 v25 v26 v27 v28 v29 v30 v31 = known_Text.l69 k K O n 4 v0 v1 v2 (cell K O 28) v4 v5 v6 v7 v8 v9 v10 v11 v12 v13 v14 v15 v16 v17 v18 v19 v20 v21 v22 v23 v24 v25 v26 v27 v28 v29 v30 v31 := by
  have e : known_Text.l69 k K O (n + 1) 3 v0 v1 v2 v3 v4 v5 v6 v7 v8 v9 v10 v11 v12 v13 v14 v15 v16 v17 v18 v19 v20 v21 v22 v23 v24 v25 v26 v27 v28 v29 v30 v31 = br (eqI (bitw .and .u32 K (X.shl .u32 1 28)) 0) (known_Text.l69 k K O n 4 v0 v1 v2 120 v4 v5 v6 v7 v8 v9 v10 v11 v12 v13 v14 v15 v16 v17 v18 v19 v20 v21 v22 v23 v24 v25 v26 v27 v28 v29 v30 v31) (br (!eqI (bitw .and .u32 O (X.shl .u32 1 28)) 0) (known_Text.l69 k K O n 4 v0 v1 v2 49 v4 v5 v6 v7 v8 v9 v10 v11 v12 v13 v14 v15 v16 v17 v18 v19 v20 v21 v22 v23 v24 v25 v26 v27 v28 v29 v30 v31) (known_Text.l69 k K O n 4 v0 v1 v2 48 v4 v5 v6 v7 v8 v9 v10 v11 v12 v13 v14 v15 v16 v17 v18 v19 v20 v21 v22 v23 v24 v25 v26 v27 v28 v29 v30 v31)) := by kernel_rfl
  rw [e]
  unfold cell
  cases eqI (bitw .and .u32 K (X.shl .u32 1 28)) 0 <;> cases eqI (bitw .and .u32 O (X.shl .u32 1 28)) 0 <;> rfl
theorem tx_4 (k n : Nat) (K O v0 v1 v2 v3 v4 v5 v6 v7 v8 v9 v10 v11 v12 v13 v14 v15 v16 v17 v18 v19 v20 v21 v22 v23 v24 v25 v26 v27 v28 v29 v30 v31 : Int) : known_Text.l69 k K O (n + 1) 4 v0 v1 v2 v3 v4 v5 v6 v7 v8 v9 v10 v11 v12 v13 v14 v15 v16 v17 v18 v19 v20 v21 v22 v23 v24 v25 v26 v27 v28 v29 v30 v31 = known_Text.l69 k K O n 5 v0 v1 v2 v3 (cell K O 27) v5 v6 v7 v8 v9 v10 v11 v12 v13 v14 v15 v16 v17 v18 v19 v20 v21 v22 v23 v24 v25 v26 v27 v28 v29 v30 v31 := by
  have e : known_Text.l69 k K O (n + 1) 4 v0 v1 v2 v3 v4 v5 v6 v7 v8 v9 v10 v11 v12 v13 v14 v15 v16 v17 v18 v19 v20 v21 v22 v23 v24 v25 v26 v27 v28 v29 v30 v31 = br (eqI (bitw .and .u32 K (X.shl .u32 1 27)) 0) (known_Text.l69 k K O n 5 v0 v1 v2 v3 120 v5 v6 v7 v8 v9 v10 v11 v12 v13 v14 v15 v16 v17 v18 v19 v20 v21 v22 v23 v24 v25 v26 v27 v28 v29 v30 v31) (br (!eqI (bitw .and .u32 O (X.shl .u32 1 27)) 0) (known_Text.l69 k K O n 5 v0 v1 v2 v3 49 v5 v6 v7 v8 v9 v10 v11 v12 v13 v14 v15 v16 v17 v18 v19 v20 v21 v22 v23 v24 v25 v26 v27 v28 v29 v30 v31) (known_Text.l69 k K O n 5 v0 v1 v2 v3 48 v5 v6 v7 v8 v9 v10 v11 v12 v13 v14 v15 v16 v17 v18 v19 v20 v21 v22 v23 v24 v25 v26 v27 v28 v29 v30 v31)) := by kernel_rfl
  rw [e]
  unfold cell
  cases eqI (bitw .and .u32 K (X.shl .u32 1 27)) 0 <;> cases eqI (bitw .and .u32 O (X.shl .u32 1 27)) 0 <;> rfl
theorem tx_5 (k n : Nat) (K O v0 v1 v2 v3 v4 v5 v6 v7 v8 v9 v10 v11 v12 v13 v14 v15 v16 v17 v18 v19 v20 v21 v22 v23 v24 v25 v26 v27 v28 v29 v30 v31 : Int) : known_Text.l69 k K O (n + 1) 5 v0 v1 v2 v3 v4 v5 v6 v7 v8 v9 v10 v11 v12 v13 v14 v15 v16 v17 v18 v19 v20 v21 v22 v23 v24 v25 v26 v27 v28 v29 v30 v31 = known_Text.l69 k K O n 6 v0 v1 v2 v3 v4 (cell K O 26) v6 v7 v8 v9 v10 v11 v12 v13 v14 v15 v16 v17 v18 v19 v20 v21 v22 v23 v24 v25 v26 v27 v28 v29 v30 v31 := by
  have e : known_Text.l69 k K O (n + 1) 5 v0 v1 v2 v3 v4 v5 v6 v7 v8 v9 v10 v11 v12 v13 v14 v15 v16 v17 v18 v19 v20 v21 v22 v23 v24 v25 v26 v27 v28 v29 v30 v31 = br (eqI (bitw .and .u32 K (X.shl .u32 1 26)) 0) (known_Text.l69 k K O n 6 v0 v1 v2 v3 v4 120 v6 v7 v8 v9 v10 v11 v12 v13 v14 v15 v16 v17 v18 v19 v20 v21 v22 v23 v24 v25 v26 v27 v28 v29 v30 v31) (br (!eqI (bitw .and .u32 O (X.shl .u32 1 26)) 0) (known_Text.l69 k K O n 6 v0 v1 v2 v3 v4 49 v6 v7 v8 v9 v10 v11 v12 v13 v14 v15 v16 v17 v18 v19 v20 v21 v22 v23 v24 v25 v26 v27 v28 v29 v30 v31) (known_Text.l69 k K O n 6 v0 v1 v2 v3 v4 48 v6 v7 v8 v9 v10 v11 v12 v13 v14 v15 v16 v17 v18 v19 v20 v21 v22 v23 v24 v25 v26 v27 v28 v29 v30 v31)) := by kernel_rfl
  rw [e]
  unfold cell
  cases eqI (bitw .and .u32 K (X.shl .u32 1 26)) 0 <;> cases eqI (bitw .and .u32 O (X.shl .u32 1 26)) 0 <;> rfl
theorem tx_6 (k n : Nat) (K O v0 v1 v2 v3 v4 v5 v6 v7 v8 v9 v10 v11 v12 v13 v14 v15 v16 v17 v18 v19 v20 v21 v22 v23 v24 v25 v26 v27 v28 v29 v30 v31 : Int) : known_Text.l69 k K O (n + 1) 6 v0 v1 v2 v3 v4 v5 v6 v7 v8 v9 v10 v11 v12 v13 v14 v15 v16 v17 v18 v19 v20 v21 v22 v23 v24 v25 v26 v27 v28 v29 v30 v31 = known_Text.l69 k K O n 7 v0 v1 v2 v3 v4 v5 (cell K O 25) v7 v8 v9 v10 v11 v12 v13 v14 v15 v16 v17 v18 v19 v20 v21 v22 v23 v24 v25 v26 v27 v28 v29 v30 v31 := by
  have e : known_Text.l69 k K O (n + 1) 6 v0 v1 v2 v3 v4 v5 v6 v7 v8 v9 v10 v11 v12 v13 v14 v15 v16 v17 v18 v19 v20 v21 v22 v23 v24 v25 v26 v27 v28 v29 v30 v31 = br (eqI (bitw .and .u32 K (X.shl .u32 1 25)) 0) (known_Text.l69 k K O n 7 v0 v1 v2 v3 v4 v5 120 v7 v8 v9 v10 v11 v12 v13 v14 v15 v16 v17 v18 v19 v20 v21 v22 v23 v24 v25 v26 v27 v28 v29 v30 v31) (br (!eqI (bitw .and .u32 O (X.shl .u32 1 25)) 0) (known_Text.l69 k K O n 7 v0 v1 v2 v3 v4 v5 49 v7 v8 v9 v10 v11 v12 v13 v14 v15 v16 v17 v18 v19 v20 v21 v22 v23 v24 v25 v26 v27 v28 v29 v30 v31) (known_Text.l69 k K O n 7 v0 v1 v2 v3 v4 v5 48 v7 v8 v9 v10 v11 v12 v13 v14 v15 v16 v17 v18 v19 v20 v21 v22 v23 v24 v25 v26 v27 v28 v29 v30 v31)) := by kernel_rfl
  rw [e]
  unfold cell
  cases eqI (bitw .and .u32 K (X.shl .u32 1 25)) 0 <;> cases eqI (bitw .and .u32 O (X.shl .u32 1 25)) 0 <;> rfl
theorem tx_7 (k n : Nat) (K O v0 v1 v2 v3 v4 v5 v6 v7 v8 v9 v10 v11 v12 v13 v14 v15 v16 v17 v18 v19 v20 v21 v22 v23 v24 v25 v26 v27 v28 v29 v30 v31 : Int) : known_Text.l69 k K O (n + 1) 7 v0 v1 v2 v3 v4 v5 v6 v7 v8 v9 v10 v11 v12 v13 v14 v15 v16 v17 v18 v19 v20 v21 v22 v23 v24 v25 v26 v27 v28 v29 v30 v31 = known_Text.l69 k K O n 8 v0 v1 v2 v3 v4 v5 v6 (cell K O 24) v8 v9 v10 v11 v12 v13 v14 v15 v16 v17 v18 v19 v20 v21 v22 v23 v24 v25 v26 v27 v28 v29 v30 v31 := by
  have e : known_Text.l69 k K O (n + 1) 7 v0 v1 v2 v3 v4 v5 v6 v7 v8 v9 v10 v11 v12 v13 v14 v15 v16 v17 v18 v19 v20 v21 v22 v23 v24 v25 v26 v27 v28 v29 v30 v31 = br (eqI (bitw .and .u32 K (X.shl .u32 1 24)) 0) (known_Text.l69 k K O n 8 v0 v1 v2 v3 v4 v5 v6 120 v8 v9 v10 v11 v12 v13 v14 v15 v16 v17 v18 v19 v20 v21 v22 v23 v24 v25 v26 v27 v28 v29 v30 v31) (br (!eqI (bitw .and .u32 O (X.shl .u32 1 24)) 0) (known_Text.l69 k K O n 8 v0 v1 v2 v3 v4 v5 v6 49 v8 v9 v10 v11 v12 v13 v14 v15 v16 v17 v18 v19 v20 v21 v22 v23 v24 v25 v26 v27 v28 v29 v30 v31) (known_Text.l69 k K O n 8 v0 v1 v2 v3 v4 v5 v6 48 v8 v9 v10 v11 v12 v13 v14 v15 v16 v17 v18 v19 v20 v21 v22 v23 v24 v25 v26 v27 v28 v29 v30 v31)) := by kernel_rfl
  rw [e]
  unfold cell
  cases eqI (bitw .and .u32 K (X.shl .u32 1 24)) 0 <;> cases eqI (bitw .and .u32 O (X.shl .u32 1 24)) 0 <;> rfl
theorem tx_8 (k n : Nat) (K O v0 v1 v2 v3 v4 v5 v6 v7 v8 v9 v10 v11 v12 v13 v14 v15 v16 v17 v18 v19 v20 v21 v22 v23 v24 v25 v26 v27 v28 v29 v30 v31 : Int) : known_Text.l69 k K O (n + 1) 8 v0 v1 v2 v3 v4 v5 v6 v7 v8 v9 v10 v11 v12 v13 v14 v15 v16 v17 v18 v19 v20 v21 v22 v23 v24 v25 v26 v27 v28 v29 v30 v31 = known_Text.l69 k K O n 9 v0 v1 v2 v3 v4 v5 v6 v7 (cell K O 23) v9 v10 v11 v12 v13 v14 v15 v16 v17 v18 v19 v20 v21 v22 v23 v24 v25 v26 v27 v28 v29 v30 v31 := by
  have e : known_Text.l69 k K O (n + 1) 8 v0 v1 v2 v3 v4 v5 v6 v7 v8 v9 v10 v11 v12 v13 v14 v15 v16 v17 v18 v19 v20 v21 v22 v23 v24 v25 v26 v27 v28 v29 v30 v31 = br (eqI (bitw .and .u32 K (X.shl .u32 1 23)) 0) (known_Text.l69 k K O n 9 v0 v1 v2 v3 v4 v5 v6 v7 120 v9 v10 v11 v12 v13 v14 v15 v16 v17 v18 v19 v20 v21 v22 v23 v24 v25 v26 v27 v28 v29 v30 v31) (br (!eqI (bitw .and .u32 O (X.shl .u32 1 23)) 0) (known_Text.l69 k K O n 9 v0 v1 v2 v3 v4 v5 v6 v7 49 v9 v10 v11 v12 v13 v14 v15 v16 v17 v18 v19 v20 v21 v22 v23 v24 v25 v26 v27 v28 v29 v30 v31) (known_Text.l69 k K O n 9 v0 v1 v2 v3 v4 v5 v6 v7 48 v9 v10 v11 v12 v13 v14 v15 v16 v17 v18 v19 v20 v21 v22 v23 v24 v25 v26 v27 v28 v29 v30 v31)) := by kernel_rfl
  rw [e]
  unfold cell
  cases eqI (bitw .and .u32 K (X.shl .u32 1 23)) 0 <;> cases eqI (bitw .and .u32 O (X.shl .u32 1 23)) 0 <;> rfl
theorem tx_9 (k n : Nat) (K O v0 v1 v2 v3 v4 v5 v6 v7 v8 v9 v10 v11 v12 v13 v14 v15 v16 v17 v18 v19 v20 v21 v22 v23 v24 v25 v26 v27 v28 v29 v30 v31 : Int) : known_Text.l69 k K O (n + 1) 9 v0 v1 v2 v3 v4 v5 v6 v7 v8 v9 v10 v11 v12 v13 v14 v15 v16 v17 v18 v19 v20 v21 v22 v23 v24 v25 v26 v27 v28 v29 v30 v31 = known_Text.l69 k K O n 10 v0 v1 v2 v3 v4 v5 v6 v7 v8 (cell K O 22) v10 v11 v12 v13 v14 v15 v16 v17 v18 v19 v20 v21 v22 v23 v24 v25 v26 v27 v28 v29 v30 v31 := by
  have e : known_Text.l69 k K O (n + 1) 9 v0 v1 v2 v3 v4 v5 v6 v7 v8 v9 v10 v11 v12 v13 v14 v15 v16 v17 v18 v19 v20 v21 v22 v23 v24 v25 v26 v27 v28 v29 v30 v31 = br (eqI (bitw .and .u32 K (X.shl .u32 1 22)) 0) (known_Text.l69 k K O n 10 v0 v1 v2 v3 v4 v5 v6 v7 v8 120 v10 v11 v12 v13 v14 v15 v16 v17 v18 v19 v20 v21 v22 v23 v24 v25 v26 v27 v28 v29 v30 v31) (br (!eqI (bitw .and .u32 O (X.shl .u32 1 22)) 0) (known_Text.l69 k K O n 10 v0 v1 v2 v3 v4 v5 v6 v7 v8 49 v10 v11 v12 v13 v14 v15 v16 v17 v18 v19 v20 v21 v22 v23 v24 v25 v26 v27 v28 v29 v30 v31) (known_Text.l69 k K O n 10 v0 v1 v2 v3 v4 v5 v6 v7 v8 48 v10 v11 v12 v13 v14 v15 v16 v17 v18 v19 v20 v21 v22 v23 v24 v25 v26 v27 v28 v29 v30 v31)) := by kernel_rfl
  rw [e]
  unfold cell
  cases eqI (bitw .and .u32 K (X.shl .u32 1 22)) 0 <;> cases eqI (bitw .and .u32 O (X.shl .u32 1 22)) 0 <;> rfl
theorem tx_10 (k n : Nat) (K O v0 v1 v2 v3 v4 v5 v6 v7 v8 v9 v10 v11 v12 v13 v14 v15 v16 v17 v18 v19 v20 v21 v22 v23 v24 v25 v26 v27 v28 v29 v30 v31 : Int) : known_Text.l69 k K O (n + 1) 10 v0 v1 v2 v3 v4 v5 v6 v7 v8 v9 v10 v11 v12 v13 v14 v15 v16 v17 v18 v19 v20 v21 v22 v23 v24 v25 v26 v27 v28 v29 v30 v31 = known_Text.l69 k K O n 11 v0 v1 v2 v3 v4 v5 v6 v7 v8 v9 (cell K O 21) v11 v12 v13 v14 v15 v16 v17 v18 v19 v20 v21 v22 v23 v24 v25 v26 v27 v28 v29 v30 v31 := by
  have e : known_Text.l69 k K O (n + 1) 10 v0 v1 v2 v3 v4 v5 v6 v7 v8 v9 v10 v11 v12 v13 v14 v15 v16 v17 v18 v19 v20 v21 v22 v23 v24 v25 v26 v27 v28 v29 v30 v31 = br (eqI (bitw .and .u32 K (X.shl .u32 1 21)) 0) (known_Text.l69 k K O n 11 v0 v1 v2 v3 v4 v5 v6 v7 v8 v9 120 v11 v12 v13 v14 v15 v16 v17 v18 v19 v20 v21 v22 v23 v24 v25 v26 v27 v28 v29 v30 v31) (br (!eqI (bitw .and .u32 O (X.shl .u32 1 21)) 0) (known_Text.l69 k K O n 11 v0 v1 v2 v3 v4 v5 v6 v7 v8 v9 49 v11 v12 v13 v14 v15 v16 v17 v18 v19 v20 v21 v22 v23 v24 v25 v26 v27 v28 v29 v30 v31) (known_Text.l69 k K O n 11 v0 v1 v2 v3 v4 v5 v6 v7 v8 v9 48 v11 v12 v13 v14 v15 v16 v17 v18 v19 v20 v21 v22 v23 v24 v25 v26 v27 v28 v29 v30 v31)) := by kernel_rfl
  rw [e]
  unfold cell
  cases eqI (bitw .and .u32 K (X.shl .u32 1 21)) 0 <;> cases eqI (bitw .and .u32 O (X.shl .u32 1 21)) 0 <;> rfl
theorem tx_11 (k n : Nat) (K O v0 v1 v2 v3 v4 v5 v6 v7 v8 v9 v10 v11 v12 v13 v14 v15 v16 v17 v18 v19 v20 v21 v22 v23 v24 v25 v26 v27 v28 v29 v30 v31 : Int) : known_Text.l69 k K O (n + 1) 11 v0 v1 v2 v3 v4 v5 v6 v7 v8 v9 v10 v11 v12 v13 v14 v15 v16 v17 v18 v19 v20 v21 v22 v23 v24 v25 v26 v27 v28 v29 v30 v31 = known_Text.l69 k K O n 12 v0 v1 v2 v3 v4 v5 v6 v7 v8 v9 v10 (cell K O 20) v12 v13 v14 v15 v16 v17 v18 v19 v20 v21 v22 v23 v24 v25 v26 v27 v28 v29 v30 v31 := by
  have e : known_Text.l69 k K O (n + 1) 11 v0 v1 v2 v3 v4 v5 v6 v7 v8 v9 v10 v11 v12 v13 v14 v15 v16 v17 v18 v19 v20 v21 v22 v23 v24 v25 v26 v27 v28 v29 v30 v31 = br (eqI (bitw .and .u32 K (X.shl .u32 1 20)) 0) (known_Text.l69 k K O n 12 v0 v1 v2 v3 v4 v5 v6 v7 v8 v9 v10 120 v12 v13 v14 v15 v16 v17 v18 v19 v20 v21 v22 v23 v24 v25 v26 v27 v28 v29 v30 v31) (br (!eqI (bitw .and .u32 O (X.shl .u32 1 20)) 0) (known_Text.l69 k K O n 12 v0 v1 v2 v3 v4 v5 v6 v7 v8 v9 v10 49 v12 v13 v14 v15 v16 v17 v18 v19 v20 v21 v22 v23 v24 v25 v26 v27 v28 v29 v30 v31) (known_Text.l69 k K O n 12 v0 v1 v2 v3 v4 v5 v6 v7 v8 v9 v10 48 v12 v13 v14 v15 v16 v17 v18 v19 v20 v21 v22 v23 v24 v25 v26 v27 v28 v29 v30 v31)) := by kernel_rfl
  rw [e]
  unfold cell
  cases eqI (bitw .and .u32 K (X.shl .u32 1 20)) 0 <;> cases eqI (bitw .and .u32 O (X.shl .u32 1 20)) 0 <;> rfl
theorem tx_12 (k n : Nat) (K O v0 v1 v2 v3 v4 v5 v6 v7 v8 v9 v10 v11 v12 v13 v14 v15 v16 v17 v18 v19 v20 v21 v22 v23 v24 v25 v26 v27 v28 v29 v30 v31 : Int) : known_Text.l69 k K O (n + 1) 12 v0 v1 v2 v3 v4 v5 v6 v7 v8 v9 v10 v11 v12 v13 v14 v15 v16 v17 v18 v19 v20 v21 v22 v23 v24 v25 v26 v27 v28 v29 v30 v31 = known_Text.l69 k K O n 13 v0 v1 v2 v3 v4 v5 v6 v7 v8 v9 v10 v11 (cell K O 19) v13 v14 v15 v16 v17 v18 v19 v20 v21 v22 v23 v24 v25 v26 v27 v28 v29 v30 v31 := by
  have e : known_Text.l69 k K O (n + 1) 12 v0 v1 v2 v3 v4 v5 v6 v7 v8 v9 v10 v11 v12 v13 v14 v15 v16 v17 v18 v19 v20 v21 v22 v23 v24 v25 v26 v27 v28 v29 v30 v31 = br (eqI (bitw .and .u32 K (X.shl .u32 1 19)) 0) (known_Text.l69 k K O n 13 v0 v1 v2 v3 v4 v5 v6 v7 v8 v9 v10 v11 120 v13 v14 v15 v16 v17 v18 v19 v20 v21 v22 v23 v24 v25 v26 v27 v28 v29 v30 v31) (br (!eqI (bitw .and .u32 O (X.shl .u32 1 19)) 0) (known_Text.l69 k K O n 13 v0 v1 v2 v3 v4 v5 v6 v7 v8 v9 v10 v11 49 v13 v14 v15 v16 v17 v18 v19 v20 v21 v22 v23 v24 v25 v26 v27 v28 v29 v30 v31) (known_Text.l69 k K O n 13 v0 v1 v2 v3 v4 v5 v6 v7 v8 v9 v10 v11 48 v13 v14 v15 v16 v17 v18 v19 v20 v21 v22 v23 v24 v25 v26 v27 v28 v29 v30 v31)) := by kernel_rfl
  rw [e]
  unfold cell
  cases eqI (bitw .and .u32 K (X.shl .u32 1 19)) 0 <;> cases eqI (bitw .and .u32 O (X.shl .u32 1 19)) 0 <;> rfl
theorem tx_13 (k n : Nat) (K O v0 v1 v2 v3 v4 v5 v6 v7 v8 v9 v10 v11 v12 v13 v14 v15 v16 v17 v18 v19 v20 v21 v22 v23 v24 v25 v26 v27 v28 v29 v30 v31 : Int) : known_Text.l69 k K O (n + 1) 13 v0 v1 v2 v3 v4 v5 v6 v7 v8 v9 v10 v11 v12 v13 v14 v15 v16 v17 v18 v19 v20 v21 v22 v23 v24 v25 v26 v27 v28 v29 v30 v31 = known_Text.l69 k K O n 14 v0 v1 v2 v3 v4 v5 v6 v7 v8 v9 v10 v11 v12 (cell K O 18) v14 v15 v16 v17 v18 v19 v20 v21 v22 v23 v24 v25 v26 v27 v28 v29 v30 v31 := by
  have e : known_Text.l69 k K O (n + 1) 13 v0 v1 v2 v3 v4 v5 v6 v7 v8 v9 v10 v11 v12 v13 v14 v15 v16 v17 v18 v19 v20 v21 v22 v23 v24 v25 v26 v27 v28 v29 v30 v31 = br (eqI (bitw .and .u32 K (X.shl .u32 1 18)) 0) (known_Text.l69 k K O n 14 v0 v1 v2 v3 v4 v5 v6 v7 v8 v9 v10 v11 v12 120 v14 v15 v16 v17 v18 v19 v20 v21 v22 v23 v24 v25 v26 v27 v28 v29 v30 v31) (br (!eqI (bitw .and .u32 O (X.shl .u32 1 18)) 0) (known_Text.l69 k K O n 14 v0 v1 v2 v3 v4 v5 v6 v7 v8 v9 v10 v11 v12 49 v14 v15 v16 v17 v18 v19 v20 v21 v22 v23 v24 v25 v26 v27 v28 v29 v30 v31) (known_Text.l69 k K O n 14 v0 v1 v2 v3 v4 v5 v6 v7 v8 v9 v10 v11 v12 48 v14 v15 v16 v17 v18 v19 v20 v21 v22 v23 v24 v25 v26 v27 v28 v29 v30 v31)) := by kernel_rfl
  rw [e]
  unfold cell
  cases eqI (bitw .and .u32 K (X.shl .u32 1 18)) 0 <;> cases eqI (bitw .and .u32 O (X.shl .u32 1 18)) 0 <;> rfl
theorem tx_14 (k n : Nat) (K O v0 v1 v2 v3 v4 v5 v6 v7 v8 v9 v10 v11 v12 v13 v14 v15 v16 v17 v18 v19 v20 v21 v22 v23 v24 v25 v26 v27 v28 v29 v30 v31 : Int) : known_Text.l69 k K O (n + 1) 14 v0 v1 v2 v3 v4 v5 v6 v7 v8 v9 v10 v11 v12 v13 v14 v15 v16 v17 v18 v19 v20 v21 v22 v23 v24 v25 v26 v27 v28 v29 v30 v31 = known_Text.l69 k K O n 15 v0 v1 v2 v3 v4 v5 v6 v7 v8 v9 v10 v11 v12 v13 (cell K O 17) v15 v16 v17 v18 v19 v20 v21 v22 v23 v24 v25 v26 v27 v28 v29 v30 v31 := by
  have e : known_Text.l69 k K O (n + 1) 14 v0 v1 v2 v3 v4 v5 v6 v7 v8 v9 v10 v11 v12 v13 v14 v15 v16 v17 v18 v19 v20 v21 v22 v23 v24 v25 v26 v27 v28 v29 v30 v31 = br (eqI (bitw .and .u32 K (X.shl .u32 1 17)) 0) (known_Text.l69 k K O n 15 v0 v1 v2 v3 v4 v5 v6 v7 v8 v9 v10 v11 v12 v13 120 v15 v16 v17 v18 v19 v20 v21 v22 v23 v24 v25 v26 v27 v28 v29 v30 v31) (br (!eqI (bitw .and .u32 O (X.shl .u32 1 17)) 0) (known_Text.l69 k K O n 15 v0 v1 v2 v3 v4 v5 v6 v7 v8 v9 v10 v11 v12 v13 49 v15 v16 v17 v18 v19 v20 v21 v22 v23 v24 v25 v26 v27 v28 v29 v30 v31) (known_Text.l69 k K O n 15 v0 v1 v2 v3 v4 v5 v6 v7 v8 v9 v10 v11 v12 v13 48 v15 v16 v17 v18 v19 v20 v21 v22 v23 v24 v25 v26 v27 v28 v29 v30 v31)) := by kernel_rfl
  rw [e]
  unfold cell
  cases eqI (bitw .and .u32 K (X.shl .u32 1 17)) 0 <;> cases eqI (bitw .and .u32 O (X.shl .u32 1 17)) 0 <;> rfl
theorem tx_15 (k n : Nat) (K O v0 v1 v2 v3 v4 v5 v6 v7 v8 v9 v10 v11 v12 v13 v14 v15 v16 v17 v18 v19 v20 v21 v22 v23 v24 v25 v26 v27 v28 v29 v30 v31 : Int) : known_Text.l69 k K O (n + 1) 15 v0 v1 v2 v3 v4 v5 v6 v7 v8 v9 v10 v11 v12 v13 v14 v15 v16 v17 v18 v19 v20 v21 v22 v23 v24 v25 v26 v27 v28 v29 v30 v31 = known_Text.l69 k K O n 16 v0 v1 v2 v3 v4 v5 v6 v7 v8 v9 v10 v11 v12 v13 v14 (cell K O 16) v16 v17 v18 v19 v20 v21 v22 v23 v24 v25 v26 v27 v28 v29 v30 v31 := by
  have e : known_Text.l69 k K O (n + 1) 15 v0 v1 v2 v3 v4 v5 v6 v7 v8 v9 v10 v11 v12 v13 v14 v15 v16 v17 v18 v19 v20 v21 v22 v23 v24 v25 v26 v27 v28 v29 v30 v31 = br (eqI (bitw .and .u32 K (X.shl .u32 1 16)) 0) (known_Text.l69 k K O n 16 v0 v1 v2 v3 v4 v5 v6 v7 v8 v9 v10 v11 v12 v13 v14 120 v16 v17 v18 v19 v20 v21 v22 v23 v24 v25 v26 v27 v28 v29 v30 v31) (br (!eqI (bitw .and .u32 O (X.shl .u32 1 16)) 0) (known_Text.l69 k K O n 16 v0 v1 v2 v3 v4 v5 v6 v7 v8 v9 v10 v11 v12 v13 v14 49 v16 v17 v18 v19 v20 v21 v22 v23 v24 v25 v26 v27 v28 v29 v30 v31) (known_Text.l69 k K O n 16 v0 v1 v2 v3 v4 v5 v6 v7 v8 v9 v10 v11 v12 v13 v14 48 v16 v17 v18 v19 v20 v21 v22 v23 v24 v25 v26 v27 v28 v29 v30 v31)) := by kernel_rfl
  rw [e]
  unfold cell
  cases eqI (bitw .and .u32 K (X.shl .u32 1 16)) 0 <;> cases eqI (bitw .and .u32 O (X.shl .u32 1 16)) 0 <;> rfl
theorem tx_16 (k n : Nat) (K O v0 v1 v2 v3 v4 v5 v6 v7 v8 v9 v10 v11 v12 v13 v14 v15 v16 v17 v18 v19 v20 v21 v22 v23 v24 v25 v26 v27 v28 v29 v30 v31 : Int) : known_Text.l69 k K O (n + 1) 16 v0 v1 v2 v3 v4 v5 v6 v7 v8 v9 v10 v11 v12 v13 v14 v15 v16 v17 v18 v19 v20 v21 v22 v23 v24 v25 v26 v27 v28 v29 v30 v31 = known_Text.l69 k K O n 17 v0 v1 v2 v3 v4 v5 v6 v7 v8 v9 v10 v11 v12 v13 v14 v15 (cell K O 15) v17 v18 v19 v20 v21 v22 v23 v24 v25 v26 v27 v28 v29 v30 v31 := by
  have e : known_Text.l69 k K O (n + 1) 16 v0 v1 v2 v3 v4 v5 v6 v7 v8 v9 v10 v11 v12 v13 v14 v15 v16 v17 v18 v19 v20 v21 v22 v23 v24 v25 v26 v27 v28 v29 v30 v31 = br (eqI (bitw .and .u32 K (X.shl .u32 1 15)) 0) (known_Text.l69 k K O n 17 v0 v1 v2 v3 v4 v5 v6 v7 v8 v9 v10 v11 v12 v13 v14 v15 120 v17 v18 v19 v20 v21 v22 v23 v24 v25 v26 v27 v28 v29 v30 v31) (br (!eqI (bitw .and .u32 O (X.shl .u32 1 15)) 0) (known_Text.l69 k K O n 17 v0 v1 v2 v3 v4 v5 v6 v7 v8 v9 v10 v11 v12 v13 v14 v15 49 v17 v18 v19 v20 v21 v22 v23 v24 v25 v26 v27 v28 v29 v30 v31) (known_Text.l69 k K O n 17 v0 v1 v2 v3 v4 v5 v6 v7 v8 v9 v10 v11 v12 v13 v14 v15 48 v17 v18 v19 v20 v21 v22 v23 v24 v25 v26 v27 v28 v29 v30 v31)) := by kernel_rfl
  rw [e]
  unfold cell
  cases eqI (bitw .and .u32 K (X.shl .u32 1 15)) 0 <;> cases eqI (bitw .and .u32 O (X.shl .u32 1 15)) 0 <;> rfl
theorem tx_17 (k n : Nat) (K O v0 v1 v2 v3 v4 v5 v6 v7 v8 v9 v10 v11 v12 v13 v14 v15 v16 v17 v18 v19 v20 v21 v22 v23 v24 v25 v26 v27 v28 v29 v30 v31 : Int) : known_Text.l69 k K O (n + 1) 17 v0 v1 v2 v3 v4 v5 v6 v7 v8 v9 v10 v11 v12 v13 v14 v15 v16 v17 v18 v19 v20 v21 v22 v23 v24 v25 v26 v27 v28 v29 v30 v31 = known_Text.l69 k K O n 18 v0 v1 v2 v3 v4 v5 v6 v7 v8 v9 v10 v11 v12 v13 v14 v15 v16 (cell K O 14) v18 v19 v20 v21 v22 v23 v24 v25 v26 v27 v28 v29 v30 v31 := by
  have e : known_Text.l69 k K O (n + 1) 17 v0 v1 v2 v3 v4 v5 v6 v7 v8 v9 v10 v11 v12 v13 v14 v15 v16 v17 v18 v19 v20 v21 v22 v23 v24 v25 v26 v27 v28 v29 v30 v31 = br (eqI (bitw .and .u32 K (X.shl .u32 1 14)) 0) (known_Text.l69 k K O n 18 v0 v1 v2 v3 v4 v5 v6 v7 v8 v9 v10 v11 v12 v13 v14 v15 v16 120 v18 v19 v20 v21 v22 v23 v24 v25 v26 v27 v28 v29 v30 v31) (br (!eqI (bitw .and .u32 O (X.shl .u32 1 14)) 0) (known_Text.l69 k K O n 18 v0 v1 v2 v3 v4 v5 v6 v7 v8 v9 v10 v11 v12 v13 v14 v15 v16 49 v18 v19 v20 v21 v22 v23 v24 v25 v26 v27 v28 v29 v30 v31) (known_Text.l69 k K O n 18 v0 v1 v2 v3 v4 v5 v6 v7 v8 v9 v10 v11 v12 v13 v14 v15 v16 48 v18 v19 v20 v21 v22 v23 v24 v25 v26 v27 v28 v29 v30 v31)) := by kernel_rfl
  rw [e]
  unfold cell
  cases eqI (bitw .and .u32 K (X.shl .u32 1 14)) 0 <;> cases eqI (bitw .and .u32 O (X.shl .u32 1 14)) 0 <;> rfl
theorem tx_18 (k n : Nat) (K O v0 v1 v2 v3 v4 v5 v6 v7 v8 v9 v10 v11 v12 v13 v14 v15 v16 v17 v18 v19 v20 v21 v22 v23 v24 v25 v26 v27 v28 v29 v30 v31 : Int) : known_Text.l69 k K O (n + 1) 18 v0 v1 v2 v3 v4 v5 v6 v7 v8 v9 v10 v11 v12 v13 v14 v15 v16 v17 v18 v19 v20 v21 v22 v23 v24 v25 v26 v27 v28 v29 v30 v31 = known_Text.l69 k K O n 19 v0 v1 v2 v3 v4 v5 v6 v7 v8 v9 v10 v11 v12 v13 v14 v15 v16 v17 (cell K O 13) v19 v20 v21 v22 v23 v24 v25 v26 v27 v28 v29 v30 v31 := by
  have e : known_Text.l69 k K O (n + 1) 18 v0 v1 v2 v3 v4 v5 v6 v7 v8 v9 v10 v11 v12 v13 v14 v15 v16 v17 v18 v19 v20 v21 v22 v23 v24 v25 v26 v27 v28 v29 v30 v31 = br (eqI (bitw .and .u32 K (X.shl .u32 1 13)) 0) (known_Text.l69 k K O n 19 v0 v1 v2 v3 v4 v5 v6 v7 v8 v9 v10 v11 v12 v13 v14 v15 v16 v17 120 v19 v20 v21 v22 v23 v24 v25 v26 v27 v28 v29 v30 v31) (br (!eqI (bitw .and .u32 O (X.shl .u32 1 13)) 0) (known_Text.l69 k K O n 19 v0 v1 v2 v3 v4 v5 v6 v7 v8 v9 v10 v11 v12 v13 v14 v15 v16 v17 49 v19 v20 v21 v22 v23 v24 v25 v26 v27 v28 v29 v30 v31) (known_Text.l69 k K O n 19 v0 v1 v2 v3 v4 v5 v6 v7 v8 v9 v10 v11 v12 v13 v14 v15 v16 v17 48 v19 v20 v21 v22 v23 v24 v25 v26 v27 v28 v29 v30 v31)) := by kernel_rfl
  rw [e]
  unfold cell
  cases eqI (bitw .and .u32 K (X.shl .u32 1 13)) 0 <;> cases eqI (bitw .and .u32 O (X.shl .u32 1 13)) 0 <;> rfl
theorem tx_19 (k n : Nat) (K O v0 v1 v2 v3 v4 v5 v6 v7 v8 v9 v10 v11 v12 v13 v14 v15 v16 v17 v18 v19 v20 v21 v22 v23 v24 v25 v26 v27 v28 v29 v30 v31 : Int) : known_Text.l69 k K O (n + 1) 19 v0 v1 v2 v3 v4 v5 v6 v7 v8 v9 v10 v11 v12 v13 v14 v15 v16 v17 v18 v19 v20 v21 v22 v23 v24 v25 v26 v27 v28 v29 v30 v31 = known_Text.l69 k K O n 20 v0 v1 v2 v3 v4 v5 v6 v7 v8 v9 v10 v11 v12 v13 v14 v15 v16 v17 v18 (cell K O 12) v20 v21 v22 v23 v24 v25 v26 v27 v28 v29 v30 v31 := by
  have e : known_Text.l69 k K O (n + 1) 19 v0 v1 v2 v3 v4 v5 v6 v7 v8 v9 v10 v11 v12 v13 v14 v15 v16 v17 v18 v19 v20 v21 v22 v23 v24 v25 v26 v27 v28 v29 v30 v31 = br (eqI (bitw .and .u32 K (X.shl .u32 1 12)) 0) (known_Text.l69 k K O n 20 v0 v1 v2 v3 v4 v5 v6 v7 v8 v9 v10 v11 v12 v13 v14 v15 v16 v17 v18 120 v20 v21 v22 v23 v24 v25 v26 v27 v28 v29 v30 v31) (br (!eqI (bitw .and .u32 O (X.shl .u32 1 12)) 0) (known_Text.l69 k K O n 20 v0 v1 v2 v3 v4 v5 v6 v7 v8 v9 v10 v11 v12 v13 v14 v15 v16 v17 v18 49 v20 v21 v22 v23 v24 v25 v26 v27 v28 v29 v30 v31) (known_Text.l69 k K O n 20 v0 v1 v2 v3 v4 v5 v6 v7 v8 v9 v10 v11 v12 v13 v14 v15 v16 v17 v18 48 v20 v21 v22 v23 v24 v25 v26 v27 v28 v29 v30 v31)) := by kernel_rfl
  rw [e]
  unfold cell
  cases eqI (bitw .and .u32 K (X.shl .u32 1 12)) 0 <;> cases eqI (bitw .and .u32 O (X.shl .u32 1 12)) 0 <;> rfl
theorem tx_20 (k n : Nat) (K O v0 v1 v2 v3 v4 v5 v6 v7 v8 v9 v10 v11 v12 v13 v14 v15 v16 v17 v18 v19 v20 v21 v22 v23 v24 v25 v26 v27 v28 v29 v30 v31 : Int) : known_Text.l69 k K O (n + 1) 20 v0 v1 v2 v3 v4 v5 v6 v7 v8 v9 v10 v11 v12 v13 v14 v15 v16 v17 v18 v19 v20 v21 v22 v23 v24 v25 v26 v27 v28 v29 v30 v31 = known_Text.l69 k K O n 21 v0 v1 v2 v3 v4 v5 v6 v7 v8 v9 v10 v11 v12 v13 v14 v15 v16 v17 v18 v19 (cell K O 11) v21 v22 v23 v24 v25 v26 v27 v28 v29 v30 v31 := by
  have e : known_Text.l69 k K O (n + 1) 20 v0 v1 v2 v3 v4 v5 v6 v7 v8 v9 v10 v11 v12 v13 v14 v15 v16 v17 v18 v19 v20 v21 v22 v23 v24 v25 v26 v27 v28 v29 v30 v31 = br (eqI (bitw .and .u32 K (X.shl .u32 1 11)) 0) (known_Text.l69 k K O n 21 v0 v1 v2 v3 v4 v5 v6 v7 v8 v9 v10 v11 v12 v13 v14 v15 v16 v17 v18 v19 120 v21 v22 v23 v24 v25 v26 v27 v28 v29 v30 v31) (br (!eqI (bitw .and .u32 O (X.shl .u32 1 11)) 0) (known_Text.l69 k K O n 21 v0 v1 v2 v3 v4 v5 v6 v7 v8 v9 v10 v11 v12 v13 v14 v15 v16 v17 v18 v19 49 v21 v22 v23 v24 v25 v26 v27 v28 v29 v30 v31) (known_Text.l69 k K O n 21 v0 v1 v2 v3 v4 v5 v6 v7 v8 v9 v10 v11 v12 v13 v14 v15 v16 v17 v18 v19 48 v21 v22 v23 v24 v25 v26 v27 v28 v29 v30 v31)) := by kernel_rfl
  rw [e]
  unfold cell
  cases eqI (bitw .and .u32 K (X.shl .u32 1 11)) 0 <;> cases eqI (bitw .and .u32 O (X.shl .u32 1 11)) 0 <;> rfl
theorem tx_21 (k n : Nat) (K O v0 v1 v2 v3 v4 v5 v6 v7 v8 v9 v10 v11 v12 v13 v14 v15 v16 v17 v18 v19 v20 v21 v22 v23 v24 v25 v26 v27 v28 v29 v30 v31 : Int) : known_Text.l69 k K O (n + 1) 21 v0 v1 v2 v3 v4 v5 v6 v7 v8 v9 v10 v11 v12 v13 v14 v15 v16 v17 v18 v19 v20 v21 v22 v23 v24 v25 v26 v27 v28 v29 v30 v31 = known_Text.l69 k K O n 22 v0 v1 v2 v3 v4 v5 v6 v7 v8 v9 v10 v11 v12 v13 v14 v15 v16 v17 v18 v19 v20 (cell K O 10) v22 v23 v24 v25 v26 v27 v28 v29 v30 v31 := by
  have e : known_Text.l69 k K O (n + 1) 21 v0 v1 v2 v3 v4 v5 v6 v7 v8 v9 v10 v11 v12 v13 v14 v15 v16 v17 v18 v19 v20 v21 v22 v23 v24 v25 v26 v27 v28 v29 v30 v31 = br (eqI (bitw .and .u32 K (X.shl .u32 1 10)) 0) (known_Text.l69 k K O n 22 v0 v1 v2 v3 v4 v5 v6 v7 v8 v9 v10 v11 v12 v13 v14 v15 v16 v17 v18 v19 v20 120 v22 v23 v24 v25 v26 v27 v28 v29 v30 v31) (br (!eqI (bitw .and .u32 O (X.shl .u32 1 10)) 0) (known_Text.l69 k K O n 22 v0 v1 v2 v3 v4 v5 v6 v7 v8 v9 v10 v11 v12 v13 v14 v15 v16 v17 v18 v19 v20 49 v22 v23 v24 v25 v26 v27 v28 v29 v30 v31) (known_Text.l69 k K O n 22 v0 v1 v2 v3 v4 v5 v6 v7 v8 v9 v10 v11 v12 v13 v14 v15 v16 v17 v18 v19 v20 48 v22 v23 v24 v25 v26 v27 v28 v29 v30 v31)) := by kernel_rfl
  rw [e]
  unfold cell
  cases eqI (bitw .and .u32 K (X.shl .u32 1 10)) 0 <;> cases eqI (bitw .and .u32 O (X.shl .u32 1 10)) 0 <;> rfl
theorem tx_22 (k n : Nat) (K O v0 v1 v2 v3 v4 v5 v6 v7 v8 v9 v10 v11 v12 v13 v14 v15 v16 v17 v18 v19 v20 v21 v22 v23 v24 v25 v26 v27 v28 v29 v30 v31 : Int) : known_Text.l69 k K O (n + 1) 22 v0 v1 v2 v3 v4 v5 v6 v7 v8 v9 v10 v11 v12 v13 v14 v15 v16 v17 v18 v19 v20 v21 v22 v23 v24 v25 v26 v27 v28 v29 v30 v31 = known_Text.l69 k K O n 23 v0 v1 v2 v3 v4 v5 v6 v7 v8 v9 v10 v11 v12 v13 v14 v15 v16 v17 v18 v19 v20 v21 (cell K O 9) v23 v24 v25 v26 v27 v28 v29 v30 v31 := by
  have e : known_Text.l69 k K O (n + 1) 22 v0 v1 v2 v3 v4 v5 v6 v7 v8 v9 v10 v11 v12 v13 v14 v15 v16 v17 v18 v19 v20 v21 v22 v23 v24 v25 v26 v27 v28 v29 v30 v31 = br (eqI (bitw .and .u32 K (X.shl .u32 1 9)) 0) (known_Text.l69 k K O n 23 v0 v1 v2 v3 v4 v5 v6 v7 v8 v9 v10 v11 v12 v13 v14 v15 v16 v17 v18 v19 v20 v21 120 v23 v24 v25 v26 v27 v28 v29 v30 v31) (br (!eqI (bitw .and .u32 O (X.shl .u32 1 9)) 0) (known_Text.l69 k K O n 23 v0 v1 v2 v3 v4 v5 v6 v7 v8 v9 v10 v11 v12 v13 v14 v15 v16 v17 v18 v19 v20 v21 49 v23 v24 v25 v26 v27 v28 v29 v30 v31) (known_Text.l69 k K O n 23 v0 v1 v2 v3 v4 v5 v6 v7 v8 v9 v10 v11 v12 v13 v14 v15 v16 v17 v18 v19 v20 v21 48 v23 v24 v25 v26 v27 v28 v29 v30 v31)) := by kernel_rfl
  rw [e]
  unfold cell
  cases eqI (bitw .and .u32 K (X.shl .u32 1 9)) 0 <;> cases eqI (bitw .and .u32 O (X.shl .u32 1 9)) 0 <;> rfl
theorem tx_23 (k n : Nat) (K O v0 v1 v2 v3 v4 v5 v6 v7 v8 v9 v10 v11 v12 v13 v14 v15 v16 v17 v18 v19 v20 v21 v22 v23 v24 v25 v26 v27 v28 v29 v30 v31 : Int) : known_Text.l69 k K O (n + 1) 23 v0 v1 v2 v3 v4 v5 v6 v7 v8 v9 v10 v11 v12 v13 v14 v15 v16 v17 v18 v19 v20 v21 v22 v23 v24 v25 v26 v27 v28 v29 v30 v31 = known_Text.l69 k K O n 24 v0 v1 v2 v3 v4 v5 v6 v7 v8 v9 v10 v11 v12 v13 v14 v15 v16 v17 v18 v19 v20 v21 v22 (cell K O 8) v24 v25 v26 v27 v28 v29 v30 v31 := by
  have e : known_Text.l69 k K O (n + 1) 23 v0 v1 v2 v3 v4 v5 v6 v7 v8 v9 v10 v11 v12 v13 v14 v15 v16 v17 v18 v19 v20 v21 v22 v23 v24 v25 v26 v27 v28 v29 v30 v31 = br (eqI (bitw .and .u32 K (X.shl .u32 1 8)) 0) (known_Text.l69 k K O n 24 v0 v1 v2 v3 v4 v5 v6 v7 v8 v9 v10 v11 v12 v13 v14 v15 v16 v17 v18 v19 v20 v21 v22 120 v24 v25 v26 v27 v28 v29 v30 v31) (br (!eqI (bitw .and .u32 O (X.shl .u32 1 8)) 0) (known_Text.l69 k K O n 24 v0 v1 v2 v3 v4 v5 v6 v7 v8 v9 v10 v11 v12 v13 v14 v15 v16 v17 v18 v19 v20 v21 v22 49 v24 v25 v26 v27 v28 v29 v30 v31) (known_Text.l69 k K O n 24 v0 v1 v2 v3 v4 v5 v6 v7 v8 v9 v10 v11 v12 v13 v14 v15 v16 v17 v18 v19 v20 v21 v22 48 v24 v25 v26 v27 v28 v29 v30 v31)) := by kernel_rfl
  rw [e]
  unfold cell
  cases eqI (bitw .and .u32 K (X.shl .u32 1 8)) 0 <;> cases eqI (bitw .and .u32 O (X.shl .u32 1 8)) 0 <;> rfl
theorem tx_24 (k n : Nat) (K O v0 v1 v2 v3 v4 v5 v6 v7 v8 v9 v10 v11 v12 v13 v14 v15 v16 v17 v18 v19 v20 v21 v22 v23 v24 v25 v26 v27 v28 v29 v30 v31 : Int) : known_Text.l69 k K O (n + 1) 24 v0 v1 v2 v3 v4 v5 v6 v7 v8 v9 v10 v11 v12 v13 v14 v15 v16 v17 v18 v19 v20 v21 v22 v23 v24 v25 v26 v27 v28 v29 v30 v31 = known_Text.l69 k K O n 25 v0 v1 v2 v3 v4 v5 v6 v7 v8 v9 v10 v11 v12 v13 v14 v15 v16 v17 v18 v19 v20 v21 v22 v23 (cell K O 7) v25 v26 v27 v28 v29 v30 v31 := by
  have e : known_Text.l69 k K O (n + 1) 24 v0 v1 v2 v3 v4 v5 v6 v7 v8 v9 v10 v11 v12 v13 v14 v15 v16 v17 v18 v19 v20 v21 v22 v23 v24 v25 v26 v27 v28 v29 v30 v31 = br (eqI (bitw .and .u32 K (X.shl .u32 1 7)) 0) (known_Text.l69 k K O n 25 v0 v1 v2 v3 v4 v5 v6 v7 v8 v9 v10 v11 v12 v13 v14 v15 v16 v17 v18 v19 v20 v21 v22 v23 120 v25 v26 v27 v28 v29 v30 v31) (br (!eqI (bitw .and .u32 O (X.shl .u32 1 7)) 0) (known_Text.l69 k K O n 25 v0 v1 v2 v3 v4 v5 v6 v7 v8 v9 v10 v11 v12 v13 v14 v15 v16 v17 v18 v19 v20 v21 v22 v23 49 v25 v26 v27 v28 v29 v30 v31) (known_Text.l69 k K O n 25 v0 v1 v2 v3 v4 v5 v6 v7 v8 v9 v10 v11 v12 v13 v14 v15 v16 v17 v18 v19 v20 v21 v22 v23 48 v25 v26 v27 v28 v29 v30 v31)) := by kernel_rfl
  rw [e]
  unfold cell
  cases eqI (bitw .and .u32 K (X.shl .u32 1 7)) 0 <;> cases eqI (bitw .and .u32 O (X.shl .u32 1 7)) 0 <;> rfl
theorem tx_25 (k n : Nat) (K O v0 v1 v2 v3 v4 v5 v6 v7 v8 v9 v10 v11 v12 v13 v14 v15 v16 v17 v18 v19 v20 v21 v22 v23 v24 v25 v26 v27 v28 v29 v30 v31 : Int) : known_Text.l69 k K O (n + 1) 25 v0 v1 v2 v3 v4 v5 v6 v7 v8 v9 v10 v11 v12 v13 v14 v15 v16 v17 v18 v19 v20 v21 v22 v23 v24 v25 v26 v27 v28 v29 v30 v31 = known_Text.l69 k K O n 26 v0 v1 v2 v3 v4 v5 v6 v7 v8 v9 v10 v11 v12 v13 v14 v15 v16 v17 v18 v19 v20 v21 v22 v23 v24 (cell K O 6) v26 v27 v28 v29 v30 v31 := by
  have e : known_Text.l69 k K O (n + 1) 25 v0 v1 v2 v3 v4 v5 v6 v7 v8 v9 v10 v11 v12 v13 v14 v15 v16 v17 v18 v19 v20 v21 v22 v23 v24 v25 v26 v27 v28 v29 v30 v31 = br (eqI (bitw .and .u32 K (X.shl .u32 1 6)) 0) (known_Text.l69 k K O n 26 v0 v1 v2 v3 v4 v5 v6 v7 v8 v9 v10 v11 v12 v13 v14 v15 v16 v17 v18 v19 v20 v21 v22 v23 v24 120 v26 v27 v28 v29 v30 v31) (br (!eqI (bitw .and .u32 O (X.shl .u32 1 6)) 0) (known_Text.l69 k K O n 26 v0 v1 v2 v3 v4 v5 v6 v7 v8 v9 v10 v11 v12 v13 v14 v15 v16 v17 v18 v19 v20 v21 v22 v23 v24 49 v26 v27 v28 v29 v30 v31) (known_Text.l69 k K O n 26 v0 v1 v2 v3 v4 v5 v6 v7 v8 v9 v10 v11 v12 v13 v14 v15 v16 v17 v18 v19 v20 v21 v22 v23 v24 48 v26 v27 v28 v29 v30 v31)) := by kernel_rfl
  rw [e]
  unfold cell
  cases eqI (bitw .and .u32 K (X.shl .u32 1 6)) 0 <;> cases eqI (bitw .and .u32 O (X.shl .u32 1 6)) 0 <;> rfl
theorem tx_26 (k n : Nat) (K O v0 v1 v2 v3 v4 v5 v6 v7 v8 v9 v10 v11 v12 v13 v14 v15 v16 v17 v18 v19 v20 v21 v22 v23 v24 v25 v26 v27 v28 v29 v30 v31 : Int) : known_Text.l69 k K O (n + 1) 26 v0 v1 v2 v3 v4 v5 v6 v7 v8 v9 v10 v11 v12 v13 v14 v15 v16 v17 v18 v19 v20 v21 v22 v23 v24 v25 v26 v27 v28 v29 v30 v31 = known_Text.l69 k K O n 27 v0 v1 v2 v3 v4 v5 v6 v7 v8 v9 v10 v11 v12 v13 v14 v15 v16 v17 v18 v19 v20 v21 v22 v23 v24 v25 (cell K O 5) v27 v28 v29 v30 v31 := by
  have e : known_Text.l69 k K O (n + 1) 26 v0 v1 v2 v3 v4 v5 v6 v7 v8 v9 v10 v11 v12 v13 v14 v15 v16 v17 v18 v19 v20 v21 v22 v23 v24 v25 v26 v27 v28 v29 v30 v31 = br (eqI (bitw .and .u32 K (X.shl .u32 1 5)) 0) (known_Text.l69 k K O n 27 v0 v1 v2 v3 v4 v5 v6 v7 v8 v9 v10 v11 v12 v13 v14 v15 v16 v17 v18 v19 v20 v21 v22 v23 v24 v25 120 v27 v28 v29 v30 v31) (br (!eqI (bitw .and .u32 O (X.shl .u32 1 5)) 0) (known_Text.l69 k K O n 27 v0 v1 v2 v3 v4 v5 v6 v7 v8 v9 v10 v11 v12 v13 v14 v15 v16 v17 v18 v19 v20 v21 v22 v23 v24 v25 49 v27 v28 v29 v30 v31) (known_Text.l69 k K O n 27 v0 v1 v2 v3 v4 v5 v6 v7 v8 v9 v10 v11 v12 v13 v14 v15 v16 v17 v18 v19 v20 v21 v22 v23 v24 v25 48 v27 v28 v29 v30 v31)) := by kernel_rfl
  rw [e]
  unfold cell
  cases eqI (bitw .and .u32 K (X.shl .u32 1 5)) 0 <;> cases eqI (bitw .and .u32 O (X.shl .u32 1 5)) 0 <;> rfl
theorem tx_27 (k n : Nat) (K O v0 v1 v2 v3 v4 v5 v6 v7 v8 v9 v10 v11 v12 v13 v14 v15 v16 v17 v18 v19 v20 v21 v22 v23 v24 v25 v26 v27 v28 v29 v30 v31 : Int) : known_Text.l69 k K O (n + 1) 27 v0 v1 v2 v3 v4 v5 v6 v7 v8 v9 v10 v11 v12 v13 v14 v15 v16 v17 v18 v19 v20 v21 v22 v23 v24 v25 v26 v27 v28 v29 v30 v31 = known_Text.l69 k K O n 28 v0 v1 v2 v3 v4 v5 v6 v7 v8 v9 v10 v11 v12 v13 v14 v15 v16 v17 v18 v19 v20 v21 v22 v23 v24 v25 v26 (cell K O 4) v28 v29 v30 v31 := by
  have e : known_Text.l69 k K O (n + 1) 27 v0 v1 v2 v3 v4 v5 v6 v7 v8 v9 v10 v11 v12 v13 v14 v15 v16 v17 v18 v19 v20 v21 v22 v23 v24 v25 v26 v27 v28 v29 v30 v31 = br (eqI (bitw .and .u32 K (X.shl .u32 1 4)) 0) (known_Text.l69 k K O n 28 v0 v1 v2 v3 v4 v5 v6 v7 v8 v9 v10 v11 v12 v13 v14 v15 v16 v17 v18 v19 v20 v21 v22 v23 v24 v25 v26 120 v28 v29 v30 v31) (br (!eqI (bitw .and .u32 O (X.shl .u32 1 4)) 0) (known_Text.l69 k K O n 28 v0 v1 v2 v3 v4 v5 v6 v7 v8 v9 v10 v11 v12 v13 v14 v15 v16 v17 v18 v19 v20 v21 v22 v23 v24 v25 v26 49 v28 v29 v30 v31) (known_Text.l69 k K O n 28 v0 v1 v2 v3 v4 v5 v6 v7 v8 v9 v10 v11 v12 v13 v14 v15 v16 v17 v18 v19 v20 v21 v22 v23 v24 v25 v26 48 v28 v29 v30 v31)) := by kernel_rfl
  rw [e]
  unfold cell
  cases eqI (bitw .and .u32 K (X.shl .u32 1 4)) 0 <;> cases eqI (bitw .and .u32 O (X.shl .u32 1 4)) 0 <;> rfl
theorem tx_28 (k n : Nat) (K O v0 v1 v2 v3 v4 v5 v6 v7 v8 v9 v10 v11 v12 v13 v14 v15 v16 v17 v18 v19 v20 v21 v22 v23 v24 v25 v26 v27 v28 v29 v30 v31 : Int) : known_Text.l69 k K O (n + 1) 28 v0 v1 v2 v3 v4 v5 v6 v7 v8 v9 v10 v11 v12 v13 v14 v15 v16 v17 v18 v19 v20 v21 v22 v23 v24 v25 v26 v27 v28 v29 v30 v31 = known_Text.l69 k K O n 29 v0 v1 v2 v3 v4 v5 v6 v7 v8 v9 v10 v11 v12 v13 v14 v15 v16 v17 v18 v19 v20 v21 v22 v23 v24 v25 v26 v27 (cell K O 3) v29 v30 v31 := by
  have e : known_Text.l69 k K O (n + 1) 28 v0 v1 v2 v3 v4 v5 v6 v7 v8 v9 v10 v11 v12 v13 v14 v15 v16 v17 v18 v19 v20 v21 v22 v23 v24 v25 v26 v27 v28 v29 v30 v31 = br (eqI (bitw .and .u32 K (X.shl .u32 1 3)) 0) (known_Text.l69 k K O n 29 v0 v1 v2 v3 v4 v5 v6 v7 v8 v9 v10 v11 v12 v13 v14 v15 v16 v17 v18 v19 v20 v21 v22 v23 v24 v25 v26 v27 120 v29 v30 v31) (br (!eqI (bitw .and .u32 O (X.shl .u32 1 3)) 0) (known_Text.l69 k K O n 29 v0 v1 v2 v3 v4 v5 v6 v7 v8 v9 v10 v11 v12 v13 v14 v15 v16 v17 v18 v19 v20 v21 v22 v23 v24 v25 v26 v27 49 v29 v30 v31) (known_Text.l69 k K O n 29 v0 v1 v2 v3 v4 v5 v6 v7 v8 v9 v10 v11 v12 v13 v14 v15 v16 v17 v18 v19 v20 v21 v22 v23 v24 v25 v26 v27 48 v29 v30 v31)) := by kernel_rfl
  rw [e]
  unfold cell
  cases eqI (bitw .and .u32 K (X.shl .u32 1 3)) 0 <;> cases eqI (bitw .and .u32 O (X.shl .u32 1 3)) 0 <;> rfl
theorem tx_29 (k n : Nat) (K O v0 v1 v2 v3 v4 v5 v6 v7 v8 v9 v10 v11 v12 v13 v14 v15 v16 v17 v18 v19 v20 v21 v22 v23 v24 v25 v26 v27 v28 v29 v30 v31 : Int) : known_Text.l69 k K O (n + 1) 29 v0 v1 v2 v3 v4 v5 v6 v7 v8 v9 v10 v11 v12 v13 v14 v15 v16 v17 v18 v19 v20 v21 v22 v23 v24 v25 v26 v27 v28 v29 v30 v31 = known_Text.l69 k K O n 30 v0 v1 v2 v3 v4 v5 v6 v7 v8 v9 v10 v11 v12 v13 v14 v15 v16 v17 v18 v19 v20 v21 v22 v23 v24 v25 v26 v27 v28 (cell K O 2) v30 v31 := by
  have e : known_Text.l69 k K O (n + 1) 29 v0 v1 v2 v3 v4 v5 v6 v7 v8 v9 v10 v11 v12 v13 v14 v15 v16 v17 v18 v19 v20 v21 v22 v23 v24 v25 v26 v27 v28 v29 v30 v31 = br (eqI (bitw .and .u32 K (X.shl .u32 1 2)) 0) (known_Text.l69 k K O n 30 v0 v1 v2 v3 v4 v5 v6 v7 v8 v9 v10 v11 v12 v13 v14 v15 v16 v17 v18 v19 v20 v21 v22 v23 v24 v25 v26 v27 v28 120 v30 v31) (br (!eqI (bitw .and .u32 O (X.shl .u32 1 2)) 0) (known_Text.l69 k K O n 30 v0 v1 v2 v3 v4 v5 v6 v7 v8 v9 v10 v11 v12 v13 v14 v15 v16 v17 v18 v19 v20 v21 v22 v23 v24 v25 v26 v27 v28 49 v30 v31) (known_Text.l69 k K O n 30 v0 v1 v2 v3 v4 v5 v6 v7 v8 v9 v10 v11 v12 v13 v14 v15 v16 v17 v18 v19 v20 v21 v22 v23 v24 v25 v26 v27 v28 48 v30 v31)) := by kernel_rfl
  rw [e]
  unfold cell
  cases eqI (bitw .and .u32 K (X.shl .u32 1 2)) 0 <;> cases eqI (bitw .and .u32 O (X.shl .u32 1 2)) 0 <;> rfl
theorem tx_30 (k n : Nat) (K O v0 v1 v2 v3 v4 v5 v6 v7 v8 v9 v10 v11 v12 v13 v14 v15 v16 v17 v18 v19 v20 v21 v22 v23 v24 v25 v26 v27 v28 v29 v30 v31 : Int) : known_Text.l69 k K O (n + 1) 30 v0 v1 v2 v3 v4 v5 v6 v7 v8 v9 v10 v11 v12 v13 v14 v15 v16 v17 v18 v19 v20 v21 v22 v23 v24 v25 v26 v27 v28 v29 v30 v31 = known_Text.l69 k K O n 31 v0 v1 v2 v3 v4 v5 v6 v7 v8 v9 v10 v11 v12 v13 v14 v15 v16 v17 v18 v19 v20 v21 v22 v23 v24 v25 v26 v27 v28 v29 (cell K O 1) v31 := by
  have e : known_Text.l69 k K O (n + 1) 30 v0 v1 v2 v3 v4 v5 v6 v7 v8 v9 v10 v11 v12 v13 v14 v15 v16 v17 v18 v19 v20 v21 v22 v23 v24 v25 v26 v27 v28 v29 v30 v31 = br (eqI (bitw .and .u32 K (X.shl .u32 1 1)) 0) (known_Text.l69 k K O n 31 v0 v1 v2 v3 v4 v5 v6 v7 v8 v9 v10 v11 v12 v13 v14 v15 v16 v17 v18 v19 v20 v21 v22 v23 v24 v25 v26 v27 v28 v29 120 v31) (br (!eqI (bitw .and .u32 O (X.shl .u32 1 1)) 0) (known_Text.l69 k K O n 31 v0 v1 v2 v3 v4 v5 v6 v7 v8 v9 v10 v11 v12 v13 v14 v15 v16 v17 v18 v19 v20 v21 v22 v23 v24 v25 v26 v27 v28 v29 49 v31) (known_Text.l69 k K O n 31 v0 v1 v2 v3 v4 v5 v6 v7 v8 v9 v10 v11 v12 v13 v14 v15 v16 v17 v18 v19 v20 v21 v22 v23 v24 v25 v26 v27 v28 v29 48 v31)) := by kernel_rfl
  rw [e]
  unfold cell
  cases eqI (bitw .and .u32 K (X.shl .u32 1 1)) 0 <;> cases eqI (bitw .and .u32 O (X.shl .u32 1 1)) 0 <;> rfl
theorem tx_31 (k n : Nat) (K O v0 v1 v2 v3 v4 v5 v6 v7 v8 v9 v10 v11 v12 v13 v14 v15 v16 v17 v18 v19 v20 v21 v22 v23 v24 v25 v26 v27 v28 v29 v30 v31 : Int) : known_Text.l69 k K O (n + 1) 31 v0 v1 v2 v3 v4 v5 v6 v7 v8 v9 v10 v11 v12 v13 v14 v15 v16 v17 v18 v19 v20 v21 v22 v23 v24 v25 v26 v27 v28 v29 v30 v31 = known_Text.l69 k K O n 32 v0 v1 v2 v3 v4 v5 v6 v7 v8 v9 v10 v11 v12 v13 v14 v15 v16 v17 v18 v19 v20 v21 v22 v23 v24 v25 v26 v27 v28 v29 v30 (cell K O 0) := by
  have e : known_Text.l69 k K O (n + 1) 31 v0 v1 v2 v3 v4 v5 v6 v7 v8 v9 v10 v11 v12 v13 v14 v15 v16 v17 v18 v19 v20 v21 v22 v23 v24 v25 v26 v27 v28 v29 v30 v31 = br (eqI (bitw .and .u32 K (X.shl .u32 1 0)) 0) (known_Text.l69 k K O n 32 v0 v1 v2 v3 v4 v5 v6 v7 v8 v9 v10 v11 v12 v13 v14 v15 v16 v17 v18 v19 v20 v21 v22 v23 v24 v25 v26 v27 v28 v29 v30 120) (br (!eqI (bitw .and .u32 O (X.shl .u32 1 0)) 0) (known_Text.l69 k K O n 32 v0 v1 v2 v3 v4 v5 v6 v7 v8 v9 v10 v11 v12 v13 v14 v15 v16 v17 v18 v19 v20 v21 v22 v23 v24 v25 v26 v27 v28 v29 v30 49) (known_Text.l69 k K O n 32 v0 v1 v2 v3 v4 v5 v6 v7 v8 v9 v10 v11 v12 v13 v14 v15 v16 v17 v18 v19 v20 v21 v22 v23 v24 v25 v26 v27 v28 v29 v30 48)) := by kernel_rfl
  rw [e]
  unfold cell
  cases eqI (bitw .and .u32 K (X.shl .u32 1 0)) 0 <;> cases eqI (bitw .and .u32 O (X.shl .u32 1 0)) 0 <;> rfl
theorem tx_32 (k n : Nat) (K O v0 v1 v2 v3 v4 v5 v6 v7 v8 v9 v10 v11 v12 v13 v14 v15 v16 v17 v18 v19 v20 v21 v22 v23 v24 v25 v26 v27 v28 v29 v30 v31 : Int) : known_Text.l69 k K O (n + 1) 32 v0 v1 v2 v3 v4 v5 v6 v7 v8 v9 v10 v11 v12 v13 v14 v15 v16 v17 v18 v19 v20 v21 v22 v23 v24 v25 v26 v27 v28 v29 v30 v31 = some ⟨#[UInt8.ofNat (Int.toNat v0), UInt8.ofNat (Int.toNat v1), UInt8.ofNat (Int.toNat v2), UInt8.ofNat (Int.toNat v3), UInt8.ofNat (Int.toNat v4), UInt8.ofNat (Int.toNat v5), UInt8.ofNat (Int.toNat v6), UInt8.ofNat (Int.toNat v7), UInt8.ofNat (Int.toNat v8), UInt8.ofNat (Int.toNat v9), UInt8.ofNat (Int.toNat v10), UInt8.ofNat (Int.toNat v11), UInt8.ofNat (Int.toNat v12), UInt8.ofNat (Int.toNat v13), UInt8.ofNat (Int.toNat v14), UInt8.ofNat (Int.toNat v15), UInt8.ofNat (Int.toNat v16), UInt8.ofNat (Int.toNat v17), UInt8.ofNat (Int.toNat v18), UInt8.ofNat (Int.toNat v19), UInt8.ofNat (Int.toNat v20), UInt8.ofNat (Int.toNat v21), UInt8.ofNat (Int.toNat v22), UInt8.ofNat (Int.toNat v23), UInt8.ofNat (Int.toNat v24), UInt8.ofNat (Int.toNat v25), UInt8.ofNat (Int.toNat v26), UInt8.ofNat (Int.toNat v27), UInt8.ofNat (Int.toNat v28), UInt8.ofNat (Int.toNat v29), UInt8.ofNat (Int.toNat v30), UInt8.ofNat (Int.toNat v31)]⟩ := by kernel_rfl
theorem tx_all (k n : Nat) (K O : Int) : known_Text.l69 k K O (n + 33) 0 0 0 0 0 0 0 0 0 0 0 0 0 0 0 0 0 0 0 0 0 0 0 0 0 0 0 0 0 0 0 0 0 = some ⟨#[UInt8.ofNat (Int.toNat (cell K O 31)), UInt8.ofNat (Int.toNat (cell K O 30)), UInt8.ofNat (Int.toNat (cell K O 29)), UInt8.ofNat (Int.toNat (cell K O 28)), UInt8.ofNat (Int.toNat (cell K O 27)), UInt8.ofNat (Int.toNat (cell K O 26)), UInt8.ofNat (Int.toNat (cell K O 25)), UInt8.ofNat (Int.toNat (cell K O 24)), UInt8.ofNat (Int.toNat (cell K O 23)), UInt8.ofNat (Int.toNat (cell K O 22)), UInt8.ofNat (Int.toNat (cell K O 21)), UInt8.ofNat (Int.toNat (cell K O 20)), UInt8.ofNat (Int.toNat (cell K O 19)), UInt8.ofNat (Int.toNat (cell K O 18)), UInt8.ofNat (Int.toNat (cell K O 17)), UInt8.ofNat (Int.toNat (cell K O 16)), UInt8.ofNat (Int.toNat (cell K O 15)), UInt8.ofNat (Int.toNat (cell K O 14)), UInt8.ofNat (Int.toNat (cell K O 13)), UInt8.ofNat (Int.toNat (cell K O 12)), UInt8.ofNat (Int.toNat (cell K O 11)), UInt8.ofNat (Int.toNat (cell K O 10)), UInt8.ofNat (Int.toNat (cell K O 9)), UInt8.ofNat (Int.toNat (cell K O 8)), UInt8.ofNat (Int.toNat (cell K O 7)), UInt8.ofNat (Int.toNat (cell K O 6)), UInt8.ofNat (Int.toNat (cell K O 5)), UInt8.ofNat (Int.toNat (cell K O 4)), UInt8.ofNat (Int.toNat (cell K O 3)), UInt8.ofNat (Int.toNat (cell K O 2)), UInt8.ofNat (Int.toNat (cell K O 1)), UInt8.ofNat (Int.toNat (cell K O 0))]⟩ := by
  rw [tx_0, tx_1, tx_2, tx_3, tx_4, tx_5, tx_6, tx_7, tx_8, tx_9, tx_10, tx_11, tx_12, tx_13, tx_14, tx_15, tx_16, tx_17, tx_18, tx_19, tx_20, tx_21, tx_22, tx_23, tx_24, tx_25, tx_26, tx_27, tx_28, tx_29, tx_30, tx_31, tx_32]
/-- The same of words. -/
def cellB (K O : B) (j : Nat) : Int := if K.getLsbD j = true then (if O.getLsbD j = true then 49 else 48) else 120
theorem cell_b (K O : B) (j : Nat) (h : j < 32) : cell K.toNat O.toNat (j : Int) = cellB K O j := by
  unfold cell cellB
  rw [shl1, w_and, w_and, eqI_0, eqI_0]
  simp only [and_bit _ _ h, decide_eq_true_eq]
  cases K.getLsbD j <;> cases O.getLsbD j <;> rfl
/-- The signs from bit n - 1 down. -/
def down (K O : B) : Nat → List Int
  | 0 => []
  | n + 1 => cellB K O n :: down K O n
theorem down_len (K O : B) : ∀ n, (down K O n).length = n
  | 0 => rfl
  | n + 1 => by rw [down, List.length_cons, down_len K O n]
theorem pshr (x y : Int) : Go.Proofs.YtdmondofdlkopaaGreatDoorW.PrintWords.shr .u32 x y = X.shr .u32 x y := by
  unfold Go.Proofs.YtdmondofdlkopaaGreatDoorW.PrintWords.shr X.shr
  rw [Int.fdiv_eq_ediv_of_nonneg _ (Int.le_of_lt (Int.pow_pos (by decide)))]
theorem pbit (x : B) (n : Nat) (h : n < 32) : Go.bits .and .u32 (Go.Proofs.YtdmondofdlkopaaGreatDoorW.PrintWords.shr .u32 (x.toNat : Int) (n : Int)) 1 = if x.getLsbD n = true then 1 else 0 := by
  rw [pshr, ← bitw_eq, bit1 x n h]
  cases x.getLsbD n <;> rfl
theorem txt_loop (K O : B) : ∀ (n f : Nat) (xs : List Int), n ≤ 32 → xs.length + n ≤ 100 → n < f → PTxt.lamplighterref20_Text.l0 f xs ((n : Int) - 1) K.toNat O.toNat = some (Go.strOfNums (xs ++ down K O n))
  | 0, 0, _, _, _, h => by omega
  | 0, f + 1, xs, _, _, _ => by
    rw [PTxt.lamplighterref20_Text.l0, if_neg (by omega)]
    show _ = some (Go.strOfNums (xs ++ []))
    rw [List.append_nil]
  | n + 1, 0, _, _, _, h => by omega
  | n + 1, f + 1, xs, h1, h2, h3 => by
    have e : ((n + 1 : Nat) : Int) - 1 = n := by omega
    have n32 : n < 32 := by omega
    have ih := fun z : Int => txt_loop K O n f (xs ++ [z]) (by omega) (by rw [List.length_append, List.length_singleton]; omega) (by omega)
    have sp : ∀ z : Int, z = cellB K O n → (xs ++ [z]) ++ down K O n = xs ++ down K O (n + 1) := fun z hz => by
      rw [hz, List.append_assoc]
      rfl
    rw [PTxt.lamplighterref20_Text.l0, e, if_pos (by omega), u64n (by omega), if_pos (by omega), pbit K n n32, pbit O n n32, if_pos (by omega : xs.length < 140737488355328), if_pos (by omega : xs.length < 140737488355328)]
    have w : Go.RowKit.wrap64 ((n : Int) - 1) = (n : Int) - 1 := by unfold Go.RowKit.wrap64; omega
    rw [w, ih, ih]
    cases a : K.getLsbD n
    · rw [if_neg (by decide), sp 120 (by unfold cellB; rw [a]; rfl)]
    · rw [if_pos rfl, if_pos rfl]
      cases b : O.getLsbD n
      · rw [if_neg (by decide), sp _ (by unfold cellB; rw [a, b]; rfl)]
      · rw [if_pos rfl, sp _ (by unfold cellB; rw [a, b]; rfl)]
theorem rtext_is {K O : B} (h : Kok K O) : PTxt.lamplighterref20_Text.f 100 K.toNat O.toNat = some (Go.strOfNums (down K O 32)) := by
  have z := txt_loop K O 32 100 [] (by omega) (by decide) (by decide)
  unfold PTxt.lamplighterref20_Text.f PTxt.lamplighterref20_Check.f
  rw [← bitw_eq, w_andNot, kok_iff.2 h, if_pos zB, Option.bind_some, if_pos rfl]
  exact z
theorem ktext_is {K O : B} (h : Kok K O) : known_Text.f 100 K.toNat O.toNat = some (Go.strOfNums (down K O 32)) := by
  have z := tx_all 100 67 K.toNat O.toNat
  have c := fun (j : Nat) (hj : j < 32) => cell_b K O j hj
  have e : (⟨#[UInt8.ofNat (Int.toNat (cell K.toNat O.toNat 31)), UInt8.ofNat (Int.toNat (cell K.toNat O.toNat 30)), UInt8.ofNat (Int.toNat (cell K.toNat O.toNat 29)), UInt8.ofNat (Int.toNat (cell K.toNat O.toNat 28)), UInt8.ofNat (Int.toNat (cell K.toNat O.toNat 27)), UInt8.ofNat (Int.toNat (cell K.toNat O.toNat 26)), UInt8.ofNat (Int.toNat (cell K.toNat O.toNat 25)), UInt8.ofNat (Int.toNat (cell K.toNat O.toNat 24)), UInt8.ofNat (Int.toNat (cell K.toNat O.toNat 23)), UInt8.ofNat (Int.toNat (cell K.toNat O.toNat 22)), UInt8.ofNat (Int.toNat (cell K.toNat O.toNat 21)), UInt8.ofNat (Int.toNat (cell K.toNat O.toNat 20)), UInt8.ofNat (Int.toNat (cell K.toNat O.toNat 19)), UInt8.ofNat (Int.toNat (cell K.toNat O.toNat 18)), UInt8.ofNat (Int.toNat (cell K.toNat O.toNat 17)), UInt8.ofNat (Int.toNat (cell K.toNat O.toNat 16)), UInt8.ofNat (Int.toNat (cell K.toNat O.toNat 15)), UInt8.ofNat (Int.toNat (cell K.toNat O.toNat 14)), UInt8.ofNat (Int.toNat (cell K.toNat O.toNat 13)), UInt8.ofNat (Int.toNat (cell K.toNat O.toNat 12)), UInt8.ofNat (Int.toNat (cell K.toNat O.toNat 11)), UInt8.ofNat (Int.toNat (cell K.toNat O.toNat 10)), UInt8.ofNat (Int.toNat (cell K.toNat O.toNat 9)), UInt8.ofNat (Int.toNat (cell K.toNat O.toNat 8)), UInt8.ofNat (Int.toNat (cell K.toNat O.toNat 7)), UInt8.ofNat (Int.toNat (cell K.toNat O.toNat 6)), UInt8.ofNat (Int.toNat (cell K.toNat O.toNat 5)), UInt8.ofNat (Int.toNat (cell K.toNat O.toNat 4)), UInt8.ofNat (Int.toNat (cell K.toNat O.toNat 3)), UInt8.ofNat (Int.toNat (cell K.toNat O.toNat 2)), UInt8.ofNat (Int.toNat (cell K.toNat O.toNat 1)), UInt8.ofNat (Int.toNat (cell K.toNat O.toNat 0))]⟩ : ByteArray) = ⟨#[UInt8.ofNat (Int.toNat (cellB K O 31)), UInt8.ofNat (Int.toNat (cellB K O 30)), UInt8.ofNat (Int.toNat (cellB K O 29)), UInt8.ofNat (Int.toNat (cellB K O 28)), UInt8.ofNat (Int.toNat (cellB K O 27)), UInt8.ofNat (Int.toNat (cellB K O 26)), UInt8.ofNat (Int.toNat (cellB K O 25)), UInt8.ofNat (Int.toNat (cellB K O 24)), UInt8.ofNat (Int.toNat (cellB K O 23)), UInt8.ofNat (Int.toNat (cellB K O 22)), UInt8.ofNat (Int.toNat (cellB K O 21)), UInt8.ofNat (Int.toNat (cellB K O 20)), UInt8.ofNat (Int.toNat (cellB K O 19)), UInt8.ofNat (Int.toNat (cellB K O 18)), UInt8.ofNat (Int.toNat (cellB K O 17)), UInt8.ofNat (Int.toNat (cellB K O 16)), UInt8.ofNat (Int.toNat (cellB K O 15)), UInt8.ofNat (Int.toNat (cellB K O 14)), UInt8.ofNat (Int.toNat (cellB K O 13)), UInt8.ofNat (Int.toNat (cellB K O 12)), UInt8.ofNat (Int.toNat (cellB K O 11)), UInt8.ofNat (Int.toNat (cellB K O 10)), UInt8.ofNat (Int.toNat (cellB K O 9)), UInt8.ofNat (Int.toNat (cellB K O 8)), UInt8.ofNat (Int.toNat (cellB K O 7)), UInt8.ofNat (Int.toNat (cellB K O 6)), UInt8.ofNat (Int.toNat (cellB K O 5)), UInt8.ofNat (Int.toNat (cellB K O 4)), UInt8.ofNat (Int.toNat (cellB K O 3)), UInt8.ofNat (Int.toNat (cellB K O 2)), UInt8.ofNat (Int.toNat (cellB K O 1)), UInt8.ofNat (Int.toNat (cellB K O 0))]⟩ := by
    rw [show cell K.toNat O.toNat 31 = cellB K O 31 from c 31 (by decide), show cell K.toNat O.toNat 30 = cellB K O 30 from c 30 (by decide), show cell K.toNat O.toNat 29 = cellB K O 29 from c 29 (by decide), show cell K.toNat O.toNat 28 = cellB K O 28 from c 28 (by decide), show cell K.toNat O.toNat 27 = cellB K O 27 from c 27 (by decide), show cell K.toNat O.toNat 26 = cellB K O 26 from c 26 (by decide), show cell K.toNat O.toNat 25 = cellB K O 25 from c 25 (by decide), show cell K.toNat O.toNat 24 = cellB K O 24 from c 24 (by decide), show cell K.toNat O.toNat 23 = cellB K O 23 from c 23 (by decide), show cell K.toNat O.toNat 22 = cellB K O 22 from c 22 (by decide), show cell K.toNat O.toNat 21 = cellB K O 21 from c 21 (by decide), show cell K.toNat O.toNat 20 = cellB K O 20 from c 20 (by decide), show cell K.toNat O.toNat 19 = cellB K O 19 from c 19 (by decide), show cell K.toNat O.toNat 18 = cellB K O 18 from c 18 (by decide), show cell K.toNat O.toNat 17 = cellB K O 17 from c 17 (by decide), show cell K.toNat O.toNat 16 = cellB K O 16 from c 16 (by decide), show cell K.toNat O.toNat 15 = cellB K O 15 from c 15 (by decide), show cell K.toNat O.toNat 14 = cellB K O 14 from c 14 (by decide), show cell K.toNat O.toNat 13 = cellB K O 13 from c 13 (by decide), show cell K.toNat O.toNat 12 = cellB K O 12 from c 12 (by decide), show cell K.toNat O.toNat 11 = cellB K O 11 from c 11 (by decide), show cell K.toNat O.toNat 10 = cellB K O 10 from c 10 (by decide), show cell K.toNat O.toNat 9 = cellB K O 9 from c 9 (by decide), show cell K.toNat O.toNat 8 = cellB K O 8 from c 8 (by decide), show cell K.toNat O.toNat 7 = cellB K O 7 from c 7 (by decide), show cell K.toNat O.toNat 6 = cellB K O 6 from c 6 (by decide), show cell K.toNat O.toNat 5 = cellB K O 5 from c 5 (by decide), show cell K.toNat O.toNat 4 = cellB K O 4 from c 4 (by decide), show cell K.toNat O.toNat 3 = cellB K O 3 from c 3 (by decide), show cell K.toNat O.toNat 2 = cellB K O 2 from c 2 (by decide), show cell K.toNat O.toNat 1 = cellB K O 1 from c 1 (by decide), show cell K.toNat O.toNat 0 = cellB K O 0 from c 0 (by decide)]
  unfold known_Text.f known_Text.g
  rw [w_andNot, kok_iff.2 h, zB, eqI_refl, Bool.not_true, br_f]
  refine Eq.trans z (congrArg some (Eq.trans e ?_))
  rfl
/-! ### A number's digits -/
def tenB : Nat → Nat → List UInt8
  | 0, _ => []
  | d + 1, n => tenB d (n / 10) ++ [UInt8.ofNat (48 + n % 10)]
theorem tenB_len : ∀ d n, (tenB d n).length = d
  | 0, _ => rfl
  | d + 1, n => by rw [tenB, List.length_append, tenB_len d, List.length_singleton]
def Bt (l : List UInt8) : ByteArray := ⟨l.toArray⟩
theorem Bt_app (a b : List UInt8) : Bt a ++ Bt b = Bt (a ++ b) := by
  apply ByteArray.ext
  rw [ByteArray.data_append]
  simp [Bt]
theorem Bt_size (a : List UInt8) : (Bt a).size = a.length := rfl
theorem one_dig : ∀ n : Nat, n < 10 → ((⟨#[48, 49, 50, 51, 52, 53, 54, 55, 56, 57]⟩ : ByteArray).extract n (n + 1)).data.toList = [UInt8.ofNat (48 + n)] := by decide +kernel
theorem ten_le {d m : Nat} (h : d ≤ m) : 10 ^ d ≤ 10 ^ m := Nat.pow_le_pow_right (by decide) h
theorem dig_one {n k : Nat} (h : n < 10) : PTxt.lamplighterref21_digits.f (k + 1) (n : Int) = some (Bt [UInt8.ofNat (48 + n)]) := by
  rw [PTxt.lamplighterref21_digits.f]
  have e : ((n : Int) + 1) % 4294967296 = ((n + 1 : Nat) : Int) := by omega
  rw [if_pos (by omega), if_pos (by omega), e, if_pos (by omega), if_pos (by omega), Int.toNat_natCast, Int.toNat_natCast]
  congr 1
  apply ByteArray.ext
  apply Array.ext'
  rw [one_dig n h]
  rfl
theorem dig_is : ∀ d n k : Nat, n < 4294967296 → n < 10 ^ (d + 1) → (10 ^ d ≤ n ∨ d = 0) → d < k → d ≤ 20 → PTxt.lamplighterref21_digits.f k (n : Int) = some (Bt (tenB (d + 1) n))
  | d, n, 0, _, _, _, h, _ => by omega
  | 0, n, k + 1, _, h, _, _, _ => by
    rw [dig_one (by omega)]
    show _ = some (Bt ([] ++ [UInt8.ofNat (48 + n % 10)]))
    rw [Nat.mod_eq_of_lt (by omega), List.nil_append]
  | d + 1, n, k + 1, h0, h1, h2, h3, h4 => by
    have p1 : 10 ^ (d + 1) = 10 ^ d * 10 := Nat.pow_succ ..
    have p2 : 10 ^ (d + 1 + 1) = 10 ^ (d + 1) * 10 := Nat.pow_succ ..
    have p0 := Nat.pow_pos (n := d) (show 0 < 10 by decide)
    have ge : 10 ^ (d + 1) ≤ n := by omega
    obtain ⟨k', rfl⟩ : ∃ k', k = k' + 1 := ⟨k - 1, by omega⟩
    rw [PTxt.lamplighterref21_digits.f, if_neg (by omega)]
    have e1 : Int.tdiv (n : Int) 10 % 4294967296 = ((n / 10 : Nat) : Int) := by
      rw [Int.tdiv_eq_ediv_of_nonneg (by omega)]
      omega
    have e2 : Int.tmod (n : Int) 10 = ((n % 10 : Nat) : Int) := rfl
    rw [e1, e2, dig_is d (n / 10) (k' + 1) (by omega) (by omega) (.inl (by omega)) (by omega) (by omega), dig_one (by omega : n % 10 < 10)]
    simp only [Option.bind_some]
    rw [Bt_size, Bt_size, tenB_len, if_pos (by simp; omega), Bt_app]
    rfl
theorem len64 {n : Nat} (h : n < 4294967296) : bits_Len64.f (n : Int) = some ((L n : Nat) : Int) := by
  have z := len_is (BitVec.ofNat 32 n)
  have t : (BitVec.ofNat 32 n).toNat = n := by rw [BitVec.toNat_ofNat]; omega
  have hl : len (BitVec.ofNat 32 n) = L n := by
    show L (BitVec.ofNat 32 n).toNat = L n
    rw [t]
  rw [t, hl] at z
  rw [← z]
  unfold bits_Len64.f bits_Len32.f
  rw [le_f (show ¬ (4294967296 : Int) ≤ n by omega), br_f]
  have s : ∀ (m j : Nat), j ≤ 32 → X.shr .u64 (m : Int) (j : Int) = X.shr .u32 (m : Int) (j : Int) := fun m j hj => by
    rw [shr_is (n := j) (by show min j 64 = j; omega), shr_is (n := j) (by show min j 32 = j; omega)]
  have s16 : X.shr .u64 (n : Int) 16 = X.shr .u32 (n : Int) 16 := s n 16 (by decide)
  have e16 : X.shr .u32 (n : Int) 16 = ((n / 65536 : Nat) : Int) := shr32 n 16 (by decide)
  have s8 : X.shr .u64 (n : Int) 8 = X.shr .u32 (n : Int) 8 := s n 8 (by decide)
  have s24 : X.shr .u64 (X.shr .u64 (n : Int) 16) 8 = X.shr .u32 (X.shr .u32 (n : Int) 16) 8 := by
    rw [s16, e16]
    exact s (n / 65536) 8 (by decide)
  rw [s24, s16, s8]
  rfl
theorem qtab : ∀ b : Nat, b < 33 → X.shr .i64 (IntKind.i64.wrap ((b : Int) * 78913)) 18 = ((b * 78913 / 262144 : Nat) : Int) ∧ b * 78913 / 262144 < 10 ∧ (1 ≤ b → 2 ^ b ≤ 10 ^ (b * 78913 / 262144 + 1) ∧ 10 ^ (b * 78913 / 262144 - 1) ≤ 2 ^ (b - 1)) := by decide +kernel
theorem ttab : ∀ q : Nat, q < 10 → inI (q : Int) 20 = true ∧ ltN (atN 0 (q : Int) 1) 20 = true ∧ tabAt [1, 10, 100, 1000, 10000, 100000, 1000000, 10000000, 100000000, 1000000000, 10000000000, 100000000000, 1000000000000, 10000000000000, 100000000000000, 1000000000000000, 10000000000000000, 100000000000000000, 1000000000000000000, 10000000000000000000] (atN 0 (q : Int) 1) = ((10 ^ q : Nat) : Int) ∧ IntKind.i64.wrap ((q : Int) + 1) = ((q + 1 : Nat) : Int) ∧ IntKind.i64.wrap ((q : Int) + 0) = (q : Int) := by decide +kernel
theorem L_spec {n : Nat} (h : 1 ≤ n) : 1 ≤ L n ∧ 2 ^ (L n - 1) ≤ n ∧ n < 2 ^ L n := by
  unfold L
  rw [if_neg (by omega)]
  refine ⟨by omega, ?_, Nat.lt_log2_self⟩
  rw [Nat.add_sub_cancel]
  exact Nat.log2_self_le (by omega)
theorem ndg {n : Nat} (h0 : 1 ≤ n) (h : n < 4294967296) : ∃ d : Nat, strconv_numDigits.f (n : Int) = some (d : Int) ∧ 10 ^ (d - 1) ≤ n ∧ n < 10 ^ d ∧ 1 ≤ d := by
  obtain ⟨b1, b2, b3⟩ := L_spec h0
  have bl : L n ≤ 32 := L_le (k := 32) h
  unfold strconv_numDigits.f
  rw [len64 h, Option.bind_some]
  generalize L n = b at *
  obtain ⟨q1, q2, q3⟩ := qtab b (by omega)
  obtain ⟨q4, q5⟩ := q3 b1
  rw [q1]
  generalize b * 78913 / 262144 = q at *
  obtain ⟨t1, t2, t3, t4, t5⟩ := ttab q q2
  rw [t1, t2, t3, t4, t5, br_t, br_t, leI_n]
  by_cases c : 10 ^ q ≤ n
  · rw [decide_eq_true c, br_t]
    exact ⟨q + 1, rfl, by rw [Nat.add_sub_cancel]; exact c, by omega, by omega⟩
  · rw [decide_eq_false c, br_f]
    refine ⟨q, rfl, by omega, by omega, ?_⟩
    by_cases z : q = 0
    · subst z; simp at c; omega
    · omega
/-! ### FormatUint -/
theorem u32n {a : Nat} (h : a < 4294967296) : IntKind.u32.wrap (a : Int) = a := by rw [IntKind.wrap_u32']; omega
theorem u64N {a : Nat} (h : a < 4294967296) : IntKind.u64.wrap (a : Int) = a := by rw [IntKind.wrap_u64]; omega
theorem tm1 (a : Nat) : Int.tmod (a : Int) 100 = ((a % 100 : Nat) : Int) := rfl
theorem tm2 (a : Nat) : Int.tmod (a : Int) 10000 = ((a % 10000 : Nat) : Int) := rfl
theorem tm3 (a : Nat) : Int.tmod (a : Int) 100000000 = ((a % 100000000 : Nat) : Int) := rfl
theorem td1 (a : Nat) : Int.tdiv (a : Int) 100 = ((a / 100 : Nat) : Int) := rfl
theorem td2 (a : Nat) : Int.tdiv (a : Int) 10000 = ((a / 10000 : Nat) : Int) := rfl
theorem td3 (a : Nat) : Int.tdiv (a : Int) 100000000 = ((a / 100000000 : Nat) : Int) := rfl
theorem mul2 (a : Nat) : (a : Int) * 2 = ((a * 2 : Nat) : Int) := by omega
theorem add1 (a : Nat) : (a : Int) + 1 = ((a + 1 : Nat) : Int) := rfl
theorem p48 (a : Nat) : 48 + (a : Int) = ((48 + a : Nat) : Int) := by omega
theorem in200 {a : Nat} (h : a < 200) : inI (a : Int) 200 = true := inI_n (n := 200) h
theorem btab : ∀ x : Nat, x < 100 → byteAt strconv_FormatUint3.S2 ((x * 2 : Nat) : Int) = ((48 + x / 10 : Nat) : Int) ∧ byteAt strconv_FormatUint3.S2 ((x * 2 + 1 : Nat) : Int) = ((48 + x % 10 : Nat) : Int) := by decide +kernel
theorem btA {x : Nat} (h : x < 100) : byteAt strconv_FormatUint3.S2 ((x * 2 : Nat) : Int) = ((48 + x / 10 : Nat) : Int) := (btab x h).1
theorem btB {x : Nat} (h : x < 100) : byteAt strconv_FormatUint3.S2 ((x * 2 + 1 : Nat) : Int) = ((48 + x % 10 : Nat) : Int) := (btab x h).2
theorem small_tab : ∀ n : Nat, n < 100 → (strconv_FormatUint3.f (n : Int)).map (fun r => r.data.toList) = some (tenB (if n < 10 then 1 else 2) n) := by decide +kernel
theorem small {n : Nat} (h : n < 100) : strconv_FormatUint3.f (n : Int) = some (Bt (tenB (if n < 10 then 1 else 2) n)) := by
  have z := small_tab n h
  cases e : strconv_FormatUint3.f (n : Int) with
  | none => rw [e] at z; cases z
  | some r =>
    rw [e] at z
    simp only [Option.map_some, Option.some.injEq] at z
    congr 1
    apply ByteArray.ext
    apply Array.ext'
    rw [z]
    rfl
theorem ndig_no {n j d : Nat} (h : strconv_numDigits.f (n : Int) = some (d : Int)) (ne : d ≠ j) : ndig j (n : Int) = none := by
  unfold ndig
  rw [h, Option.bind_some, eq_f (by omega), br_f]
theorem ndig_yes {n d : Nat} (h : strconv_numDigits.f (n : Int) = some (d : Int)) : ndig d (n : Int) = some () := by
  unfold ndig
  rw [h, Option.bind_some, eq_t rfl, br_t]
theorem fno_3 {n e : Nat} (hn : 100 ≤ n) (h : strconv_numDigits.f (n : Int) = some (e : Int)) (ne : e ≠ 3) : strconv_FormatUint3.f (n : Int) = none := by
  unfold strconv_FormatUint3.f
  rw [lt_f (show ¬ (n : Int) < 100 by omega), br_f, ndig_no h ne]
  rfl
theorem fyes_3 {n : Nat} (hn : 100 ≤ n) (hm : n < 1000) (h : strconv_numDigits.f (n : Int) = some ((3 : Nat) : Int)) : strconv_FormatUint3.f (n : Int) = some (Bt (tenB 3 n)) := by
  unfold strconv_FormatUint3.f
  rw [lt_f (show ¬ (n : Int) < 100 by omega), br_f, ndig_yes h, Option.bind_some]
  simp (disch := omega) only [u32n, u64N, u8n, tm1, tm2, tm3, td1, td2, td3, mul2, add1, p48, in200, br_t, btA, btB, Int.toNat_natCast]
  refine congrArg some (congrArg ByteArray.mk (congrArg List.toArray ?_))
  simp only [tenB, List.nil_append, List.cons_append, List.cons.injEq, and_true]
  repeat' apply And.intro
  all_goals (exact congrArg UInt8.ofNat (by omega))
theorem fno_4 {n e : Nat} (hn : 100 ≤ n) (h : strconv_numDigits.f (n : Int) = some (e : Int)) (ne : e ≠ 4) : strconv_FormatUint4.f (n : Int) = none := by
  unfold strconv_FormatUint4.f
  rw [lt_f (show ¬ (n : Int) < 100 by omega), br_f, ndig_no h ne]
  rfl
theorem fyes_4 {n : Nat} (hn : 1000 ≤ n) (hm : n < 10000) (h : strconv_numDigits.f (n : Int) = some ((4 : Nat) : Int)) : strconv_FormatUint4.f (n : Int) = some (Bt (tenB 4 n)) := by
  unfold strconv_FormatUint4.f
  rw [lt_f (show ¬ (n : Int) < 100 by omega), br_f, ndig_yes h, Option.bind_some]
  have s2 : strconv_FormatUint4.S2 = strconv_FormatUint3.S2 := rfl
  rw [s2]
  simp (disch := omega) only [u32n, u64N, u8n, tm1, tm2, tm3, td1, td2, td3, mul2, add1, p48, in200, br_t, btA, btB, Int.toNat_natCast]
  refine congrArg some (congrArg ByteArray.mk (congrArg List.toArray ?_))
  simp only [tenB, List.nil_append, List.cons_append, List.cons.injEq, and_true]
  repeat' apply And.intro
  all_goals (exact congrArg UInt8.ofNat (by omega))
theorem fno_5 {n e : Nat} (hn : 100 ≤ n) (h : strconv_numDigits.f (n : Int) = some (e : Int)) (ne : e ≠ 5) : strconv_FormatUint5.f (n : Int) = none := by
  unfold strconv_FormatUint5.f
  rw [lt_f (show ¬ (n : Int) < 100 by omega), br_f, ndig_no h ne]
  rfl
theorem fyes_5 {n : Nat} (hn : 10000 ≤ n) (hm : n < 100000) (h : strconv_numDigits.f (n : Int) = some ((5 : Nat) : Int)) : strconv_FormatUint5.f (n : Int) = some (Bt (tenB 5 n)) := by
  unfold strconv_FormatUint5.f
  rw [lt_f (show ¬ (n : Int) < 100 by omega), br_f, ndig_yes h, Option.bind_some]
  have s2 : strconv_FormatUint5.S2 = strconv_FormatUint3.S2 := rfl
  rw [s2]
  simp (disch := omega) only [u32n, u64N, u8n, tm1, tm2, tm3, td1, td2, td3, mul2, add1, p48, in200, br_t, btA, btB, Int.toNat_natCast]
  refine congrArg some (congrArg ByteArray.mk (congrArg List.toArray ?_))
  simp only [tenB, List.nil_append, List.cons_append, List.cons.injEq, and_true]
  repeat' apply And.intro
  all_goals (exact congrArg UInt8.ofNat (by omega))
theorem fno_6 {n e : Nat} (hn : 100 ≤ n) (h : strconv_numDigits.f (n : Int) = some (e : Int)) (ne : e ≠ 6) : strconv_FormatUint6.f (n : Int) = none := by
  unfold strconv_FormatUint6.f
  rw [lt_f (show ¬ (n : Int) < 100 by omega), br_f, ndig_no h ne]
  rfl
theorem fyes_6 {n : Nat} (hn : 100000 ≤ n) (hm : n < 1000000) (h : strconv_numDigits.f (n : Int) = some ((6 : Nat) : Int)) : strconv_FormatUint6.f (n : Int) = some (Bt (tenB 6 n)) := by
  unfold strconv_FormatUint6.f
  rw [lt_f (show ¬ (n : Int) < 100 by omega), br_f, ndig_yes h, Option.bind_some]
  have s2 : strconv_FormatUint6.S2 = strconv_FormatUint3.S2 := rfl
  rw [s2]
  simp (disch := omega) only [u32n, u64N, u8n, tm1, tm2, tm3, td1, td2, td3, mul2, add1, p48, in200, br_t, btA, btB, Int.toNat_natCast]
  refine congrArg some (congrArg ByteArray.mk (congrArg List.toArray ?_))
  simp only [tenB, List.nil_append, List.cons_append, List.cons.injEq, and_true]
  repeat' apply And.intro
  all_goals (exact congrArg UInt8.ofNat (by omega))
theorem fno_7 {n e : Nat} (hn : 100 ≤ n) (h : strconv_numDigits.f (n : Int) = some (e : Int)) (ne : e ≠ 7) : strconv_FormatUint7.f (n : Int) = none := by
  unfold strconv_FormatUint7.f
  rw [lt_f (show ¬ (n : Int) < 100 by omega), br_f, ndig_no h ne]
  rfl
theorem fyes_7 {n : Nat} (hn : 1000000 ≤ n) (hm : n < 10000000) (h : strconv_numDigits.f (n : Int) = some ((7 : Nat) : Int)) : strconv_FormatUint7.f (n : Int) = some (Bt (tenB 7 n)) := by
  unfold strconv_FormatUint7.f
  rw [lt_f (show ¬ (n : Int) < 100 by omega), br_f, ndig_yes h, Option.bind_some]
  have s2 : strconv_FormatUint7.S2 = strconv_FormatUint3.S2 := rfl
  rw [s2]
  simp (disch := omega) only [u32n, u64N, u8n, tm1, tm2, tm3, td1, td2, td3, mul2, add1, p48, in200, br_t, btA, btB, Int.toNat_natCast]
  refine congrArg some (congrArg ByteArray.mk (congrArg List.toArray ?_))
  simp only [tenB, List.nil_append, List.cons_append, List.cons.injEq, and_true]
  repeat' apply And.intro
  all_goals (exact congrArg UInt8.ofNat (by omega))
theorem fno_8 {n e : Nat} (hn : 100 ≤ n) (h : strconv_numDigits.f (n : Int) = some (e : Int)) (ne : e ≠ 8) : strconv_FormatUint8.f (n : Int) = none := by
  unfold strconv_FormatUint8.f
  rw [lt_f (show ¬ (n : Int) < 100 by omega), br_f, ndig_no h ne]
  rfl
theorem fyes_8 {n : Nat} (hn : 10000000 ≤ n) (hm : n < 100000000) (h : strconv_numDigits.f (n : Int) = some ((8 : Nat) : Int)) : strconv_FormatUint8.f (n : Int) = some (Bt (tenB 8 n)) := by
  unfold strconv_FormatUint8.f
  rw [lt_f (show ¬ (n : Int) < 100 by omega), br_f, ndig_yes h, Option.bind_some]
  have s2 : strconv_FormatUint8.S2 = strconv_FormatUint3.S2 := rfl
  rw [s2]
  simp (disch := omega) only [u32n, u64N, u8n, tm1, tm2, tm3, td1, td2, td3, mul2, add1, p48, in200, br_t, btA, btB, Int.toNat_natCast]
  refine congrArg some (congrArg ByteArray.mk (congrArg List.toArray ?_))
  simp only [tenB, List.nil_append, List.cons_append, List.cons.injEq, and_true]
  repeat' apply And.intro
  all_goals (exact congrArg UInt8.ofNat (by omega))
theorem fno_9 {n e : Nat} (hn : 100 ≤ n) (h : strconv_numDigits.f (n : Int) = some (e : Int)) (ne : e ≠ 9) : strconv_FormatUint9.f (n : Int) = none := by
  unfold strconv_FormatUint9.f
  rw [lt_f (show ¬ (n : Int) < 100 by omega), br_f, ndig_no h ne]
  rfl
theorem fyes_9 {n : Nat} (hn : 100000000 ≤ n) (hm : n < 1000000000) (h : strconv_numDigits.f (n : Int) = some ((9 : Nat) : Int)) : strconv_FormatUint9.f (n : Int) = some (Bt (tenB 9 n)) := by
  unfold strconv_FormatUint9.f
  rw [lt_f (show ¬ (n : Int) < 100 by omega), br_f, ndig_yes h, Option.bind_some]
  have s2 : strconv_FormatUint9.S2 = strconv_FormatUint3.S2 := rfl
  rw [s2]
  simp (disch := omega) only [u32n, u64N, u8n, tm1, tm2, tm3, td1, td2, td3, mul2, add1, p48, in200, br_t, btA, btB, Int.toNat_natCast]
  refine congrArg some (congrArg ByteArray.mk (congrArg List.toArray ?_))
  simp only [tenB, List.nil_append, List.cons_append, List.cons.injEq, and_true]
  repeat' apply And.intro
  all_goals (exact congrArg UInt8.ofNat (by omega))
theorem fno_10 {n e : Nat} (hn : 100 ≤ n) (h : strconv_numDigits.f (n : Int) = some (e : Int)) (ne : e ≠ 10) : strconv_FormatUint10.f (n : Int) = none := by
  unfold strconv_FormatUint10.f
  rw [lt_f (show ¬ (n : Int) < 100 by omega), br_f, ndig_no h ne]
  rfl
theorem fyes_10 {n : Nat} (hn : 1000000000 ≤ n) (hm : n < 4294967296) (h : strconv_numDigits.f (n : Int) = some ((10 : Nat) : Int)) : strconv_FormatUint10.f (n : Int) = some (Bt (tenB 10 n)) := by
  unfold strconv_FormatUint10.f
  rw [lt_f (show ¬ (n : Int) < 100 by omega), br_f, ndig_yes h, Option.bind_some]
  have s2 : strconv_FormatUint10.S2 = strconv_FormatUint3.S2 := rfl
  rw [s2]
  simp (disch := omega) only [u32n, u64N, u8n, tm1, tm2, tm3, td1, td2, td3, mul2, add1, p48, in200, br_t, btA, btB, Int.toNat_natCast]
  refine congrArg some (congrArg ByteArray.mk (congrArg List.toArray ?_))
  simp only [tenB, List.nil_append, List.cons_append, List.cons.injEq, and_true]
  repeat' apply And.intro
  all_goals (exact congrArg UInt8.ofNat (by omega))
theorem orN {α : Type} (f : Unit → Option α) : (none : Option α).orElse f = f () := rfl
theorem orS {α : Type} (x : α) (f : Unit → Option α) : (some x).orElse f = some x := rfl
theorem fmt_is {n : Nat} (h : n < 4294967296) : ∃ d : Nat, strconv_FormatUint.f (n : Int) = some (Bt (tenB (d + 1) n)) ∧ n < 10 ^ (d + 1) ∧ (10 ^ d ≤ n ∨ d = 0) ∧ d < 10 := by
  unfold strconv_FormatUint.f
  by_cases c : n < 100
  · rw [small c, orS]
    by_cases e : n < 10
    · rw [if_pos e]
      exact ⟨0, rfl, by omega, .inr rfl, by decide⟩
    · rw [if_neg e]
      exact ⟨1, rfl, by omega, .inl (by omega), by decide⟩
  · obtain ⟨d, e, h1, h2, h3⟩ := ndg (by omega) h
    have l1 : 3 ≤ d := by
      by_cases z : 3 ≤ d
      · exact z
      · have := ten_le (show d ≤ 2 by omega)
        omega
    have l2 : d ≤ 10 := by
      by_cases z : d ≤ 10
      · exact z
      · have := ten_le (show 10 ≤ d - 1 by omega)
        omega
    have hn : 100 ≤ n := by omega
    have ds : d = 3 ∨ d = 4 ∨ d = 5 ∨ d = 6 ∨ d = 7 ∨ d = 8 ∨ d = 9 ∨ d = 10 := by omega
    rcases ds with rfl | rfl | rfl | rfl | rfl | rfl | rfl | rfl
    · rw [fyes_3 (by omega) (by omega) e, orS]
      exact ⟨2, rfl, h2, .inl h1, by decide⟩
    · rw [fno_3 hn e (by decide), orN, fyes_4 (by omega) (by omega) e, orS]
      exact ⟨3, rfl, h2, .inl h1, by decide⟩
    · rw [fno_3 hn e (by decide), orN, fno_4 hn e (by decide), orN, fyes_5 (by omega) (by omega) e, orS]
      exact ⟨4, rfl, h2, .inl h1, by decide⟩
    · rw [fno_3 hn e (by decide), orN, fno_4 hn e (by decide), orN, fno_5 hn e (by decide), orN, fyes_6 (by omega) (by omega) e, orS]
      exact ⟨5, rfl, h2, .inl h1, by decide⟩
    · rw [fno_3 hn e (by decide), orN, fno_4 hn e (by decide), orN, fno_5 hn e (by decide), orN, fno_6 hn e (by decide), orN, fyes_7 (by omega) (by omega) e, orS]
      exact ⟨6, rfl, h2, .inl h1, by decide⟩
    · rw [fno_3 hn e (by decide), orN, fno_4 hn e (by decide), orN, fno_5 hn e (by decide), orN, fno_6 hn e (by decide), orN, fno_7 hn e (by decide), orN, fyes_8 (by omega) (by omega) e, orS]
      exact ⟨7, rfl, h2, .inl h1, by decide⟩
    · rw [fno_3 hn e (by decide), orN, fno_4 hn e (by decide), orN, fno_5 hn e (by decide), orN, fno_6 hn e (by decide), orN, fno_7 hn e (by decide), orN, fno_8 hn e (by decide), orN, fyes_9 (by omega) (by omega) e, orS]
      exact ⟨8, rfl, h2, .inl h1, by decide⟩
    · rw [fno_3 hn e (by decide), orN, fno_4 hn e (by decide), orN, fno_5 hn e (by decide), orN, fno_6 hn e (by decide), orN, fno_7 hn e (by decide), orN, fno_8 hn e (by decide), orN, fno_9 hn e (by decide), orN, fyes_10 (by omega) (by omega) e, orS]
      exact ⟨9, rfl, h2, .inl h1, by decide⟩
theorem u64B (x : B) : IntKind.u64.wrap (x.toNat : Int) = x.toNat := u64N x.isLt
theorem i64max : IntKind.i64.max = 9223372036854775807 := by simp [IntKind.max, IntKind.signed, IntKind.bits]
theorem cat_t {a b : ByteArray} (h : a.size + b.size ≤ 1000) : catOk a b = true := decide_eq_true (by rw [i64max]; omega)
theorem nums_size (l : List Int) : (Go.strOfNums l).size = l.length := by
  show ((l.map fun n => UInt8.ofNat n.toNat).toArray).size = l.length
  rw [List.size_toArray, List.length_map]
theorem c_text (s : S) : ∃ z, value_Text.f 100 s.lo.toNat s.hi.toNat s.K.toNat s.O.toNat = some z ∧ lamplighterref21_Text.f 100 s.lo.toNat s.hi.toNat s.K.toNat s.O.toNat = some z := by
  unfold value_Text.f lamplighterref21_Text.f
  rw [Check_v, rCheck_v]
  by_cases f : s.Fx
  · obtain ⟨d, e1, e2, e3, e4⟩ := fmt_is s.lo.isLt
    obtain ⟨d', g1, g2, g3, g4⟩ := fmt_is s.hi.isLt
    have r1 := dig_is d s.lo.toNat 20 s.lo.isLt e2 e3 (by omega) (by omega)
    have r2 := dig_is d' s.hi.toNat 20 s.hi.isLt g2 g3 (by omega) (by omega)
    have n1 : (Bt (tenB (d + 1) s.lo.toNat)).size = d + 1 := by rw [Bt_size, tenB_len]
    have n2 : (Bt (tenB (d' + 1) s.hi.toNat)).size = d' + 1 := by rw [Bt_size, tenB_len]
    have n3 : (Go.strOfNums (down s.K s.O 32)).size = 32 := by rw [nums_size, down_len]
    rw [chk_yes f, u64B, u64B, e1, g1, r1, r2, ktext_is f.ok, rtext_is f.ok]
    generalize Bt (tenB (d + 1) s.lo.toNat) = A at *
    generalize Bt (tenB (d' + 1) s.hi.toNat) = C at *
    generalize Go.strOfNums (down s.K s.O 32) = D at *
    have q : (⟨#[46, 46]⟩ : ByteArray).size = 2 := rfl
    have q1 : (⟨#[32]⟩ : ByteArray).size = 1 := rfl
    have k1 : catOk A ⟨#[46, 46]⟩ = true := cat_t (by rw [n1, q]; omega)
    have k2 : catOk (A ++ ⟨#[46, 46]⟩) C = true := cat_t (by rw [ByteArray.size_append, n1, n2, q]; omega)
    have k3 : catOk ((A ++ ⟨#[46, 46]⟩) ++ C) ⟨#[32]⟩ = true := cat_t (by rw [ByteArray.size_append, ByteArray.size_append, n1, n2, q, q1]; omega)
    have k4 : catOk (((A ++ ⟨#[46, 46]⟩) ++ C) ++ ⟨#[32]⟩) D = true := cat_t (by rw [ByteArray.size_append, ByteArray.size_append, ByteArray.size_append, n1, n2, n3, q, q1]; omega)
    rw [Option.bind_some, Option.bind_some, eqI_refl, Bool.not_true, br_f, k1, br_t, Option.bind_some, k2, br_t, k3, br_t, Option.bind_some, k4, br_t]
    exact ⟨_, rfl, rfl⟩
  · rw [chk_no f]
    exact ⟨_, rfl, rfl⟩
end Go.Proofs.YtdmondofdlkopaaGreatDoor.V.Snd
