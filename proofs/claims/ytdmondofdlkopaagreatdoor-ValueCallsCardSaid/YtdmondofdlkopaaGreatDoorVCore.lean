/- Functions of the program, told by Lean functions: where NAME.f answers, the call returns that. Conditions: the listed package-level variables hold what the row lists. -/
import Derived.Test.YtdmondofdlkopaaGreatDoorEngine
import Derived.Test.YtdmondofdlkopaaGreatDoorProg
import Derived.KernelRfl
namespace Go.Proofs.YtdmondofdlkopaaGreatDoor.V
open Go Go.RowKit Go.Proofs.YtdmondofdlkopaaGreatDoor.X
set_option linter.unusedVariables false
set_option maxRecDepth 100000
theorem eq24 (a b c d : Int) (n : Nat) (w : World) : (Op.eqFields (n + 1) #[.int .u32 a, .int .u32 b] #[.int .u32 c, .int .u32 d] [{ name := "Lo", type := 22, offset := 0, embedded := false, tag := "", pkgPath := "", byteOffset := 0 }, { name := "Hi", type := 22, offset := 1, embedded := false, tag := "", pkgPath := "", byteOffset := 4 }]).run Tryz.prog w = .ok ((a == c) && (b == d)) w :=
  have ha : aggT Tryz.prog 22 = some false := by kernel_rfl
  eqf_more (by decide) (part_one ha rfl w) (part_one ha rfl w) (int_eq Tryz.underlying22 n _ _ _ w) (eqf_one (by decide) (part_one ha rfl w) (part_one ha rfl w) (int_eq Tryz.underlying22 n _ _ _ w))
theorem eq26 (a b c d : Int) (n : Nat) (w : World) : (Op.eqFields (n + 1) #[.int .u32 a, .int .u32 b] #[.int .u32 c, .int .u32 d] [{ name := "Known", type := 22, offset := 0, embedded := false, tag := "", pkgPath := "", byteOffset := 0 }, { name := "Ones", type := 22, offset := 1, embedded := false, tag := "", pkgPath := "", byteOffset := 4 }]).run Tryz.prog w = .ok ((a == c) && (b == d)) w :=
  have ha : aggT Tryz.prog 22 = some false := by kernel_rfl
  eqf_more (by decide) (part_one ha rfl w) (part_one ha rfl w) (int_eq Tryz.underlying22 n _ _ _ w) (eqf_one (by decide) (part_one ha rfl w) (part_one ha rfl w) (int_eq Tryz.underlying22 n _ _ _ w))
theorem eq28 (a b c d a' b' c' d' : Int) (n : Nat) (w : World) : (Op.eqFields (n + 2) #[.int .u32 a, .int .u32 b, .int .u32 c, .int .u32 d] #[.int .u32 a', .int .u32 b', .int .u32 c', .int .u32 d'] [{ name := "Range", type := 24, offset := 0, embedded := false, tag := "", pkgPath := "", byteOffset := 0 }, { name := "Bits", type := 26, offset := 2, embedded := false, tag := "", pkgPath := "", byteOffset := 8 }]).run Tryz.prog w = .ok (((a == a') && (b == b')) && ((c == c') && (d == d'))) w :=
  have h1 : aggT Tryz.prog 24 = some true := by kernel_rfl
  have h2 : aggT Tryz.prog 26 = some true := by kernel_rfl
  have s1 : sizeT Tryz.prog 24 = some 2 := by kernel_rfl
  have s2 : sizeT Tryz.prog 26 = some 2 := by kernel_rfl
  eqf_more (by decide) (part_agg h1 s1 w) (part_agg h1 s1 w) (str_eq Tryz.underlying24 (by kernel_rfl) _ _ (eq24 a b a' b' n w)) (eqf_one (by decide) (part_agg h2 s2 w) (part_agg h2 s2 w) (str_eq Tryz.underlying26 (by kernel_rfl) _ _ (eq26 c d c' d' n w)))
def eqv (t : TypeId) (xs ys : Array Value) : Option Bool := match t, xs, ys with
  | 24, ⟨[.int .u32 a, .int .u32 b]⟩, ⟨[.int .u32 c, .int .u32 d]⟩ => some ((a == c) && (b == d))
  | 26, ⟨[.int .u32 a, .int .u32 b]⟩, ⟨[.int .u32 c, .int .u32 d]⟩ => some ((a == c) && (b == d))
  | 28, ⟨[.int .u32 a, .int .u32 b, .int .u32 c, .int .u32 d]⟩, ⟨[.int .u32 a', .int .u32 b', .int .u32 c', .int .u32 d']⟩ => some (((a == a') && (b == b')) && ((c == c') && (d == d')))
  | _, _, _ => none
theorem eqv_ok (t : TypeId) (xs ys : Array Value) (b : Bool) (h : eqv t xs ys = some b) (x y : Operand) (w : World) :
    (do eqGuard .eql t x y (.agg xs) (.agg ys); binOp .eql t (.agg xs) (.agg ys)).run Tryz.prog w = .ok (.bool b) w ∧ (do eqGuard .neq t x y (.agg xs) (.agg ys); binOp .neq t (.agg xs) (.agg ys)).run Tryz.prog w = .ok (.bool (!b)) w := by
  unfold eqv at h
  split at h
  · obtain rfl := Option.some.inj h
    exact eq_any Tryz.underlying24 (by kernel_rfl) (by kernel_rfl) (fun w => eq24 _ _ _ _ 9998 w) x y w
  · obtain rfl := Option.some.inj h
    exact eq_any Tryz.underlying26 (by kernel_rfl) (by kernel_rfl) (fun w => eq26 _ _ _ _ 9998 w) x y w
  · obtain rfl := Option.some.inj h
    exact eq_any Tryz.underlying28 (by kernel_rfl) (by kernel_rfl) (fun w => eq28 _ _ _ _ _ _ _ _ 9997 w) x y w
  · cases h
def signs : List Value := [(.string ⟨#[]⟩), (.string ⟨#[43]⟩), (.string ⟨#[45]⟩), (.string ⟨#[42]⟩), (.string ⟨#[47]⟩), (.string ⟨#[37]⟩), (.string ⟨#[115, 47]⟩), (.string ⟨#[115, 37]⟩), (.string ⟨#[38]⟩), (.string ⟨#[124]⟩), (.string ⟨#[94]⟩), (.string ⟨#[60, 60]⟩), (.string ⟨#[62, 62]⟩), (.string ⟨#[115, 62, 62]⟩), (.string ⟨#[61, 61]⟩), (.string ⟨#[33, 61]⟩), (.string ⟨#[60]⟩), (.string ⟨#[60, 61]⟩), (.string ⟨#[115, 60]⟩), (.string ⟨#[115, 60, 61]⟩)]
def tabs (g : Nat) : Option (IntKind × List Int) := match g with
  | 1 => some (.u8, [0, 1, 28, 2, 29, 14, 24, 3, 30, 22, 20, 15, 25, 17, 4, 8, 31, 27, 13, 23, 21, 19, 16, 7, 26, 12, 18, 6, 11, 5, 10, 9])
  | 2 => some (.u64, [1, 10, 100, 1000, 10000, 100000, 1000000, 10000000, 100000000, 1000000000, 10000000000, 100000000000, 1000000000000, 10000000000000, 100000000000000, 1000000000000000, 10000000000000000, 100000000000000000, 1000000000000000000, 10000000000000000000])
  | 3 => some (.u8, [0, 1, 56, 2, 57, 49, 28, 3, 61, 58, 42, 50, 38, 29, 17, 4, 62, 47, 59, 36, 45, 43, 51, 22, 53, 39, 33, 30, 24, 18, 12, 5, 63, 55, 48, 27, 60, 41, 37, 16, 46, 35, 44, 21, 52, 32, 23, 11, 54, 26, 40, 15, 34, 20, 31, 10, 25, 14, 19, 9, 13, 8, 7, 6])
  | _ => none
def cod (f : Func) : Code := match f.body with
  | some c => c
  | none => .skip
noncomputable def E0 (k : Nat) : Eng := { P := Tryz.prog, gl := fun g => match g with | 0 => some (signs.map .v) | _ => none, os := fun _ => none, gi := tabs, eqf := eqv, sm := fun _ => none, fuel := fun f => match f with | 47 => k | 107 => k | 21 => k | 86 => k | 126 => k | 129 => k | 131 => k | 78 => k | 27 => k | 75 => k | _ => 300, keep := fun f i => match f with | 47 => [0, 1, 2, 3, 4, 5, 6, 8, 9, 22, 23, 24].contains i | 107 => [0, 1, 2, 3, 4, 5, 6, 7, 8, 9, 10].contains i | 21 => [0, 1, 2, 3, 4].contains i | 86 => [0, 1, 2, 3, 4, 5, 6, 7, 8, 9].contains i | 126 => [0, 1, 2, 3].contains i | 129 => [0, 1, 2, 3, 4, 5, 6, 7, 8, 9].contains i | 131 => [0, 1, 2, 3].contains i | 78 => [0, 1, 2, 3, 4, 5, 6].contains i | 27 => [0, 1, 2, 3].contains i | 75 => [0, 1, 2, 3, 10].contains i | _ => true }
abbrev G (w : World) : Prop := Glob (E0 0) w
theorem all0 (k : Nat) : EngAll (E0 k) := ⟨fun t xs ys b h x y w => (eqv_ok t xs ys b h x y w).1, fun t xs ys b h x y w => (eqv_ok t xs ys b h x y w).2, fun f S h => (by cases h), fun f S h => (by cases h)⟩

def d1 (x : AV) : Option (Int) := match x with
  | .v (.int .i64 x0) => some x0
  | _ => none
def d1e (t : Int) : Value := .int .i64 t
theorem d1_ok (x : AV) (t : Int) (h : d1 x = some t) : x = .v (d1e t) := by
  unfold d1 at h
  split at h
  · obtain rfl := Option.some.inj h
    rfl
  · cases h

def bits_Len32.S1 : ByteArray := ⟨#[0, 1, 2, 2, 3, 3, 3, 3, 4, 4, 4, 4, 4, 4, 4, 4, 5, 5, 5, 5, 5, 5, 5, 5, 5, 5, 5, 5, 5, 5, 5, 5, 6, 6, 6, 6, 6, 6, 6, 6, 6, 6, 6, 6, 6, 6, 6, 6, 6, 6, 6, 6, 6, 6, 6, 6, 6, 6, 6, 6, 6, 6, 6, 6, 7, 7, 7, 7, 7, 7, 7, 7, 7, 7, 7, 7, 7, 7, 7, 7, 7, 7, 7, 7, 7, 7, 7, 7, 7, 7, 7, 7, 7, 7, 7, 7, 7, 7, 7, 7, 7, 7, 7, 7, 7, 7, 7, 7, 7, 7, 7, 7, 7, 7, 7, 7, 7, 7, 7, 7, 7, 7, 7, 7, 7, 7, 7, 7, 8, 8, 8, 8, 8, 8, 8, 8, 8, 8, 8, 8, 8, 8, 8, 8, 8, 8, 8, 8, 8, 8, 8, 8, 8, 8, 8, 8, 8, 8, 8, 8, 8, 8, 8, 8, 8, 8, 8, 8, 8, 8, 8, 8, 8, 8, 8, 8, 8, 8, 8, 8, 8, 8, 8, 8, 8, 8, 8, 8, 8, 8, 8, 8, 8, 8, 8, 8, 8, 8, 8, 8, 8, 8, 8, 8, 8, 8, 8, 8, 8, 8, 8, 8, 8, 8, 8, 8, 8, 8, 8, 8, 8, 8, 8, 8, 8, 8, 8, 8, 8, 8, 8, 8, 8, 8, 8, 8, 8, 8, 8, 8, 8, 8, 8, 8, 8, 8, 8, 8, 8, 8, 8, 8, 8, 8, 8, 8]⟩

/-! ### math/bits.Len32 -/
def bits_Len32.f (a0 : Int) : Option (Int) := (br (leI 65536 a0) (br (leI 256 (X.shr .u32 a0 16)) (br (inI (IntKind.u8.wrap (X.shr .u32 (X.shr .u32 a0 16) 8)) 256) (some ((IntKind.i64.wrap (24 + (IntKind.i64.wrap (byteAt bits_Len32.S1 (IntKind.u8.wrap (X.shr .u32 (X.shr .u32 a0 16) 8)))))))) none) (br (inI (IntKind.u8.wrap (X.shr .u32 a0 16)) 256) (some ((IntKind.i64.wrap (16 + (IntKind.i64.wrap (byteAt bits_Len32.S1 (IntKind.u8.wrap (X.shr .u32 a0 16)))))))) none)) (br (leI 256 a0) (br (inI (IntKind.u8.wrap (X.shr .u32 a0 8)) 256) (some ((IntKind.i64.wrap (8 + (IntKind.i64.wrap (byteAt bits_Len32.S1 (IntKind.u8.wrap (X.shr .u32 a0 8)))))))) none) (br (inI (IntKind.u8.wrap a0) 256) (some ((IntKind.i64.wrap (0 + (IntKind.i64.wrap (byteAt bits_Len32.S1 (IntKind.u8.wrap a0))))))) none)))
theorem bits_Len32.eq (k : Nat) (a0 : Int) : run (E0 k) 20 68 [.v (.int .u32 a0)] [] (fun x _ => d1 x) = bits_Len32.f a0 := by kernel_rfl
theorem bits_Len32.calls (k : Nat) (a0 : Int) {w : World} (g : G w) {t : Int} (h : bits_Len32.f a0 = some t) : Calls Tryz.prog 68 #[.int .u32 a0] w fun e w' => e = .returned (d1e t) ∧ Below w.heap.size w w' :=
  (all0 k).calls (vs := [.int .u32 a0]) g d1_ok ((bits_Len32.eq k a0).trans h)
noncomputable def bits_Len32.s (k : Nat) : Sum := { T := Int, get := fun l => match l with | [.int .u32 a0] => some (bits_Len32.f a0) | _ => none, enc := d1e }
noncomputable def E1 (k : Nat) : Eng := (E0 k).add 68 (bits_Len32.s k)
theorem all1 (k : Nat) : EngAll (E1 k) := (all0 k).add (by kernel_rfl) (by
  intro vs t w g h
  simp only [bits_Len32.s] at h
  split at h
  · exact bits_Len32.calls k _ (show G w from g) (Option.some.inj h)
  · cases h)

def bits_OnesCount32.S1 : ByteArray := ⟨#[0, 1, 1, 2, 1, 2, 2, 3, 1, 2, 2, 3, 2, 3, 3, 4, 1, 2, 2, 3, 2, 3, 3, 4, 2, 3, 3, 4, 3, 4, 4, 5, 1, 2, 2, 3, 2, 3, 3, 4, 2, 3, 3, 4, 3, 4, 4, 5, 2, 3, 3, 4, 3, 4, 4, 5, 3, 4, 4, 5, 4, 5, 5, 6, 1, 2, 2, 3, 2, 3, 3, 4, 2, 3, 3, 4, 3, 4, 4, 5, 2, 3, 3, 4, 3, 4, 4, 5, 3, 4, 4, 5, 4, 5, 5, 6, 2, 3, 3, 4, 3, 4, 4, 5, 3, 4, 4, 5, 4, 5, 5, 6, 3, 4, 4, 5, 4, 5, 5, 6, 4, 5, 5, 6, 5, 6, 6, 7, 1, 2, 2, 3, 2, 3, 3, 4, 2, 3, 3, 4, 3, 4, 4, 5, 2, 3, 3, 4, 3, 4, 4, 5, 3, 4, 4, 5, 4, 5, 5, 6, 2, 3, 3, 4, 3, 4, 4, 5, 3, 4, 4, 5, 4, 5, 5, 6, 3, 4, 4, 5, 4, 5, 5, 6, 4, 5, 5, 6, 5, 6, 6, 7, 2, 3, 3, 4, 3, 4, 4, 5, 3, 4, 4, 5, 4, 5, 5, 6, 3, 4, 4, 5, 4, 5, 5, 6, 4, 5, 5, 6, 5, 6, 6, 7, 3, 4, 4, 5, 4, 5, 5, 6, 4, 5, 5, 6, 5, 6, 6, 7, 4, 5, 5, 6, 5, 6, 6, 7, 5, 6, 6, 7, 6, 7, 7, 8]⟩

/-! ### math/bits.OnesCount32 -/
def bits_OnesCount32.f (a0 : Int) : Option (Int) := (br (inI (X.shr .u32 a0 24) 256) (br (inI (bitw .and .u32 (X.shr .u32 a0 16) 255) 256) (br (inI (bitw .and .u32 (X.shr .u32 a0 8) 255) 256) (br (inI (bitw .and .u32 a0 255) 256) (some ((IntKind.i64.wrap (IntKind.u8.wrap ((IntKind.u8.wrap ((IntKind.u8.wrap ((byteAt bits_OnesCount32.S1 (X.shr .u32 a0 24)) + (byteAt bits_OnesCount32.S1 (bitw .and .u32 (X.shr .u32 a0 16) 255)))) + (byteAt bits_OnesCount32.S1 (bitw .and .u32 (X.shr .u32 a0 8) 255)))) + (byteAt bits_OnesCount32.S1 (bitw .and .u32 a0 255))))))) none) none) none) none)
theorem bits_OnesCount32.eq (k : Nat) (a0 : Int) : run (E1 k) 20 158 [.v (.int .u32 a0)] [] (fun x _ => d1 x) = bits_OnesCount32.f a0 := by kernel_rfl
theorem bits_OnesCount32.calls (k : Nat) (a0 : Int) {w : World} (g : G w) {t : Int} (h : bits_OnesCount32.f a0 = some t) : Calls Tryz.prog 158 #[.int .u32 a0] w fun e w' => e = .returned (d1e t) ∧ Below w.heap.size w w' :=
  (all1 k).calls (vs := [.int .u32 a0]) g d1_ok ((bits_OnesCount32.eq k a0).trans h)
noncomputable def bits_OnesCount32.s (k : Nat) : Sum := { T := Int, get := fun l => match l with | [.int .u32 a0] => some (bits_OnesCount32.f a0) | _ => none, enc := d1e }
noncomputable def E2 (k : Nat) : Eng := (E1 k).add 158 (bits_OnesCount32.s k)
theorem all2 (k : Nat) : EngAll (E2 k) := (all1 k).add (by kernel_rfl) (by
  intro vs t w g h
  simp only [bits_OnesCount32.s] at h
  split at h
  · exact bits_OnesCount32.calls k _ (show G w from g) (Option.some.inj h)
  · cases h)

/-! ### math/bits.TrailingZeros32 -/
def bits_TrailingZeros32.f (a0 : Int) : Option (Int) := (br (eqI a0 0) (some (32)) (br (inI (X.shr .u32 (IntKind.u32.wrap ((bitw .and .u32 a0 (IntKind.u32.wrap (0 - a0))) * 125613361)) 27) 32) (br (ltN (atN 0 (X.shr .u32 (IntKind.u32.wrap ((bitw .and .u32 a0 (IntKind.u32.wrap (0 - a0))) * 125613361)) 27) 1) 32) (some ((IntKind.i64.wrap (tabAt [0, 1, 28, 2, 29, 14, 24, 3, 30, 22, 20, 15, 25, 17, 4, 8, 31, 27, 13, 23, 21, 19, 16, 7, 26, 12, 18, 6, 11, 5, 10, 9] (atN 0 (X.shr .u32 (IntKind.u32.wrap ((bitw .and .u32 a0 (IntKind.u32.wrap (0 - a0))) * 125613361)) 27) 1))))) none) none))
theorem bits_TrailingZeros32.eq (k : Nat) (a0 : Int) : run (E2 k) 20 109 [.v (.int .u32 a0)] [] (fun x _ => d1 x) = bits_TrailingZeros32.f a0 := by kernel_rfl
theorem bits_TrailingZeros32.calls (k : Nat) (a0 : Int) {w : World} (g : G w) {t : Int} (h : bits_TrailingZeros32.f a0 = some t) : Calls Tryz.prog 109 #[.int .u32 a0] w fun e w' => e = .returned (d1e t) ∧ Below w.heap.size w w' :=
  (all2 k).calls (vs := [.int .u32 a0]) g d1_ok ((bits_TrailingZeros32.eq k a0).trans h)
noncomputable def bits_TrailingZeros32.s (k : Nat) : Sum := { T := Int, get := fun l => match l with | [.int .u32 a0] => some (bits_TrailingZeros32.f a0) | _ => none, enc := d1e }
noncomputable def E3 (k : Nat) : Eng := (E2 k).add 109 (bits_TrailingZeros32.s k)
theorem all3 (k : Nat) : EngAll (E3 k) := (all2 k).add (by kernel_rfl) (by
  intro vs t w g h
  simp only [bits_TrailingZeros32.s] at h
  split at h
  · exact bits_TrailingZeros32.calls k _ (show G w from g) (Option.some.inj h)
  · cases h)

def d2 (x : AV) : Option (Int × Int) := match x with
  | .v (.tuple ⟨[.int .u32 x0, .int .u32 x1]⟩) => some (x0, x1)
  | _ => none
def d2e (t : Int × Int) : Value := .tuple ⟨[.int .u32 (t.1), .int .u32 (t.2)]⟩
theorem d2_ok (x : AV) (t : Int × Int) (h : d2 x = some t) : x = .v (d2e t) := by
  unfold d2 at h
  split at h
  · obtain rfl := Option.some.inj h
    rfl
  · cases h

/-! ### math/bits.Add32 -/
def bits_Add32.f (a0 : Int) (a1 : Int) (a2 : Int) : Option (Int × Int) := some ((IntKind.u32.wrap (IntKind.u64.wrap ((IntKind.u64.wrap ((IntKind.u64.wrap a0) + (IntKind.u64.wrap a1))) + (IntKind.u64.wrap a2)))), (IntKind.u32.wrap (X.shr .u64 (IntKind.u64.wrap ((IntKind.u64.wrap ((IntKind.u64.wrap a0) + (IntKind.u64.wrap a1))) + (IntKind.u64.wrap a2))) 32)))
theorem bits_Add32.eq (k : Nat) (a0 : Int) (a1 : Int) (a2 : Int) : run (E3 k) 20 165 [.v (.int .u32 a0), .v (.int .u32 a1), .v (.int .u32 a2)] [] (fun x _ => d2 x) = bits_Add32.f a0 a1 a2 := by kernel_rfl
theorem bits_Add32.calls (k : Nat) (a0 : Int) (a1 : Int) (a2 : Int) {w : World} (g : G w) {t : Int × Int} (h : bits_Add32.f a0 a1 a2 = some t) : Calls Tryz.prog 165 #[.int .u32 a0, .int .u32 a1, .int .u32 a2] w fun e w' => e = .returned (d2e t) ∧ Below w.heap.size w w' :=
  (all3 k).calls (vs := [.int .u32 a0, .int .u32 a1, .int .u32 a2]) g d2_ok ((bits_Add32.eq k a0 a1 a2).trans h)
noncomputable def bits_Add32.s (k : Nat) : Sum := { T := Int × Int, get := fun l => match l with | [.int .u32 a0, .int .u32 a1, .int .u32 a2] => some (bits_Add32.f a0 a1 a2) | _ => none, enc := d2e }
noncomputable def E4 (k : Nat) : Eng := (E3 k).add 165 (bits_Add32.s k)
theorem all4 (k : Nat) : EngAll (E4 k) := (all3 k).add (by kernel_rfl) (by
  intro vs t w g h
  simp only [bits_Add32.s] at h
  split at h
  · exact bits_Add32.calls k _ _ _ (show G w from g) (Option.some.inj h)
  · cases h)

/-! ### math/bits.Sub32 -/
def bits_Sub32.f (a0 : Int) (a1 : Int) (a2 : Int) : Option (Int × Int) := some ((IntKind.u32.wrap ((IntKind.u32.wrap (a0 - a1)) - a2)), (X.shr .u32 (bitw .or .u32 (bitw .and .u32 (bitw .xor .u32 IntKind.u32.max a0) a1) (bitw .and .u32 (bitw .xor .u32 IntKind.u32.max (bitw .xor .u32 a0 a1)) (IntKind.u32.wrap ((IntKind.u32.wrap (a0 - a1)) - a2)))) 31))
theorem bits_Sub32.eq (k : Nat) (a0 : Int) (a1 : Int) (a2 : Int) : run (E4 k) 20 166 [.v (.int .u32 a0), .v (.int .u32 a1), .v (.int .u32 a2)] [] (fun x _ => d2 x) = bits_Sub32.f a0 a1 a2 := by kernel_rfl
theorem bits_Sub32.calls (k : Nat) (a0 : Int) (a1 : Int) (a2 : Int) {w : World} (g : G w) {t : Int × Int} (h : bits_Sub32.f a0 a1 a2 = some t) : Calls Tryz.prog 166 #[.int .u32 a0, .int .u32 a1, .int .u32 a2] w fun e w' => e = .returned (d2e t) ∧ Below w.heap.size w w' :=
  (all4 k).calls (vs := [.int .u32 a0, .int .u32 a1, .int .u32 a2]) g d2_ok ((bits_Sub32.eq k a0 a1 a2).trans h)
noncomputable def bits_Sub32.s (k : Nat) : Sum := { T := Int × Int, get := fun l => match l with | [.int .u32 a0, .int .u32 a1, .int .u32 a2] => some (bits_Sub32.f a0 a1 a2) | _ => none, enc := d2e }
noncomputable def E5 (k : Nat) : Eng := (E4 k).add 166 (bits_Sub32.s k)
theorem all5 (k : Nat) : EngAll (E5 k) := (all4 k).add (by kernel_rfl) (by
  intro vs t w g h
  simp only [bits_Sub32.s] at h
  split at h
  · exact bits_Sub32.calls k _ _ _ (show G w from g) (Option.some.inj h)
  · cases h)

/-! ### math/bits.Mul32 -/
def bits_Mul32.f (a0 : Int) (a1 : Int) : Option (Int × Int) := some ((IntKind.u32.wrap (X.shr .u64 (IntKind.u64.wrap ((IntKind.u64.wrap a0) * (IntKind.u64.wrap a1))) 32)), (IntKind.u32.wrap (IntKind.u64.wrap ((IntKind.u64.wrap a0) * (IntKind.u64.wrap a1)))))
theorem bits_Mul32.eq (k : Nat) (a0 : Int) (a1 : Int) : run (E5 k) 20 167 [.v (.int .u32 a0), .v (.int .u32 a1)] [] (fun x _ => d2 x) = bits_Mul32.f a0 a1 := by kernel_rfl
theorem bits_Mul32.calls (k : Nat) (a0 : Int) (a1 : Int) {w : World} (g : G w) {t : Int × Int} (h : bits_Mul32.f a0 a1 = some t) : Calls Tryz.prog 167 #[.int .u32 a0, .int .u32 a1] w fun e w' => e = .returned (d2e t) ∧ Below w.heap.size w w' :=
  (all5 k).calls (vs := [.int .u32 a0, .int .u32 a1]) g d2_ok ((bits_Mul32.eq k a0 a1).trans h)
noncomputable def bits_Mul32.s (k : Nat) : Sum := { T := Int × Int, get := fun l => match l with | [.int .u32 a0, .int .u32 a1] => some (bits_Mul32.f a0 a1) | _ => none, enc := d2e }
noncomputable def E6 (k : Nat) : Eng := (E5 k).add 167 (bits_Mul32.s k)
theorem all6 (k : Nat) : EngAll (E6 k) := (all5 k).add (by kernel_rfl) (by
  intro vs t w g h
  simp only [bits_Mul32.s] at h
  split at h
  · exact bits_Mul32.calls k _ _ (show G w from g) (Option.some.inj h)
  · cases h)

def d3 (x : AV) : Option (Int × Int) := match x with
  | .v (.tuple ⟨[.int .u32 x0, .int .i64 x1]⟩) => some (x0, x1)
  | _ => none
def d3e (t : Int × Int) : Value := .tuple ⟨[.int .u32 (t.1), .int .i64 (t.2)]⟩
theorem d3_ok (x : AV) (t : Int × Int) (h : d3 x = some t) : x = .v (d3e t) := by
  unfold d3 at h
  split at h
  · obtain rfl := Option.some.inj h
    rfl
  · cases h

/-! ### lamplighter/word.Do -/
def word_Do.f (a0 : Int) (a1 : Int) (a2 : Int) : Option (Int × Int) := (br (leI 1 a0) (br (!(leI a0 19)) (some (0, 2)) (br (eqI a0 0) none (br (eqI a0 1) (some ((IntKind.u32.wrap (a1 + a2)), 0)) (br (eqI a0 2) (some ((IntKind.u32.wrap (a1 - a2)), 0)) (br (eqI a0 3) (some ((IntKind.u32.wrap (a1 * a2)), 0)) (br (eqI a0 4) (br (eqI a2 0) (some (0, 12)) (br (eqI a2 0) none (some ((IntKind.u32.wrap (Int.tdiv a1 a2)), 0)))) (br (eqI a0 5) (br (eqI a2 0) (some (0, 12)) (br (eqI a2 0) none (some ((Int.tmod a1 a2), 0)))) (br (eqI a0 6) (br (eqI a2 0) (some (0, 12)) (br (eqI (IntKind.i32.wrap a2) 0) none (some ((IntKind.u32.wrap (IntKind.i32.wrap (Int.tdiv (IntKind.i32.wrap a1) (IntKind.i32.wrap a2)))), 0)))) (br (eqI a0 7) (br (eqI a2 0) (some (0, 12)) (br (eqI (IntKind.i32.wrap a2) 0) none (some ((IntKind.u32.wrap (Int.tmod (IntKind.i32.wrap a1) (IntKind.i32.wrap a2))), 0)))) (br (eqI a0 8) (some ((bitw .and .u32 a1 a2), 0)) (br (eqI a0 9) (some ((bitw .or .u32 a1 a2), 0)) (br (eqI a0 10) (some ((bitw .xor .u32 a1 a2), 0)) (br (eqI a0 11) (br (ltI a2 0) none (some ((X.shl .u32 a1 a2), 0))) (br (eqI a0 12) (br (ltI a2 0) none (some ((X.shr .u32 a1 a2), 0))) (br (eqI a0 13) (br (ltI a2 0) none (some ((IntKind.u32.wrap (X.shr .i32 (IntKind.i32.wrap a1) a2)), 0))) (br (eqI a0 14) (br (eqI a1 a2) (some (1, 0)) (some (0, 0))) (br (eqI a0 15) (br (!eqI a1 a2) (some (1, 0)) (some (0, 0))) (br (eqI a0 16) (br (ltI a1 a2) (some (1, 0)) (some (0, 0))) (br (eqI a0 17) (br (leI a1 a2) (some (1, 0)) (some (0, 0))) (br (eqI a0 18) (br (ltI (IntKind.i32.wrap a1) (IntKind.i32.wrap a2)) (some (1, 0)) (some (0, 0))) (br (eqI a0 19) (br (leI (IntKind.i32.wrap a1) (IntKind.i32.wrap a2)) (some (1, 0)) (some (0, 0))) none))))))))))))))))))))) (some (0, 2)))
theorem word_Do.eq (k : Nat) (a0 : Int) (a1 : Int) (a2 : Int) : run (E6 k) 20 157 [.v (.int .i64 a0), .v (.int .u32 a1), .v (.int .u32 a2)] [] (fun x _ => d3 x) = word_Do.f a0 a1 a2 := by kernel_rfl
theorem word_Do.calls (k : Nat) (a0 : Int) (a1 : Int) (a2 : Int) {w : World} (g : G w) {t : Int × Int} (h : word_Do.f a0 a1 a2 = some t) : Calls Tryz.prog 157 #[.int .i64 a0, .int .u32 a1, .int .u32 a2] w fun e w' => e = .returned (d3e t) ∧ Below w.heap.size w w' :=
  (all6 k).calls (vs := [.int .i64 a0, .int .u32 a1, .int .u32 a2]) g d3_ok ((word_Do.eq k a0 a1 a2).trans h)
noncomputable def word_Do.s (k : Nat) : Sum := { T := Int × Int, get := fun l => match l with | [.int .i64 a0, .int .u32 a1, .int .u32 a2] => some (word_Do.f a0 a1 a2) | _ => none, enc := d3e }
noncomputable def E7 (k : Nat) : Eng := (E6 k).add 157 (word_Do.s k)
theorem all7 (k : Nat) : EngAll (E7 k) := (all6 k).add (by kernel_rfl) (by
  intro vs t w g h
  simp only [word_Do.s] at h
  split at h
  · exact word_Do.calls k _ _ _ (show G w from g) (Option.some.inj h)
  · cases h)

def d4 (x : AV) : Option (ByteArray) := match x with
  | .v (.string x0) => some x0
  | _ => none
def d4e (t : ByteArray) : Value := .string t
theorem d4_ok (x : AV) (t : ByteArray) (h : d4 x = some t) : x = .v (d4e t) := by
  unfold d4 at h
  split at h
  · obtain rfl := Option.some.inj h
    rfl
  · cases h

/-! ### lamplighter/word.Sign -/
def word_Sign.f (a0 : Int) : Option (ByteArray) := (br (leI 1 a0) (br (!(leI a0 19)) (some (⟨#[]⟩)) (br (eqI a0 0) (some (⟨#[]⟩)) (br (eqI a0 1) (some (⟨#[43]⟩)) (br (eqI a0 2) (some (⟨#[45]⟩)) (br (eqI a0 3) (some (⟨#[42]⟩)) (br (eqI a0 4) (some (⟨#[47]⟩)) (br (eqI a0 5) (some (⟨#[37]⟩)) (br (eqI a0 6) (some (⟨#[115, 47]⟩)) (br (eqI a0 7) (some (⟨#[115, 37]⟩)) (br (eqI a0 8) (some (⟨#[38]⟩)) (br (eqI a0 9) (some (⟨#[124]⟩)) (br (eqI a0 10) (some (⟨#[94]⟩)) (br (eqI a0 11) (some (⟨#[60, 60]⟩)) (br (eqI a0 12) (some (⟨#[62, 62]⟩)) (br (eqI a0 13) (some (⟨#[115, 62, 62]⟩)) (br (eqI a0 14) (some (⟨#[61, 61]⟩)) (br (eqI a0 15) (some (⟨#[33, 61]⟩)) (br (eqI a0 16) (some (⟨#[60]⟩)) (br (eqI a0 17) (some (⟨#[60, 61]⟩)) (br (eqI a0 18) (some (⟨#[115, 60]⟩)) (br (eqI a0 19) (some (⟨#[115, 60, 61]⟩)) none))))))))))))))))))))) (some (⟨#[]⟩)))
theorem word_Sign.eq (k : Nat) (a0 : Int) : run (E7 k) 20 105 [.v (.int .i64 a0)] [] (fun x _ => d4 x) = word_Sign.f a0 := by kernel_rfl
theorem word_Sign.calls (k : Nat) (a0 : Int) {w : World} (g : G w) {t : ByteArray} (h : word_Sign.f a0 = some t) : Calls Tryz.prog 105 #[.int .i64 a0] w fun e w' => e = .returned (d4e t) ∧ Below w.heap.size w w' :=
  (all7 k).calls (vs := [.int .i64 a0]) g d4_ok ((word_Sign.eq k a0).trans h)
noncomputable def word_Sign.s (k : Nat) : Sum := { T := ByteArray, get := fun l => match l with | [.int .i64 a0] => some (word_Sign.f a0) | _ => none, enc := d4e }
noncomputable def E8 (k : Nat) : Eng := (E7 k).add 105 (word_Sign.s k)
theorem all8 (k : Nat) : EngAll (E8 k) := (all7 k).add (by kernel_rfl) (by
  intro vs t w g h
  simp only [word_Sign.s] at h
  split at h
  · exact word_Sign.calls k _ (show G w from g) (Option.some.inj h)
  · cases h)

/-! ### lamplighter/word.Name -/
def word_Name.f (a0 : Int) : Option (ByteArray) := (br (eqI a0 1) (some (⟨#[110, 101, 103]⟩)) (br (eqI a0 2) (some (⟨#[110, 111, 116]⟩)) (br (eqI a0 3) (some (⟨#[122, 101, 114, 111]⟩)) (some (⟨#[]⟩)))))
theorem word_Name.eq (k : Nat) (a0 : Int) : run (E8 k) 20 116 [.v (.int .i64 a0)] [] (fun x _ => d4 x) = word_Name.f a0 := by kernel_rfl
theorem word_Name.calls (k : Nat) (a0 : Int) {w : World} (g : G w) {t : ByteArray} (h : word_Name.f a0 = some t) : Calls Tryz.prog 116 #[.int .i64 a0] w fun e w' => e = .returned (d4e t) ∧ Below w.heap.size w w' :=
  (all8 k).calls (vs := [.int .i64 a0]) g d4_ok ((word_Name.eq k a0).trans h)
noncomputable def word_Name.s (k : Nat) : Sum := { T := ByteArray, get := fun l => match l with | [.int .i64 a0] => some (word_Name.f a0) | _ => none, enc := d4e }
noncomputable def E9 (k : Nat) : Eng := (E8 k).add 116 (word_Name.s k)
theorem all9 (k : Nat) : EngAll (E9 k) := (all8 k).add (by kernel_rfl) (by
  intro vs t w g h
  simp only [word_Name.s] at h
  split at h
  · exact word_Name.calls k _ (show G w from g) (Option.some.inj h)
  · cases h)

/-! ### lamplighter/word.Cut -/
def word_Cut.f (a0 : Int) (a1 : Int) : Option (Int × Int) := (br (eqI a1 8) (some ((IntKind.u32.wrap (IntKind.u8.wrap a0)), 0)) (br (eqI a1 16) (some ((IntKind.u32.wrap (IntKind.u16.wrap a0)), 0)) (br (eqI a1 32) (some (a0, 0)) (some (0, 2)))))
theorem word_Cut.eq (k : Nat) (a0 : Int) (a1 : Int) : run (E9 k) 20 118 [.v (.int .u32 a0), .v (.int .i64 a1)] [] (fun x _ => d3 x) = word_Cut.f a0 a1 := by kernel_rfl
theorem word_Cut.calls (k : Nat) (a0 : Int) (a1 : Int) {w : World} (g : G w) {t : Int × Int} (h : word_Cut.f a0 a1 = some t) : Calls Tryz.prog 118 #[.int .u32 a0, .int .i64 a1] w fun e w' => e = .returned (d3e t) ∧ Below w.heap.size w w' :=
  (all9 k).calls (vs := [.int .u32 a0, .int .i64 a1]) g d3_ok ((word_Cut.eq k a0 a1).trans h)
noncomputable def word_Cut.s (k : Nat) : Sum := { T := Int × Int, get := fun l => match l with | [.int .u32 a0, .int .i64 a1] => some (word_Cut.f a0 a1) | _ => none, enc := d3e }
noncomputable def E10 (k : Nat) : Eng := (E9 k).add 118 (word_Cut.s k)
theorem all10 (k : Nat) : EngAll (E10 k) := (all9 k).add (by kernel_rfl) (by
  intro vs t w g h
  simp only [word_Cut.s] at h
  split at h
  · exact word_Cut.calls k _ _ (show G w from g) (Option.some.inj h)
  · cases h)

/-! ### lamplighter/word.Signed -/
def word_Signed.f (a0 : Int) : Option (Int) := some ((IntKind.i64.wrap (IntKind.i32.wrap a0)))
theorem word_Signed.eq (k : Nat) (a0 : Int) : run (E10 k) 20 171 [.v (.int .u32 a0)] [] (fun x _ => d1 x) = word_Signed.f a0 := by kernel_rfl
theorem word_Signed.calls (k : Nat) (a0 : Int) {w : World} (g : G w) {t : Int} (h : word_Signed.f a0 = some t) : Calls Tryz.prog 171 #[.int .u32 a0] w fun e w' => e = .returned (d1e t) ∧ Below w.heap.size w w' :=
  (all10 k).calls (vs := [.int .u32 a0]) g d1_ok ((word_Signed.eq k a0).trans h)
noncomputable def word_Signed.s (k : Nat) : Sum := { T := Int, get := fun l => match l with | [.int .u32 a0] => some (word_Signed.f a0) | _ => none, enc := d1e }
noncomputable def E11 (k : Nat) : Eng := (E10 k).add 171 (word_Signed.s k)
theorem all11 (k : Nat) : EngAll (E11 k) := (all10 k).add (by kernel_rfl) (by
  intro vs t w g h
  simp only [word_Signed.s] at h
  split at h
  · exact word_Signed.calls k _ (show G w from g) (Option.some.inj h)
  · cases h)

def d5 (x : AV) : Option (Bool) := match x with
  | .v (.bool x0) => some x0
  | _ => none
def d5e (t : Bool) : Value := .bool t
theorem d5_ok (x : AV) (t : Bool) (h : d5 x = some t) : x = .v (d5e t) := by
  unfold d5 at h
  split at h
  · obtain rfl := Option.some.inj h
    rfl
  · cases h

/-! ### lamplighter/word.Compares -/
def word_Compares.f (a0 : Int) : Option (Bool) := (br (leI 14 a0) (some ((leI a0 19))) (some (false)))
theorem word_Compares.eq (k : Nat) (a0 : Int) : run (E11 k) 20 112 [.v (.int .i64 a0)] [] (fun x _ => d5 x) = word_Compares.f a0 := by kernel_rfl
theorem word_Compares.calls (k : Nat) (a0 : Int) {w : World} (g : G w) {t : Bool} (h : word_Compares.f a0 = some t) : Calls Tryz.prog 112 #[.int .i64 a0] w fun e w' => e = .returned (d5e t) ∧ Below w.heap.size w w' :=
  (all11 k).calls (vs := [.int .i64 a0]) g d5_ok ((word_Compares.eq k a0).trans h)
noncomputable def word_Compares.s (k : Nat) : Sum := { T := Bool, get := fun l => match l with | [.int .i64 a0] => some (word_Compares.f a0) | _ => none, enc := d5e }
noncomputable def E12 (k : Nat) : Eng := (E11 k).add 112 (word_Compares.s k)
theorem all12 (k : Nat) : EngAll (E12 k) := (all11 k).add (by kernel_rfl) (by
  intro vs t w g h
  simp only [word_Compares.s] at h
  split at h
  · exact word_Compares.calls k _ (show G w from g) (Option.some.inj h)
  · cases h)

def d6 (x : AV) : Option (Int × Int) := match x with
  | .v (.agg ⟨[.int .u32 x0, .int .u32 x1]⟩) => some (x0, x1)
  | _ => none
def d6e (t : Int × Int) : Value := .agg ⟨[.int .u32 (t.1), .int .u32 (t.2)]⟩
theorem d6_ok (x : AV) (t : Int × Int) (h : d6 x = some t) : x = .v (d6e t) := by
  unfold d6 at h
  split at h
  · obtain rfl := Option.some.inj h
    rfl
  · cases h

/-! ### lamplighter/interval.One -/
def interval_One.f (a0 : Int) : Option (Int × Int) := some (a0, a0)
theorem interval_One.eq (k : Nat) (a0 : Int) : run (E12 k) 20 53 [.v (.int .u32 a0)] [] (fun x _ => d6 x) = interval_One.f a0 := by kernel_rfl
theorem interval_One.calls (k : Nat) (a0 : Int) {w : World} (g : G w) {t : Int × Int} (h : interval_One.f a0 = some t) : Calls Tryz.prog 53 #[.int .u32 a0] w fun e w' => e = .returned (d6e t) ∧ Below w.heap.size w w' :=
  (all12 k).calls (vs := [.int .u32 a0]) g d6_ok ((interval_One.eq k a0).trans h)
noncomputable def interval_One.s (k : Nat) : Sum := { T := Int × Int, get := fun l => match l with | [.int .u32 a0] => some (interval_One.f a0) | _ => none, enc := d6e }
noncomputable def E13 (k : Nat) : Eng := (E12 k).add 53 (interval_One.s k)
theorem all13 (k : Nat) : EngAll (E13 k) := (all12 k).add (by kernel_rfl) (by
  intro vs t w g h
  simp only [interval_One.s] at h
  split at h
  · exact interval_One.calls k _ (show G w from g) (Option.some.inj h)
  · cases h)

/-! ### lamplighter/interval.All -/
def interval_All.f : Option (Int × Int) := some (0, 4294967295)
theorem interval_All.eq (k : Nat) : run (E13 k) 20 72 [] [] (fun x _ => d6 x) = interval_All.f := by kernel_rfl
theorem interval_All.calls (k : Nat) {w : World} (g : G w) {t : Int × Int} (h : interval_All.f = some t) : Calls Tryz.prog 72 #[] w fun e w' => e = .returned (d6e t) ∧ Below w.heap.size w w' :=
  (all13 k).calls (vs := []) g d6_ok ((interval_All.eq k).trans h)
noncomputable def interval_All.s (k : Nat) : Sum := { T := Int × Int, get := fun l => match l with | [] => some (interval_All.f) | _ => none, enc := d6e }
noncomputable def E14 (k : Nat) : Eng := (E13 k).add 72 (interval_All.s k)
theorem all14 (k : Nat) : EngAll (E14 k) := (all13 k).add (by kernel_rfl) (by
  intro vs t w g h
  simp only [interval_All.s] at h
  split at h
  · exact interval_All.calls k (show G w from g) (Option.some.inj h)
  · cases h)

/-! ### lamplighter/interval.Join -/
def interval_Join.f (a0_0 : Int) (a0_1 : Int) (a1_0 : Int) (a1_1 : Int) : Option (Int × Int) := (br (ltI a0_1 a0_0) ((interval_All.f).bind fun t1 => some (t1.1, t1.2)) (br (ltI a1_1 a1_0) ((interval_All.f).bind fun t2 => some (t2.1, t2.2)) (some ((if a1_0 < a0_0 then a1_0 else a0_0), (if a1_1 > a0_1 then a1_1 else a0_1)))))
theorem interval_Join.eq (k : Nat) (a0_0 : Int) (a0_1 : Int) (a1_0 : Int) (a1_1 : Int) : run (E14 k) 20 42 [.v (.agg ⟨[.int .u32 a0_0, .int .u32 a0_1]⟩), .v (.agg ⟨[.int .u32 a1_0, .int .u32 a1_1]⟩)] [] (fun x _ => d6 x) = interval_Join.f a0_0 a0_1 a1_0 a1_1 := by kernel_rfl
theorem interval_Join.calls (k : Nat) (a0_0 : Int) (a0_1 : Int) (a1_0 : Int) (a1_1 : Int) {w : World} (g : G w) {t : Int × Int} (h : interval_Join.f a0_0 a0_1 a1_0 a1_1 = some t) : Calls Tryz.prog 42 #[.agg ⟨[.int .u32 a0_0, .int .u32 a0_1]⟩, .agg ⟨[.int .u32 a1_0, .int .u32 a1_1]⟩] w fun e w' => e = .returned (d6e t) ∧ Below w.heap.size w w' :=
  (all14 k).calls (vs := [.agg ⟨[.int .u32 a0_0, .int .u32 a0_1]⟩, .agg ⟨[.int .u32 a1_0, .int .u32 a1_1]⟩]) g d6_ok ((interval_Join.eq k a0_0 a0_1 a1_0 a1_1).trans h)
noncomputable def interval_Join.s (k : Nat) : Sum := { T := Int × Int, get := fun l => match l with | [.agg ⟨[.int .u32 a0_0, .int .u32 a0_1]⟩, .agg ⟨[.int .u32 a1_0, .int .u32 a1_1]⟩] => some (interval_Join.f a0_0 a0_1 a1_0 a1_1) | _ => none, enc := d6e }
noncomputable def E15 (k : Nat) : Eng := (E14 k).add 42 (interval_Join.s k)
theorem all15 (k : Nat) : EngAll (E15 k) := (all14 k).add (by kernel_rfl) (by
  intro vs t w g h
  simp only [interval_Join.s] at h
  split at h
  · exact interval_Join.calls k _ _ _ _ (show G w from g) (Option.some.inj h)
  · cases h)

/-! ### lamplighter/interval.Widen -/
def interval_Widen.b_l12 (k : Nat) (a0_0 : Int) (a0_1 : Int) (a1_0 : Int) (a1_1 : Int) (x5 : Int) (x6 : Int) (G : Int → Int → Option (Int × Int)) (x10 : Int) (x11 : Int) : Option (Int × Int) := (br (leI 0 x10) (br (eqI x10 0) (br (leI a1_1 0) (br (eqI x10 0) (G (IntKind.i64.wrap (x10 - 1)) 0) (br (eqI x10 1) (G (IntKind.i64.wrap (x10 - 1)) 1) (br (eqI x10 2) (G (IntKind.i64.wrap (x10 - 1)) 255) (br (eqI x10 3) (G (IntKind.i64.wrap (x10 - 1)) 256) (br (eqI x10 4) (G (IntKind.i64.wrap (x10 - 1)) 65535) (br (eqI x10 5) (G (IntKind.i64.wrap (x10 - 1)) 65536) (br (eqI x10 6) (G (IntKind.i64.wrap (x10 - 1)) 2147483647) (br (eqI x10 7) (G (IntKind.i64.wrap (x10 - 1)) 2147483648) (br (eqI x10 8) (G (IntKind.i64.wrap (x10 - 1)) 4294967295) none))))))))) (G (IntKind.i64.wrap (x10 - 1)) x11)) (br (eqI x10 1) (br (leI a1_1 1) (br (eqI x10 0) (G (IntKind.i64.wrap (x10 - 1)) 0) (br (eqI x10 1) (G (IntKind.i64.wrap (x10 - 1)) 1) (br (eqI x10 2) (G (IntKind.i64.wrap (x10 - 1)) 255) (br (eqI x10 3) (G (IntKind.i64.wrap (x10 - 1)) 256) (br (eqI x10 4) (G (IntKind.i64.wrap (x10 - 1)) 65535) (br (eqI x10 5) (G (IntKind.i64.wrap (x10 - 1)) 65536) (br (eqI x10 6) (G (IntKind.i64.wrap (x10 - 1)) 2147483647) (br (eqI x10 7) (G (IntKind.i64.wrap (x10 - 1)) 2147483648) (br (eqI x10 8) (G (IntKind.i64.wrap (x10 - 1)) 4294967295) none))))))))) (G (IntKind.i64.wrap (x10 - 1)) x11)) (br (eqI x10 2) (br (leI a1_1 255) (br (eqI x10 0) (G (IntKind.i64.wrap (x10 - 1)) 0) (br (eqI x10 1) (G (IntKind.i64.wrap (x10 - 1)) 1) (br (eqI x10 2) (G (IntKind.i64.wrap (x10 - 1)) 255) (br (eqI x10 3) (G (IntKind.i64.wrap (x10 - 1)) 256) (br (eqI x10 4) (G (IntKind.i64.wrap (x10 - 1)) 65535) (br (eqI x10 5) (G (IntKind.i64.wrap (x10 - 1)) 65536) (br (eqI x10 6) (G (IntKind.i64.wrap (x10 - 1)) 2147483647) (br (eqI x10 7) (G (IntKind.i64.wrap (x10 - 1)) 2147483648) (br (eqI x10 8) (G (IntKind.i64.wrap (x10 - 1)) 4294967295) none))))))))) (G (IntKind.i64.wrap (x10 - 1)) x11)) (br (eqI x10 3) (br (leI a1_1 256) (br (eqI x10 0) (G (IntKind.i64.wrap (x10 - 1)) 0) (br (eqI x10 1) (G (IntKind.i64.wrap (x10 - 1)) 1) (br (eqI x10 2) (G (IntKind.i64.wrap (x10 - 1)) 255) (br (eqI x10 3) (G (IntKind.i64.wrap (x10 - 1)) 256) (br (eqI x10 4) (G (IntKind.i64.wrap (x10 - 1)) 65535) (br (eqI x10 5) (G (IntKind.i64.wrap (x10 - 1)) 65536) (br (eqI x10 6) (G (IntKind.i64.wrap (x10 - 1)) 2147483647) (br (eqI x10 7) (G (IntKind.i64.wrap (x10 - 1)) 2147483648) (br (eqI x10 8) (G (IntKind.i64.wrap (x10 - 1)) 4294967295) none))))))))) (G (IntKind.i64.wrap (x10 - 1)) x11)) (br (eqI x10 4) (br (leI a1_1 65535) (br (eqI x10 0) (G (IntKind.i64.wrap (x10 - 1)) 0) (br (eqI x10 1) (G (IntKind.i64.wrap (x10 - 1)) 1) (br (eqI x10 2) (G (IntKind.i64.wrap (x10 - 1)) 255) (br (eqI x10 3) (G (IntKind.i64.wrap (x10 - 1)) 256) (br (eqI x10 4) (G (IntKind.i64.wrap (x10 - 1)) 65535) (br (eqI x10 5) (G (IntKind.i64.wrap (x10 - 1)) 65536) (br (eqI x10 6) (G (IntKind.i64.wrap (x10 - 1)) 2147483647) (br (eqI x10 7) (G (IntKind.i64.wrap (x10 - 1)) 2147483648) (br (eqI x10 8) (G (IntKind.i64.wrap (x10 - 1)) 4294967295) none))))))))) (G (IntKind.i64.wrap (x10 - 1)) x11)) (br (eqI x10 5) (br (leI a1_1 65536) (br (eqI x10 0) (G (IntKind.i64.wrap (x10 - 1)) 0) (br (eqI x10 1) (G (IntKind.i64.wrap (x10 - 1)) 1) (br (eqI x10 2) (G (IntKind.i64.wrap (x10 - 1)) 255) (br (eqI x10 3) (G (IntKind.i64.wrap (x10 - 1)) 256) (br (eqI x10 4) (G (IntKind.i64.wrap (x10 - 1)) 65535) (br (eqI x10 5) (G (IntKind.i64.wrap (x10 - 1)) 65536) (br (eqI x10 6) (G (IntKind.i64.wrap (x10 - 1)) 2147483647) (br (eqI x10 7) (G (IntKind.i64.wrap (x10 - 1)) 2147483648) (br (eqI x10 8) (G (IntKind.i64.wrap (x10 - 1)) 4294967295) none))))))))) (G (IntKind.i64.wrap (x10 - 1)) x11)) (br (eqI x10 6) (br (leI a1_1 2147483647) (br (eqI x10 0) (G (IntKind.i64.wrap (x10 - 1)) 0) (br (eqI x10 1) (G (IntKind.i64.wrap (x10 - 1)) 1) (br (eqI x10 2) (G (IntKind.i64.wrap (x10 - 1)) 255) (br (eqI x10 3) (G (IntKind.i64.wrap (x10 - 1)) 256) (br (eqI x10 4) (G (IntKind.i64.wrap (x10 - 1)) 65535) (br (eqI x10 5) (G (IntKind.i64.wrap (x10 - 1)) 65536) (br (eqI x10 6) (G (IntKind.i64.wrap (x10 - 1)) 2147483647) (br (eqI x10 7) (G (IntKind.i64.wrap (x10 - 1)) 2147483648) (br (eqI x10 8) (G (IntKind.i64.wrap (x10 - 1)) 4294967295) none))))))))) (G (IntKind.i64.wrap (x10 - 1)) x11)) (br (eqI x10 7) (br (leI a1_1 2147483648) (br (eqI x10 0) (G (IntKind.i64.wrap (x10 - 1)) 0) (br (eqI x10 1) (G (IntKind.i64.wrap (x10 - 1)) 1) (br (eqI x10 2) (G (IntKind.i64.wrap (x10 - 1)) 255) (br (eqI x10 3) (G (IntKind.i64.wrap (x10 - 1)) 256) (br (eqI x10 4) (G (IntKind.i64.wrap (x10 - 1)) 65535) (br (eqI x10 5) (G (IntKind.i64.wrap (x10 - 1)) 65536) (br (eqI x10 6) (G (IntKind.i64.wrap (x10 - 1)) 2147483647) (br (eqI x10 7) (G (IntKind.i64.wrap (x10 - 1)) 2147483648) (br (eqI x10 8) (G (IntKind.i64.wrap (x10 - 1)) 4294967295) none))))))))) (G (IntKind.i64.wrap (x10 - 1)) x11)) (br (eqI x10 8) (br (leI a1_1 4294967295) (br (eqI x10 0) (G (IntKind.i64.wrap (x10 - 1)) 0) (br (eqI x10 1) (G (IntKind.i64.wrap (x10 - 1)) 1) (br (eqI x10 2) (G (IntKind.i64.wrap (x10 - 1)) 255) (br (eqI x10 3) (G (IntKind.i64.wrap (x10 - 1)) 256) (br (eqI x10 4) (G (IntKind.i64.wrap (x10 - 1)) 65535) (br (eqI x10 5) (G (IntKind.i64.wrap (x10 - 1)) 65536) (br (eqI x10 6) (G (IntKind.i64.wrap (x10 - 1)) 2147483647) (br (eqI x10 7) (G (IntKind.i64.wrap (x10 - 1)) 2147483648) (br (eqI x10 8) (G (IntKind.i64.wrap (x10 - 1)) 4294967295) none))))))))) (G (IntKind.i64.wrap (x10 - 1)) x11)) none))))))))) (some (x6, x11)))
def interval_Widen.l12 (k : Nat) (a0_0 : Int) (a0_1 : Int) (a1_0 : Int) (a1_1 : Int) (x5 : Int) (x6 : Int) : Nat → Int → Int → Option (Int × Int)
  | 0, _, _ => none
  | n + 1, x10, x11 => interval_Widen.b_l12 k a0_0 a0_1 a1_0 a1_1 x5 x6 (interval_Widen.l12 k a0_0 a0_1 a1_0 a1_1 x5 x6 n) x10 x11
theorem interval_Widen.e_l12 (k : Nat) (a0_0 : Int) (a0_1 : Int) (a1_0 : Int) (a1_1 : Int) (x5 : Int) (x6 : Int) : ∀ (n : Nat) (x10 : Int) (x11 : Int), loopAt (E15 k) 19 47 Tryz.f47 (cod Tryz.f47) [1, 1, 1, 1, 0, 1, 1, 1, 1, 0] 43 n ⟨[(.v (.agg #[(.int .u32 a0_0), (.int .u32 a0_1)])), (.v (.agg #[(.int .u32 a1_0), (.int .u32 a1_1)])), (.p 0 0), (.p 1 0), (.p 2 0), (.p 15 0), (.v undef), .u, (.s 37 0 9 9), (.v (.int .i64 x10)), .u, .u, .u, .u, .u, .u, .u, .u, .u, .u, .u, .u, (.s 26 0 9 9), (.v (.int .i64 9)), (.v (.int .i64 x5)), .u, .u, .u, .u, .u, .u, .u, .u, .u, .u, .u, .u, .u, .u, .u, .u, .u, .u, .u, .u, .u, .u, .u, .u, .u, .u, .u, .u, .u, .u, .u, .u, .u, .u, .u, .u], [some (24, [(.v (.int .u32 a0_0)), (.v (.int .u32 a0_1))]), some (24, [(.v (.int .u32 a1_0)), (.v (.int .u32 a1_1))]), some (24, [(.v (.int .u32 0)), (.v (.int .u32 0))]), none, none, some (24, [(.v (.int .u32 a0_0)), (.v (.int .u32 a0_1)), (.v (.int .u32 a1_0)), (.v (.int .u32 a1_1))]), none, none, none, none, none, none, none, none, none, some (24, [(.v (.int .u32 x6)), (.v (.int .u32 x11))]), none, none, none, none, none, none, none, none, none, none, some (22, [(.v (.int .u32 0)), (.v (.int .u32 1)), (.v (.int .u32 255)), (.v (.int .u32 256)), (.v (.int .u32 65535)), (.v (.int .u32 65536)), (.v (.int .u32 2147483647)), (.v (.int .u32 2147483648)), (.v (.int .u32 4294967295))]), none, none, none, none, none, none, none, none, none, none, some (22, [(.v (.int .u32 0)), (.v (.int .u32 1)), (.v (.int .u32 255)), (.v (.int .u32 256)), (.v (.int .u32 65535)), (.v (.int .u32 65536)), (.v (.int .u32 2147483647)), (.v (.int .u32 2147483648)), (.v (.int .u32 4294967295))]), none, none, none, none, none]⟩ (fun x _ => d6 x) = interval_Widen.l12 k a0_0 a0_1 a1_0 a1_1 x5 x6 n x10 x11 := by
  intro n
  induction n with
  | zero => intros; rfl
  | succ n ih =>
    intro x10 x11
    have step : loopAt (E15 k) 19 47 Tryz.f47 (cod Tryz.f47) [1, 1, 1, 1, 0, 1, 1, 1, 1, 0] 43 (n + 1) ⟨[(.v (.agg #[(.int .u32 a0_0), (.int .u32 a0_1)])), (.v (.agg #[(.int .u32 a1_0), (.int .u32 a1_1)])), (.p 0 0), (.p 1 0), (.p 2 0), (.p 15 0), (.v undef), .u, (.s 37 0 9 9), (.v (.int .i64 x10)), .u, .u, .u, .u, .u, .u, .u, .u, .u, .u, .u, .u, (.s 26 0 9 9), (.v (.int .i64 9)), (.v (.int .i64 x5)), .u, .u, .u, .u, .u, .u, .u, .u, .u, .u, .u, .u, .u, .u, .u, .u, .u, .u, .u, .u, .u, .u, .u, .u, .u, .u, .u, .u, .u, .u, .u, .u, .u, .u, .u, .u], [some (24, [(.v (.int .u32 a0_0)), (.v (.int .u32 a0_1))]), some (24, [(.v (.int .u32 a1_0)), (.v (.int .u32 a1_1))]), some (24, [(.v (.int .u32 0)), (.v (.int .u32 0))]), none, none, some (24, [(.v (.int .u32 a0_0)), (.v (.int .u32 a0_1)), (.v (.int .u32 a1_0)), (.v (.int .u32 a1_1))]), none, none, none, none, none, none, none, none, none, some (24, [(.v (.int .u32 x6)), (.v (.int .u32 x11))]), none, none, none, none, none, none, none, none, none, none, some (22, [(.v (.int .u32 0)), (.v (.int .u32 1)), (.v (.int .u32 255)), (.v (.int .u32 256)), (.v (.int .u32 65535)), (.v (.int .u32 65536)), (.v (.int .u32 2147483647)), (.v (.int .u32 2147483648)), (.v (.int .u32 4294967295))]), none, none, none, none, none, none, none, none, none, none, some (22, [(.v (.int .u32 0)), (.v (.int .u32 1)), (.v (.int .u32 255)), (.v (.int .u32 256)), (.v (.int .u32 65535)), (.v (.int .u32 65536)), (.v (.int .u32 2147483647)), (.v (.int .u32 2147483648)), (.v (.int .u32 4294967295))]), none, none, none, none, none]⟩ (fun x _ => d6 x) = interval_Widen.b_l12 k a0_0 a0_1 a1_0 a1_1 x5 x6 (fun x10 x11 => loopAt (E15 k) 19 47 Tryz.f47 (cod Tryz.f47) [1, 1, 1, 1, 0, 1, 1, 1, 1, 0] 43 n ⟨[(.v (.agg #[(.int .u32 a0_0), (.int .u32 a0_1)])), (.v (.agg #[(.int .u32 a1_0), (.int .u32 a1_1)])), (.p 0 0), (.p 1 0), (.p 2 0), (.p 15 0), (.v undef), .u, (.s 37 0 9 9), (.v (.int .i64 x10)), .u, .u, .u, .u, .u, .u, .u, .u, .u, .u, .u, .u, (.s 26 0 9 9), (.v (.int .i64 9)), (.v (.int .i64 x5)), .u, .u, .u, .u, .u, .u, .u, .u, .u, .u, .u, .u, .u, .u, .u, .u, .u, .u, .u, .u, .u, .u, .u, .u, .u, .u, .u, .u, .u, .u, .u, .u, .u, .u, .u, .u], [some (24, [(.v (.int .u32 a0_0)), (.v (.int .u32 a0_1))]), some (24, [(.v (.int .u32 a1_0)), (.v (.int .u32 a1_1))]), some (24, [(.v (.int .u32 0)), (.v (.int .u32 0))]), none, none, some (24, [(.v (.int .u32 a0_0)), (.v (.int .u32 a0_1)), (.v (.int .u32 a1_0)), (.v (.int .u32 a1_1))]), none, none, none, none, none, none, none, none, none, some (24, [(.v (.int .u32 x6)), (.v (.int .u32 x11))]), none, none, none, none, none, none, none, none, none, none, some (22, [(.v (.int .u32 0)), (.v (.int .u32 1)), (.v (.int .u32 255)), (.v (.int .u32 256)), (.v (.int .u32 65535)), (.v (.int .u32 65536)), (.v (.int .u32 2147483647)), (.v (.int .u32 2147483648)), (.v (.int .u32 4294967295))]), none, none, none, none, none, none, none, none, none, none, some (22, [(.v (.int .u32 0)), (.v (.int .u32 1)), (.v (.int .u32 255)), (.v (.int .u32 256)), (.v (.int .u32 65535)), (.v (.int .u32 65536)), (.v (.int .u32 2147483647)), (.v (.int .u32 2147483648)), (.v (.int .u32 4294967295))]), none, none, none, none, none]⟩ (fun x _ => d6 x)) x10 x11 := by kernel_rfl
    rw [step]
    have e : (fun x10 x11 => loopAt (E15 k) 19 47 Tryz.f47 (cod Tryz.f47) [1, 1, 1, 1, 0, 1, 1, 1, 1, 0] 43 n ⟨[(.v (.agg #[(.int .u32 a0_0), (.int .u32 a0_1)])), (.v (.agg #[(.int .u32 a1_0), (.int .u32 a1_1)])), (.p 0 0), (.p 1 0), (.p 2 0), (.p 15 0), (.v undef), .u, (.s 37 0 9 9), (.v (.int .i64 x10)), .u, .u, .u, .u, .u, .u, .u, .u, .u, .u, .u, .u, (.s 26 0 9 9), (.v (.int .i64 9)), (.v (.int .i64 x5)), .u, .u, .u, .u, .u, .u, .u, .u, .u, .u, .u, .u, .u, .u, .u, .u, .u, .u, .u, .u, .u, .u, .u, .u, .u, .u, .u, .u, .u, .u, .u, .u, .u, .u, .u, .u], [some (24, [(.v (.int .u32 a0_0)), (.v (.int .u32 a0_1))]), some (24, [(.v (.int .u32 a1_0)), (.v (.int .u32 a1_1))]), some (24, [(.v (.int .u32 0)), (.v (.int .u32 0))]), none, none, some (24, [(.v (.int .u32 a0_0)), (.v (.int .u32 a0_1)), (.v (.int .u32 a1_0)), (.v (.int .u32 a1_1))]), none, none, none, none, none, none, none, none, none, some (24, [(.v (.int .u32 x6)), (.v (.int .u32 x11))]), none, none, none, none, none, none, none, none, none, none, some (22, [(.v (.int .u32 0)), (.v (.int .u32 1)), (.v (.int .u32 255)), (.v (.int .u32 256)), (.v (.int .u32 65535)), (.v (.int .u32 65536)), (.v (.int .u32 2147483647)), (.v (.int .u32 2147483648)), (.v (.int .u32 4294967295))]), none, none, none, none, none, none, none, none, none, none, some (22, [(.v (.int .u32 0)), (.v (.int .u32 1)), (.v (.int .u32 255)), (.v (.int .u32 256)), (.v (.int .u32 65535)), (.v (.int .u32 65536)), (.v (.int .u32 2147483647)), (.v (.int .u32 2147483648)), (.v (.int .u32 4294967295))]), none, none, none, none, none]⟩ (fun x _ => d6 x)) = interval_Widen.l12 k a0_0 a0_1 a1_0 a1_1 x5 x6 n := funext fun x10 => funext fun x11 => ih x10 x11
    rw [e]
    rfl
def interval_Widen.b_l7 (k : Nat) (a0_0 : Int) (a0_1 : Int) (a1_0 : Int) (a1_1 : Int) (H_l12 : Int → Int → Int → Int → Int → Int → Nat → Int → Int → Option (Int × Int)) (G : Int → Int → Option (Int × Int)) (x5 : Int) (x6 : Int) : Option (Int × Int) := (br (ltI x5 9) (br (eqI x5 0) (br (leI 0 a1_0) (G (IntKind.i64.wrap (x5 + 1)) 0) (G (IntKind.i64.wrap (x5 + 1)) x6)) (br (eqI x5 1) (br (leI 1 a1_0) (G (IntKind.i64.wrap (x5 + 1)) 1) (G (IntKind.i64.wrap (x5 + 1)) x6)) (br (eqI x5 2) (br (leI 255 a1_0) (G (IntKind.i64.wrap (x5 + 1)) 255) (G (IntKind.i64.wrap (x5 + 1)) x6)) (br (eqI x5 3) (br (leI 256 a1_0) (G (IntKind.i64.wrap (x5 + 1)) 256) (G (IntKind.i64.wrap (x5 + 1)) x6)) (br (eqI x5 4) (br (leI 65535 a1_0) (G (IntKind.i64.wrap (x5 + 1)) 65535) (G (IntKind.i64.wrap (x5 + 1)) x6)) (br (eqI x5 5) (br (leI 65536 a1_0) (G (IntKind.i64.wrap (x5 + 1)) 65536) (G (IntKind.i64.wrap (x5 + 1)) x6)) (br (eqI x5 6) (br (leI 2147483647 a1_0) (G (IntKind.i64.wrap (x5 + 1)) 2147483647) (G (IntKind.i64.wrap (x5 + 1)) x6)) (br (eqI x5 7) (br (leI 2147483648 a1_0) (G (IntKind.i64.wrap (x5 + 1)) 2147483648) (G (IntKind.i64.wrap (x5 + 1)) x6)) (br (eqI x5 8) (br (leI 4294967295 a1_0) (G (IntKind.i64.wrap (x5 + 1)) 4294967295) (G (IntKind.i64.wrap (x5 + 1)) x6)) none))))))))) (br (ltI a0_1 a1_1) (H_l12 a0_0 a0_1 a1_0 a1_1 x5 x6 k 8 a0_1) (some (x6, a0_1))))
def interval_Widen.l7 (k : Nat) (a0_0 : Int) (a0_1 : Int) (a1_0 : Int) (a1_1 : Int) : Nat → Int → Int → Option (Int × Int)
  | 0, _, _ => none
  | n + 1, x5, x6 => interval_Widen.b_l7 k a0_0 a0_1 a1_0 a1_1 (interval_Widen.l12 k) (interval_Widen.l7 k a0_0 a0_1 a1_0 a1_1 n) x5 x6
theorem interval_Widen.e_l7 (k : Nat) (a0_0 : Int) (a0_1 : Int) (a1_0 : Int) (a1_1 : Int) : ∀ (n : Nat) (x5 : Int) (x6 : Int), loopAt (E15 k) 19 47 Tryz.f47 (cod Tryz.f47) [1, 1, 1, 0, 1, 1, 1, 0] 28 n ⟨[(.v (.agg #[(.int .u32 a0_0), (.int .u32 a0_1)])), (.v (.agg #[(.int .u32 a1_0), (.int .u32 a1_1)])), (.p 0 0), (.p 1 0), (.p 2 0), (.p 15 0), (.v undef), .u, (.v undef), (.v undef), .u, .u, .u, .u, .u, .u, .u, .u, .u, .u, .u, .u, (.s 26 0 9 9), (.v (.int .i64 9)), (.v (.int .i64 x5)), .u, .u, .u, .u, .u, .u, .u, .u, .u, .u, .u, .u, .u, .u, .u, .u, .u, .u, .u, .u, .u, .u, .u, .u, .u, .u, .u, .u, .u, .u, .u, .u, .u, .u, .u, .u], [some (24, [(.v (.int .u32 a0_0)), (.v (.int .u32 a0_1))]), some (24, [(.v (.int .u32 a1_0)), (.v (.int .u32 a1_1))]), some (24, [(.v (.int .u32 0)), (.v (.int .u32 0))]), none, none, some (24, [(.v (.int .u32 a0_0)), (.v (.int .u32 a0_1)), (.v (.int .u32 a1_0)), (.v (.int .u32 a1_1))]), none, none, none, none, none, none, none, none, none, some (24, [(.v (.int .u32 x6)), (.v (.int .u32 a0_1))]), none, none, none, none, none, none, none, none, none, none, some (22, [(.v (.int .u32 0)), (.v (.int .u32 1)), (.v (.int .u32 255)), (.v (.int .u32 256)), (.v (.int .u32 65535)), (.v (.int .u32 65536)), (.v (.int .u32 2147483647)), (.v (.int .u32 2147483648)), (.v (.int .u32 4294967295))]), none]⟩ (fun x _ => d6 x) = interval_Widen.l7 k a0_0 a0_1 a1_0 a1_1 n x5 x6 := by
  intro n
  induction n with
  | zero => intros; rfl
  | succ n ih =>
    intro x5 x6
    have step : loopAt (E15 k) 19 47 Tryz.f47 (cod Tryz.f47) [1, 1, 1, 0, 1, 1, 1, 0] 28 (n + 1) ⟨[(.v (.agg #[(.int .u32 a0_0), (.int .u32 a0_1)])), (.v (.agg #[(.int .u32 a1_0), (.int .u32 a1_1)])), (.p 0 0), (.p 1 0), (.p 2 0), (.p 15 0), (.v undef), .u, (.v undef), (.v undef), .u, .u, .u, .u, .u, .u, .u, .u, .u, .u, .u, .u, (.s 26 0 9 9), (.v (.int .i64 9)), (.v (.int .i64 x5)), .u, .u, .u, .u, .u, .u, .u, .u, .u, .u, .u, .u, .u, .u, .u, .u, .u, .u, .u, .u, .u, .u, .u, .u, .u, .u, .u, .u, .u, .u, .u, .u, .u, .u, .u, .u], [some (24, [(.v (.int .u32 a0_0)), (.v (.int .u32 a0_1))]), some (24, [(.v (.int .u32 a1_0)), (.v (.int .u32 a1_1))]), some (24, [(.v (.int .u32 0)), (.v (.int .u32 0))]), none, none, some (24, [(.v (.int .u32 a0_0)), (.v (.int .u32 a0_1)), (.v (.int .u32 a1_0)), (.v (.int .u32 a1_1))]), none, none, none, none, none, none, none, none, none, some (24, [(.v (.int .u32 x6)), (.v (.int .u32 a0_1))]), none, none, none, none, none, none, none, none, none, none, some (22, [(.v (.int .u32 0)), (.v (.int .u32 1)), (.v (.int .u32 255)), (.v (.int .u32 256)), (.v (.int .u32 65535)), (.v (.int .u32 65536)), (.v (.int .u32 2147483647)), (.v (.int .u32 2147483648)), (.v (.int .u32 4294967295))]), none]⟩ (fun x _ => d6 x) = interval_Widen.b_l7 k a0_0 a0_1 a1_0 a1_1 (fun a0_0 a0_1 a1_0 a1_1 x5 x6 n x10 x11 => loopAt (E15 k) 19 47 Tryz.f47 (cod Tryz.f47) [1, 1, 1, 1, 0, 1, 1, 1, 1, 0] 43 n ⟨[(.v (.agg #[(.int .u32 a0_0), (.int .u32 a0_1)])), (.v (.agg #[(.int .u32 a1_0), (.int .u32 a1_1)])), (.p 0 0), (.p 1 0), (.p 2 0), (.p 15 0), (.v undef), .u, (.s 37 0 9 9), (.v (.int .i64 x10)), .u, .u, .u, .u, .u, .u, .u, .u, .u, .u, .u, .u, (.s 26 0 9 9), (.v (.int .i64 9)), (.v (.int .i64 x5)), .u, .u, .u, .u, .u, .u, .u, .u, .u, .u, .u, .u, .u, .u, .u, .u, .u, .u, .u, .u, .u, .u, .u, .u, .u, .u, .u, .u, .u, .u, .u, .u, .u, .u, .u, .u], [some (24, [(.v (.int .u32 a0_0)), (.v (.int .u32 a0_1))]), some (24, [(.v (.int .u32 a1_0)), (.v (.int .u32 a1_1))]), some (24, [(.v (.int .u32 0)), (.v (.int .u32 0))]), none, none, some (24, [(.v (.int .u32 a0_0)), (.v (.int .u32 a0_1)), (.v (.int .u32 a1_0)), (.v (.int .u32 a1_1))]), none, none, none, none, none, none, none, none, none, some (24, [(.v (.int .u32 x6)), (.v (.int .u32 x11))]), none, none, none, none, none, none, none, none, none, none, some (22, [(.v (.int .u32 0)), (.v (.int .u32 1)), (.v (.int .u32 255)), (.v (.int .u32 256)), (.v (.int .u32 65535)), (.v (.int .u32 65536)), (.v (.int .u32 2147483647)), (.v (.int .u32 2147483648)), (.v (.int .u32 4294967295))]), none, none, none, none, none, none, none, none, none, none, some (22, [(.v (.int .u32 0)), (.v (.int .u32 1)), (.v (.int .u32 255)), (.v (.int .u32 256)), (.v (.int .u32 65535)), (.v (.int .u32 65536)), (.v (.int .u32 2147483647)), (.v (.int .u32 2147483648)), (.v (.int .u32 4294967295))]), none, none, none, none, none]⟩ (fun x _ => d6 x)) (fun x5 x6 => loopAt (E15 k) 19 47 Tryz.f47 (cod Tryz.f47) [1, 1, 1, 0, 1, 1, 1, 0] 28 n ⟨[(.v (.agg #[(.int .u32 a0_0), (.int .u32 a0_1)])), (.v (.agg #[(.int .u32 a1_0), (.int .u32 a1_1)])), (.p 0 0), (.p 1 0), (.p 2 0), (.p 15 0), (.v undef), .u, (.v undef), (.v undef), .u, .u, .u, .u, .u, .u, .u, .u, .u, .u, .u, .u, (.s 26 0 9 9), (.v (.int .i64 9)), (.v (.int .i64 x5)), .u, .u, .u, .u, .u, .u, .u, .u, .u, .u, .u, .u, .u, .u, .u, .u, .u, .u, .u, .u, .u, .u, .u, .u, .u, .u, .u, .u, .u, .u, .u, .u, .u, .u, .u, .u], [some (24, [(.v (.int .u32 a0_0)), (.v (.int .u32 a0_1))]), some (24, [(.v (.int .u32 a1_0)), (.v (.int .u32 a1_1))]), some (24, [(.v (.int .u32 0)), (.v (.int .u32 0))]), none, none, some (24, [(.v (.int .u32 a0_0)), (.v (.int .u32 a0_1)), (.v (.int .u32 a1_0)), (.v (.int .u32 a1_1))]), none, none, none, none, none, none, none, none, none, some (24, [(.v (.int .u32 x6)), (.v (.int .u32 a0_1))]), none, none, none, none, none, none, none, none, none, none, some (22, [(.v (.int .u32 0)), (.v (.int .u32 1)), (.v (.int .u32 255)), (.v (.int .u32 256)), (.v (.int .u32 65535)), (.v (.int .u32 65536)), (.v (.int .u32 2147483647)), (.v (.int .u32 2147483648)), (.v (.int .u32 4294967295))]), none]⟩ (fun x _ => d6 x)) x5 x6 := by kernel_rfl
    rw [step]
    have e : (fun x5 x6 => loopAt (E15 k) 19 47 Tryz.f47 (cod Tryz.f47) [1, 1, 1, 0, 1, 1, 1, 0] 28 n ⟨[(.v (.agg #[(.int .u32 a0_0), (.int .u32 a0_1)])), (.v (.agg #[(.int .u32 a1_0), (.int .u32 a1_1)])), (.p 0 0), (.p 1 0), (.p 2 0), (.p 15 0), (.v undef), .u, (.v undef), (.v undef), .u, .u, .u, .u, .u, .u, .u, .u, .u, .u, .u, .u, (.s 26 0 9 9), (.v (.int .i64 9)), (.v (.int .i64 x5)), .u, .u, .u, .u, .u, .u, .u, .u, .u, .u, .u, .u, .u, .u, .u, .u, .u, .u, .u, .u, .u, .u, .u, .u, .u, .u, .u, .u, .u, .u, .u, .u, .u, .u, .u, .u], [some (24, [(.v (.int .u32 a0_0)), (.v (.int .u32 a0_1))]), some (24, [(.v (.int .u32 a1_0)), (.v (.int .u32 a1_1))]), some (24, [(.v (.int .u32 0)), (.v (.int .u32 0))]), none, none, some (24, [(.v (.int .u32 a0_0)), (.v (.int .u32 a0_1)), (.v (.int .u32 a1_0)), (.v (.int .u32 a1_1))]), none, none, none, none, none, none, none, none, none, some (24, [(.v (.int .u32 x6)), (.v (.int .u32 a0_1))]), none, none, none, none, none, none, none, none, none, none, some (22, [(.v (.int .u32 0)), (.v (.int .u32 1)), (.v (.int .u32 255)), (.v (.int .u32 256)), (.v (.int .u32 65535)), (.v (.int .u32 65536)), (.v (.int .u32 2147483647)), (.v (.int .u32 2147483648)), (.v (.int .u32 4294967295))]), none]⟩ (fun x _ => d6 x)) = interval_Widen.l7 k a0_0 a0_1 a1_0 a1_1 n := funext fun x5 => funext fun x6 => ih x5 x6
    rw [e]
    have e_l12 : (fun a0_0 a0_1 a1_0 a1_1 x5 x6 n x10 x11 => loopAt (E15 k) 19 47 Tryz.f47 (cod Tryz.f47) [1, 1, 1, 1, 0, 1, 1, 1, 1, 0] 43 n ⟨[(.v (.agg #[(.int .u32 a0_0), (.int .u32 a0_1)])), (.v (.agg #[(.int .u32 a1_0), (.int .u32 a1_1)])), (.p 0 0), (.p 1 0), (.p 2 0), (.p 15 0), (.v undef), .u, (.s 37 0 9 9), (.v (.int .i64 x10)), .u, .u, .u, .u, .u, .u, .u, .u, .u, .u, .u, .u, (.s 26 0 9 9), (.v (.int .i64 9)), (.v (.int .i64 x5)), .u, .u, .u, .u, .u, .u, .u, .u, .u, .u, .u, .u, .u, .u, .u, .u, .u, .u, .u, .u, .u, .u, .u, .u, .u, .u, .u, .u, .u, .u, .u, .u, .u, .u, .u, .u], [some (24, [(.v (.int .u32 a0_0)), (.v (.int .u32 a0_1))]), some (24, [(.v (.int .u32 a1_0)), (.v (.int .u32 a1_1))]), some (24, [(.v (.int .u32 0)), (.v (.int .u32 0))]), none, none, some (24, [(.v (.int .u32 a0_0)), (.v (.int .u32 a0_1)), (.v (.int .u32 a1_0)), (.v (.int .u32 a1_1))]), none, none, none, none, none, none, none, none, none, some (24, [(.v (.int .u32 x6)), (.v (.int .u32 x11))]), none, none, none, none, none, none, none, none, none, none, some (22, [(.v (.int .u32 0)), (.v (.int .u32 1)), (.v (.int .u32 255)), (.v (.int .u32 256)), (.v (.int .u32 65535)), (.v (.int .u32 65536)), (.v (.int .u32 2147483647)), (.v (.int .u32 2147483648)), (.v (.int .u32 4294967295))]), none, none, none, none, none, none, none, none, none, none, some (22, [(.v (.int .u32 0)), (.v (.int .u32 1)), (.v (.int .u32 255)), (.v (.int .u32 256)), (.v (.int .u32 65535)), (.v (.int .u32 65536)), (.v (.int .u32 2147483647)), (.v (.int .u32 2147483648)), (.v (.int .u32 4294967295))]), none, none, none, none, none]⟩ (fun x _ => d6 x)) = interval_Widen.l12 k := funext fun a0_0 => funext fun a0_1 => funext fun a1_0 => funext fun a1_1 => funext fun x5 => funext fun x6 => funext fun n => funext fun x10 => funext fun x11 => interval_Widen.e_l12 k a0_0 a0_1 a1_0 a1_1 x5 x6 n x10 x11
    rw [e_l12]
    rfl
def interval_Widen.b_l17 (k : Nat) (a0_0 : Int) (a0_1 : Int) (a1_0 : Int) (a1_1 : Int) (G : Int → Int → Option (Int × Int)) (x15 : Int) (x16 : Int) : Option (Int × Int) := (br (leI 0 x15) (br (eqI x15 0) (br (leI a1_1 0) (br (eqI x15 0) (G (IntKind.i64.wrap (x15 - 1)) 0) (br (eqI x15 1) (G (IntKind.i64.wrap (x15 - 1)) 1) (br (eqI x15 2) (G (IntKind.i64.wrap (x15 - 1)) 255) (br (eqI x15 3) (G (IntKind.i64.wrap (x15 - 1)) 256) (br (eqI x15 4) (G (IntKind.i64.wrap (x15 - 1)) 65535) (br (eqI x15 5) (G (IntKind.i64.wrap (x15 - 1)) 65536) (br (eqI x15 6) (G (IntKind.i64.wrap (x15 - 1)) 2147483647) (br (eqI x15 7) (G (IntKind.i64.wrap (x15 - 1)) 2147483648) (br (eqI x15 8) (G (IntKind.i64.wrap (x15 - 1)) 4294967295) none))))))))) (G (IntKind.i64.wrap (x15 - 1)) x16)) (br (eqI x15 1) (br (leI a1_1 1) (br (eqI x15 0) (G (IntKind.i64.wrap (x15 - 1)) 0) (br (eqI x15 1) (G (IntKind.i64.wrap (x15 - 1)) 1) (br (eqI x15 2) (G (IntKind.i64.wrap (x15 - 1)) 255) (br (eqI x15 3) (G (IntKind.i64.wrap (x15 - 1)) 256) (br (eqI x15 4) (G (IntKind.i64.wrap (x15 - 1)) 65535) (br (eqI x15 5) (G (IntKind.i64.wrap (x15 - 1)) 65536) (br (eqI x15 6) (G (IntKind.i64.wrap (x15 - 1)) 2147483647) (br (eqI x15 7) (G (IntKind.i64.wrap (x15 - 1)) 2147483648) (br (eqI x15 8) (G (IntKind.i64.wrap (x15 - 1)) 4294967295) none))))))))) (G (IntKind.i64.wrap (x15 - 1)) x16)) (br (eqI x15 2) (br (leI a1_1 255) (br (eqI x15 0) (G (IntKind.i64.wrap (x15 - 1)) 0) (br (eqI x15 1) (G (IntKind.i64.wrap (x15 - 1)) 1) (br (eqI x15 2) (G (IntKind.i64.wrap (x15 - 1)) 255) (br (eqI x15 3) (G (IntKind.i64.wrap (x15 - 1)) 256) (br (eqI x15 4) (G (IntKind.i64.wrap (x15 - 1)) 65535) (br (eqI x15 5) (G (IntKind.i64.wrap (x15 - 1)) 65536) (br (eqI x15 6) (G (IntKind.i64.wrap (x15 - 1)) 2147483647) (br (eqI x15 7) (G (IntKind.i64.wrap (x15 - 1)) 2147483648) (br (eqI x15 8) (G (IntKind.i64.wrap (x15 - 1)) 4294967295) none))))))))) (G (IntKind.i64.wrap (x15 - 1)) x16)) (br (eqI x15 3) (br (leI a1_1 256) (br (eqI x15 0) (G (IntKind.i64.wrap (x15 - 1)) 0) (br (eqI x15 1) (G (IntKind.i64.wrap (x15 - 1)) 1) (br (eqI x15 2) (G (IntKind.i64.wrap (x15 - 1)) 255) (br (eqI x15 3) (G (IntKind.i64.wrap (x15 - 1)) 256) (br (eqI x15 4) (G (IntKind.i64.wrap (x15 - 1)) 65535) (br (eqI x15 5) (G (IntKind.i64.wrap (x15 - 1)) 65536) (br (eqI x15 6) (G (IntKind.i64.wrap (x15 - 1)) 2147483647) (br (eqI x15 7) (G (IntKind.i64.wrap (x15 - 1)) 2147483648) (br (eqI x15 8) (G (IntKind.i64.wrap (x15 - 1)) 4294967295) none))))))))) (G (IntKind.i64.wrap (x15 - 1)) x16)) (br (eqI x15 4) (br (leI a1_1 65535) (br (eqI x15 0) (G (IntKind.i64.wrap (x15 - 1)) 0) (br (eqI x15 1) (G (IntKind.i64.wrap (x15 - 1)) 1) (br (eqI x15 2) (G (IntKind.i64.wrap (x15 - 1)) 255) (br (eqI x15 3) (G (IntKind.i64.wrap (x15 - 1)) 256) (br (eqI x15 4) (G (IntKind.i64.wrap (x15 - 1)) 65535) (br (eqI x15 5) (G (IntKind.i64.wrap (x15 - 1)) 65536) (br (eqI x15 6) (G (IntKind.i64.wrap (x15 - 1)) 2147483647) (br (eqI x15 7) (G (IntKind.i64.wrap (x15 - 1)) 2147483648) (br (eqI x15 8) (G (IntKind.i64.wrap (x15 - 1)) 4294967295) none))))))))) (G (IntKind.i64.wrap (x15 - 1)) x16)) (br (eqI x15 5) (br (leI a1_1 65536) (br (eqI x15 0) (G (IntKind.i64.wrap (x15 - 1)) 0) (br (eqI x15 1) (G (IntKind.i64.wrap (x15 - 1)) 1) (br (eqI x15 2) (G (IntKind.i64.wrap (x15 - 1)) 255) (br (eqI x15 3) (G (IntKind.i64.wrap (x15 - 1)) 256) (br (eqI x15 4) (G (IntKind.i64.wrap (x15 - 1)) 65535) (br (eqI x15 5) (G (IntKind.i64.wrap (x15 - 1)) 65536) (br (eqI x15 6) (G (IntKind.i64.wrap (x15 - 1)) 2147483647) (br (eqI x15 7) (G (IntKind.i64.wrap (x15 - 1)) 2147483648) (br (eqI x15 8) (G (IntKind.i64.wrap (x15 - 1)) 4294967295) none))))))))) (G (IntKind.i64.wrap (x15 - 1)) x16)) (br (eqI x15 6) (br (leI a1_1 2147483647) (br (eqI x15 0) (G (IntKind.i64.wrap (x15 - 1)) 0) (br (eqI x15 1) (G (IntKind.i64.wrap (x15 - 1)) 1) (br (eqI x15 2) (G (IntKind.i64.wrap (x15 - 1)) 255) (br (eqI x15 3) (G (IntKind.i64.wrap (x15 - 1)) 256) (br (eqI x15 4) (G (IntKind.i64.wrap (x15 - 1)) 65535) (br (eqI x15 5) (G (IntKind.i64.wrap (x15 - 1)) 65536) (br (eqI x15 6) (G (IntKind.i64.wrap (x15 - 1)) 2147483647) (br (eqI x15 7) (G (IntKind.i64.wrap (x15 - 1)) 2147483648) (br (eqI x15 8) (G (IntKind.i64.wrap (x15 - 1)) 4294967295) none))))))))) (G (IntKind.i64.wrap (x15 - 1)) x16)) (br (eqI x15 7) (br (leI a1_1 2147483648) (br (eqI x15 0) (G (IntKind.i64.wrap (x15 - 1)) 0) (br (eqI x15 1) (G (IntKind.i64.wrap (x15 - 1)) 1) (br (eqI x15 2) (G (IntKind.i64.wrap (x15 - 1)) 255) (br (eqI x15 3) (G (IntKind.i64.wrap (x15 - 1)) 256) (br (eqI x15 4) (G (IntKind.i64.wrap (x15 - 1)) 65535) (br (eqI x15 5) (G (IntKind.i64.wrap (x15 - 1)) 65536) (br (eqI x15 6) (G (IntKind.i64.wrap (x15 - 1)) 2147483647) (br (eqI x15 7) (G (IntKind.i64.wrap (x15 - 1)) 2147483648) (br (eqI x15 8) (G (IntKind.i64.wrap (x15 - 1)) 4294967295) none))))))))) (G (IntKind.i64.wrap (x15 - 1)) x16)) (br (eqI x15 8) (br (leI a1_1 4294967295) (br (eqI x15 0) (G (IntKind.i64.wrap (x15 - 1)) 0) (br (eqI x15 1) (G (IntKind.i64.wrap (x15 - 1)) 1) (br (eqI x15 2) (G (IntKind.i64.wrap (x15 - 1)) 255) (br (eqI x15 3) (G (IntKind.i64.wrap (x15 - 1)) 256) (br (eqI x15 4) (G (IntKind.i64.wrap (x15 - 1)) 65535) (br (eqI x15 5) (G (IntKind.i64.wrap (x15 - 1)) 65536) (br (eqI x15 6) (G (IntKind.i64.wrap (x15 - 1)) 2147483647) (br (eqI x15 7) (G (IntKind.i64.wrap (x15 - 1)) 2147483648) (br (eqI x15 8) (G (IntKind.i64.wrap (x15 - 1)) 4294967295) none))))))))) (G (IntKind.i64.wrap (x15 - 1)) x16)) none))))))))) (some (a0_0, x16)))
def interval_Widen.l17 (k : Nat) (a0_0 : Int) (a0_1 : Int) (a1_0 : Int) (a1_1 : Int) : Nat → Int → Int → Option (Int × Int)
  | 0, _, _ => none
  | n + 1, x15, x16 => interval_Widen.b_l17 k a0_0 a0_1 a1_0 a1_1 (interval_Widen.l17 k a0_0 a0_1 a1_0 a1_1 n) x15 x16
theorem interval_Widen.e_l17 (k : Nat) (a0_0 : Int) (a0_1 : Int) (a1_0 : Int) (a1_1 : Int) : ∀ (n : Nat) (x15 : Int) (x16 : Int), loopAt (E15 k) 19 47 Tryz.f47 (cod Tryz.f47) [1, 1, 1, 1, 0, 1, 1, 1, 1, 0] 36 n ⟨[(.v (.agg #[(.int .u32 a0_0), (.int .u32 a0_1)])), (.v (.agg #[(.int .u32 a1_0), (.int .u32 a1_1)])), (.p 0 0), (.p 1 0), (.p 2 0), (.p 15 0), (.v undef), .u, (.s 30 0 9 9), (.v (.int .i64 x15)), .u, .u, .u, .u, .u, .u, .u, .u, .u, .u, .u, .u, (.v undef), (.v undef), (.v undef), .u, .u, .u, .u, .u, .u, .u, .u, .u, .u, .u, .u, .u, .u, .u, .u, .u, .u, .u, .u, .u, .u, .u, .u, .u, .u, .u, .u, .u, .u, .u, .u, .u, .u, .u, .u], [some (24, [(.v (.int .u32 a0_0)), (.v (.int .u32 a0_1))]), some (24, [(.v (.int .u32 a1_0)), (.v (.int .u32 a1_1))]), some (24, [(.v (.int .u32 0)), (.v (.int .u32 0))]), none, none, some (24, [(.v (.int .u32 a0_0)), (.v (.int .u32 a0_1)), (.v (.int .u32 a1_0)), (.v (.int .u32 a1_1))]), none, none, none, none, none, none, none, none, none, some (24, [(.v (.int .u32 a0_0)), (.v (.int .u32 x16))]), none, none, none, none, none, none, none, none, none, none, none, none, none, none, some (22, [(.v (.int .u32 0)), (.v (.int .u32 1)), (.v (.int .u32 255)), (.v (.int .u32 256)), (.v (.int .u32 65535)), (.v (.int .u32 65536)), (.v (.int .u32 2147483647)), (.v (.int .u32 2147483648)), (.v (.int .u32 4294967295))]), none, none, none, none, none]⟩ (fun x _ => d6 x) = interval_Widen.l17 k a0_0 a0_1 a1_0 a1_1 n x15 x16 := by
  intro n
  induction n with
  | zero => intros; rfl
  | succ n ih =>
    intro x15 x16
    have step : loopAt (E15 k) 19 47 Tryz.f47 (cod Tryz.f47) [1, 1, 1, 1, 0, 1, 1, 1, 1, 0] 36 (n + 1) ⟨[(.v (.agg #[(.int .u32 a0_0), (.int .u32 a0_1)])), (.v (.agg #[(.int .u32 a1_0), (.int .u32 a1_1)])), (.p 0 0), (.p 1 0), (.p 2 0), (.p 15 0), (.v undef), .u, (.s 30 0 9 9), (.v (.int .i64 x15)), .u, .u, .u, .u, .u, .u, .u, .u, .u, .u, .u, .u, (.v undef), (.v undef), (.v undef), .u, .u, .u, .u, .u, .u, .u, .u, .u, .u, .u, .u, .u, .u, .u, .u, .u, .u, .u, .u, .u, .u, .u, .u, .u, .u, .u, .u, .u, .u, .u, .u, .u, .u, .u, .u], [some (24, [(.v (.int .u32 a0_0)), (.v (.int .u32 a0_1))]), some (24, [(.v (.int .u32 a1_0)), (.v (.int .u32 a1_1))]), some (24, [(.v (.int .u32 0)), (.v (.int .u32 0))]), none, none, some (24, [(.v (.int .u32 a0_0)), (.v (.int .u32 a0_1)), (.v (.int .u32 a1_0)), (.v (.int .u32 a1_1))]), none, none, none, none, none, none, none, none, none, some (24, [(.v (.int .u32 a0_0)), (.v (.int .u32 x16))]), none, none, none, none, none, none, none, none, none, none, none, none, none, none, some (22, [(.v (.int .u32 0)), (.v (.int .u32 1)), (.v (.int .u32 255)), (.v (.int .u32 256)), (.v (.int .u32 65535)), (.v (.int .u32 65536)), (.v (.int .u32 2147483647)), (.v (.int .u32 2147483648)), (.v (.int .u32 4294967295))]), none, none, none, none, none]⟩ (fun x _ => d6 x) = interval_Widen.b_l17 k a0_0 a0_1 a1_0 a1_1 (fun x15 x16 => loopAt (E15 k) 19 47 Tryz.f47 (cod Tryz.f47) [1, 1, 1, 1, 0, 1, 1, 1, 1, 0] 36 n ⟨[(.v (.agg #[(.int .u32 a0_0), (.int .u32 a0_1)])), (.v (.agg #[(.int .u32 a1_0), (.int .u32 a1_1)])), (.p 0 0), (.p 1 0), (.p 2 0), (.p 15 0), (.v undef), .u, (.s 30 0 9 9), (.v (.int .i64 x15)), .u, .u, .u, .u, .u, .u, .u, .u, .u, .u, .u, .u, (.v undef), (.v undef), (.v undef), .u, .u, .u, .u, .u, .u, .u, .u, .u, .u, .u, .u, .u, .u, .u, .u, .u, .u, .u, .u, .u, .u, .u, .u, .u, .u, .u, .u, .u, .u, .u, .u, .u, .u, .u, .u], [some (24, [(.v (.int .u32 a0_0)), (.v (.int .u32 a0_1))]), some (24, [(.v (.int .u32 a1_0)), (.v (.int .u32 a1_1))]), some (24, [(.v (.int .u32 0)), (.v (.int .u32 0))]), none, none, some (24, [(.v (.int .u32 a0_0)), (.v (.int .u32 a0_1)), (.v (.int .u32 a1_0)), (.v (.int .u32 a1_1))]), none, none, none, none, none, none, none, none, none, some (24, [(.v (.int .u32 a0_0)), (.v (.int .u32 x16))]), none, none, none, none, none, none, none, none, none, none, none, none, none, none, some (22, [(.v (.int .u32 0)), (.v (.int .u32 1)), (.v (.int .u32 255)), (.v (.int .u32 256)), (.v (.int .u32 65535)), (.v (.int .u32 65536)), (.v (.int .u32 2147483647)), (.v (.int .u32 2147483648)), (.v (.int .u32 4294967295))]), none, none, none, none, none]⟩ (fun x _ => d6 x)) x15 x16 := by kernel_rfl
    rw [step]
    have e : (fun x15 x16 => loopAt (E15 k) 19 47 Tryz.f47 (cod Tryz.f47) [1, 1, 1, 1, 0, 1, 1, 1, 1, 0] 36 n ⟨[(.v (.agg #[(.int .u32 a0_0), (.int .u32 a0_1)])), (.v (.agg #[(.int .u32 a1_0), (.int .u32 a1_1)])), (.p 0 0), (.p 1 0), (.p 2 0), (.p 15 0), (.v undef), .u, (.s 30 0 9 9), (.v (.int .i64 x15)), .u, .u, .u, .u, .u, .u, .u, .u, .u, .u, .u, .u, (.v undef), (.v undef), (.v undef), .u, .u, .u, .u, .u, .u, .u, .u, .u, .u, .u, .u, .u, .u, .u, .u, .u, .u, .u, .u, .u, .u, .u, .u, .u, .u, .u, .u, .u, .u, .u, .u, .u, .u, .u, .u], [some (24, [(.v (.int .u32 a0_0)), (.v (.int .u32 a0_1))]), some (24, [(.v (.int .u32 a1_0)), (.v (.int .u32 a1_1))]), some (24, [(.v (.int .u32 0)), (.v (.int .u32 0))]), none, none, some (24, [(.v (.int .u32 a0_0)), (.v (.int .u32 a0_1)), (.v (.int .u32 a1_0)), (.v (.int .u32 a1_1))]), none, none, none, none, none, none, none, none, none, some (24, [(.v (.int .u32 a0_0)), (.v (.int .u32 x16))]), none, none, none, none, none, none, none, none, none, none, none, none, none, none, some (22, [(.v (.int .u32 0)), (.v (.int .u32 1)), (.v (.int .u32 255)), (.v (.int .u32 256)), (.v (.int .u32 65535)), (.v (.int .u32 65536)), (.v (.int .u32 2147483647)), (.v (.int .u32 2147483648)), (.v (.int .u32 4294967295))]), none, none, none, none, none]⟩ (fun x _ => d6 x)) = interval_Widen.l17 k a0_0 a0_1 a1_0 a1_1 n := funext fun x15 => funext fun x16 => ih x15 x16
    rw [e]
    rfl
def interval_Widen.g (k : Nat) (H_l7 : Int → Int → Int → Int → Nat → Int → Int → Option (Int × Int)) (H_l17 : Int → Int → Int → Int → Nat → Int → Int → Option (Int × Int)) (a0_0 : Int) (a0_1 : Int) (a1_0 : Int) (a1_1 : Int) : Option (Int × Int) := (br (ltI a0_1 a0_0) ((interval_All.f).bind fun t1 => some (t1.1, t1.2)) (br (ltI a1_1 a1_0) ((interval_All.f).bind fun t2 => some (t2.1, t2.2)) (br (ltI a1_0 a0_0) (H_l7 a0_0 a0_1 a1_0 a1_1 k 0 a0_0) (br (ltI a0_1 a1_1) (H_l17 a0_0 a0_1 a1_0 a1_1 k 8 a0_1) (some (a0_0, a0_1))))))
def interval_Widen.f (k : Nat) (a0_0 : Int) (a0_1 : Int) (a1_0 : Int) (a1_1 : Int) : Option (Int × Int) := interval_Widen.g k (interval_Widen.l7 k) (interval_Widen.l17 k) a0_0 a0_1 a1_0 a1_1
theorem interval_Widen.eq (k : Nat) (a0_0 : Int) (a0_1 : Int) (a1_0 : Int) (a1_1 : Int) : run (E15 k) 20 47 [.v (.agg ⟨[.int .u32 a0_0, .int .u32 a0_1]⟩), .v (.agg ⟨[.int .u32 a1_0, .int .u32 a1_1]⟩)] [] (fun x _ => d6 x) = interval_Widen.f k a0_0 a0_1 a1_0 a1_1 := by
  have step : run (E15 k) 20 47 [.v (.agg ⟨[.int .u32 a0_0, .int .u32 a0_1]⟩), .v (.agg ⟨[.int .u32 a1_0, .int .u32 a1_1]⟩)] [] (fun x _ => d6 x) = interval_Widen.g k (fun a0_0 a0_1 a1_0 a1_1 n x5 x6 => loopAt (E15 k) 19 47 Tryz.f47 (cod Tryz.f47) [1, 1, 1, 0, 1, 1, 1, 0] 28 n ⟨[(.v (.agg #[(.int .u32 a0_0), (.int .u32 a0_1)])), (.v (.agg #[(.int .u32 a1_0), (.int .u32 a1_1)])), (.p 0 0), (.p 1 0), (.p 2 0), (.p 15 0), (.v undef), .u, (.v undef), (.v undef), .u, .u, .u, .u, .u, .u, .u, .u, .u, .u, .u, .u, (.s 26 0 9 9), (.v (.int .i64 9)), (.v (.int .i64 x5)), .u, .u, .u, .u, .u, .u, .u, .u, .u, .u, .u, .u, .u, .u, .u, .u, .u, .u, .u, .u, .u, .u, .u, .u, .u, .u, .u, .u, .u, .u, .u, .u, .u, .u, .u, .u], [some (24, [(.v (.int .u32 a0_0)), (.v (.int .u32 a0_1))]), some (24, [(.v (.int .u32 a1_0)), (.v (.int .u32 a1_1))]), some (24, [(.v (.int .u32 0)), (.v (.int .u32 0))]), none, none, some (24, [(.v (.int .u32 a0_0)), (.v (.int .u32 a0_1)), (.v (.int .u32 a1_0)), (.v (.int .u32 a1_1))]), none, none, none, none, none, none, none, none, none, some (24, [(.v (.int .u32 x6)), (.v (.int .u32 a0_1))]), none, none, none, none, none, none, none, none, none, none, some (22, [(.v (.int .u32 0)), (.v (.int .u32 1)), (.v (.int .u32 255)), (.v (.int .u32 256)), (.v (.int .u32 65535)), (.v (.int .u32 65536)), (.v (.int .u32 2147483647)), (.v (.int .u32 2147483648)), (.v (.int .u32 4294967295))]), none]⟩ (fun x _ => d6 x)) (fun a0_0 a0_1 a1_0 a1_1 n x15 x16 => loopAt (E15 k) 19 47 Tryz.f47 (cod Tryz.f47) [1, 1, 1, 1, 0, 1, 1, 1, 1, 0] 36 n ⟨[(.v (.agg #[(.int .u32 a0_0), (.int .u32 a0_1)])), (.v (.agg #[(.int .u32 a1_0), (.int .u32 a1_1)])), (.p 0 0), (.p 1 0), (.p 2 0), (.p 15 0), (.v undef), .u, (.s 30 0 9 9), (.v (.int .i64 x15)), .u, .u, .u, .u, .u, .u, .u, .u, .u, .u, .u, .u, (.v undef), (.v undef), (.v undef), .u, .u, .u, .u, .u, .u, .u, .u, .u, .u, .u, .u, .u, .u, .u, .u, .u, .u, .u, .u, .u, .u, .u, .u, .u, .u, .u, .u, .u, .u, .u, .u, .u, .u, .u, .u], [some (24, [(.v (.int .u32 a0_0)), (.v (.int .u32 a0_1))]), some (24, [(.v (.int .u32 a1_0)), (.v (.int .u32 a1_1))]), some (24, [(.v (.int .u32 0)), (.v (.int .u32 0))]), none, none, some (24, [(.v (.int .u32 a0_0)), (.v (.int .u32 a0_1)), (.v (.int .u32 a1_0)), (.v (.int .u32 a1_1))]), none, none, none, none, none, none, none, none, none, some (24, [(.v (.int .u32 a0_0)), (.v (.int .u32 x16))]), none, none, none, none, none, none, none, none, none, none, none, none, none, none, some (22, [(.v (.int .u32 0)), (.v (.int .u32 1)), (.v (.int .u32 255)), (.v (.int .u32 256)), (.v (.int .u32 65535)), (.v (.int .u32 65536)), (.v (.int .u32 2147483647)), (.v (.int .u32 2147483648)), (.v (.int .u32 4294967295))]), none, none, none, none, none]⟩ (fun x _ => d6 x)) a0_0 a0_1 a1_0 a1_1 := by kernel_rfl
  rw [step]
  have e_l7 : (fun a0_0 a0_1 a1_0 a1_1 n x5 x6 => loopAt (E15 k) 19 47 Tryz.f47 (cod Tryz.f47) [1, 1, 1, 0, 1, 1, 1, 0] 28 n ⟨[(.v (.agg #[(.int .u32 a0_0), (.int .u32 a0_1)])), (.v (.agg #[(.int .u32 a1_0), (.int .u32 a1_1)])), (.p 0 0), (.p 1 0), (.p 2 0), (.p 15 0), (.v undef), .u, (.v undef), (.v undef), .u, .u, .u, .u, .u, .u, .u, .u, .u, .u, .u, .u, (.s 26 0 9 9), (.v (.int .i64 9)), (.v (.int .i64 x5)), .u, .u, .u, .u, .u, .u, .u, .u, .u, .u, .u, .u, .u, .u, .u, .u, .u, .u, .u, .u, .u, .u, .u, .u, .u, .u, .u, .u, .u, .u, .u, .u, .u, .u, .u, .u], [some (24, [(.v (.int .u32 a0_0)), (.v (.int .u32 a0_1))]), some (24, [(.v (.int .u32 a1_0)), (.v (.int .u32 a1_1))]), some (24, [(.v (.int .u32 0)), (.v (.int .u32 0))]), none, none, some (24, [(.v (.int .u32 a0_0)), (.v (.int .u32 a0_1)), (.v (.int .u32 a1_0)), (.v (.int .u32 a1_1))]), none, none, none, none, none, none, none, none, none, some (24, [(.v (.int .u32 x6)), (.v (.int .u32 a0_1))]), none, none, none, none, none, none, none, none, none, none, some (22, [(.v (.int .u32 0)), (.v (.int .u32 1)), (.v (.int .u32 255)), (.v (.int .u32 256)), (.v (.int .u32 65535)), (.v (.int .u32 65536)), (.v (.int .u32 2147483647)), (.v (.int .u32 2147483648)), (.v (.int .u32 4294967295))]), none]⟩ (fun x _ => d6 x)) = interval_Widen.l7 k := funext fun a0_0 => funext fun a0_1 => funext fun a1_0 => funext fun a1_1 => funext fun n => funext fun x5 => funext fun x6 => interval_Widen.e_l7 k a0_0 a0_1 a1_0 a1_1 n x5 x6
  rw [e_l7]
  have e_l17 : (fun a0_0 a0_1 a1_0 a1_1 n x15 x16 => loopAt (E15 k) 19 47 Tryz.f47 (cod Tryz.f47) [1, 1, 1, 1, 0, 1, 1, 1, 1, 0] 36 n ⟨[(.v (.agg #[(.int .u32 a0_0), (.int .u32 a0_1)])), (.v (.agg #[(.int .u32 a1_0), (.int .u32 a1_1)])), (.p 0 0), (.p 1 0), (.p 2 0), (.p 15 0), (.v undef), .u, (.s 30 0 9 9), (.v (.int .i64 x15)), .u, .u, .u, .u, .u, .u, .u, .u, .u, .u, .u, .u, (.v undef), (.v undef), (.v undef), .u, .u, .u, .u, .u, .u, .u, .u, .u, .u, .u, .u, .u, .u, .u, .u, .u, .u, .u, .u, .u, .u, .u, .u, .u, .u, .u, .u, .u, .u, .u, .u, .u, .u, .u, .u], [some (24, [(.v (.int .u32 a0_0)), (.v (.int .u32 a0_1))]), some (24, [(.v (.int .u32 a1_0)), (.v (.int .u32 a1_1))]), some (24, [(.v (.int .u32 0)), (.v (.int .u32 0))]), none, none, some (24, [(.v (.int .u32 a0_0)), (.v (.int .u32 a0_1)), (.v (.int .u32 a1_0)), (.v (.int .u32 a1_1))]), none, none, none, none, none, none, none, none, none, some (24, [(.v (.int .u32 a0_0)), (.v (.int .u32 x16))]), none, none, none, none, none, none, none, none, none, none, none, none, none, none, some (22, [(.v (.int .u32 0)), (.v (.int .u32 1)), (.v (.int .u32 255)), (.v (.int .u32 256)), (.v (.int .u32 65535)), (.v (.int .u32 65536)), (.v (.int .u32 2147483647)), (.v (.int .u32 2147483648)), (.v (.int .u32 4294967295))]), none, none, none, none, none]⟩ (fun x _ => d6 x)) = interval_Widen.l17 k := funext fun a0_0 => funext fun a0_1 => funext fun a1_0 => funext fun a1_1 => funext fun n => funext fun x15 => funext fun x16 => interval_Widen.e_l17 k a0_0 a0_1 a1_0 a1_1 n x15 x16
  rw [e_l17]
  rfl
theorem interval_Widen.calls (k : Nat) (a0_0 : Int) (a0_1 : Int) (a1_0 : Int) (a1_1 : Int) {w : World} (g : G w) {t : Int × Int} (h : interval_Widen.f k a0_0 a0_1 a1_0 a1_1 = some t) : Calls Tryz.prog 47 #[.agg ⟨[.int .u32 a0_0, .int .u32 a0_1]⟩, .agg ⟨[.int .u32 a1_0, .int .u32 a1_1]⟩] w fun e w' => e = .returned (d6e t) ∧ Below w.heap.size w w' :=
  (all15 k).calls (vs := [.agg ⟨[.int .u32 a0_0, .int .u32 a0_1]⟩, .agg ⟨[.int .u32 a1_0, .int .u32 a1_1]⟩]) g d6_ok ((interval_Widen.eq k a0_0 a0_1 a1_0 a1_1).trans h)
noncomputable def interval_Widen.s (k : Nat) : Sum := { T := Int × Int, get := fun l => match l with | [.agg ⟨[.int .u32 a0_0, .int .u32 a0_1]⟩, .agg ⟨[.int .u32 a1_0, .int .u32 a1_1]⟩] => some (interval_Widen.f k a0_0 a0_1 a1_0 a1_1) | _ => none, enc := d6e }
noncomputable def E16 (k : Nat) : Eng := (E15 k).add 47 (interval_Widen.s k)
theorem all16 (k : Nat) : EngAll (E16 k) := (all15 k).add (by kernel_rfl) (by
  intro vs t w g h
  simp only [interval_Widen.s] at h
  split at h
  · exact interval_Widen.calls k _ _ _ _ (show G w from g) (Option.some.inj h)
  · cases h)

def d7 (x : AV) : Option (Int × Int × Bool) := match x with
  | .v (.tuple ⟨[.agg ⟨[.int .u32 x0, .int .u32 x1]⟩, .bool x2]⟩) => some (x0, x1, x2)
  | _ => none
def d7e (t : Int × Int × Bool) : Value := .tuple ⟨[.agg ⟨[.int .u32 (t.1), .int .u32 (t.2.1)]⟩, .bool (t.2.2)]⟩
theorem d7_ok (x : AV) (t : Int × Int × Bool) (h : d7 x = some t) : x = .v (d7e t) := by
  unfold d7 at h
  split at h
  · obtain rfl := Option.some.inj h
    rfl
  · cases h

/-! ### lamplighter/interval.Meet -/
def interval_Meet.f (a0_0 : Int) (a0_1 : Int) (a1_0 : Int) (a1_1 : Int) : Option (Int × Int × Bool) := (br (ltI a0_1 a0_0) (some (0, 0, false)) (br (ltI a1_1 a1_0) (some (0, 0, false)) (br (ltI (if a1_1 < a0_1 then a1_1 else a0_1) (if a1_0 > a0_0 then a1_0 else a0_0)) (some (0, 0, false)) (some ((if a1_0 > a0_0 then a1_0 else a0_0), (if a1_1 < a0_1 then a1_1 else a0_1), true)))))
theorem interval_Meet.eq (k : Nat) (a0_0 : Int) (a0_1 : Int) (a1_0 : Int) (a1_1 : Int) : run (E16 k) 20 170 [.v (.agg ⟨[.int .u32 a0_0, .int .u32 a0_1]⟩), .v (.agg ⟨[.int .u32 a1_0, .int .u32 a1_1]⟩)] [] (fun x _ => d7 x) = interval_Meet.f a0_0 a0_1 a1_0 a1_1 := by kernel_rfl
theorem interval_Meet.calls (k : Nat) (a0_0 : Int) (a0_1 : Int) (a1_0 : Int) (a1_1 : Int) {w : World} (g : G w) {t : Int × Int × Bool} (h : interval_Meet.f a0_0 a0_1 a1_0 a1_1 = some t) : Calls Tryz.prog 170 #[.agg ⟨[.int .u32 a0_0, .int .u32 a0_1]⟩, .agg ⟨[.int .u32 a1_0, .int .u32 a1_1]⟩] w fun e w' => e = .returned (d7e t) ∧ Below w.heap.size w w' :=
  (all16 k).calls (vs := [.agg ⟨[.int .u32 a0_0, .int .u32 a0_1]⟩, .agg ⟨[.int .u32 a1_0, .int .u32 a1_1]⟩]) g d7_ok ((interval_Meet.eq k a0_0 a0_1 a1_0 a1_1).trans h)
noncomputable def interval_Meet.s (k : Nat) : Sum := { T := Int × Int × Bool, get := fun l => match l with | [.agg ⟨[.int .u32 a0_0, .int .u32 a0_1]⟩, .agg ⟨[.int .u32 a1_0, .int .u32 a1_1]⟩] => some (interval_Meet.f a0_0 a0_1 a1_0 a1_1) | _ => none, enc := d7e }
noncomputable def E17 (k : Nat) : Eng := (E16 k).add 170 (interval_Meet.s k)
theorem all17 (k : Nat) : EngAll (E17 k) := (all16 k).add (by kernel_rfl) (by
  intro vs t w g h
  simp only [interval_Meet.s] at h
  split at h
  · exact interval_Meet.calls k _ _ _ _ (show G w from g) (Option.some.inj h)
  · cases h)

/-! ### lamplighter/interval.Has -/
def interval_Has.f (a0_0 : Int) (a0_1 : Int) (a1 : Int) : Option (Bool) := (br (ltI a0_1 a0_0) (some (false)) (br (leI a0_0 a1) (some ((leI a1 a0_1))) (some (false))))
theorem interval_Has.eq (k : Nat) (a0_0 : Int) (a0_1 : Int) (a1 : Int) : run (E17 k) 20 121 [.v (.agg ⟨[.int .u32 a0_0, .int .u32 a0_1]⟩), .v (.int .u32 a1)] [] (fun x _ => d5 x) = interval_Has.f a0_0 a0_1 a1 := by kernel_rfl
theorem interval_Has.calls (k : Nat) (a0_0 : Int) (a0_1 : Int) (a1 : Int) {w : World} (g : G w) {t : Bool} (h : interval_Has.f a0_0 a0_1 a1 = some t) : Calls Tryz.prog 121 #[.agg ⟨[.int .u32 a0_0, .int .u32 a0_1]⟩, .int .u32 a1] w fun e w' => e = .returned (d5e t) ∧ Below w.heap.size w w' :=
  (all17 k).calls (vs := [.agg ⟨[.int .u32 a0_0, .int .u32 a0_1]⟩, .int .u32 a1]) g d5_ok ((interval_Has.eq k a0_0 a0_1 a1).trans h)
noncomputable def interval_Has.s (k : Nat) : Sum := { T := Bool, get := fun l => match l with | [.agg ⟨[.int .u32 a0_0, .int .u32 a0_1]⟩, .int .u32 a1] => some (interval_Has.f a0_0 a0_1 a1) | _ => none, enc := d5e }
noncomputable def E18 (k : Nat) : Eng := (E17 k).add 121 (interval_Has.s k)
theorem all18 (k : Nat) : EngAll (E18 k) := (all17 k).add (by kernel_rfl) (by
  intro vs t w g h
  simp only [interval_Has.s] at h
  split at h
  · exact interval_Has.calls k _ _ _ (show G w from g) (Option.some.inj h)
  · cases h)

/-! ### lamplighter/interval.Within -/
def interval_Within.f (a0_0 : Int) (a0_1 : Int) (a1_0 : Int) (a1_1 : Int) : Option (Bool) := (br (ltI a0_1 a0_0) (some (false)) (br (ltI a1_1 a1_0) (some (false)) (br (leI a1_0 a0_0) (some ((leI a0_1 a1_1))) (some (false)))))
theorem interval_Within.eq (k : Nat) (a0_0 : Int) (a0_1 : Int) (a1_0 : Int) (a1_1 : Int) : run (E18 k) 20 101 [.v (.agg ⟨[.int .u32 a0_0, .int .u32 a0_1]⟩), .v (.agg ⟨[.int .u32 a1_0, .int .u32 a1_1]⟩)] [] (fun x _ => d5 x) = interval_Within.f a0_0 a0_1 a1_0 a1_1 := by kernel_rfl
theorem interval_Within.calls (k : Nat) (a0_0 : Int) (a0_1 : Int) (a1_0 : Int) (a1_1 : Int) {w : World} (g : G w) {t : Bool} (h : interval_Within.f a0_0 a0_1 a1_0 a1_1 = some t) : Calls Tryz.prog 101 #[.agg ⟨[.int .u32 a0_0, .int .u32 a0_1]⟩, .agg ⟨[.int .u32 a1_0, .int .u32 a1_1]⟩] w fun e w' => e = .returned (d5e t) ∧ Below w.heap.size w w' :=
  (all18 k).calls (vs := [.agg ⟨[.int .u32 a0_0, .int .u32 a0_1]⟩, .agg ⟨[.int .u32 a1_0, .int .u32 a1_1]⟩]) g d5_ok ((interval_Within.eq k a0_0 a0_1 a1_0 a1_1).trans h)
noncomputable def interval_Within.s (k : Nat) : Sum := { T := Bool, get := fun l => match l with | [.agg ⟨[.int .u32 a0_0, .int .u32 a0_1]⟩, .agg ⟨[.int .u32 a1_0, .int .u32 a1_1]⟩] => some (interval_Within.f a0_0 a0_1 a1_0 a1_1) | _ => none, enc := d5e }
noncomputable def E19 (k : Nat) : Eng := (E18 k).add 101 (interval_Within.s k)
theorem all19 (k : Nat) : EngAll (E19 k) := (all18 k).add (by kernel_rfl) (by
  intro vs t w g h
  simp only [interval_Within.s] at h
  split at h
  · exact interval_Within.calls k _ _ _ _ (show G w from g) (Option.some.inj h)
  · cases h)

def d8 (x : AV) : Option (Int) := match x with
  | .v (.int .u32 x0) => some x0
  | _ => none
def d8e (t : Int) : Value := .int .u32 t
theorem d8_ok (x : AV) (t : Int) (h : d8 x = some t) : x = .v (d8e t) := by
  unfold d8 at h
  split at h
  · obtain rfl := Option.some.inj h
    rfl
  · cases h

/-! ### lamplighter/interval.upto -/
def interval_upto.f (a0 : Int) : Option (Int) := ((bits_Len32.f a0).bind fun t1 => (br (ltI t1 0) none (some ((IntKind.u32.wrap ((X.shl .u32 1 t1) - 1))))))
theorem interval_upto.eq (k : Nat) (a0 : Int) : run (E19 k) 20 144 [.v (.int .u32 a0)] [] (fun x _ => d8 x) = interval_upto.f a0 := by kernel_rfl
theorem interval_upto.calls (k : Nat) (a0 : Int) {w : World} (g : G w) {t : Int} (h : interval_upto.f a0 = some t) : Calls Tryz.prog 144 #[.int .u32 a0] w fun e w' => e = .returned (d8e t) ∧ Below w.heap.size w w' :=
  (all19 k).calls (vs := [.int .u32 a0]) g d8_ok ((interval_upto.eq k a0).trans h)
noncomputable def interval_upto.s (k : Nat) : Sum := { T := Int, get := fun l => match l with | [.int .u32 a0] => some (interval_upto.f a0) | _ => none, enc := d8e }
noncomputable def E20 (k : Nat) : Eng := (E19 k).add 144 (interval_upto.s k)
theorem all20 (k : Nat) : EngAll (E20 k) := (all19 k).add (by kernel_rfl) (by
  intro vs t w g h
  simp only [interval_upto.s] at h
  split at h
  · exact interval_upto.calls k _ (show G w from g) (Option.some.inj h)
  · cases h)

/-! ### lamplighter/interval.yes -/
def interval_yes.f (a0 : Bool) (a1 : Bool) : Option (Int × Int) := (br a0 ((interval_One.f 1).bind fun t1 => some (t1.1, t1.2)) (br a1 ((interval_One.f 0).bind fun t2 => some (t2.1, t2.2)) (some (0, 1))))
theorem interval_yes.eq (k : Nat) (a0 : Bool) (a1 : Bool) : run (E20 k) 20 115 [.v (.bool a0), .v (.bool a1)] [] (fun x _ => d6 x) = interval_yes.f a0 a1 := by kernel_rfl
theorem interval_yes.calls (k : Nat) (a0 : Bool) (a1 : Bool) {w : World} (g : G w) {t : Int × Int} (h : interval_yes.f a0 a1 = some t) : Calls Tryz.prog 115 #[.bool a0, .bool a1] w fun e w' => e = .returned (d6e t) ∧ Below w.heap.size w w' :=
  (all20 k).calls (vs := [.bool a0, .bool a1]) g d6_ok ((interval_yes.eq k a0 a1).trans h)
noncomputable def interval_yes.s (k : Nat) : Sum := { T := Int × Int, get := fun l => match l with | [.bool a0, .bool a1] => some (interval_yes.f a0 a1) | _ => none, enc := d6e }
noncomputable def E21 (k : Nat) : Eng := (E20 k).add 115 (interval_yes.s k)
theorem all21 (k : Nat) : EngAll (E21 k) := (all20 k).add (by kernel_rfl) (by
  intro vs t w g h
  simp only [interval_yes.s] at h
  split at h
  · exact interval_yes.calls k _ _ (show G w from g) (Option.some.inj h)
  · cases h)

def d9 (x : AV) : Option (Int × Int) := match x with
  | .v (.tuple ⟨[.int .i64 x0, .int .i64 x1]⟩) => some (x0, x1)
  | _ => none
def d9e (t : Int × Int) : Value := .tuple ⟨[.int .i64 (t.1), .int .i64 (t.2)]⟩
theorem d9_ok (x : AV) (t : Int × Int) (h : d9 x = some t) : x = .v (d9e t) := by
  unfold d9 at h
  split at h
  · obtain rfl := Option.some.inj h
    rfl
  · cases h

/-! ### lamplighter/interval.signed -/
def interval_signed.f (a0_0 : Int) (a0_1 : Int) : Option (Int × Int) := (br (ltI a0_1 2147483648) ((word_Signed.f a0_0).bind fun t1 => ((word_Signed.f a0_1).bind fun t2 => some (t1, t2))) (br (leI 2147483648 a0_0) ((word_Signed.f a0_0).bind fun t3 => ((word_Signed.f a0_1).bind fun t4 => some (t3, t4))) (some ((-2147483648), 2147483647))))
theorem interval_signed.eq (k : Nat) (a0_0 : Int) (a0_1 : Int) : run (E21 k) 20 154 [.v (.agg ⟨[.int .u32 a0_0, .int .u32 a0_1]⟩)] [] (fun x _ => d9 x) = interval_signed.f a0_0 a0_1 := by kernel_rfl
theorem interval_signed.calls (k : Nat) (a0_0 : Int) (a0_1 : Int) {w : World} (g : G w) {t : Int × Int} (h : interval_signed.f a0_0 a0_1 = some t) : Calls Tryz.prog 154 #[.agg ⟨[.int .u32 a0_0, .int .u32 a0_1]⟩] w fun e w' => e = .returned (d9e t) ∧ Below w.heap.size w w' :=
  (all21 k).calls (vs := [.agg ⟨[.int .u32 a0_0, .int .u32 a0_1]⟩]) g d9_ok ((interval_signed.eq k a0_0 a0_1).trans h)
noncomputable def interval_signed.s (k : Nat) : Sum := { T := Int × Int, get := fun l => match l with | [.agg ⟨[.int .u32 a0_0, .int .u32 a0_1]⟩] => some (interval_signed.f a0_0 a0_1) | _ => none, enc := d9e }
noncomputable def E22 (k : Nat) : Eng := (E21 k).add 154 (interval_signed.s k)
theorem all22 (k : Nat) : EngAll (E22 k) := (all21 k).add (by kernel_rfl) (by
  intro vs t w g h
  simp only [interval_signed.s] at h
  split at h
  · exact interval_signed.calls k _ _ (show G w from g) (Option.some.inj h)
  · cases h)

/-! ### lamplighter/interval.noZero -/
def interval_noZero.f (a0_0 : Int) (a0_1 : Int) : Option (Int × Int × Bool) := (br (eqI a0_1 0) (some (a0_0, a0_1, false)) (some ((if a0_0 > 1 then a0_0 else 1), a0_1, true)))
theorem interval_noZero.eq (k : Nat) (a0_0 : Int) (a0_1 : Int) : run (E22 k) 20 168 [.v (.agg ⟨[.int .u32 a0_0, .int .u32 a0_1]⟩)] [] (fun x _ => d7 x) = interval_noZero.f a0_0 a0_1 := by kernel_rfl
theorem interval_noZero.calls (k : Nat) (a0_0 : Int) (a0_1 : Int) {w : World} (g : G w) {t : Int × Int × Bool} (h : interval_noZero.f a0_0 a0_1 = some t) : Calls Tryz.prog 168 #[.agg ⟨[.int .u32 a0_0, .int .u32 a0_1]⟩] w fun e w' => e = .returned (d7e t) ∧ Below w.heap.size w w' :=
  (all22 k).calls (vs := [.agg ⟨[.int .u32 a0_0, .int .u32 a0_1]⟩]) g d7_ok ((interval_noZero.eq k a0_0 a0_1).trans h)
noncomputable def interval_noZero.s (k : Nat) : Sum := { T := Int × Int × Bool, get := fun l => match l with | [.agg ⟨[.int .u32 a0_0, .int .u32 a0_1]⟩] => some (interval_noZero.f a0_0 a0_1) | _ => none, enc := d7e }
noncomputable def E23 (k : Nat) : Eng := (E22 k).add 168 (interval_noZero.s k)
theorem all23 (k : Nat) : EngAll (E23 k) := (all22 k).add (by kernel_rfl) (by
  intro vs t w g h
  simp only [interval_noZero.s] at h
  split at h
  · exact interval_noZero.calls k _ _ (show G w from g) (Option.some.inj h)
  · cases h)

def d10 (x : AV) : Option (Int × Int × Bool × Int) := match x with
  | .v (.tuple ⟨[.agg ⟨[.int .u32 x0, .int .u32 x1]⟩, .bool x2, .int .i64 x3]⟩) => some (x0, x1, x2, x3)
  | _ => none
def d10e (t : Int × Int × Bool × Int) : Value := .tuple ⟨[.agg ⟨[.int .u32 (t.1), .int .u32 (t.2.1)]⟩, .bool (t.2.2.1), .int .i64 (t.2.2.2)]⟩
theorem d10_ok (x : AV) (t : Int × Int × Bool × Int) (h : d10 x = some t) : x = .v (d10e t) := by
  unfold d10 at h
  split at h
  · obtain rfl := Option.some.inj h
    rfl
  · cases h

/-! ### lamplighter/interval.Do -/
def interval_Do.f (a0 : Int) (a1_0 : Int) (a1_1 : Int) (a2_0 : Int) (a2_1 : Int) : Option (Int × Int × Bool × Int) := (br (eqI a0 1) (br (ltI a1_1 a1_0) (some (0, 0, false, 2)) (br (ltI a2_1 a2_0) (some (0, 0, false, 2)) ((bits_Add32.f a1_0 a2_0 0).bind fun t1 => ((bits_Add32.f a1_1 a2_1 0).bind fun t2 => (br (!eqI t1.2 t2.2) ((interval_All.f).bind fun t3 => some (t3.1, t3.2, true, 0)) (some (t1.1, t2.1, true, 0))))))) (br (eqI a0 2) (br (ltI a1_1 a1_0) (some (0, 0, false, 2)) (br (ltI a2_1 a2_0) (some (0, 0, false, 2)) ((bits_Sub32.f a1_0 a2_1 0).bind fun t4 => ((bits_Sub32.f a1_1 a2_0 0).bind fun t5 => (br (!eqI t4.2 t5.2) ((interval_All.f).bind fun t6 => some (t6.1, t6.2, true, 0)) (some (t4.1, t5.1, true, 0))))))) (br (eqI a0 3) (br (ltI a1_1 a1_0) (some (0, 0, false, 2)) (br (ltI a2_1 a2_0) (some (0, 0, false, 2)) ((bits_Mul32.f a1_1 a2_1).bind fun t7 => (br (!eqI t7.1 0) ((interval_All.f).bind fun t8 => some (t8.1, t8.2, true, 0)) (some ((IntKind.u32.wrap (a1_0 * a2_0)), (IntKind.u32.wrap (a1_1 * a2_1)), true, 0)))))) (br (eqI a0 4) (br (ltI a1_1 a1_0) (some (0, 0, false, 2)) (br (ltI a2_1 a2_0) (some (0, 0, false, 2)) ((interval_noZero.f a2_0 a2_1).bind fun t9 => (br (!t9.2.2) (some (0, 0, false, 0)) (br (eqI t9.2.1 0) none (br (eqI t9.1 0) none (some ((IntKind.u32.wrap (Int.tdiv a1_0 t9.2.1)), (IntKind.u32.wrap (Int.tdiv a1_1 t9.1)), true, 0)))))))) (br (eqI a0 5) (br (ltI a1_1 a1_0) (some (0, 0, false, 2)) (br (ltI a2_1 a2_0) (some (0, 0, false, 2)) ((interval_noZero.f a2_0 a2_1).bind fun t10 => (br (!t10.2.2) (some (0, 0, false, 0)) (br (ltI a1_1 t10.1) (some (a1_0, a1_1, true, 0)) (some (0, (if (IntKind.u32.wrap (t10.2.1 - 1)) < a1_1 then (IntKind.u32.wrap (t10.2.1 - 1)) else a1_1), true, 0))))))) (br (eqI a0 6) (br (ltI a1_1 a1_0) (some (0, 0, false, 2)) (br (ltI a2_1 a2_0) (some (0, 0, false, 2)) (br (eqI a2_1 0) (some (0, 0, false, 0)) (br (leI 2147483648 a1_1) ((interval_All.f).bind fun t11 => some (t11.1, t11.2, true, 0)) (br (leI 2147483648 a2_1) ((interval_All.f).bind fun t12 => some (t12.1, t12.2, true, 0)) ((interval_noZero.f a2_0 a2_1).bind fun t13 => (br (!t13.2.2) (some (0, 0, false, 0)) (br (eqI t13.2.1 0) none (br (eqI t13.1 0) none (some ((IntKind.u32.wrap (Int.tdiv a1_0 t13.2.1)), (IntKind.u32.wrap (Int.tdiv a1_1 t13.1)), true, 0))))))))))) (br (eqI a0 7) (br (ltI a1_1 a1_0) (some (0, 0, false, 2)) (br (ltI a2_1 a2_0) (some (0, 0, false, 2)) (br (eqI a2_1 0) (some (0, 0, false, 0)) (br (leI 2147483648 a1_1) ((interval_All.f).bind fun t14 => some (t14.1, t14.2, true, 0)) (br (leI 2147483648 a2_1) ((interval_All.f).bind fun t15 => some (t15.1, t15.2, true, 0)) ((interval_noZero.f a2_0 a2_1).bind fun t16 => (br (!t16.2.2) (some (0, 0, false, 0)) (br (ltI a1_1 t16.1) (some (a1_0, a1_1, true, 0)) (some (0, (if (IntKind.u32.wrap (t16.2.1 - 1)) < a1_1 then (IntKind.u32.wrap (t16.2.1 - 1)) else a1_1), true, 0)))))))))) (br (eqI a0 8) (br (ltI a1_1 a1_0) (some (0, 0, false, 2)) (br (ltI a2_1 a2_0) (some (0, 0, false, 2)) (some (0, (if a2_1 < a1_1 then a2_1 else a1_1), true, 0)))) (br (eqI a0 9) (br (ltI a1_1 a1_0) (some (0, 0, false, 2)) (br (ltI a2_1 a2_0) (some (0, 0, false, 2)) ((interval_upto.f (if a2_1 > a1_1 then a2_1 else a1_1)).bind fun t17 => some ((if a2_0 > a1_0 then a2_0 else a1_0), t17, true, 0)))) (br (eqI a0 10) (br (ltI a1_1 a1_0) (some (0, 0, false, 2)) (br (ltI a2_1 a2_0) (some (0, 0, false, 2)) ((interval_upto.f (if a2_1 > a1_1 then a2_1 else a1_1)).bind fun t18 => some (0, t18, true, 0)))) (br (eqI a0 11) (br (ltI a1_1 a1_0) (some (0, 0, false, 2)) (br (ltI a2_1 a2_0) (some (0, 0, false, 2)) (br (leI 32 a2_0) ((interval_One.f 0).bind fun t19 => some (t19.1, t19.2, true, 0)) (br (!eqI a2_0 a2_1) ((interval_All.f).bind fun t20 => some (t20.1, t20.2, true, 0)) (br (ltI a2_0 0) none (br (ltI 4294967295 (X.shl .u64 (IntKind.u64.wrap a1_1) a2_0)) ((interval_All.f).bind fun t21 => some (t21.1, t21.2, true, 0)) (br (ltI a2_0 0) none (br (ltI a2_0 0) none (some ((X.shl .u32 a1_0 a2_0), (X.shl .u32 a1_1 a2_0), true, 0)))))))))) (br (eqI a0 12) (br (ltI a1_1 a1_0) (some (0, 0, false, 2)) (br (ltI a2_1 a2_0) (some (0, 0, false, 2)) (br (ltI a2_1 0) none (br (ltI a2_0 0) none (some ((X.shr .u32 a1_0 a2_1), (X.shr .u32 a1_1 a2_0), true, 0)))))) (br (eqI a0 13) (br (ltI a1_1 a1_0) (some (0, 0, false, 2)) (br (ltI a2_1 a2_0) (some (0, 0, false, 2)) (br (leI 2147483648 a1_1) ((interval_All.f).bind fun t22 => some (t22.1, t22.2, true, 0)) (br (ltI a2_1 0) none (br (ltI a2_0 0) none (some ((X.shr .u32 a1_0 a2_1), (X.shr .u32 a1_1 a2_0), true, 0))))))) (br (eqI a0 14) (br (ltI a1_1 a1_0) (some (0, 0, false, 2)) (br (ltI a2_1 a2_0) (some (0, 0, false, 2)) ((interval_Meet.f a1_0 a1_1 a2_0 a2_1).bind fun t23 => (br ((a1_0 == a2_0) && (a1_1 == a2_1)) ((interval_yes.f (eqI a1_0 a1_1) (!t23.2.2)).bind fun t24 => some (t24.1, t24.2, true, 0)) ((interval_yes.f false (!t23.2.2)).bind fun t25 => some (t25.1, t25.2, true, 0)))))) (br (eqI a0 15) (br (ltI a1_1 a1_0) (some (0, 0, false, 2)) (br (ltI a2_1 a2_0) (some (0, 0, false, 2)) ((interval_Meet.f a1_0 a1_1 a2_0 a2_1).bind fun t26 => (br ((a1_0 == a2_0) && (a1_1 == a2_1)) ((interval_yes.f (!t26.2.2) (eqI a1_0 a1_1)).bind fun t27 => some (t27.1, t27.2, true, 0)) ((interval_yes.f (!t26.2.2) false).bind fun t28 => some (t28.1, t28.2, true, 0)))))) (br (eqI a0 16) (br (ltI a1_1 a1_0) (some (0, 0, false, 2)) (br (ltI a2_1 a2_0) (some (0, 0, false, 2)) ((interval_yes.f (ltI a1_1 a2_0) (leI a2_1 a1_0)).bind fun t29 => some (t29.1, t29.2, true, 0)))) (br (eqI a0 17) (br (ltI a1_1 a1_0) (some (0, 0, false, 2)) (br (ltI a2_1 a2_0) (some (0, 0, false, 2)) ((interval_yes.f (leI a1_1 a2_0) (ltI a2_1 a1_0)).bind fun t30 => some (t30.1, t30.2, true, 0)))) (br (eqI a0 18) (br (ltI a1_1 a1_0) (some (0, 0, false, 2)) (br (ltI a2_1 a2_0) (some (0, 0, false, 2)) ((interval_signed.f a1_0 a1_1).bind fun t31 => ((interval_signed.f a2_0 a2_1).bind fun t32 => ((interval_yes.f (ltI t31.2 t32.1) (leI t32.2 t31.1)).bind fun t33 => some (t33.1, t33.2, true, 0)))))) (br (eqI a0 19) (br (ltI a1_1 a1_0) (some (0, 0, false, 2)) (br (ltI a2_1 a2_0) (some (0, 0, false, 2)) ((interval_signed.f a1_0 a1_1).bind fun t34 => ((interval_signed.f a2_0 a2_1).bind fun t35 => ((interval_yes.f (leI t34.2 t35.1) (ltI t35.2 t34.1)).bind fun t36 => some (t36.1, t36.2, true, 0)))))) (some (0, 0, false, 2)))))))))))))))))))))
theorem interval_Do.eq (k : Nat) (a0 : Int) (a1_0 : Int) (a1_1 : Int) (a2_0 : Int) (a2_1 : Int) : run (E23 k) 20 50 [.v (.int .i64 a0), .v (.agg ⟨[.int .u32 a1_0, .int .u32 a1_1]⟩), .v (.agg ⟨[.int .u32 a2_0, .int .u32 a2_1]⟩)] [] (fun x _ => d10 x) = interval_Do.f a0 a1_0 a1_1 a2_0 a2_1 := by kernel_rfl
theorem interval_Do.calls (k : Nat) (a0 : Int) (a1_0 : Int) (a1_1 : Int) (a2_0 : Int) (a2_1 : Int) {w : World} (g : G w) {t : Int × Int × Bool × Int} (h : interval_Do.f a0 a1_0 a1_1 a2_0 a2_1 = some t) : Calls Tryz.prog 50 #[.int .i64 a0, .agg ⟨[.int .u32 a1_0, .int .u32 a1_1]⟩, .agg ⟨[.int .u32 a2_0, .int .u32 a2_1]⟩] w fun e w' => e = .returned (d10e t) ∧ Below w.heap.size w w' :=
  (all23 k).calls (vs := [.int .i64 a0, .agg ⟨[.int .u32 a1_0, .int .u32 a1_1]⟩, .agg ⟨[.int .u32 a2_0, .int .u32 a2_1]⟩]) g d10_ok ((interval_Do.eq k a0 a1_0 a1_1 a2_0 a2_1).trans h)
noncomputable def interval_Do.s (k : Nat) : Sum := { T := Int × Int × Bool × Int, get := fun l => match l with | [.int .i64 a0, .agg ⟨[.int .u32 a1_0, .int .u32 a1_1]⟩, .agg ⟨[.int .u32 a2_0, .int .u32 a2_1]⟩] => some (interval_Do.f a0 a1_0 a1_1 a2_0 a2_1) | _ => none, enc := d10e }
noncomputable def E24 (k : Nat) : Eng := (E23 k).add 50 (interval_Do.s k)
theorem all24 (k : Nat) : EngAll (E24 k) := (all23 k).add (by kernel_rfl) (by
  intro vs t w g h
  simp only [interval_Do.s] at h
  split at h
  · exact interval_Do.calls k _ _ _ _ _ (show G w from g) (Option.some.inj h)
  · cases h)

def d11 (x : AV) : Option (Int × Int × Int) := match x with
  | .v (.tuple ⟨[.agg ⟨[.int .u32 x0, .int .u32 x1]⟩, .int .i64 x2]⟩) => some (x0, x1, x2)
  | _ => none
def d11e (t : Int × Int × Int) : Value := .tuple ⟨[.agg ⟨[.int .u32 (t.1), .int .u32 (t.2.1)]⟩, .int .i64 (t.2.2)]⟩
theorem d11_ok (x : AV) (t : Int × Int × Int) (h : d11 x = some t) : x = .v (d11e t) := by
  unfold d11 at h
  split at h
  · obtain rfl := Option.some.inj h
    rfl
  · cases h

/-! ### lamplighter/interval.Un -/
def interval_Un.f (a0 : Int) (a1_0 : Int) (a1_1 : Int) : Option (Int × Int × Int) := (br (ltI a1_1 a1_0) (some (0, 0, 2)) (br (eqI a0 1) (br (eqI a1_1 0) ((interval_One.f 0).bind fun t1 => some (t1.1, t1.2, 0)) (br (ltI 0 a1_0) (some ((IntKind.u32.wrap (0 - a1_1)), (IntKind.u32.wrap (0 - a1_0)), 0)) ((interval_All.f).bind fun t2 => some (t2.1, t2.2, 0)))) (br (eqI a0 2) (some ((bitw .xor .u32 IntKind.u32.max a1_1), (bitw .xor .u32 IntKind.u32.max a1_0), 0)) (br (eqI a0 3) ((interval_yes.f (eqI a1_1 0) (ltI 0 a1_0)).bind fun t3 => some (t3.1, t3.2, 0)) (some (0, 0, 2))))))
theorem interval_Un.eq (k : Nat) (a0 : Int) (a1_0 : Int) (a1_1 : Int) : run (E24 k) 20 59 [.v (.int .i64 a0), .v (.agg ⟨[.int .u32 a1_0, .int .u32 a1_1]⟩)] [] (fun x _ => d11 x) = interval_Un.f a0 a1_0 a1_1 := by kernel_rfl
theorem interval_Un.calls (k : Nat) (a0 : Int) (a1_0 : Int) (a1_1 : Int) {w : World} (g : G w) {t : Int × Int × Int} (h : interval_Un.f a0 a1_0 a1_1 = some t) : Calls Tryz.prog 59 #[.int .i64 a0, .agg ⟨[.int .u32 a1_0, .int .u32 a1_1]⟩] w fun e w' => e = .returned (d11e t) ∧ Below w.heap.size w w' :=
  (all24 k).calls (vs := [.int .i64 a0, .agg ⟨[.int .u32 a1_0, .int .u32 a1_1]⟩]) g d11_ok ((interval_Un.eq k a0 a1_0 a1_1).trans h)
noncomputable def interval_Un.s (k : Nat) : Sum := { T := Int × Int × Int, get := fun l => match l with | [.int .i64 a0, .agg ⟨[.int .u32 a1_0, .int .u32 a1_1]⟩] => some (interval_Un.f a0 a1_0 a1_1) | _ => none, enc := d11e }
noncomputable def E25 (k : Nat) : Eng := (E24 k).add 59 (interval_Un.s k)
theorem all25 (k : Nat) : EngAll (E25 k) := (all24 k).add (by kernel_rfl) (by
  intro vs t w g h
  simp only [interval_Un.s] at h
  split at h
  · exact interval_Un.calls k _ _ _ (show G w from g) (Option.some.inj h)
  · cases h)

/-! ### lamplighter/interval.Cut -/
def interval_Cut.f (a0_0 : Int) (a0_1 : Int) (a1 : Int) : Option (Int × Int × Int) := ((word_Cut.f a0_0 a1).bind fun t1 => (br (!eqI t1.2 0) (some (0, 0, 2)) (br (ltI a0_1 a0_0) (some (0, 0, 2)) ((word_Cut.f a0_1 a1).bind fun t2 => (br (ltI a1 0) none (br (ltI a1 0) none (br (eqI (X.shr .u64 (IntKind.u64.wrap a0_0) a1) (X.shr .u64 (IntKind.u64.wrap a0_1) a1)) (some (t1.1, t2.1, 0)) (br (ltI a1 0) none (some (0, (IntKind.u32.wrap ((X.shl .u32 1 a1) - 1)), 0))))))))))
theorem interval_Cut.eq (k : Nat) (a0_0 : Int) (a0_1 : Int) (a1 : Int) : run (E25 k) 20 63 [.v (.agg ⟨[.int .u32 a0_0, .int .u32 a0_1]⟩), .v (.int .i64 a1)] [] (fun x _ => d11 x) = interval_Cut.f a0_0 a0_1 a1 := by kernel_rfl
theorem interval_Cut.calls (k : Nat) (a0_0 : Int) (a0_1 : Int) (a1 : Int) {w : World} (g : G w) {t : Int × Int × Int} (h : interval_Cut.f a0_0 a0_1 a1 = some t) : Calls Tryz.prog 63 #[.agg ⟨[.int .u32 a0_0, .int .u32 a0_1]⟩, .int .i64 a1] w fun e w' => e = .returned (d11e t) ∧ Below w.heap.size w w' :=
  (all25 k).calls (vs := [.agg ⟨[.int .u32 a0_0, .int .u32 a0_1]⟩, .int .i64 a1]) g d11_ok ((interval_Cut.eq k a0_0 a0_1 a1).trans h)
noncomputable def interval_Cut.s (k : Nat) : Sum := { T := Int × Int × Int, get := fun l => match l with | [.agg ⟨[.int .u32 a0_0, .int .u32 a0_1]⟩, .int .i64 a1] => some (interval_Cut.f a0_0 a0_1 a1) | _ => none, enc := d11e }
noncomputable def E26 (k : Nat) : Eng := (E25 k).add 63 (interval_Cut.s k)
theorem all26 (k : Nat) : EngAll (E26 k) := (all25 k).add (by kernel_rfl) (by
  intro vs t w g h
  simp only [interval_Cut.s] at h
  split at h
  · exact interval_Cut.calls k _ _ _ (show G w from g) (Option.some.inj h)
  · cases h)

/-! ### lamplighter/known.One -/
def known_One.f (a0 : Int) : Option (Int × Int) := some (4294967295, a0)
theorem known_One.eq (k : Nat) (a0 : Int) : run (E26 k) 20 54 [.v (.int .u32 a0)] [] (fun x _ => d6 x) = known_One.f a0 := by kernel_rfl
theorem known_One.calls (k : Nat) (a0 : Int) {w : World} (g : G w) {t : Int × Int} (h : known_One.f a0 = some t) : Calls Tryz.prog 54 #[.int .u32 a0] w fun e w' => e = .returned (d6e t) ∧ Below w.heap.size w w' :=
  (all26 k).calls (vs := [.int .u32 a0]) g d6_ok ((known_One.eq k a0).trans h)
noncomputable def known_One.s (k : Nat) : Sum := { T := Int × Int, get := fun l => match l with | [.int .u32 a0] => some (known_One.f a0) | _ => none, enc := d6e }
noncomputable def E27 (k : Nat) : Eng := (E26 k).add 54 (known_One.s k)
theorem all27 (k : Nat) : EngAll (E27 k) := (all26 k).add (by kernel_rfl) (by
  intro vs t w g h
  simp only [known_One.s] at h
  split at h
  · exact known_One.calls k _ (show G w from g) (Option.some.inj h)
  · cases h)

/-! ### lamplighter/known.All -/
def known_All.f : Option (Int × Int) := some (0, 0)
theorem known_All.eq (k : Nat) : run (E27 k) 20 73 [] [] (fun x _ => d6 x) = known_All.f := by kernel_rfl
theorem known_All.calls (k : Nat) {w : World} (g : G w) {t : Int × Int} (h : known_All.f = some t) : Calls Tryz.prog 73 #[] w fun e w' => e = .returned (d6e t) ∧ Below w.heap.size w w' :=
  (all27 k).calls (vs := []) g d6_ok ((known_All.eq k).trans h)
noncomputable def known_All.s (k : Nat) : Sum := { T := Int × Int, get := fun l => match l with | [] => some (known_All.f) | _ => none, enc := d6e }
noncomputable def E28 (k : Nat) : Eng := (E27 k).add 73 (known_All.s k)
theorem all28 (k : Nat) : EngAll (E28 k) := (all27 k).add (by kernel_rfl) (by
  intro vs t w g h
  simp only [known_All.s] at h
  split at h
  · exact known_All.calls k (show G w from g) (Option.some.inj h)
  · cases h)

/-! ### lamplighter/known.Meet -/
def known_Meet.f (a0_0 : Int) (a0_1 : Int) (a1_0 : Int) (a1_1 : Int) : Option (Int × Int × Bool) := (br (!eqI (bitw .andNot .u32 a0_1 a0_0) 0) (some (0, 0, false)) (br (!eqI (bitw .andNot .u32 a1_1 a1_0) 0) (some (0, 0, false)) (br (!eqI (bitw .and .u32 (bitw .and .u32 (bitw .xor .u32 a0_1 a1_1) a0_0) a1_0) 0) (some (0, 0, false)) (some ((bitw .or .u32 a0_0 a1_0), (bitw .or .u32 a0_1 a1_1), true)))))
theorem known_Meet.eq (k : Nat) (a0_0 : Int) (a0_1 : Int) (a1_0 : Int) (a1_1 : Int) : run (E28 k) 20 69 [.v (.agg ⟨[.int .u32 a0_0, .int .u32 a0_1]⟩), .v (.agg ⟨[.int .u32 a1_0, .int .u32 a1_1]⟩)] [] (fun x _ => d7 x) = known_Meet.f a0_0 a0_1 a1_0 a1_1 := by kernel_rfl
theorem known_Meet.calls (k : Nat) (a0_0 : Int) (a0_1 : Int) (a1_0 : Int) (a1_1 : Int) {w : World} (g : G w) {t : Int × Int × Bool} (h : known_Meet.f a0_0 a0_1 a1_0 a1_1 = some t) : Calls Tryz.prog 69 #[.agg ⟨[.int .u32 a0_0, .int .u32 a0_1]⟩, .agg ⟨[.int .u32 a1_0, .int .u32 a1_1]⟩] w fun e w' => e = .returned (d7e t) ∧ Below w.heap.size w w' :=
  (all28 k).calls (vs := [.agg ⟨[.int .u32 a0_0, .int .u32 a0_1]⟩, .agg ⟨[.int .u32 a1_0, .int .u32 a1_1]⟩]) g d7_ok ((known_Meet.eq k a0_0 a0_1 a1_0 a1_1).trans h)
noncomputable def known_Meet.s (k : Nat) : Sum := { T := Int × Int × Bool, get := fun l => match l with | [.agg ⟨[.int .u32 a0_0, .int .u32 a0_1]⟩, .agg ⟨[.int .u32 a1_0, .int .u32 a1_1]⟩] => some (known_Meet.f a0_0 a0_1 a1_0 a1_1) | _ => none, enc := d7e }
noncomputable def E29 (k : Nat) : Eng := (E28 k).add 69 (known_Meet.s k)
theorem all29 (k : Nat) : EngAll (E29 k) := (all28 k).add (by kernel_rfl) (by
  intro vs t w g h
  simp only [known_Meet.s] at h
  split at h
  · exact known_Meet.calls k _ _ _ _ (show G w from g) (Option.some.inj h)
  · cases h)

/-! ### lamplighter/known.Join -/
def known_Join.f (a0_0 : Int) (a0_1 : Int) (a1_0 : Int) (a1_1 : Int) : Option (Int × Int) := (br (!eqI (bitw .andNot .u32 a0_1 a0_0) 0) ((known_All.f).bind fun t1 => some (t1.1, t1.2)) (br (!eqI (bitw .andNot .u32 a1_1 a1_0) 0) ((known_All.f).bind fun t2 => some (t2.1, t2.2)) (some ((bitw .andNot .u32 (bitw .and .u32 a0_0 a1_0) (bitw .xor .u32 a0_1 a1_1)), (bitw .and .u32 a0_1 (bitw .andNot .u32 (bitw .and .u32 a0_0 a1_0) (bitw .xor .u32 a0_1 a1_1)))))))
theorem known_Join.eq (k : Nat) (a0_0 : Int) (a0_1 : Int) (a1_0 : Int) (a1_1 : Int) : run (E29 k) 20 43 [.v (.agg ⟨[.int .u32 a0_0, .int .u32 a0_1]⟩), .v (.agg ⟨[.int .u32 a1_0, .int .u32 a1_1]⟩)] [] (fun x _ => d6 x) = known_Join.f a0_0 a0_1 a1_0 a1_1 := by kernel_rfl
theorem known_Join.calls (k : Nat) (a0_0 : Int) (a0_1 : Int) (a1_0 : Int) (a1_1 : Int) {w : World} (g : G w) {t : Int × Int} (h : known_Join.f a0_0 a0_1 a1_0 a1_1 = some t) : Calls Tryz.prog 43 #[.agg ⟨[.int .u32 a0_0, .int .u32 a0_1]⟩, .agg ⟨[.int .u32 a1_0, .int .u32 a1_1]⟩] w fun e w' => e = .returned (d6e t) ∧ Below w.heap.size w w' :=
  (all29 k).calls (vs := [.agg ⟨[.int .u32 a0_0, .int .u32 a0_1]⟩, .agg ⟨[.int .u32 a1_0, .int .u32 a1_1]⟩]) g d6_ok ((known_Join.eq k a0_0 a0_1 a1_0 a1_1).trans h)
noncomputable def known_Join.s (k : Nat) : Sum := { T := Int × Int, get := fun l => match l with | [.agg ⟨[.int .u32 a0_0, .int .u32 a0_1]⟩, .agg ⟨[.int .u32 a1_0, .int .u32 a1_1]⟩] => some (known_Join.f a0_0 a0_1 a1_0 a1_1) | _ => none, enc := d6e }
noncomputable def E30 (k : Nat) : Eng := (E29 k).add 43 (known_Join.s k)
theorem all30 (k : Nat) : EngAll (E30 k) := (all29 k).add (by kernel_rfl) (by
  intro vs t w g h
  simp only [known_Join.s] at h
  split at h
  · exact known_Join.calls k _ _ _ _ (show G w from g) (Option.some.inj h)
  · cases h)

/-! ### lamplighter/known.Has -/
def known_Has.f (a0_0 : Int) (a0_1 : Int) (a1 : Int) : Option (Bool) := (br (!eqI (bitw .andNot .u32 a0_1 a0_0) 0) (some (false)) (some ((eqI (bitw .and .u32 a1 a0_0) a0_1))))
theorem known_Has.eq (k : Nat) (a0_0 : Int) (a0_1 : Int) (a1 : Int) : run (E30 k) 20 122 [.v (.agg ⟨[.int .u32 a0_0, .int .u32 a0_1]⟩), .v (.int .u32 a1)] [] (fun x _ => d5 x) = known_Has.f a0_0 a0_1 a1 := by kernel_rfl
theorem known_Has.calls (k : Nat) (a0_0 : Int) (a0_1 : Int) (a1 : Int) {w : World} (g : G w) {t : Bool} (h : known_Has.f a0_0 a0_1 a1 = some t) : Calls Tryz.prog 122 #[.agg ⟨[.int .u32 a0_0, .int .u32 a0_1]⟩, .int .u32 a1] w fun e w' => e = .returned (d5e t) ∧ Below w.heap.size w w' :=
  (all30 k).calls (vs := [.agg ⟨[.int .u32 a0_0, .int .u32 a0_1]⟩, .int .u32 a1]) g d5_ok ((known_Has.eq k a0_0 a0_1 a1).trans h)
noncomputable def known_Has.s (k : Nat) : Sum := { T := Bool, get := fun l => match l with | [.agg ⟨[.int .u32 a0_0, .int .u32 a0_1]⟩, .int .u32 a1] => some (known_Has.f a0_0 a0_1 a1) | _ => none, enc := d5e }
noncomputable def E31 (k : Nat) : Eng := (E30 k).add 122 (known_Has.s k)
theorem all31 (k : Nat) : EngAll (E31 k) := (all30 k).add (by kernel_rfl) (by
  intro vs t w g h
  simp only [known_Has.s] at h
  split at h
  · exact known_Has.calls k _ _ _ (show G w from g) (Option.some.inj h)
  · cases h)

/-! ### lamplighter/known.Within -/
def known_Within.f (a0_0 : Int) (a0_1 : Int) (a1_0 : Int) (a1_1 : Int) : Option (Bool) := (br (!eqI (bitw .andNot .u32 a0_1 a0_0) 0) (some (false)) (br (!eqI (bitw .andNot .u32 a1_1 a1_0) 0) (some (false)) (br (eqI (bitw .andNot .u32 a1_0 a0_0) 0) (some ((eqI (bitw .and .u32 a0_1 a1_0) a1_1))) (some (false)))))
theorem known_Within.eq (k : Nat) (a0_0 : Int) (a0_1 : Int) (a1_0 : Int) (a1_1 : Int) : run (E31 k) 20 102 [.v (.agg ⟨[.int .u32 a0_0, .int .u32 a0_1]⟩), .v (.agg ⟨[.int .u32 a1_0, .int .u32 a1_1]⟩)] [] (fun x _ => d5 x) = known_Within.f a0_0 a0_1 a1_0 a1_1 := by kernel_rfl
theorem known_Within.calls (k : Nat) (a0_0 : Int) (a0_1 : Int) (a1_0 : Int) (a1_1 : Int) {w : World} (g : G w) {t : Bool} (h : known_Within.f a0_0 a0_1 a1_0 a1_1 = some t) : Calls Tryz.prog 102 #[.agg ⟨[.int .u32 a0_0, .int .u32 a0_1]⟩, .agg ⟨[.int .u32 a1_0, .int .u32 a1_1]⟩] w fun e w' => e = .returned (d5e t) ∧ Below w.heap.size w w' :=
  (all31 k).calls (vs := [.agg ⟨[.int .u32 a0_0, .int .u32 a0_1]⟩, .agg ⟨[.int .u32 a1_0, .int .u32 a1_1]⟩]) g d5_ok ((known_Within.eq k a0_0 a0_1 a1_0 a1_1).trans h)
noncomputable def known_Within.s (k : Nat) : Sum := { T := Bool, get := fun l => match l with | [.agg ⟨[.int .u32 a0_0, .int .u32 a0_1]⟩, .agg ⟨[.int .u32 a1_0, .int .u32 a1_1]⟩] => some (known_Within.f a0_0 a0_1 a1_0 a1_1) | _ => none, enc := d5e }
noncomputable def E32 (k : Nat) : Eng := (E31 k).add 102 (known_Within.s k)
theorem all32 (k : Nat) : EngAll (E32 k) := (all31 k).add (by kernel_rfl) (by
  intro vs t w g h
  simp only [known_Within.s] at h
  split at h
  · exact known_Within.calls k _ _ _ _ (show G w from g) (Option.some.inj h)
  · cases h)

/-! ### lamplighter/known.carried -/
def known_carried.b_l5 (k : Nat) (a0_0 : Int) (a0_1 : Int) (a1_0 : Int) (a1_1 : Int) (a2 : Int) (G : Int → Int → Option (Int × Int)) (x3 : Int) (x4 : Int) : Option (Int × Int) := (br (eqI x3 32) (br (eqI x3 32) ((word_Do.f a2 a0_1 a1_1).bind fun t6 => (br (ltI x3 0) none (some ((IntKind.u32.wrap (IntKind.u64.wrap ((X.shl .u64 1 x3) - 1))), (bitw .and .u32 t6.1 (IntKind.u32.wrap (IntKind.u64.wrap ((X.shl .u64 1 x3) - 1)))))))) (G (IntKind.i64.wrap (x3 + 1)) (X.shl .u32 x4 1))) (br (eqI (bitw .and .u32 (bitw .and .u32 a0_0 a1_0) x4) 0) ((word_Do.f a2 a0_1 a1_1).bind fun t7 => (br (ltI x3 0) none (some ((IntKind.u32.wrap (IntKind.u64.wrap ((X.shl .u64 1 x3) - 1))), (bitw .and .u32 t7.1 (IntKind.u32.wrap (IntKind.u64.wrap ((X.shl .u64 1 x3) - 1)))))))) (G (IntKind.i64.wrap (x3 + 1)) (X.shl .u32 x4 1))))
def known_carried.l5 (k : Nat) (a0_0 : Int) (a0_1 : Int) (a1_0 : Int) (a1_1 : Int) (a2 : Int) : Nat → Int → Int → Option (Int × Int)
  | 0, _, _ => none
  | n + 1, x3, x4 => known_carried.b_l5 k a0_0 a0_1 a1_0 a1_1 a2 (known_carried.l5 k a0_0 a0_1 a1_0 a1_1 a2 n) x3 x4
theorem known_carried.e_l5 (k : Nat) (a0_0 : Int) (a0_1 : Int) (a1_0 : Int) (a1_1 : Int) (a2 : Int) : ∀ (n : Nat) (x3 : Int) (x4 : Int), loopAt (E32 k) 19 107 Tryz.f107 (cod Tryz.f107) [1, 0, 1, 1, 0, 1, 0] 5 n ⟨[(.v (.agg #[(.int .u32 a0_0), (.int .u32 a0_1)])), (.v (.agg #[(.int .u32 a1_0), (.int .u32 a1_1)])), (.v (.int .i64 a2)), (.p 0 0), (.p 1 0), (.v undef), (.p 2 0), (.v (.int .i64 x3)), (.v (.int .u32 x4)), (.v undef), (.v undef), .u, .u, .u, .u, .u, .u, .u, .u, .u, .u, .u, .u, .u, .u, .u, .u, .u, .u, .u, .u, .u, .u, .u, .u, .u, .u, .u], [some (26, [(.v (.int .u32 a0_0)), (.v (.int .u32 a0_1))]), some (26, [(.v (.int .u32 a1_0)), (.v (.int .u32 a1_1))]), some (26, [(.v (.int .u32 0)), (.v (.int .u32 0))]), none, none]⟩ (fun x _ => d6 x) = known_carried.l5 k a0_0 a0_1 a1_0 a1_1 a2 n x3 x4 := by
  intro n
  induction n with
  | zero => intros; rfl
  | succ n ih =>
    intro x3 x4
    have step : loopAt (E32 k) 19 107 Tryz.f107 (cod Tryz.f107) [1, 0, 1, 1, 0, 1, 0] 5 (n + 1) ⟨[(.v (.agg #[(.int .u32 a0_0), (.int .u32 a0_1)])), (.v (.agg #[(.int .u32 a1_0), (.int .u32 a1_1)])), (.v (.int .i64 a2)), (.p 0 0), (.p 1 0), (.v undef), (.p 2 0), (.v (.int .i64 x3)), (.v (.int .u32 x4)), (.v undef), (.v undef), .u, .u, .u, .u, .u, .u, .u, .u, .u, .u, .u, .u, .u, .u, .u, .u, .u, .u, .u, .u, .u, .u, .u, .u, .u, .u, .u], [some (26, [(.v (.int .u32 a0_0)), (.v (.int .u32 a0_1))]), some (26, [(.v (.int .u32 a1_0)), (.v (.int .u32 a1_1))]), some (26, [(.v (.int .u32 0)), (.v (.int .u32 0))]), none, none]⟩ (fun x _ => d6 x) = known_carried.b_l5 k a0_0 a0_1 a1_0 a1_1 a2 (fun x3 x4 => loopAt (E32 k) 19 107 Tryz.f107 (cod Tryz.f107) [1, 0, 1, 1, 0, 1, 0] 5 n ⟨[(.v (.agg #[(.int .u32 a0_0), (.int .u32 a0_1)])), (.v (.agg #[(.int .u32 a1_0), (.int .u32 a1_1)])), (.v (.int .i64 a2)), (.p 0 0), (.p 1 0), (.v undef), (.p 2 0), (.v (.int .i64 x3)), (.v (.int .u32 x4)), (.v undef), (.v undef), .u, .u, .u, .u, .u, .u, .u, .u, .u, .u, .u, .u, .u, .u, .u, .u, .u, .u, .u, .u, .u, .u, .u, .u, .u, .u, .u], [some (26, [(.v (.int .u32 a0_0)), (.v (.int .u32 a0_1))]), some (26, [(.v (.int .u32 a1_0)), (.v (.int .u32 a1_1))]), some (26, [(.v (.int .u32 0)), (.v (.int .u32 0))]), none, none]⟩ (fun x _ => d6 x)) x3 x4 := by kernel_rfl
    rw [step]
    have e : (fun x3 x4 => loopAt (E32 k) 19 107 Tryz.f107 (cod Tryz.f107) [1, 0, 1, 1, 0, 1, 0] 5 n ⟨[(.v (.agg #[(.int .u32 a0_0), (.int .u32 a0_1)])), (.v (.agg #[(.int .u32 a1_0), (.int .u32 a1_1)])), (.v (.int .i64 a2)), (.p 0 0), (.p 1 0), (.v undef), (.p 2 0), (.v (.int .i64 x3)), (.v (.int .u32 x4)), (.v undef), (.v undef), .u, .u, .u, .u, .u, .u, .u, .u, .u, .u, .u, .u, .u, .u, .u, .u, .u, .u, .u, .u, .u, .u, .u, .u, .u, .u, .u], [some (26, [(.v (.int .u32 a0_0)), (.v (.int .u32 a0_1))]), some (26, [(.v (.int .u32 a1_0)), (.v (.int .u32 a1_1))]), some (26, [(.v (.int .u32 0)), (.v (.int .u32 0))]), none, none]⟩ (fun x _ => d6 x)) = known_carried.l5 k a0_0 a0_1 a1_0 a1_1 a2 n := funext fun x3 => funext fun x4 => ih x3 x4
    rw [e]
    rfl
def known_carried.g (k : Nat) (H_l5 : Int → Int → Int → Int → Int → Nat → Int → Int → Option (Int × Int)) (a0_0 : Int) (a0_1 : Int) (a1_0 : Int) (a1_1 : Int) (a2 : Int) : Option (Int × Int) := (H_l5 a0_0 a0_1 a1_0 a1_1 a2 k 0 1)
def known_carried.f (k : Nat) (a0_0 : Int) (a0_1 : Int) (a1_0 : Int) (a1_1 : Int) (a2 : Int) : Option (Int × Int) := known_carried.g k (known_carried.l5 k) a0_0 a0_1 a1_0 a1_1 a2
theorem known_carried.eq (k : Nat) (a0_0 : Int) (a0_1 : Int) (a1_0 : Int) (a1_1 : Int) (a2 : Int) : run (E32 k) 20 107 [.v (.agg ⟨[.int .u32 a0_0, .int .u32 a0_1]⟩), .v (.agg ⟨[.int .u32 a1_0, .int .u32 a1_1]⟩), .v (.int .i64 a2)] [] (fun x _ => d6 x) = known_carried.f k a0_0 a0_1 a1_0 a1_1 a2 := by
  have step : run (E32 k) 20 107 [.v (.agg ⟨[.int .u32 a0_0, .int .u32 a0_1]⟩), .v (.agg ⟨[.int .u32 a1_0, .int .u32 a1_1]⟩), .v (.int .i64 a2)] [] (fun x _ => d6 x) = known_carried.g k (fun a0_0 a0_1 a1_0 a1_1 a2 n x3 x4 => loopAt (E32 k) 19 107 Tryz.f107 (cod Tryz.f107) [1, 0, 1, 1, 0, 1, 0] 5 n ⟨[(.v (.agg #[(.int .u32 a0_0), (.int .u32 a0_1)])), (.v (.agg #[(.int .u32 a1_0), (.int .u32 a1_1)])), (.v (.int .i64 a2)), (.p 0 0), (.p 1 0), (.v undef), (.p 2 0), (.v (.int .i64 x3)), (.v (.int .u32 x4)), (.v undef), (.v undef), .u, .u, .u, .u, .u, .u, .u, .u, .u, .u, .u, .u, .u, .u, .u, .u, .u, .u, .u, .u, .u, .u, .u, .u, .u, .u, .u], [some (26, [(.v (.int .u32 a0_0)), (.v (.int .u32 a0_1))]), some (26, [(.v (.int .u32 a1_0)), (.v (.int .u32 a1_1))]), some (26, [(.v (.int .u32 0)), (.v (.int .u32 0))]), none, none]⟩ (fun x _ => d6 x)) a0_0 a0_1 a1_0 a1_1 a2 := by kernel_rfl
  rw [step]
  have e_l5 : (fun a0_0 a0_1 a1_0 a1_1 a2 n x3 x4 => loopAt (E32 k) 19 107 Tryz.f107 (cod Tryz.f107) [1, 0, 1, 1, 0, 1, 0] 5 n ⟨[(.v (.agg #[(.int .u32 a0_0), (.int .u32 a0_1)])), (.v (.agg #[(.int .u32 a1_0), (.int .u32 a1_1)])), (.v (.int .i64 a2)), (.p 0 0), (.p 1 0), (.v undef), (.p 2 0), (.v (.int .i64 x3)), (.v (.int .u32 x4)), (.v undef), (.v undef), .u, .u, .u, .u, .u, .u, .u, .u, .u, .u, .u, .u, .u, .u, .u, .u, .u, .u, .u, .u, .u, .u, .u, .u, .u, .u, .u], [some (26, [(.v (.int .u32 a0_0)), (.v (.int .u32 a0_1))]), some (26, [(.v (.int .u32 a1_0)), (.v (.int .u32 a1_1))]), some (26, [(.v (.int .u32 0)), (.v (.int .u32 0))]), none, none]⟩ (fun x _ => d6 x)) = known_carried.l5 k := funext fun a0_0 => funext fun a0_1 => funext fun a1_0 => funext fun a1_1 => funext fun a2 => funext fun n => funext fun x3 => funext fun x4 => known_carried.e_l5 k a0_0 a0_1 a1_0 a1_1 a2 n x3 x4
  rw [e_l5]
  rfl
theorem known_carried.calls (k : Nat) (a0_0 : Int) (a0_1 : Int) (a1_0 : Int) (a1_1 : Int) (a2 : Int) {w : World} (g : G w) {t : Int × Int} (h : known_carried.f k a0_0 a0_1 a1_0 a1_1 a2 = some t) : Calls Tryz.prog 107 #[.agg ⟨[.int .u32 a0_0, .int .u32 a0_1]⟩, .agg ⟨[.int .u32 a1_0, .int .u32 a1_1]⟩, .int .i64 a2] w fun e w' => e = .returned (d6e t) ∧ Below w.heap.size w w' :=
  (all32 k).calls (vs := [.agg ⟨[.int .u32 a0_0, .int .u32 a0_1]⟩, .agg ⟨[.int .u32 a1_0, .int .u32 a1_1]⟩, .int .i64 a2]) g d6_ok ((known_carried.eq k a0_0 a0_1 a1_0 a1_1 a2).trans h)
noncomputable def known_carried.s (k : Nat) : Sum := { T := Int × Int, get := fun l => match l with | [.agg ⟨[.int .u32 a0_0, .int .u32 a0_1]⟩, .agg ⟨[.int .u32 a1_0, .int .u32 a1_1]⟩, .int .i64 a2] => some (known_carried.f k a0_0 a0_1 a1_0 a1_1 a2) | _ => none, enc := d6e }
noncomputable def E33 (k : Nat) : Eng := (E32 k).add 107 (known_carried.s k)
theorem all33 (k : Nat) : EngAll (E33 k) := (all32 k).add (by kernel_rfl) (by
  intro vs t w g h
  simp only [known_carried.s] at h
  split at h
  · exact known_carried.calls k _ _ _ _ _ (show G w from g) (Option.some.inj h)
  · cases h)

/-! ### lamplighter/known.noughts -/
def known_noughts.f (a0_0 : Int) (a0_1 : Int) : Option (Int) := some ((bitw .andNot .u32 a0_0 a0_1))
theorem known_noughts.eq (k : Nat) (a0_0 : Int) (a0_1 : Int) : run (E33 k) 20 106 [.v (.agg ⟨[.int .u32 a0_0, .int .u32 a0_1]⟩)] [] (fun x _ => d8 x) = known_noughts.f a0_0 a0_1 := by kernel_rfl
theorem known_noughts.calls (k : Nat) (a0_0 : Int) (a0_1 : Int) {w : World} (g : G w) {t : Int} (h : known_noughts.f a0_0 a0_1 = some t) : Calls Tryz.prog 106 #[.agg ⟨[.int .u32 a0_0, .int .u32 a0_1]⟩] w fun e w' => e = .returned (d8e t) ∧ Below w.heap.size w w' :=
  (all33 k).calls (vs := [.agg ⟨[.int .u32 a0_0, .int .u32 a0_1]⟩]) g d8_ok ((known_noughts.eq k a0_0 a0_1).trans h)
noncomputable def known_noughts.s (k : Nat) : Sum := { T := Int, get := fun l => match l with | [.agg ⟨[.int .u32 a0_0, .int .u32 a0_1]⟩] => some (known_noughts.f a0_0 a0_1) | _ => none, enc := d8e }
noncomputable def E34 (k : Nat) : Eng := (E33 k).add 106 (known_noughts.s k)
theorem all34 (k : Nat) : EngAll (E34 k) := (all33 k).add (by kernel_rfl) (by
  intro vs t w g h
  simp only [known_noughts.s] at h
  split at h
  · exact known_noughts.calls k _ _ (show G w from g) (Option.some.inj h)
  · cases h)

/-! ### lamplighter/known.low -/
def known_low.f (a0 : Int) (a1 : Int) : Option (Int × Int) := (br (ltI a0 0) none (some ((IntKind.u32.wrap (IntKind.u64.wrap ((X.shl .u64 1 a0) - 1))), (bitw .and .u32 a1 (IntKind.u32.wrap (IntKind.u64.wrap ((X.shl .u64 1 a0) - 1)))))))
theorem known_low.eq (k : Nat) (a0 : Int) (a1 : Int) : run (E34 k) 20 110 [.v (.int .i64 a0), .v (.int .u32 a1)] [] (fun x _ => d6 x) = known_low.f a0 a1 := by kernel_rfl
theorem known_low.calls (k : Nat) (a0 : Int) (a1 : Int) {w : World} (g : G w) {t : Int × Int} (h : known_low.f a0 a1 = some t) : Calls Tryz.prog 110 #[.int .i64 a0, .int .u32 a1] w fun e w' => e = .returned (d6e t) ∧ Below w.heap.size w w' :=
  (all34 k).calls (vs := [.int .i64 a0, .int .u32 a1]) g d6_ok ((known_low.eq k a0 a1).trans h)
noncomputable def known_low.s (k : Nat) : Sum := { T := Int × Int, get := fun l => match l with | [.int .i64 a0, .int .u32 a1] => some (known_low.f a0 a1) | _ => none, enc := d6e }
noncomputable def E35 (k : Nat) : Eng := (E34 k).add 110 (known_low.s k)
theorem all35 (k : Nat) : EngAll (E35 k) := (all34 k).add (by kernel_rfl) (by
  intro vs t w g h
  simp only [known_low.s] at h
  split at h
  · exact known_low.calls k _ _ (show G w from g) (Option.some.inj h)
  · cases h)

/-! ### lamplighter/known.shift -/
def known_shift.f (a0_0 : Int) (a0_1 : Int) (a1 : Int) (a2 : Int) : Option (Int × Int) := ((word_Do.f a2 a0_0 a1).bind fun t1 => ((word_Do.f a2 a0_1 a1).bind fun t2 => (br (eqI a2 11) (br (ltI (if 32 < a1 then 32 else a1) 0) none (some ((bitw .or .u32 t1.1 (IntKind.u32.wrap (IntKind.u64.wrap ((X.shl .u64 1 (if 32 < a1 then 32 else a1)) - 1)))), (bitw .and .u32 t2.1 (bitw .or .u32 t1.1 (IntKind.u32.wrap (IntKind.u64.wrap ((X.shl .u64 1 (if 32 < a1 then 32 else a1)) - 1)))))))) (br (eqI a2 12) (br (ltI (if 32 < a1 then 32 else a1) 0) none (some ((bitw .or .u32 t1.1 (bitw .xor .u32 IntKind.u32.max (IntKind.u32.wrap (X.shr .u64 4294967295 (if 32 < a1 then 32 else a1))))), (bitw .and .u32 t2.1 (bitw .or .u32 t1.1 (bitw .xor .u32 IntKind.u32.max (IntKind.u32.wrap (X.shr .u64 4294967295 (if 32 < a1 then 32 else a1))))))))) (some (t1.1, (bitw .and .u32 t2.1 t1.1)))))))
theorem known_shift.eq (k : Nat) (a0_0 : Int) (a0_1 : Int) (a1 : Int) (a2 : Int) : run (E35 k) 20 111 [.v (.agg ⟨[.int .u32 a0_0, .int .u32 a0_1]⟩), .v (.int .u32 a1), .v (.int .i64 a2)] [] (fun x _ => d6 x) = known_shift.f a0_0 a0_1 a1 a2 := by kernel_rfl
theorem known_shift.calls (k : Nat) (a0_0 : Int) (a0_1 : Int) (a1 : Int) (a2 : Int) {w : World} (g : G w) {t : Int × Int} (h : known_shift.f a0_0 a0_1 a1 a2 = some t) : Calls Tryz.prog 111 #[.agg ⟨[.int .u32 a0_0, .int .u32 a0_1]⟩, .int .u32 a1, .int .i64 a2] w fun e w' => e = .returned (d6e t) ∧ Below w.heap.size w w' :=
  (all35 k).calls (vs := [.agg ⟨[.int .u32 a0_0, .int .u32 a0_1]⟩, .int .u32 a1, .int .i64 a2]) g d6_ok ((known_shift.eq k a0_0 a0_1 a1 a2).trans h)
noncomputable def known_shift.s (k : Nat) : Sum := { T := Int × Int, get := fun l => match l with | [.agg ⟨[.int .u32 a0_0, .int .u32 a0_1]⟩, .int .u32 a1, .int .i64 a2] => some (known_shift.f a0_0 a0_1 a1 a2) | _ => none, enc := d6e }
noncomputable def E36 (k : Nat) : Eng := (E35 k).add 111 (known_shift.s k)
theorem all36 (k : Nat) : EngAll (E36 k) := (all35 k).add (by kernel_rfl) (by
  intro vs t w g h
  simp only [known_shift.s] at h
  split at h
  · exact known_shift.calls k _ _ _ _ (show G w from g) (Option.some.inj h)
  · cases h)

/-! ### lamplighter/known.compared -/
def known_compared.f (a0 : Int) (a1_0 : Int) (a1_1 : Int) (a2_0 : Int) (a2_1 : Int) : Option (Int × Int) := ((known_Meet.f a1_0 a1_1 a2_0 a2_1).bind fun t1 => (br (eqI (bitw .and .u32 a1_0 a2_0) 4294967295) ((word_Do.f a0 a1_1 a2_1).bind fun t2 => ((known_One.f t2.1).bind fun t3 => some (t3.1, t3.2))) (br (eqI a0 14) (br (!t1.2.2) ((known_One.f 0).bind fun t4 => some (t4.1, t4.2)) (br (eqI a0 15) (br (!t1.2.2) ((known_One.f 1).bind fun t5 => some (t5.1, t5.2)) (some (4294967294, 0))) (some (4294967294, 0)))) (br (eqI a0 15) (br (!t1.2.2) ((known_One.f 1).bind fun t6 => some (t6.1, t6.2)) (some (4294967294, 0))) (some (4294967294, 0))))))
theorem known_compared.eq (k : Nat) (a0 : Int) (a1_0 : Int) (a1_1 : Int) (a2_0 : Int) (a2_1 : Int) : run (E36 k) 20 113 [.v (.int .i64 a0), .v (.agg ⟨[.int .u32 a1_0, .int .u32 a1_1]⟩), .v (.agg ⟨[.int .u32 a2_0, .int .u32 a2_1]⟩)] [] (fun x _ => d6 x) = known_compared.f a0 a1_0 a1_1 a2_0 a2_1 := by kernel_rfl
theorem known_compared.calls (k : Nat) (a0 : Int) (a1_0 : Int) (a1_1 : Int) (a2_0 : Int) (a2_1 : Int) {w : World} (g : G w) {t : Int × Int} (h : known_compared.f a0 a1_0 a1_1 a2_0 a2_1 = some t) : Calls Tryz.prog 113 #[.int .i64 a0, .agg ⟨[.int .u32 a1_0, .int .u32 a1_1]⟩, .agg ⟨[.int .u32 a2_0, .int .u32 a2_1]⟩] w fun e w' => e = .returned (d6e t) ∧ Below w.heap.size w w' :=
  (all36 k).calls (vs := [.int .i64 a0, .agg ⟨[.int .u32 a1_0, .int .u32 a1_1]⟩, .agg ⟨[.int .u32 a2_0, .int .u32 a2_1]⟩]) g d6_ok ((known_compared.eq k a0 a1_0 a1_1 a2_0 a2_1).trans h)
noncomputable def known_compared.s (k : Nat) : Sum := { T := Int × Int, get := fun l => match l with | [.int .i64 a0, .agg ⟨[.int .u32 a1_0, .int .u32 a1_1]⟩, .agg ⟨[.int .u32 a2_0, .int .u32 a2_1]⟩] => some (known_compared.f a0 a1_0 a1_1 a2_0 a2_1) | _ => none, enc := d6e }
noncomputable def E37 (k : Nat) : Eng := (E36 k).add 113 (known_compared.s k)
theorem all37 (k : Nat) : EngAll (E37 k) := (all36 k).add (by kernel_rfl) (by
  intro vs t w g h
  simp only [known_compared.s] at h
  split at h
  · exact known_compared.calls k _ _ _ _ _ (show G w from g) (Option.some.inj h)
  · cases h)

/-! ### lamplighter/known.divided -/
def known_divided.f (a0 : Int) (a1_0 : Int) (a1_1 : Int) (a2_0 : Int) (a2_1 : Int) : Option (Int × Int × Bool) := (br (eqI a2_0 4294967295) (br (eqI a2_1 0) (some (0, 0, false)) (br (eqI (bitw .and .u32 a1_0 a2_0) 4294967295) ((word_Do.f a0 a1_1 a2_1).bind fun t1 => ((known_One.f t1.1).bind fun t2 => some (t2.1, t2.2, true))) (br (eqI a0 5) (br (eqI a2_0 4294967295) ((bits_OnesCount32.f a2_1).bind fun t3 => (br (eqI t3 1) (some ((bitw .or .u32 (bitw .and .u32 a1_0 (IntKind.u32.wrap (a2_1 - 1))) (bitw .xor .u32 IntKind.u32.max (IntKind.u32.wrap (a2_1 - 1)))), (bitw .and .u32 a1_1 (IntKind.u32.wrap (a2_1 - 1))), true)) ((known_All.f).bind fun t4 => some (t4.1, t4.2, true)))) ((known_All.f).bind fun t5 => some (t5.1, t5.2, true))) ((known_All.f).bind fun t6 => some (t6.1, t6.2, true))))) (br (eqI (bitw .and .u32 a1_0 a2_0) 4294967295) ((word_Do.f a0 a1_1 a2_1).bind fun t7 => ((known_One.f t7.1).bind fun t8 => some (t8.1, t8.2, true))) (br (eqI a0 5) (br (eqI a2_0 4294967295) ((bits_OnesCount32.f a2_1).bind fun t9 => (br (eqI t9 1) (some ((bitw .or .u32 (bitw .and .u32 a1_0 (IntKind.u32.wrap (a2_1 - 1))) (bitw .xor .u32 IntKind.u32.max (IntKind.u32.wrap (a2_1 - 1)))), (bitw .and .u32 a1_1 (IntKind.u32.wrap (a2_1 - 1))), true)) ((known_All.f).bind fun t10 => some (t10.1, t10.2, true)))) ((known_All.f).bind fun t11 => some (t11.1, t11.2, true))) ((known_All.f).bind fun t12 => some (t12.1, t12.2, true)))))
theorem known_divided.eq (k : Nat) (a0 : Int) (a1_0 : Int) (a1_1 : Int) (a2_0 : Int) (a2_1 : Int) : run (E37 k) 20 114 [.v (.int .i64 a0), .v (.agg ⟨[.int .u32 a1_0, .int .u32 a1_1]⟩), .v (.agg ⟨[.int .u32 a2_0, .int .u32 a2_1]⟩)] [] (fun x _ => d7 x) = known_divided.f a0 a1_0 a1_1 a2_0 a2_1 := by kernel_rfl
theorem known_divided.calls (k : Nat) (a0 : Int) (a1_0 : Int) (a1_1 : Int) (a2_0 : Int) (a2_1 : Int) {w : World} (g : G w) {t : Int × Int × Bool} (h : known_divided.f a0 a1_0 a1_1 a2_0 a2_1 = some t) : Calls Tryz.prog 114 #[.int .i64 a0, .agg ⟨[.int .u32 a1_0, .int .u32 a1_1]⟩, .agg ⟨[.int .u32 a2_0, .int .u32 a2_1]⟩] w fun e w' => e = .returned (d7e t) ∧ Below w.heap.size w w' :=
  (all37 k).calls (vs := [.int .i64 a0, .agg ⟨[.int .u32 a1_0, .int .u32 a1_1]⟩, .agg ⟨[.int .u32 a2_0, .int .u32 a2_1]⟩]) g d7_ok ((known_divided.eq k a0 a1_0 a1_1 a2_0 a2_1).trans h)
noncomputable def known_divided.s (k : Nat) : Sum := { T := Int × Int × Bool, get := fun l => match l with | [.int .i64 a0, .agg ⟨[.int .u32 a1_0, .int .u32 a1_1]⟩, .agg ⟨[.int .u32 a2_0, .int .u32 a2_1]⟩] => some (known_divided.f a0 a1_0 a1_1 a2_0 a2_1) | _ => none, enc := d7e }
noncomputable def E38 (k : Nat) : Eng := (E37 k).add 114 (known_divided.s k)
theorem all38 (k : Nat) : EngAll (E38 k) := (all37 k).add (by kernel_rfl) (by
  intro vs t w g h
  simp only [known_divided.s] at h
  split at h
  · exact known_divided.calls k _ _ _ _ _ (show G w from g) (Option.some.inj h)
  · cases h)

/-! ### lamplighter/known.Do -/
def known_Do.f (k : Nat) (a0 : Int) (a1_0 : Int) (a1_1 : Int) (a2_0 : Int) (a2_1 : Int) : Option (Int × Int × Bool × Int) := ((word_Sign.f a0).bind fun t1 => (br (ByteArray.toList t1 == ByteArray.toList ⟨#[]⟩) (some (0, 0, false, 2)) (br (!eqI (bitw .andNot .u32 a1_1 a1_0) 0) (some (0, 0, false, 2)) (br (!eqI (bitw .andNot .u32 a2_1 a2_0) 0) (some (0, 0, false, 2)) (br (eqI a0 8) ((known_noughts.f a1_0 a1_1).bind fun t2 => ((known_noughts.f a2_0 a2_1).bind fun t3 => some ((bitw .or .u32 (bitw .or .u32 (bitw .and .u32 a1_0 a2_0) t2) t3), (bitw .and .u32 a1_1 a2_1), true, 0))) (br (eqI a0 9) (some ((bitw .or .u32 (bitw .or .u32 (bitw .and .u32 a1_0 a2_0) a1_1) a2_1), (bitw .or .u32 a1_1 a2_1), true, 0)) (br (eqI a0 10) (some ((bitw .and .u32 a1_0 a2_0), (bitw .and .u32 (bitw .xor .u32 a1_1 a2_1) (bitw .and .u32 a1_0 a2_0)), true, 0)) (br (eqI a0 1) (br (eqI a0 1) ((known_carried.f k a1_0 a1_1 a2_0 a2_1 a0).bind fun t4 => some (t4.1, t4.2, true, 0)) (br (eqI a0 3) (br (eqI (bitw .and .u32 a1_0 a2_0) 4294967295) ((known_One.f (IntKind.u32.wrap (a1_1 * a2_1))).bind fun t5 => some (t5.1, t5.2, true, 0)) ((known_noughts.f a1_0 a1_1).bind fun t6 => ((bits_TrailingZeros32.f (bitw .xor .u32 IntKind.u32.max t6)).bind fun t7 => ((known_noughts.f a2_0 a2_1).bind fun t8 => ((bits_TrailingZeros32.f (bitw .xor .u32 IntKind.u32.max t8)).bind fun t9 => ((known_low.f (if 32 < (IntKind.i64.wrap (t7 + t9)) then 32 else (IntKind.i64.wrap (t7 + t9))) 0).bind fun t10 => some (t10.1, t10.2, true, 0))))))) (br (eqI a0 11) (br (eqI a0 11) (br (!eqI a2_0 4294967295) ((known_All.f).bind fun t11 => some (t11.1, t11.2, true, 0)) ((known_shift.f a1_0 a1_1 a2_1 a0).bind fun t12 => some (t12.1, t12.2, true, 0))) ((word_Compares.f a0).bind fun t13 => (br t13 ((known_compared.f a0 a1_0 a1_1 a2_0 a2_1).bind fun t14 => some (t14.1, t14.2, true, 0)) ((known_divided.f a0 a1_0 a1_1 a2_0 a2_1).bind fun t15 => some (t15.1, t15.2.1, t15.2.2, 0))))) (br (eqI a0 12) (br (eqI a0 12) (br (!eqI a2_0 4294967295) ((known_All.f).bind fun t16 => some (t16.1, t16.2, true, 0)) ((known_shift.f a1_0 a1_1 a2_1 a0).bind fun t17 => some (t17.1, t17.2, true, 0))) ((word_Compares.f a0).bind fun t18 => (br t18 ((known_compared.f a0 a1_0 a1_1 a2_0 a2_1).bind fun t19 => some (t19.1, t19.2, true, 0)) ((known_divided.f a0 a1_0 a1_1 a2_0 a2_1).bind fun t20 => some (t20.1, t20.2.1, t20.2.2, 0))))) (br (eqI a0 13) (br (!eqI a2_0 4294967295) ((known_All.f).bind fun t21 => some (t21.1, t21.2, true, 0)) ((known_shift.f a1_0 a1_1 a2_1 a0).bind fun t22 => some (t22.1, t22.2, true, 0))) ((word_Compares.f a0).bind fun t23 => (br t23 ((known_compared.f a0 a1_0 a1_1 a2_0 a2_1).bind fun t24 => some (t24.1, t24.2, true, 0)) ((known_divided.f a0 a1_0 a1_1 a2_0 a2_1).bind fun t25 => some (t25.1, t25.2.1, t25.2.2, 0))))))))) (br (eqI a0 2) ((known_carried.f k a1_0 a1_1 a2_0 a2_1 a0).bind fun t26 => some (t26.1, t26.2, true, 0)) (br (eqI a0 3) (br (eqI (bitw .and .u32 a1_0 a2_0) 4294967295) ((known_One.f (IntKind.u32.wrap (a1_1 * a2_1))).bind fun t27 => some (t27.1, t27.2, true, 0)) ((known_noughts.f a1_0 a1_1).bind fun t28 => ((bits_TrailingZeros32.f (bitw .xor .u32 IntKind.u32.max t28)).bind fun t29 => ((known_noughts.f a2_0 a2_1).bind fun t30 => ((bits_TrailingZeros32.f (bitw .xor .u32 IntKind.u32.max t30)).bind fun t31 => ((known_low.f (if 32 < (IntKind.i64.wrap (t29 + t31)) then 32 else (IntKind.i64.wrap (t29 + t31))) 0).bind fun t32 => some (t32.1, t32.2, true, 0))))))) (br (eqI a0 11) (br (eqI a0 11) (br (!eqI a2_0 4294967295) ((known_All.f).bind fun t33 => some (t33.1, t33.2, true, 0)) ((known_shift.f a1_0 a1_1 a2_1 a0).bind fun t34 => some (t34.1, t34.2, true, 0))) ((word_Compares.f a0).bind fun t35 => (br t35 ((known_compared.f a0 a1_0 a1_1 a2_0 a2_1).bind fun t36 => some (t36.1, t36.2, true, 0)) ((known_divided.f a0 a1_0 a1_1 a2_0 a2_1).bind fun t37 => some (t37.1, t37.2.1, t37.2.2, 0))))) (br (eqI a0 12) (br (eqI a0 12) (br (!eqI a2_0 4294967295) ((known_All.f).bind fun t38 => some (t38.1, t38.2, true, 0)) ((known_shift.f a1_0 a1_1 a2_1 a0).bind fun t39 => some (t39.1, t39.2, true, 0))) ((word_Compares.f a0).bind fun t40 => (br t40 ((known_compared.f a0 a1_0 a1_1 a2_0 a2_1).bind fun t41 => some (t41.1, t41.2, true, 0)) ((known_divided.f a0 a1_0 a1_1 a2_0 a2_1).bind fun t42 => some (t42.1, t42.2.1, t42.2.2, 0))))) (br (eqI a0 13) (br (!eqI a2_0 4294967295) ((known_All.f).bind fun t43 => some (t43.1, t43.2, true, 0)) ((known_shift.f a1_0 a1_1 a2_1 a0).bind fun t44 => some (t44.1, t44.2, true, 0))) ((word_Compares.f a0).bind fun t45 => (br t45 ((known_compared.f a0 a1_0 a1_1 a2_0 a2_1).bind fun t46 => some (t46.1, t46.2, true, 0)) ((known_divided.f a0 a1_0 a1_1 a2_0 a2_1).bind fun t47 => some (t47.1, t47.2.1, t47.2.2, 0)))))))))))))))))
theorem known_Do.eq (k : Nat) (a0 : Int) (a1_0 : Int) (a1_1 : Int) (a2_0 : Int) (a2_1 : Int) : run (E38 k) 20 52 [.v (.int .i64 a0), .v (.agg ⟨[.int .u32 a1_0, .int .u32 a1_1]⟩), .v (.agg ⟨[.int .u32 a2_0, .int .u32 a2_1]⟩)] [] (fun x _ => d10 x) = known_Do.f k a0 a1_0 a1_1 a2_0 a2_1 := by kernel_rfl
theorem known_Do.calls (k : Nat) (a0 : Int) (a1_0 : Int) (a1_1 : Int) (a2_0 : Int) (a2_1 : Int) {w : World} (g : G w) {t : Int × Int × Bool × Int} (h : known_Do.f k a0 a1_0 a1_1 a2_0 a2_1 = some t) : Calls Tryz.prog 52 #[.int .i64 a0, .agg ⟨[.int .u32 a1_0, .int .u32 a1_1]⟩, .agg ⟨[.int .u32 a2_0, .int .u32 a2_1]⟩] w fun e w' => e = .returned (d10e t) ∧ Below w.heap.size w w' :=
  (all38 k).calls (vs := [.int .i64 a0, .agg ⟨[.int .u32 a1_0, .int .u32 a1_1]⟩, .agg ⟨[.int .u32 a2_0, .int .u32 a2_1]⟩]) g d10_ok ((known_Do.eq k a0 a1_0 a1_1 a2_0 a2_1).trans h)
noncomputable def known_Do.s (k : Nat) : Sum := { T := Int × Int × Bool × Int, get := fun l => match l with | [.int .i64 a0, .agg ⟨[.int .u32 a1_0, .int .u32 a1_1]⟩, .agg ⟨[.int .u32 a2_0, .int .u32 a2_1]⟩] => some (known_Do.f k a0 a1_0 a1_1 a2_0 a2_1) | _ => none, enc := d10e }
noncomputable def E39 (k : Nat) : Eng := (E38 k).add 52 (known_Do.s k)
theorem all39 (k : Nat) : EngAll (E39 k) := (all38 k).add (by kernel_rfl) (by
  intro vs t w g h
  simp only [known_Do.s] at h
  split at h
  · exact known_Do.calls k _ _ _ _ _ (show G w from g) (Option.some.inj h)
  · cases h)

/-! ### lamplighter/known.Un -/
def known_Un.f (k : Nat) (a0 : Int) (a1_0 : Int) (a1_1 : Int) : Option (Int × Int × Int) := (br (!eqI (bitw .andNot .u32 a1_1 a1_0) 0) (some (0, 0, 2)) ((word_Name.f a0).bind fun t1 => (br (ByteArray.toList t1 == ByteArray.toList ⟨#[]⟩) (some (0, 0, 2)) (br (eqI a0 1) ((known_One.f 0).bind fun t2 => ((known_carried.f k t2.1 t2.2 a1_0 a1_1 2).bind fun t3 => some (t3.1, t3.2, 0))) (br (eqI a0 2) (some (a1_0, (bitw .andNot .u32 a1_0 a1_1), 0)) (br (!eqI a1_1 0) ((known_One.f 0).bind fun t4 => some (t4.1, t4.2, 0)) (br (eqI a1_0 4294967295) ((known_One.f 1).bind fun t5 => some (t5.1, t5.2, 0)) (some (4294967294, 0, 0)))))))))
theorem known_Un.eq (k : Nat) (a0 : Int) (a1_0 : Int) (a1_1 : Int) : run (E39 k) 20 61 [.v (.int .i64 a0), .v (.agg ⟨[.int .u32 a1_0, .int .u32 a1_1]⟩)] [] (fun x _ => d11 x) = known_Un.f k a0 a1_0 a1_1 := by kernel_rfl
theorem known_Un.calls (k : Nat) (a0 : Int) (a1_0 : Int) (a1_1 : Int) {w : World} (g : G w) {t : Int × Int × Int} (h : known_Un.f k a0 a1_0 a1_1 = some t) : Calls Tryz.prog 61 #[.int .i64 a0, .agg ⟨[.int .u32 a1_0, .int .u32 a1_1]⟩] w fun e w' => e = .returned (d11e t) ∧ Below w.heap.size w w' :=
  (all39 k).calls (vs := [.int .i64 a0, .agg ⟨[.int .u32 a1_0, .int .u32 a1_1]⟩]) g d11_ok ((known_Un.eq k a0 a1_0 a1_1).trans h)
noncomputable def known_Un.s (k : Nat) : Sum := { T := Int × Int × Int, get := fun l => match l with | [.int .i64 a0, .agg ⟨[.int .u32 a1_0, .int .u32 a1_1]⟩] => some (known_Un.f k a0 a1_0 a1_1) | _ => none, enc := d11e }
noncomputable def E40 (k : Nat) : Eng := (E39 k).add 61 (known_Un.s k)
theorem all40 (k : Nat) : EngAll (E40 k) := (all39 k).add (by kernel_rfl) (by
  intro vs t w g h
  simp only [known_Un.s] at h
  split at h
  · exact known_Un.calls k _ _ _ (show G w from g) (Option.some.inj h)
  · cases h)

/-! ### lamplighter/known.Cut -/
def known_Cut.f (a0_0 : Int) (a0_1 : Int) (a1 : Int) : Option (Int × Int × Int) := ((word_Cut.f a0_1 a1).bind fun t1 => (br (!eqI t1.2 0) (some (0, 0, 2)) (br (!eqI (bitw .andNot .u32 a0_1 a0_0) 0) (some (0, 0, 2)) ((word_Cut.f 4294967295 a1).bind fun t2 => some ((bitw .or .u32 a0_0 (bitw .xor .u32 IntKind.u32.max t2.1)), t1.1, 0)))))
theorem known_Cut.eq (k : Nat) (a0_0 : Int) (a0_1 : Int) (a1 : Int) : run (E40 k) 20 65 [.v (.agg ⟨[.int .u32 a0_0, .int .u32 a0_1]⟩), .v (.int .i64 a1)] [] (fun x _ => d11 x) = known_Cut.f a0_0 a0_1 a1 := by kernel_rfl
theorem known_Cut.calls (k : Nat) (a0_0 : Int) (a0_1 : Int) (a1 : Int) {w : World} (g : G w) {t : Int × Int × Int} (h : known_Cut.f a0_0 a0_1 a1 = some t) : Calls Tryz.prog 65 #[.agg ⟨[.int .u32 a0_0, .int .u32 a0_1]⟩, .int .i64 a1] w fun e w' => e = .returned (d11e t) ∧ Below w.heap.size w w' :=
  (all40 k).calls (vs := [.agg ⟨[.int .u32 a0_0, .int .u32 a0_1]⟩, .int .i64 a1]) g d11_ok ((known_Cut.eq k a0_0 a0_1 a1).trans h)
noncomputable def known_Cut.s (k : Nat) : Sum := { T := Int × Int × Int, get := fun l => match l with | [.agg ⟨[.int .u32 a0_0, .int .u32 a0_1]⟩, .int .i64 a1] => some (known_Cut.f a0_0 a0_1 a1) | _ => none, enc := d11e }
noncomputable def E41 (k : Nat) : Eng := (E40 k).add 65 (known_Cut.s k)
theorem all41 (k : Nat) : EngAll (E41 k) := (all40 k).add (by kernel_rfl) (by
  intro vs t w g h
  simp only [known_Cut.s] at h
  split at h
  · exact known_Cut.calls k _ _ _ (show G w from g) (Option.some.inj h)
  · cases h)

def d12 (x : AV) : Option (Int × Int × Int × Int) := match x with
  | .v (.agg ⟨[.int .u32 x0, .int .u32 x1, .int .u32 x2, .int .u32 x3]⟩) => some (x0, x1, x2, x3)
  | _ => none
def d12e (t : Int × Int × Int × Int) : Value := .agg ⟨[.int .u32 (t.1), .int .u32 (t.2.1), .int .u32 (t.2.2.1), .int .u32 (t.2.2.2)]⟩
theorem d12_ok (x : AV) (t : Int × Int × Int × Int) (h : d12 x = some t) : x = .v (d12e t) := by
  unfold d12 at h
  split at h
  · obtain rfl := Option.some.inj h
    rfl
  · cases h

/-! ### lamplighter/value.of -/
def value_of.f (a0_0 : Int) (a0_1 : Int) (a0_2 : Int) (a0_3 : Int) : Option (Int × Int × Int × Int) := some (a0_0, a0_1, a0_2, a0_3)
theorem value_of.eq (k : Nat) (a0_0 : Int) (a0_1 : Int) (a0_2 : Int) (a0_3 : Int) : run (E41 k) 20 44 [.v (.agg ⟨[.int .u32 a0_0, .int .u32 a0_1, .int .u32 a0_2, .int .u32 a0_3]⟩)] [] (fun x _ => d12 x) = value_of.f a0_0 a0_1 a0_2 a0_3 := by kernel_rfl
theorem value_of.calls (k : Nat) (a0_0 : Int) (a0_1 : Int) (a0_2 : Int) (a0_3 : Int) {w : World} (g : G w) {t : Int × Int × Int × Int} (h : value_of.f a0_0 a0_1 a0_2 a0_3 = some t) : Calls Tryz.prog 44 #[.agg ⟨[.int .u32 a0_0, .int .u32 a0_1, .int .u32 a0_2, .int .u32 a0_3]⟩] w fun e w' => e = .returned (d12e t) ∧ Below w.heap.size w w' :=
  (all41 k).calls (vs := [.agg ⟨[.int .u32 a0_0, .int .u32 a0_1, .int .u32 a0_2, .int .u32 a0_3]⟩]) g d12_ok ((value_of.eq k a0_0 a0_1 a0_2 a0_3).trans h)
noncomputable def value_of.s (k : Nat) : Sum := { T := Int × Int × Int × Int, get := fun l => match l with | [.agg ⟨[.int .u32 a0_0, .int .u32 a0_1, .int .u32 a0_2, .int .u32 a0_3]⟩] => some (value_of.f a0_0 a0_1 a0_2 a0_3) | _ => none, enc := d12e }
noncomputable def E42 (k : Nat) : Eng := (E41 k).add 44 (value_of.s k)
theorem all42 (k : Nat) : EngAll (E42 k) := (all41 k).add (by kernel_rfl) (by
  intro vs t w g h
  simp only [value_of.s] at h
  split at h
  · exact value_of.calls k _ _ _ _ (show G w from g) (Option.some.inj h)
  · cases h)

def d13 (x : AV) : Option (Int × Int × Int × Int × Bool) := match x with
  | .v (.tuple ⟨[.agg ⟨[.int .u32 x0, .int .u32 x1, .int .u32 x2, .int .u32 x3]⟩, .bool x4]⟩) => some (x0, x1, x2, x3, x4)
  | _ => none
def d13e (t : Int × Int × Int × Int × Bool) : Value := .tuple ⟨[.agg ⟨[.int .u32 (t.1), .int .u32 (t.2.1), .int .u32 (t.2.2.1), .int .u32 (t.2.2.2.1)]⟩, .bool (t.2.2.2.2)]⟩
theorem d13_ok (x : AV) (t : Int × Int × Int × Int × Bool) (h : d13 x = some t) : x = .v (d13e t) := by
  unfold d13 at h
  split at h
  · obtain rfl := Option.some.inj h
    rfl
  · cases h

/-! ### lamplighter/value.Fit -/
def value_Fit.b_l10 (k : Nat) (a0_0 : Int) (a0_1 : Int) (a0_2 : Int) (a0_3 : Int) (t1 : Int × Int × Int × Int) (G : Int → Int → Int → Int → Option (Int × Int × Int × Int × Bool)) (x6 : Int) (x7 : Int) (x8 : Int) (x9 : Int) : Option (Int × Int × Int × Int × Bool) := (br (ltI (if (bitw .or .u32 x9 (bitw .xor .u32 IntKind.u32.max x8)) < x7 then (bitw .or .u32 x9 (bitw .xor .u32 IntKind.u32.max x8)) else x7) (if x9 > x6 then x9 else x6)) (some (0, 0, 0, 0, false)) ((bits_Len32.f (bitw .xor .u32 (if x9 > x6 then x9 else x6) (if (bitw .or .u32 x9 (bitw .xor .u32 IntKind.u32.max x8)) < x7 then (bitw .or .u32 x9 (bitw .xor .u32 IntKind.u32.max x8)) else x7))).bind fun t11 => (br (ltI t11 0) none ((known_Meet.f x8 x9 (bitw .xor .u32 IntKind.u32.max (IntKind.u32.wrap (IntKind.u64.wrap ((X.shl .u64 1 t11) - 1)))) (bitw .and .u32 (if x9 > x6 then x9 else x6) (bitw .xor .u32 IntKind.u32.max (IntKind.u32.wrap (IntKind.u64.wrap ((X.shl .u64 1 t11) - 1)))))).bind fun t12 => (br (!t12.2.2) (some (0, 0, 0, 0, false)) (br ((((if x9 > x6 then x9 else x6) == x6) && ((if (bitw .or .u32 x9 (bitw .xor .u32 IntKind.u32.max x8)) < x7 then (bitw .or .u32 x9 (bitw .xor .u32 IntKind.u32.max x8)) else x7) == x7)) && ((t12.1 == x8) && (t12.2.1 == x9))) (some ((if x9 > x6 then x9 else x6), (if (bitw .or .u32 x9 (bitw .xor .u32 IntKind.u32.max x8)) < x7 then (bitw .or .u32 x9 (bitw .xor .u32 IntKind.u32.max x8)) else x7), t12.1, t12.2.1, true)) (G (if x9 > x6 then x9 else x6) (if (bitw .or .u32 x9 (bitw .xor .u32 IntKind.u32.max x8)) < x7 then (bitw .or .u32 x9 (bitw .xor .u32 IntKind.u32.max x8)) else x7) t12.1 t12.2.1)))))))
def value_Fit.l10 (k : Nat) (a0_0 : Int) (a0_1 : Int) (a0_2 : Int) (a0_3 : Int) (t1 : Int × Int × Int × Int) : Nat → Int → Int → Int → Int → Option (Int × Int × Int × Int × Bool)
  | 0, _, _, _, _ => none
  | n + 1, x6, x7, x8, x9 => value_Fit.b_l10 k a0_0 a0_1 a0_2 a0_3 t1 (value_Fit.l10 k a0_0 a0_1 a0_2 a0_3 t1 n) x6 x7 x8 x9
theorem value_Fit.e_l10 (k : Nat) (a0_0 : Int) (a0_1 : Int) (a0_2 : Int) (a0_3 : Int) (t1 : Int × Int × Int × Int) : ∀ (n : Nat) (x6 : Int) (x7 : Int) (x8 : Int) (x9 : Int), loopAt (E42 k) 19 21 Tryz.f21 (cod Tryz.f21) [1, 1, 1, 0] 46 n ⟨[(.v (.agg #[(.int .u32 a0_0), (.int .u32 a0_1), (.int .u32 a0_2), (.int .u32 a0_3)])), (.p 0 0), (.p 1 0), (.v (.bool false)), (.p 5 0), .u, .u, .u, .u, .u, .u, .u, .u, .u, .u, .u, .u, .u, .u, .u, .u, .u, .u, .u, .u, .u, .u, .u, .u, .u, .u, .u, .u, .u, .u, .u, .u, .u, .u, .u, .u, .u, .u, .u, .u, .u, .u, .u, .u, .u, .u, .u, .u, .u, .u, .u, .u, .u, .u, .u, .u, .u, .u, .u, .u, .u, .u, .u, .u, .u, .u, .u, .u, .u, .u, .u, .u, .u, .u, .u, .u, .u, .u, .u, .u, .u, .u, .u, .u, .u, .u, .u], [some (28, [(.v (.int .u32 x6)), (.v (.int .u32 x7)), (.v (.int .u32 x8)), (.v (.int .u32 x9))]), some (28, [(.v (.int .u32 0)), (.v (.int .u32 0)), (.v (.int .u32 0)), (.v (.int .u32 0))]), none, none, none, some (66, [(.v (.int .u32 t1.1)), (.v (.int .u32 t1.2.1)), (.v (.int .u32 t1.2.2.1)), (.v (.int .u32 t1.2.2.2))]), none, none, none, none, none, none, none, none, none, none, none, some (63, [(.v (.int .u32 t1.1)), (.v (.int .u32 t1.2.1))]), none, none, none, none, none, some (24, [(.v (.int .u32 t1.1)), (.v (.int .u32 t1.2.1))]), none, none, none, none, none, none, none, some (64, [(.v (.int .u32 t1.2.2.1)), (.v (.int .u32 t1.2.2.2))]), none, none, none, none, none, some (26, [(.v (.int .u32 t1.2.2.1)), (.v (.int .u32 t1.2.2.2))]), none, none, none, none, none, none, none, none]⟩ (fun x _ => d13 x) = value_Fit.l10 k a0_0 a0_1 a0_2 a0_3 t1 n x6 x7 x8 x9 := by
  intro n
  induction n with
  | zero => intros; rfl
  | succ n ih =>
    intro x6 x7 x8 x9
    have step : loopAt (E42 k) 19 21 Tryz.f21 (cod Tryz.f21) [1, 1, 1, 0] 46 (n + 1) ⟨[(.v (.agg #[(.int .u32 a0_0), (.int .u32 a0_1), (.int .u32 a0_2), (.int .u32 a0_3)])), (.p 0 0), (.p 1 0), (.v (.bool false)), (.p 5 0), .u, .u, .u, .u, .u, .u, .u, .u, .u, .u, .u, .u, .u, .u, .u, .u, .u, .u, .u, .u, .u, .u, .u, .u, .u, .u, .u, .u, .u, .u, .u, .u, .u, .u, .u, .u, .u, .u, .u, .u, .u, .u, .u, .u, .u, .u, .u, .u, .u, .u, .u, .u, .u, .u, .u, .u, .u, .u, .u, .u, .u, .u, .u, .u, .u, .u, .u, .u, .u, .u, .u, .u, .u, .u, .u, .u, .u, .u, .u, .u, .u, .u, .u, .u, .u, .u, .u], [some (28, [(.v (.int .u32 x6)), (.v (.int .u32 x7)), (.v (.int .u32 x8)), (.v (.int .u32 x9))]), some (28, [(.v (.int .u32 0)), (.v (.int .u32 0)), (.v (.int .u32 0)), (.v (.int .u32 0))]), none, none, none, some (66, [(.v (.int .u32 t1.1)), (.v (.int .u32 t1.2.1)), (.v (.int .u32 t1.2.2.1)), (.v (.int .u32 t1.2.2.2))]), none, none, none, none, none, none, none, none, none, none, none, some (63, [(.v (.int .u32 t1.1)), (.v (.int .u32 t1.2.1))]), none, none, none, none, none, some (24, [(.v (.int .u32 t1.1)), (.v (.int .u32 t1.2.1))]), none, none, none, none, none, none, none, some (64, [(.v (.int .u32 t1.2.2.1)), (.v (.int .u32 t1.2.2.2))]), none, none, none, none, none, some (26, [(.v (.int .u32 t1.2.2.1)), (.v (.int .u32 t1.2.2.2))]), none, none, none, none, none, none, none, none]⟩ (fun x _ => d13 x) = value_Fit.b_l10 k a0_0 a0_1 a0_2 a0_3 t1 (fun x6 x7 x8 x9 => loopAt (E42 k) 19 21 Tryz.f21 (cod Tryz.f21) [1, 1, 1, 0] 46 n ⟨[(.v (.agg #[(.int .u32 a0_0), (.int .u32 a0_1), (.int .u32 a0_2), (.int .u32 a0_3)])), (.p 0 0), (.p 1 0), (.v (.bool false)), (.p 5 0), .u, .u, .u, .u, .u, .u, .u, .u, .u, .u, .u, .u, .u, .u, .u, .u, .u, .u, .u, .u, .u, .u, .u, .u, .u, .u, .u, .u, .u, .u, .u, .u, .u, .u, .u, .u, .u, .u, .u, .u, .u, .u, .u, .u, .u, .u, .u, .u, .u, .u, .u, .u, .u, .u, .u, .u, .u, .u, .u, .u, .u, .u, .u, .u, .u, .u, .u, .u, .u, .u, .u, .u, .u, .u, .u, .u, .u, .u, .u, .u, .u, .u, .u, .u, .u, .u, .u], [some (28, [(.v (.int .u32 x6)), (.v (.int .u32 x7)), (.v (.int .u32 x8)), (.v (.int .u32 x9))]), some (28, [(.v (.int .u32 0)), (.v (.int .u32 0)), (.v (.int .u32 0)), (.v (.int .u32 0))]), none, none, none, some (66, [(.v (.int .u32 t1.1)), (.v (.int .u32 t1.2.1)), (.v (.int .u32 t1.2.2.1)), (.v (.int .u32 t1.2.2.2))]), none, none, none, none, none, none, none, none, none, none, none, some (63, [(.v (.int .u32 t1.1)), (.v (.int .u32 t1.2.1))]), none, none, none, none, none, some (24, [(.v (.int .u32 t1.1)), (.v (.int .u32 t1.2.1))]), none, none, none, none, none, none, none, some (64, [(.v (.int .u32 t1.2.2.1)), (.v (.int .u32 t1.2.2.2))]), none, none, none, none, none, some (26, [(.v (.int .u32 t1.2.2.1)), (.v (.int .u32 t1.2.2.2))]), none, none, none, none, none, none, none, none]⟩ (fun x _ => d13 x)) x6 x7 x8 x9 := by kernel_rfl
    rw [step]
    have e : (fun x6 x7 x8 x9 => loopAt (E42 k) 19 21 Tryz.f21 (cod Tryz.f21) [1, 1, 1, 0] 46 n ⟨[(.v (.agg #[(.int .u32 a0_0), (.int .u32 a0_1), (.int .u32 a0_2), (.int .u32 a0_3)])), (.p 0 0), (.p 1 0), (.v (.bool false)), (.p 5 0), .u, .u, .u, .u, .u, .u, .u, .u, .u, .u, .u, .u, .u, .u, .u, .u, .u, .u, .u, .u, .u, .u, .u, .u, .u, .u, .u, .u, .u, .u, .u, .u, .u, .u, .u, .u, .u, .u, .u, .u, .u, .u, .u, .u, .u, .u, .u, .u, .u, .u, .u, .u, .u, .u, .u, .u, .u, .u, .u, .u, .u, .u, .u, .u, .u, .u, .u, .u, .u, .u, .u, .u, .u, .u, .u, .u, .u, .u, .u, .u, .u, .u, .u, .u, .u, .u, .u], [some (28, [(.v (.int .u32 x6)), (.v (.int .u32 x7)), (.v (.int .u32 x8)), (.v (.int .u32 x9))]), some (28, [(.v (.int .u32 0)), (.v (.int .u32 0)), (.v (.int .u32 0)), (.v (.int .u32 0))]), none, none, none, some (66, [(.v (.int .u32 t1.1)), (.v (.int .u32 t1.2.1)), (.v (.int .u32 t1.2.2.1)), (.v (.int .u32 t1.2.2.2))]), none, none, none, none, none, none, none, none, none, none, none, some (63, [(.v (.int .u32 t1.1)), (.v (.int .u32 t1.2.1))]), none, none, none, none, none, some (24, [(.v (.int .u32 t1.1)), (.v (.int .u32 t1.2.1))]), none, none, none, none, none, none, none, some (64, [(.v (.int .u32 t1.2.2.1)), (.v (.int .u32 t1.2.2.2))]), none, none, none, none, none, some (26, [(.v (.int .u32 t1.2.2.1)), (.v (.int .u32 t1.2.2.2))]), none, none, none, none, none, none, none, none]⟩ (fun x _ => d13 x)) = value_Fit.l10 k a0_0 a0_1 a0_2 a0_3 t1 n := funext fun x6 => funext fun x7 => funext fun x8 => funext fun x9 => ih x6 x7 x8 x9
    rw [e]
    rfl
def value_Fit.g (k : Nat) (H_l10 : Int → Int → Int → Int → (Int × Int × Int × Int) → Nat → Int → Int → Int → Int → Option (Int × Int × Int × Int × Bool)) (a0_0 : Int) (a0_1 : Int) (a0_2 : Int) (a0_3 : Int) : Option (Int × Int × Int × Int × Bool) := ((value_of.f a0_0 a0_1 a0_2 a0_3).bind fun t1 => (br (ltI t1.2.1 t1.1) (some (0, 0, 0, 0, false)) (br (!eqI (bitw .andNot .u32 t1.2.2.2 t1.2.2.1) 0) (some (0, 0, 0, 0, false)) (H_l10 a0_0 a0_1 a0_2 a0_3 t1 k a0_0 a0_1 a0_2 a0_3))))
def value_Fit.f (k : Nat) (a0_0 : Int) (a0_1 : Int) (a0_2 : Int) (a0_3 : Int) : Option (Int × Int × Int × Int × Bool) := value_Fit.g k (value_Fit.l10 k) a0_0 a0_1 a0_2 a0_3
theorem value_Fit.eq (k : Nat) (a0_0 : Int) (a0_1 : Int) (a0_2 : Int) (a0_3 : Int) : run (E42 k) 20 21 [.v (.agg ⟨[.int .u32 a0_0, .int .u32 a0_1, .int .u32 a0_2, .int .u32 a0_3]⟩)] [] (fun x _ => d13 x) = value_Fit.f k a0_0 a0_1 a0_2 a0_3 := by
  have step : run (E42 k) 20 21 [.v (.agg ⟨[.int .u32 a0_0, .int .u32 a0_1, .int .u32 a0_2, .int .u32 a0_3]⟩)] [] (fun x _ => d13 x) = value_Fit.g k (fun a0_0 a0_1 a0_2 a0_3 t1 n x6 x7 x8 x9 => loopAt (E42 k) 19 21 Tryz.f21 (cod Tryz.f21) [1, 1, 1, 0] 46 n ⟨[(.v (.agg #[(.int .u32 a0_0), (.int .u32 a0_1), (.int .u32 a0_2), (.int .u32 a0_3)])), (.p 0 0), (.p 1 0), (.v (.bool false)), (.p 5 0), .u, .u, .u, .u, .u, .u, .u, .u, .u, .u, .u, .u, .u, .u, .u, .u, .u, .u, .u, .u, .u, .u, .u, .u, .u, .u, .u, .u, .u, .u, .u, .u, .u, .u, .u, .u, .u, .u, .u, .u, .u, .u, .u, .u, .u, .u, .u, .u, .u, .u, .u, .u, .u, .u, .u, .u, .u, .u, .u, .u, .u, .u, .u, .u, .u, .u, .u, .u, .u, .u, .u, .u, .u, .u, .u, .u, .u, .u, .u, .u, .u, .u, .u, .u, .u, .u, .u], [some (28, [(.v (.int .u32 x6)), (.v (.int .u32 x7)), (.v (.int .u32 x8)), (.v (.int .u32 x9))]), some (28, [(.v (.int .u32 0)), (.v (.int .u32 0)), (.v (.int .u32 0)), (.v (.int .u32 0))]), none, none, none, some (66, [(.v (.int .u32 t1.1)), (.v (.int .u32 t1.2.1)), (.v (.int .u32 t1.2.2.1)), (.v (.int .u32 t1.2.2.2))]), none, none, none, none, none, none, none, none, none, none, none, some (63, [(.v (.int .u32 t1.1)), (.v (.int .u32 t1.2.1))]), none, none, none, none, none, some (24, [(.v (.int .u32 t1.1)), (.v (.int .u32 t1.2.1))]), none, none, none, none, none, none, none, some (64, [(.v (.int .u32 t1.2.2.1)), (.v (.int .u32 t1.2.2.2))]), none, none, none, none, none, some (26, [(.v (.int .u32 t1.2.2.1)), (.v (.int .u32 t1.2.2.2))]), none, none, none, none, none, none, none, none]⟩ (fun x _ => d13 x)) a0_0 a0_1 a0_2 a0_3 := by kernel_rfl
  rw [step]
  have e_l10 : (fun a0_0 a0_1 a0_2 a0_3 t1 n x6 x7 x8 x9 => loopAt (E42 k) 19 21 Tryz.f21 (cod Tryz.f21) [1, 1, 1, 0] 46 n ⟨[(.v (.agg #[(.int .u32 a0_0), (.int .u32 a0_1), (.int .u32 a0_2), (.int .u32 a0_3)])), (.p 0 0), (.p 1 0), (.v (.bool false)), (.p 5 0), .u, .u, .u, .u, .u, .u, .u, .u, .u, .u, .u, .u, .u, .u, .u, .u, .u, .u, .u, .u, .u, .u, .u, .u, .u, .u, .u, .u, .u, .u, .u, .u, .u, .u, .u, .u, .u, .u, .u, .u, .u, .u, .u, .u, .u, .u, .u, .u, .u, .u, .u, .u, .u, .u, .u, .u, .u, .u, .u, .u, .u, .u, .u, .u, .u, .u, .u, .u, .u, .u, .u, .u, .u, .u, .u, .u, .u, .u, .u, .u, .u, .u, .u, .u, .u, .u, .u], [some (28, [(.v (.int .u32 x6)), (.v (.int .u32 x7)), (.v (.int .u32 x8)), (.v (.int .u32 x9))]), some (28, [(.v (.int .u32 0)), (.v (.int .u32 0)), (.v (.int .u32 0)), (.v (.int .u32 0))]), none, none, none, some (66, [(.v (.int .u32 t1.1)), (.v (.int .u32 t1.2.1)), (.v (.int .u32 t1.2.2.1)), (.v (.int .u32 t1.2.2.2))]), none, none, none, none, none, none, none, none, none, none, none, some (63, [(.v (.int .u32 t1.1)), (.v (.int .u32 t1.2.1))]), none, none, none, none, none, some (24, [(.v (.int .u32 t1.1)), (.v (.int .u32 t1.2.1))]), none, none, none, none, none, none, none, some (64, [(.v (.int .u32 t1.2.2.1)), (.v (.int .u32 t1.2.2.2))]), none, none, none, none, none, some (26, [(.v (.int .u32 t1.2.2.1)), (.v (.int .u32 t1.2.2.2))]), none, none, none, none, none, none, none, none]⟩ (fun x _ => d13 x)) = value_Fit.l10 k := funext fun a0_0 => funext fun a0_1 => funext fun a0_2 => funext fun a0_3 => funext fun t1 => funext fun n => funext fun x6 => funext fun x7 => funext fun x8 => funext fun x9 => value_Fit.e_l10 k a0_0 a0_1 a0_2 a0_3 t1 n x6 x7 x8 x9
  rw [e_l10]
  rfl
theorem value_Fit.calls (k : Nat) (a0_0 : Int) (a0_1 : Int) (a0_2 : Int) (a0_3 : Int) {w : World} (g : G w) {t : Int × Int × Int × Int × Bool} (h : value_Fit.f k a0_0 a0_1 a0_2 a0_3 = some t) : Calls Tryz.prog 21 #[.agg ⟨[.int .u32 a0_0, .int .u32 a0_1, .int .u32 a0_2, .int .u32 a0_3]⟩] w fun e w' => e = .returned (d13e t) ∧ Below w.heap.size w w' :=
  (all42 k).calls (vs := [.agg ⟨[.int .u32 a0_0, .int .u32 a0_1, .int .u32 a0_2, .int .u32 a0_3]⟩]) g d13_ok ((value_Fit.eq k a0_0 a0_1 a0_2 a0_3).trans h)
noncomputable def value_Fit.s (k : Nat) : Sum := { T := Int × Int × Int × Int × Bool, get := fun l => match l with | [.agg ⟨[.int .u32 a0_0, .int .u32 a0_1, .int .u32 a0_2, .int .u32 a0_3]⟩] => some (value_Fit.f k a0_0 a0_1 a0_2 a0_3) | _ => none, enc := d13e }
noncomputable def E43 (k : Nat) : Eng := (E42 k).add 21 (value_Fit.s k)
theorem all43 (k : Nat) : EngAll (E43 k) := (all42 k).add (by kernel_rfl) (by
  intro vs t w g h
  simp only [value_Fit.s] at h
  split at h
  · exact value_Fit.calls k _ _ _ _ (show G w from g) (Option.some.inj h)
  · cases h)

/-! ### lamplighter/value.Check -/
def value_Check.f (k : Nat) (a0_0 : Int) (a0_1 : Int) (a0_2 : Int) (a0_3 : Int) : Option (Int) := ((value_Fit.f k a0_0 a0_1 a0_2 a0_3).bind fun t1 => (br (!t1.2.2.2.2) (some (2)) (br (!(((t1.1 == a0_0) && (t1.2.1 == a0_1)) && ((t1.2.2.1 == a0_2) && (t1.2.2.2.1 == a0_3)))) (some (2)) (some (0)))))
theorem value_Check.eq (k : Nat) (a0_0 : Int) (a0_1 : Int) (a0_2 : Int) (a0_3 : Int) : run (E43 k) 20 9 [.v (.agg ⟨[.int .u32 a0_0, .int .u32 a0_1, .int .u32 a0_2, .int .u32 a0_3]⟩)] [] (fun x _ => d1 x) = value_Check.f k a0_0 a0_1 a0_2 a0_3 := by kernel_rfl
theorem value_Check.calls (k : Nat) (a0_0 : Int) (a0_1 : Int) (a0_2 : Int) (a0_3 : Int) {w : World} (g : G w) {t : Int} (h : value_Check.f k a0_0 a0_1 a0_2 a0_3 = some t) : Calls Tryz.prog 9 #[.agg ⟨[.int .u32 a0_0, .int .u32 a0_1, .int .u32 a0_2, .int .u32 a0_3]⟩] w fun e w' => e = .returned (d1e t) ∧ Below w.heap.size w w' :=
  (all43 k).calls (vs := [.agg ⟨[.int .u32 a0_0, .int .u32 a0_1, .int .u32 a0_2, .int .u32 a0_3]⟩]) g d1_ok ((value_Check.eq k a0_0 a0_1 a0_2 a0_3).trans h)
noncomputable def value_Check.s (k : Nat) : Sum := { T := Int, get := fun l => match l with | [.agg ⟨[.int .u32 a0_0, .int .u32 a0_1, .int .u32 a0_2, .int .u32 a0_3]⟩] => some (value_Check.f k a0_0 a0_1 a0_2 a0_3) | _ => none, enc := d1e }
noncomputable def E44 (k : Nat) : Eng := (E43 k).add 9 (value_Check.s k)
theorem all44 (k : Nat) : EngAll (E44 k) := (all43 k).add (by kernel_rfl) (by
  intro vs t w g h
  simp only [value_Check.s] at h
  split at h
  · exact value_Check.calls k _ _ _ _ (show G w from g) (Option.some.inj h)
  · cases h)

/-! ### lamplighter/value.All -/
def value_All.f : Option (Int × Int × Int × Int) := ((interval_All.f).bind fun t1 => ((known_All.f).bind fun t2 => some (t1.1, t1.2, t2.1, t2.2)))
theorem value_All.eq (k : Nat) : run (E44 k) 20 25 [] [] (fun x _ => d12 x) = value_All.f := by kernel_rfl
theorem value_All.calls (k : Nat) {w : World} (g : G w) {t : Int × Int × Int × Int} (h : value_All.f = some t) : Calls Tryz.prog 25 #[] w fun e w' => e = .returned (d12e t) ∧ Below w.heap.size w w' :=
  (all44 k).calls (vs := []) g d12_ok ((value_All.eq k).trans h)
noncomputable def value_All.s (k : Nat) : Sum := { T := Int × Int × Int × Int, get := fun l => match l with | [] => some (value_All.f) | _ => none, enc := d12e }
noncomputable def E45 (k : Nat) : Eng := (E44 k).add 25 (value_All.s k)
theorem all45 (k : Nat) : EngAll (E45 k) := (all44 k).add (by kernel_rfl) (by
  intro vs t w g h
  simp only [value_All.s] at h
  split at h
  · exact value_All.calls k (show G w from g) (Option.some.inj h)
  · cases h)

/-! ### lamplighter/value.One -/
def value_One.f (a0 : Int) : Option (Int × Int × Int × Int) := ((interval_One.f a0).bind fun t1 => ((known_One.f a0).bind fun t2 => some (t1.1, t1.2, t2.1, t2.2)))
theorem value_One.eq (k : Nat) (a0 : Int) : run (E45 k) 20 15 [.v (.int .u32 a0)] [] (fun x _ => d12 x) = value_One.f a0 := by kernel_rfl
theorem value_One.calls (k : Nat) (a0 : Int) {w : World} (g : G w) {t : Int × Int × Int × Int} (h : value_One.f a0 = some t) : Calls Tryz.prog 15 #[.int .u32 a0] w fun e w' => e = .returned (d12e t) ∧ Below w.heap.size w w' :=
  (all45 k).calls (vs := [.int .u32 a0]) g d12_ok ((value_One.eq k a0).trans h)
noncomputable def value_One.s (k : Nat) : Sum := { T := Int × Int × Int × Int, get := fun l => match l with | [.int .u32 a0] => some (value_One.f a0) | _ => none, enc := d12e }
noncomputable def E46 (k : Nat) : Eng := (E45 k).add 15 (value_One.s k)
theorem all46 (k : Nat) : EngAll (E46 k) := (all45 k).add (by kernel_rfl) (by
  intro vs t w g h
  simp only [value_One.s] at h
  split at h
  · exact value_One.calls k _ (show G w from g) (Option.some.inj h)
  · cases h)

/-! ### lamplighter/value.Has -/
def value_Has.f (k : Nat) (a0_0 : Int) (a0_1 : Int) (a0_2 : Int) (a0_3 : Int) (a1 : Int) : Option (Bool) := ((value_of.f a0_0 a0_1 a0_2 a0_3).bind fun t1 => ((value_Check.f k a0_0 a0_1 a0_2 a0_3).bind fun t2 => (br (!eqI t2 0) (some (false)) ((interval_Has.f t1.1 t1.2.1 a1).bind fun t3 => (br t3 ((known_Has.f t1.2.2.1 t1.2.2.2 a1).bind fun t4 => some (t4)) (some (false)))))))
theorem value_Has.eq (k : Nat) (a0_0 : Int) (a0_1 : Int) (a0_2 : Int) (a0_3 : Int) (a1 : Int) : run (E46 k) 20 22 [.v (.agg ⟨[.int .u32 a0_0, .int .u32 a0_1, .int .u32 a0_2, .int .u32 a0_3]⟩), .v (.int .u32 a1)] [] (fun x _ => d5 x) = value_Has.f k a0_0 a0_1 a0_2 a0_3 a1 := by kernel_rfl
theorem value_Has.calls (k : Nat) (a0_0 : Int) (a0_1 : Int) (a0_2 : Int) (a0_3 : Int) (a1 : Int) {w : World} (g : G w) {t : Bool} (h : value_Has.f k a0_0 a0_1 a0_2 a0_3 a1 = some t) : Calls Tryz.prog 22 #[.agg ⟨[.int .u32 a0_0, .int .u32 a0_1, .int .u32 a0_2, .int .u32 a0_3]⟩, .int .u32 a1] w fun e w' => e = .returned (d5e t) ∧ Below w.heap.size w w' :=
  (all46 k).calls (vs := [.agg ⟨[.int .u32 a0_0, .int .u32 a0_1, .int .u32 a0_2, .int .u32 a0_3]⟩, .int .u32 a1]) g d5_ok ((value_Has.eq k a0_0 a0_1 a0_2 a0_3 a1).trans h)
noncomputable def value_Has.s (k : Nat) : Sum := { T := Bool, get := fun l => match l with | [.agg ⟨[.int .u32 a0_0, .int .u32 a0_1, .int .u32 a0_2, .int .u32 a0_3]⟩, .int .u32 a1] => some (value_Has.f k a0_0 a0_1 a0_2 a0_3 a1) | _ => none, enc := d5e }
noncomputable def E47 (k : Nat) : Eng := (E46 k).add 22 (value_Has.s k)
theorem all47 (k : Nat) : EngAll (E47 k) := (all46 k).add (by kernel_rfl) (by
  intro vs t w g h
  simp only [value_Has.s] at h
  split at h
  · exact value_Has.calls k _ _ _ _ _ (show G w from g) (Option.some.inj h)
  · cases h)

/-! ### lamplighter/value.Within -/
def value_Within.f (k : Nat) (a0_0 : Int) (a0_1 : Int) (a0_2 : Int) (a0_3 : Int) (a1_0 : Int) (a1_1 : Int) (a1_2 : Int) (a1_3 : Int) : Option (Bool) := ((value_of.f a0_0 a0_1 a0_2 a0_3).bind fun t1 => ((value_of.f a1_0 a1_1 a1_2 a1_3).bind fun t2 => ((value_Check.f k a0_0 a0_1 a0_2 a0_3).bind fun t3 => (br (!eqI t3 0) (some (false)) ((value_Check.f k a1_0 a1_1 a1_2 a1_3).bind fun t4 => (br (!eqI t4 0) (some (false)) ((interval_Within.f t1.1 t1.2.1 t2.1 t2.2.1).bind fun t5 => (br t5 ((known_Within.f t1.2.2.1 t1.2.2.2 t2.2.2.1 t2.2.2.2).bind fun t6 => some (t6)) (some (false))))))))))
theorem value_Within.eq (k : Nat) (a0_0 : Int) (a0_1 : Int) (a0_2 : Int) (a0_3 : Int) (a1_0 : Int) (a1_1 : Int) (a1_2 : Int) (a1_3 : Int) : run (E47 k) 20 11 [.v (.agg ⟨[.int .u32 a0_0, .int .u32 a0_1, .int .u32 a0_2, .int .u32 a0_3]⟩), .v (.agg ⟨[.int .u32 a1_0, .int .u32 a1_1, .int .u32 a1_2, .int .u32 a1_3]⟩)] [] (fun x _ => d5 x) = value_Within.f k a0_0 a0_1 a0_2 a0_3 a1_0 a1_1 a1_2 a1_3 := by kernel_rfl
theorem value_Within.calls (k : Nat) (a0_0 : Int) (a0_1 : Int) (a0_2 : Int) (a0_3 : Int) (a1_0 : Int) (a1_1 : Int) (a1_2 : Int) (a1_3 : Int) {w : World} (g : G w) {t : Bool} (h : value_Within.f k a0_0 a0_1 a0_2 a0_3 a1_0 a1_1 a1_2 a1_3 = some t) : Calls Tryz.prog 11 #[.agg ⟨[.int .u32 a0_0, .int .u32 a0_1, .int .u32 a0_2, .int .u32 a0_3]⟩, .agg ⟨[.int .u32 a1_0, .int .u32 a1_1, .int .u32 a1_2, .int .u32 a1_3]⟩] w fun e w' => e = .returned (d5e t) ∧ Below w.heap.size w w' :=
  (all47 k).calls (vs := [.agg ⟨[.int .u32 a0_0, .int .u32 a0_1, .int .u32 a0_2, .int .u32 a0_3]⟩, .agg ⟨[.int .u32 a1_0, .int .u32 a1_1, .int .u32 a1_2, .int .u32 a1_3]⟩]) g d5_ok ((value_Within.eq k a0_0 a0_1 a0_2 a0_3 a1_0 a1_1 a1_2 a1_3).trans h)
noncomputable def value_Within.s (k : Nat) : Sum := { T := Bool, get := fun l => match l with | [.agg ⟨[.int .u32 a0_0, .int .u32 a0_1, .int .u32 a0_2, .int .u32 a0_3]⟩, .agg ⟨[.int .u32 a1_0, .int .u32 a1_1, .int .u32 a1_2, .int .u32 a1_3]⟩] => some (value_Within.f k a0_0 a0_1 a0_2 a0_3 a1_0 a1_1 a1_2 a1_3) | _ => none, enc := d5e }
noncomputable def E48 (k : Nat) : Eng := (E47 k).add 11 (value_Within.s k)
theorem all48 (k : Nat) : EngAll (E48 k) := (all47 k).add (by kernel_rfl) (by
  intro vs t w g h
  simp only [value_Within.s] at h
  split at h
  · exact value_Within.calls k _ _ _ _ _ _ _ _ (show G w from g) (Option.some.inj h)
  · cases h)

/-! ### lamplighter/value.fitted -/
def value_fitted.f (k : Nat) (a0_0 : Int) (a0_1 : Int) (a1_0 : Int) (a1_1 : Int) : Option (Int × Int × Int × Int) := ((value_Fit.f k a0_0 a0_1 a1_0 a1_1).bind fun t1 => (br (!t1.2.2.2.2) ((value_All.f).bind fun t2 => some (t2.1, t2.2.1, t2.2.2.1, t2.2.2.2)) (some (t1.1, t1.2.1, t1.2.2.1, t1.2.2.2.1))))
theorem value_fitted.eq (k : Nat) (a0_0 : Int) (a0_1 : Int) (a1_0 : Int) (a1_1 : Int) : run (E48 k) 20 41 [.v (.agg ⟨[.int .u32 a0_0, .int .u32 a0_1]⟩), .v (.agg ⟨[.int .u32 a1_0, .int .u32 a1_1]⟩)] [] (fun x _ => d12 x) = value_fitted.f k a0_0 a0_1 a1_0 a1_1 := by kernel_rfl
theorem value_fitted.calls (k : Nat) (a0_0 : Int) (a0_1 : Int) (a1_0 : Int) (a1_1 : Int) {w : World} (g : G w) {t : Int × Int × Int × Int} (h : value_fitted.f k a0_0 a0_1 a1_0 a1_1 = some t) : Calls Tryz.prog 41 #[.agg ⟨[.int .u32 a0_0, .int .u32 a0_1]⟩, .agg ⟨[.int .u32 a1_0, .int .u32 a1_1]⟩] w fun e w' => e = .returned (d12e t) ∧ Below w.heap.size w w' :=
  (all48 k).calls (vs := [.agg ⟨[.int .u32 a0_0, .int .u32 a0_1]⟩, .agg ⟨[.int .u32 a1_0, .int .u32 a1_1]⟩]) g d12_ok ((value_fitted.eq k a0_0 a0_1 a1_0 a1_1).trans h)
noncomputable def value_fitted.s (k : Nat) : Sum := { T := Int × Int × Int × Int, get := fun l => match l with | [.agg ⟨[.int .u32 a0_0, .int .u32 a0_1]⟩, .agg ⟨[.int .u32 a1_0, .int .u32 a1_1]⟩] => some (value_fitted.f k a0_0 a0_1 a1_0 a1_1) | _ => none, enc := d12e }
noncomputable def E49 (k : Nat) : Eng := (E48 k).add 41 (value_fitted.s k)
theorem all49 (k : Nat) : EngAll (E49 k) := (all48 k).add (by kernel_rfl) (by
  intro vs t w g h
  simp only [value_fitted.s] at h
  split at h
  · exact value_fitted.calls k _ _ _ _ (show G w from g) (Option.some.inj h)
  · cases h)

/-! ### lamplighter/value.Join -/
def value_Join.f (k : Nat) (a0_0 : Int) (a0_1 : Int) (a0_2 : Int) (a0_3 : Int) (a1_0 : Int) (a1_1 : Int) (a1_2 : Int) (a1_3 : Int) : Option (Int × Int × Int × Int) := ((value_Check.f k a0_0 a0_1 a0_2 a0_3).bind fun t1 => (br (!eqI t1 0) ((value_All.f).bind fun t2 => some (t2.1, t2.2.1, t2.2.2.1, t2.2.2.2)) ((value_Check.f k a1_0 a1_1 a1_2 a1_3).bind fun t3 => (br (!eqI t3 0) ((value_All.f).bind fun t4 => some (t4.1, t4.2.1, t4.2.2.1, t4.2.2.2)) ((interval_Join.f a0_0 a0_1 a1_0 a1_1).bind fun t5 => ((known_Join.f a0_2 a0_3 a1_2 a1_3).bind fun t6 => ((value_fitted.f k t5.1 t5.2 t6.1 t6.2).bind fun t7 => some (t7.1, t7.2.1, t7.2.2.1, t7.2.2.2))))))))
theorem value_Join.eq (k : Nat) (a0_0 : Int) (a0_1 : Int) (a0_2 : Int) (a0_3 : Int) (a1_0 : Int) (a1_1 : Int) (a1_2 : Int) (a1_3 : Int) : run (E49 k) 20 10 [.v (.agg ⟨[.int .u32 a0_0, .int .u32 a0_1, .int .u32 a0_2, .int .u32 a0_3]⟩), .v (.agg ⟨[.int .u32 a1_0, .int .u32 a1_1, .int .u32 a1_2, .int .u32 a1_3]⟩)] [] (fun x _ => d12 x) = value_Join.f k a0_0 a0_1 a0_2 a0_3 a1_0 a1_1 a1_2 a1_3 := by kernel_rfl
theorem value_Join.calls (k : Nat) (a0_0 : Int) (a0_1 : Int) (a0_2 : Int) (a0_3 : Int) (a1_0 : Int) (a1_1 : Int) (a1_2 : Int) (a1_3 : Int) {w : World} (g : G w) {t : Int × Int × Int × Int} (h : value_Join.f k a0_0 a0_1 a0_2 a0_3 a1_0 a1_1 a1_2 a1_3 = some t) : Calls Tryz.prog 10 #[.agg ⟨[.int .u32 a0_0, .int .u32 a0_1, .int .u32 a0_2, .int .u32 a0_3]⟩, .agg ⟨[.int .u32 a1_0, .int .u32 a1_1, .int .u32 a1_2, .int .u32 a1_3]⟩] w fun e w' => e = .returned (d12e t) ∧ Below w.heap.size w w' :=
  (all49 k).calls (vs := [.agg ⟨[.int .u32 a0_0, .int .u32 a0_1, .int .u32 a0_2, .int .u32 a0_3]⟩, .agg ⟨[.int .u32 a1_0, .int .u32 a1_1, .int .u32 a1_2, .int .u32 a1_3]⟩]) g d12_ok ((value_Join.eq k a0_0 a0_1 a0_2 a0_3 a1_0 a1_1 a1_2 a1_3).trans h)
noncomputable def value_Join.s (k : Nat) : Sum := { T := Int × Int × Int × Int, get := fun l => match l with | [.agg ⟨[.int .u32 a0_0, .int .u32 a0_1, .int .u32 a0_2, .int .u32 a0_3]⟩, .agg ⟨[.int .u32 a1_0, .int .u32 a1_1, .int .u32 a1_2, .int .u32 a1_3]⟩] => some (value_Join.f k a0_0 a0_1 a0_2 a0_3 a1_0 a1_1 a1_2 a1_3) | _ => none, enc := d12e }
noncomputable def E50 (k : Nat) : Eng := (E49 k).add 10 (value_Join.s k)
theorem all50 (k : Nat) : EngAll (E50 k) := (all49 k).add (by kernel_rfl) (by
  intro vs t w g h
  simp only [value_Join.s] at h
  split at h
  · exact value_Join.calls k _ _ _ _ _ _ _ _ (show G w from g) (Option.some.inj h)
  · cases h)

/-! ### lamplighter/value.Widen -/
def value_Widen.f (k : Nat) (a0_0 : Int) (a0_1 : Int) (a0_2 : Int) (a0_3 : Int) (a1_0 : Int) (a1_1 : Int) (a1_2 : Int) (a1_3 : Int) : Option (Int × Int × Int × Int) := ((value_Check.f k a0_0 a0_1 a0_2 a0_3).bind fun t1 => (br (!eqI t1 0) ((value_All.f).bind fun t2 => some (t2.1, t2.2.1, t2.2.2.1, t2.2.2.2)) ((value_Check.f k a1_0 a1_1 a1_2 a1_3).bind fun t3 => (br (!eqI t3 0) ((value_All.f).bind fun t4 => some (t4.1, t4.2.1, t4.2.2.1, t4.2.2.2)) ((value_Join.f k a0_0 a0_1 a0_2 a0_3 a1_0 a1_1 a1_2 a1_3).bind fun t5 => ((interval_Widen.f k a0_0 a0_1 t5.1 t5.2.1).bind fun t6 => ((known_Join.f a0_2 a0_3 t5.2.2.1 t5.2.2.2).bind fun t7 => ((value_fitted.f k t6.1 t6.2 t7.1 t7.2).bind fun t8 => some (t8.1, t8.2.1, t8.2.2.1, t8.2.2.2)))))))))
theorem value_Widen.eq (k : Nat) (a0_0 : Int) (a0_1 : Int) (a0_2 : Int) (a0_3 : Int) (a1_0 : Int) (a1_1 : Int) (a1_2 : Int) (a1_3 : Int) : run (E50 k) 20 12 [.v (.agg ⟨[.int .u32 a0_0, .int .u32 a0_1, .int .u32 a0_2, .int .u32 a0_3]⟩), .v (.agg ⟨[.int .u32 a1_0, .int .u32 a1_1, .int .u32 a1_2, .int .u32 a1_3]⟩)] [] (fun x _ => d12 x) = value_Widen.f k a0_0 a0_1 a0_2 a0_3 a1_0 a1_1 a1_2 a1_3 := by kernel_rfl
theorem value_Widen.calls (k : Nat) (a0_0 : Int) (a0_1 : Int) (a0_2 : Int) (a0_3 : Int) (a1_0 : Int) (a1_1 : Int) (a1_2 : Int) (a1_3 : Int) {w : World} (g : G w) {t : Int × Int × Int × Int} (h : value_Widen.f k a0_0 a0_1 a0_2 a0_3 a1_0 a1_1 a1_2 a1_3 = some t) : Calls Tryz.prog 12 #[.agg ⟨[.int .u32 a0_0, .int .u32 a0_1, .int .u32 a0_2, .int .u32 a0_3]⟩, .agg ⟨[.int .u32 a1_0, .int .u32 a1_1, .int .u32 a1_2, .int .u32 a1_3]⟩] w fun e w' => e = .returned (d12e t) ∧ Below w.heap.size w w' :=
  (all50 k).calls (vs := [.agg ⟨[.int .u32 a0_0, .int .u32 a0_1, .int .u32 a0_2, .int .u32 a0_3]⟩, .agg ⟨[.int .u32 a1_0, .int .u32 a1_1, .int .u32 a1_2, .int .u32 a1_3]⟩]) g d12_ok ((value_Widen.eq k a0_0 a0_1 a0_2 a0_3 a1_0 a1_1 a1_2 a1_3).trans h)
noncomputable def value_Widen.s (k : Nat) : Sum := { T := Int × Int × Int × Int, get := fun l => match l with | [.agg ⟨[.int .u32 a0_0, .int .u32 a0_1, .int .u32 a0_2, .int .u32 a0_3]⟩, .agg ⟨[.int .u32 a1_0, .int .u32 a1_1, .int .u32 a1_2, .int .u32 a1_3]⟩] => some (value_Widen.f k a0_0 a0_1 a0_2 a0_3 a1_0 a1_1 a1_2 a1_3) | _ => none, enc := d12e }
noncomputable def E51 (k : Nat) : Eng := (E50 k).add 12 (value_Widen.s k)
theorem all51 (k : Nat) : EngAll (E51 k) := (all50 k).add (by kernel_rfl) (by
  intro vs t w g h
  simp only [value_Widen.s] at h
  split at h
  · exact value_Widen.calls k _ _ _ _ _ _ _ _ (show G w from g) (Option.some.inj h)
  · cases h)

def d14 (x : AV) : Option (Int × Int × Int × Int × Bool × Int) := match x with
  | .v (.tuple ⟨[.agg ⟨[.int .u32 x0, .int .u32 x1, .int .u32 x2, .int .u32 x3]⟩, .bool x4, .int .i64 x5]⟩) => some (x0, x1, x2, x3, x4, x5)
  | _ => none
def d14e (t : Int × Int × Int × Int × Bool × Int) : Value := .tuple ⟨[.agg ⟨[.int .u32 (t.1), .int .u32 (t.2.1), .int .u32 (t.2.2.1), .int .u32 (t.2.2.2.1)]⟩, .bool (t.2.2.2.2.1), .int .i64 (t.2.2.2.2.2)]⟩
theorem d14_ok (x : AV) (t : Int × Int × Int × Int × Bool × Int) (h : d14 x = some t) : x = .v (d14e t) := by
  unfold d14 at h
  split at h
  · obtain rfl := Option.some.inj h
    rfl
  · cases h

/-! ### lamplighter/value.Do -/
def value_Do.f (k : Nat) (a0 : Int) (a1_0 : Int) (a1_1 : Int) (a1_2 : Int) (a1_3 : Int) (a2_0 : Int) (a2_1 : Int) (a2_2 : Int) (a2_3 : Int) : Option (Int × Int × Int × Int × Bool × Int) := ((value_Check.f k a1_0 a1_1 a1_2 a1_3).bind fun t1 => (br (!eqI t1 0) (some (0, 0, 0, 0, false, 2)) ((value_Check.f k a2_0 a2_1 a2_2 a2_3).bind fun t2 => (br (!eqI t2 0) (some (0, 0, 0, 0, false, 2)) ((interval_Do.f a0 a1_0 a1_1 a2_0 a2_1).bind fun t3 => ((known_Do.f k a0 a1_2 a1_3 a2_2 a2_3).bind fun t4 => (br (!eqI t3.2.2.2 0) (some (0, 0, 0, 0, false, 2)) (br (!eqI t4.2.2.2 0) (some (0, 0, 0, 0, false, 2)) (br (!t3.2.2.1) (some (0, 0, 0, 0, false, 0)) (br (!t4.2.2.1) (some (0, 0, 0, 0, false, 0)) ((value_Fit.f k t3.1 t3.2.1 t4.1 t4.2.1).bind fun t5 => some (t5.1, t5.2.1, t5.2.2.1, t5.2.2.2.1, t5.2.2.2.2, 0))))))))))))
theorem value_Do.eq (k : Nat) (a0 : Int) (a1_0 : Int) (a1_1 : Int) (a1_2 : Int) (a1_3 : Int) (a2_0 : Int) (a2_1 : Int) (a2_2 : Int) (a2_3 : Int) : run (E51 k) 20 14 [.v (.int .i64 a0), .v (.agg ⟨[.int .u32 a1_0, .int .u32 a1_1, .int .u32 a1_2, .int .u32 a1_3]⟩), .v (.agg ⟨[.int .u32 a2_0, .int .u32 a2_1, .int .u32 a2_2, .int .u32 a2_3]⟩)] [] (fun x _ => d14 x) = value_Do.f k a0 a1_0 a1_1 a1_2 a1_3 a2_0 a2_1 a2_2 a2_3 := by kernel_rfl
theorem value_Do.calls (k : Nat) (a0 : Int) (a1_0 : Int) (a1_1 : Int) (a1_2 : Int) (a1_3 : Int) (a2_0 : Int) (a2_1 : Int) (a2_2 : Int) (a2_3 : Int) {w : World} (g : G w) {t : Int × Int × Int × Int × Bool × Int} (h : value_Do.f k a0 a1_0 a1_1 a1_2 a1_3 a2_0 a2_1 a2_2 a2_3 = some t) : Calls Tryz.prog 14 #[.int .i64 a0, .agg ⟨[.int .u32 a1_0, .int .u32 a1_1, .int .u32 a1_2, .int .u32 a1_3]⟩, .agg ⟨[.int .u32 a2_0, .int .u32 a2_1, .int .u32 a2_2, .int .u32 a2_3]⟩] w fun e w' => e = .returned (d14e t) ∧ Below w.heap.size w w' :=
  (all51 k).calls (vs := [.int .i64 a0, .agg ⟨[.int .u32 a1_0, .int .u32 a1_1, .int .u32 a1_2, .int .u32 a1_3]⟩, .agg ⟨[.int .u32 a2_0, .int .u32 a2_1, .int .u32 a2_2, .int .u32 a2_3]⟩]) g d14_ok ((value_Do.eq k a0 a1_0 a1_1 a1_2 a1_3 a2_0 a2_1 a2_2 a2_3).trans h)
noncomputable def value_Do.s (k : Nat) : Sum := { T := Int × Int × Int × Int × Bool × Int, get := fun l => match l with | [.int .i64 a0, .agg ⟨[.int .u32 a1_0, .int .u32 a1_1, .int .u32 a1_2, .int .u32 a1_3]⟩, .agg ⟨[.int .u32 a2_0, .int .u32 a2_1, .int .u32 a2_2, .int .u32 a2_3]⟩] => some (value_Do.f k a0 a1_0 a1_1 a1_2 a1_3 a2_0 a2_1 a2_2 a2_3) | _ => none, enc := d14e }
noncomputable def E52 (k : Nat) : Eng := (E51 k).add 14 (value_Do.s k)
theorem all52 (k : Nat) : EngAll (E52 k) := (all51 k).add (by kernel_rfl) (by
  intro vs t w g h
  simp only [value_Do.s] at h
  split at h
  · exact value_Do.calls k _ _ _ _ _ _ _ _ _ (show G w from g) (Option.some.inj h)
  · cases h)

def d15 (x : AV) : Option (Int × Int × Int × Int × Int) := match x with
  | .v (.tuple ⟨[.agg ⟨[.int .u32 x0, .int .u32 x1, .int .u32 x2, .int .u32 x3]⟩, .int .i64 x4]⟩) => some (x0, x1, x2, x3, x4)
  | _ => none
def d15e (t : Int × Int × Int × Int × Int) : Value := .tuple ⟨[.agg ⟨[.int .u32 (t.1), .int .u32 (t.2.1), .int .u32 (t.2.2.1), .int .u32 (t.2.2.2.1)]⟩, .int .i64 (t.2.2.2.2)]⟩
theorem d15_ok (x : AV) (t : Int × Int × Int × Int × Int) (h : d15 x = some t) : x = .v (d15e t) := by
  unfold d15 at h
  split at h
  · obtain rfl := Option.some.inj h
    rfl
  · cases h

/-! ### lamplighter/value.Un -/
def value_Un.f (k : Nat) (a0 : Int) (a1_0 : Int) (a1_1 : Int) (a1_2 : Int) (a1_3 : Int) : Option (Int × Int × Int × Int × Int) := ((interval_Un.f a0 a1_0 a1_1).bind fun t1 => ((known_Un.f k a0 a1_2 a1_3).bind fun t2 => (br (!eqI t1.2.2 0) (some (0, 0, 0, 0, 2)) (br (!eqI t2.2.2 0) (some (0, 0, 0, 0, 2)) ((value_Check.f k a1_0 a1_1 a1_2 a1_3).bind fun t3 => (br (!eqI t3 0) (some (0, 0, 0, 0, 2)) ((value_fitted.f k t1.1 t1.2.1 t2.1 t2.2.1).bind fun t4 => some (t4.1, t4.2.1, t4.2.2.1, t4.2.2.2, 0))))))))
theorem value_Un.eq (k : Nat) (a0 : Int) (a1_0 : Int) (a1_1 : Int) (a1_2 : Int) (a1_3 : Int) : run (E52 k) 20 17 [.v (.int .i64 a0), .v (.agg ⟨[.int .u32 a1_0, .int .u32 a1_1, .int .u32 a1_2, .int .u32 a1_3]⟩)] [] (fun x _ => d15 x) = value_Un.f k a0 a1_0 a1_1 a1_2 a1_3 := by kernel_rfl
theorem value_Un.calls (k : Nat) (a0 : Int) (a1_0 : Int) (a1_1 : Int) (a1_2 : Int) (a1_3 : Int) {w : World} (g : G w) {t : Int × Int × Int × Int × Int} (h : value_Un.f k a0 a1_0 a1_1 a1_2 a1_3 = some t) : Calls Tryz.prog 17 #[.int .i64 a0, .agg ⟨[.int .u32 a1_0, .int .u32 a1_1, .int .u32 a1_2, .int .u32 a1_3]⟩] w fun e w' => e = .returned (d15e t) ∧ Below w.heap.size w w' :=
  (all52 k).calls (vs := [.int .i64 a0, .agg ⟨[.int .u32 a1_0, .int .u32 a1_1, .int .u32 a1_2, .int .u32 a1_3]⟩]) g d15_ok ((value_Un.eq k a0 a1_0 a1_1 a1_2 a1_3).trans h)
noncomputable def value_Un.s (k : Nat) : Sum := { T := Int × Int × Int × Int × Int, get := fun l => match l with | [.int .i64 a0, .agg ⟨[.int .u32 a1_0, .int .u32 a1_1, .int .u32 a1_2, .int .u32 a1_3]⟩] => some (value_Un.f k a0 a1_0 a1_1 a1_2 a1_3) | _ => none, enc := d15e }
noncomputable def E53 (k : Nat) : Eng := (E52 k).add 17 (value_Un.s k)
theorem all53 (k : Nat) : EngAll (E53 k) := (all52 k).add (by kernel_rfl) (by
  intro vs t w g h
  simp only [value_Un.s] at h
  split at h
  · exact value_Un.calls k _ _ _ _ _ (show G w from g) (Option.some.inj h)
  · cases h)

/-! ### lamplighter/value.Cut -/
def value_Cut.f (k : Nat) (a0_0 : Int) (a0_1 : Int) (a0_2 : Int) (a0_3 : Int) (a1 : Int) : Option (Int × Int × Int × Int × Int) := ((interval_Cut.f a0_0 a0_1 a1).bind fun t1 => ((known_Cut.f a0_2 a0_3 a1).bind fun t2 => (br (!eqI t1.2.2 0) (some (0, 0, 0, 0, 2)) (br (!eqI t2.2.2 0) (some (0, 0, 0, 0, 2)) ((value_Check.f k a0_0 a0_1 a0_2 a0_3).bind fun t3 => (br (!eqI t3 0) (some (0, 0, 0, 0, 2)) ((value_fitted.f k t1.1 t1.2.1 t2.1 t2.2.1).bind fun t4 => some (t4.1, t4.2.1, t4.2.2.1, t4.2.2.2, 0))))))))
theorem value_Cut.eq (k : Nat) (a0_0 : Int) (a0_1 : Int) (a0_2 : Int) (a0_3 : Int) (a1 : Int) : run (E53 k) 20 19 [.v (.agg ⟨[.int .u32 a0_0, .int .u32 a0_1, .int .u32 a0_2, .int .u32 a0_3]⟩), .v (.int .i64 a1)] [] (fun x _ => d15 x) = value_Cut.f k a0_0 a0_1 a0_2 a0_3 a1 := by kernel_rfl
theorem value_Cut.calls (k : Nat) (a0_0 : Int) (a0_1 : Int) (a0_2 : Int) (a0_3 : Int) (a1 : Int) {w : World} (g : G w) {t : Int × Int × Int × Int × Int} (h : value_Cut.f k a0_0 a0_1 a0_2 a0_3 a1 = some t) : Calls Tryz.prog 19 #[.agg ⟨[.int .u32 a0_0, .int .u32 a0_1, .int .u32 a0_2, .int .u32 a0_3]⟩, .int .i64 a1] w fun e w' => e = .returned (d15e t) ∧ Below w.heap.size w w' :=
  (all53 k).calls (vs := [.agg ⟨[.int .u32 a0_0, .int .u32 a0_1, .int .u32 a0_2, .int .u32 a0_3]⟩, .int .i64 a1]) g d15_ok ((value_Cut.eq k a0_0 a0_1 a0_2 a0_3 a1).trans h)
noncomputable def value_Cut.s (k : Nat) : Sum := { T := Int × Int × Int × Int × Int, get := fun l => match l with | [.agg ⟨[.int .u32 a0_0, .int .u32 a0_1, .int .u32 a0_2, .int .u32 a0_3]⟩, .int .i64 a1] => some (value_Cut.f k a0_0 a0_1 a0_2 a0_3 a1) | _ => none, enc := d15e }
noncomputable def E54 (k : Nat) : Eng := (E53 k).add 19 (value_Cut.s k)
theorem all54 (k : Nat) : EngAll (E54 k) := (all53 k).add (by kernel_rfl) (by
  intro vs t w g h
  simp only [value_Cut.s] at h
  split at h
  · exact value_Cut.calls k _ _ _ _ _ (show G w from g) (Option.some.inj h)
  · cases h)

def d16 (x : AV) : Option (Bool × Bool) := match x with
  | .v (.tuple ⟨[.bool x0, .bool x1]⟩) => some (x0, x1)
  | _ => none
def d16e (t : Bool × Bool) : Value := .tuple ⟨[.bool (t.1), .bool (t.2)]⟩
theorem d16_ok (x : AV) (t : Bool × Bool) (h : d16 x = some t) : x = .v (d16e t) := by
  unfold d16 at h
  split at h
  · obtain rfl := Option.some.inj h
    rfl
  · cases h

/-! ### lamplighter/value.Truth -/
def value_Truth.f (k : Nat) (a0_0 : Int) (a0_1 : Int) (a0_2 : Int) (a0_3 : Int) : Option (Bool × Bool) := ((value_Check.f k a0_0 a0_1 a0_2 a0_3).bind fun t1 => (br (!eqI t1 0) (some (false, false)) ((value_Has.f k a0_0 a0_1 a0_2 a0_3 0).bind fun t2 => some ((ltI 0 a0_1), (!t2)))))
theorem value_Truth.eq (k : Nat) (a0_0 : Int) (a0_1 : Int) (a0_2 : Int) (a0_3 : Int) : run (E54 k) 20 23 [.v (.agg ⟨[.int .u32 a0_0, .int .u32 a0_1, .int .u32 a0_2, .int .u32 a0_3]⟩)] [] (fun x _ => d16 x) = value_Truth.f k a0_0 a0_1 a0_2 a0_3 := by kernel_rfl
theorem value_Truth.calls (k : Nat) (a0_0 : Int) (a0_1 : Int) (a0_2 : Int) (a0_3 : Int) {w : World} (g : G w) {t : Bool × Bool} (h : value_Truth.f k a0_0 a0_1 a0_2 a0_3 = some t) : Calls Tryz.prog 23 #[.agg ⟨[.int .u32 a0_0, .int .u32 a0_1, .int .u32 a0_2, .int .u32 a0_3]⟩] w fun e w' => e = .returned (d16e t) ∧ Below w.heap.size w w' :=
  (all54 k).calls (vs := [.agg ⟨[.int .u32 a0_0, .int .u32 a0_1, .int .u32 a0_2, .int .u32 a0_3]⟩]) g d16_ok ((value_Truth.eq k a0_0 a0_1 a0_2 a0_3).trans h)
noncomputable def value_Truth.s (k : Nat) : Sum := { T := Bool × Bool, get := fun l => match l with | [.agg ⟨[.int .u32 a0_0, .int .u32 a0_1, .int .u32 a0_2, .int .u32 a0_3]⟩] => some (value_Truth.f k a0_0 a0_1 a0_2 a0_3) | _ => none, enc := d16e }
noncomputable def E55 (k : Nat) : Eng := (E54 k).add 23 (value_Truth.s k)
theorem all55 (k : Nat) : EngAll (E55 k) := (all54 k).add (by kernel_rfl) (by
  intro vs t w g h
  simp only [value_Truth.s] at h
  split at h
  · exact value_Truth.calls k _ _ _ _ (show G w from g) (Option.some.inj h)
  · cases h)

/-! ### lamplighter/lamplighterkit.Pick -/
def lamplighterkit_Pick.f (a0 : Int) (a1 : Int) : Option (Int) := (br (ltI a1 1) (some (0)) (br (eqI a1 0) none (br (ltI (Int.tmod a0 a1) 0) (some ((IntKind.i64.wrap ((Int.tmod a0 a1) + a1)))) (some ((Int.tmod a0 a1))))))
theorem lamplighterkit_Pick.eq (k : Nat) (a0 : Int) (a1 : Int) : run (E55 k) 20 13 [.v (.int .i64 a0), .v (.int .i64 a1)] [] (fun x _ => d1 x) = lamplighterkit_Pick.f a0 a1 := by kernel_rfl
theorem lamplighterkit_Pick.calls (k : Nat) (a0 : Int) (a1 : Int) {w : World} (g : G w) {t : Int} (h : lamplighterkit_Pick.f a0 a1 = some t) : Calls Tryz.prog 13 #[.int .i64 a0, .int .i64 a1] w fun e w' => e = .returned (d1e t) ∧ Below w.heap.size w w' :=
  (all55 k).calls (vs := [.int .i64 a0, .int .i64 a1]) g d1_ok ((lamplighterkit_Pick.eq k a0 a1).trans h)
noncomputable def lamplighterkit_Pick.s (k : Nat) : Sum := { T := Int, get := fun l => match l with | [.int .i64 a0, .int .i64 a1] => some (lamplighterkit_Pick.f a0 a1) | _ => none, enc := d1e }
noncomputable def E56 (k : Nat) : Eng := (E55 k).add 13 (lamplighterkit_Pick.s k)
theorem all56 (k : Nat) : EngAll (E56 k) := (all55 k).add (by kernel_rfl) (by
  intro vs t w g h
  simp only [lamplighterkit_Pick.s] at h
  split at h
  · exact lamplighterkit_Pick.calls k _ _ (show G w from g) (Option.some.inj h)
  · cases h)

/-! ### lamplighter/lamplighterref01.Signed -/
def lamplighterref01_Signed.f (a0 : Int) : Option (Int) := (br (leI 2147483648 a0) (some ((IntKind.i64.wrap ((IntKind.i64.wrap a0) - 4294967296)))) (some ((IntKind.i64.wrap a0))))
theorem lamplighterref01_Signed.eq (k : Nat) (a0 : Int) : run (E56 k) 20 55 [.v (.int .u32 a0)] [] (fun x _ => d1 x) = lamplighterref01_Signed.f a0 := by kernel_rfl
theorem lamplighterref01_Signed.calls (k : Nat) (a0 : Int) {w : World} (g : G w) {t : Int} (h : lamplighterref01_Signed.f a0 = some t) : Calls Tryz.prog 55 #[.int .u32 a0] w fun e w' => e = .returned (d1e t) ∧ Below w.heap.size w w' :=
  (all56 k).calls (vs := [.int .u32 a0]) g d1_ok ((lamplighterref01_Signed.eq k a0).trans h)
noncomputable def lamplighterref01_Signed.s (k : Nat) : Sum := { T := Int, get := fun l => match l with | [.int .u32 a0] => some (lamplighterref01_Signed.f a0) | _ => none, enc := d1e }
noncomputable def E57 (k : Nat) : Eng := (E56 k).add 55 (lamplighterref01_Signed.s k)
theorem all57 (k : Nat) : EngAll (E57 k) := (all56 k).add (by kernel_rfl) (by
  intro vs t w g h
  simp only [lamplighterref01_Signed.s] at h
  split at h
  · exact lamplighterref01_Signed.calls k _ (show G w from g) (Option.some.inj h)
  · cases h)

/-! ### lamplighter/lamplighterref01.yes -/
def lamplighterref01_yes.f (a0 : Bool) : Option (Int) := (br a0 (some (1)) (some (0)))
theorem lamplighterref01_yes.eq (k : Nat) (a0 : Bool) : run (E57 k) 20 56 [.v (.bool a0)] [] (fun x _ => d8 x) = lamplighterref01_yes.f a0 := by kernel_rfl
theorem lamplighterref01_yes.calls (k : Nat) (a0 : Bool) {w : World} (g : G w) {t : Int} (h : lamplighterref01_yes.f a0 = some t) : Calls Tryz.prog 56 #[.bool a0] w fun e w' => e = .returned (d8e t) ∧ Below w.heap.size w w' :=
  (all57 k).calls (vs := [.bool a0]) g d8_ok ((lamplighterref01_yes.eq k a0).trans h)
noncomputable def lamplighterref01_yes.s (k : Nat) : Sum := { T := Int, get := fun l => match l with | [.bool a0] => some (lamplighterref01_yes.f a0) | _ => none, enc := d8e }
noncomputable def E58 (k : Nat) : Eng := (E57 k).add 56 (lamplighterref01_yes.s k)
theorem all58 (k : Nat) : EngAll (E58 k) := (all57 k).add (by kernel_rfl) (by
  intro vs t w g h
  simp only [lamplighterref01_yes.s] at h
  split at h
  · exact lamplighterref01_yes.calls k _ (show G w from g) (Option.some.inj h)
  · cases h)

/-! ### lamplighter/lamplighterref01.Do -/
def lamplighterref01_Do.f (a0 : Int) (a1 : Int) (a2 : Int) : Option (Int × Int) := ((lamplighterref01_Signed.f a1).bind fun t1 => ((lamplighterref01_Signed.f a2).bind fun t2 => (br (leI 4 a0) (br (leI a0 7) (br (eqI a2 0) (some (0, 12)) (br (eqI a0 1) (some ((IntKind.u32.wrap (a1 + a2)), 0)) (br (eqI a0 2) (some ((IntKind.u32.wrap (a1 - a2)), 0)) (br (eqI a0 3) (some ((IntKind.u32.wrap (a1 * a2)), 0)) (br (eqI a0 4) (br (eqI a2 0) none (some ((IntKind.u32.wrap (Int.tdiv a1 a2)), 0))) (br (eqI a0 5) (br (eqI a2 0) none (some ((Int.tmod a1 a2), 0))) (br (eqI a0 6) (br (eqI t2 0) none (some ((IntKind.u32.wrap (IntKind.i64.wrap (Int.tdiv t1 t2))), 0))) (br (eqI a0 7) (br (eqI t2 0) none (some ((IntKind.u32.wrap (Int.tmod t1 t2)), 0))) (br (eqI a0 8) (some ((bitw .and .u32 a1 a2), 0)) (br (eqI a0 9) (some ((bitw .or .u32 a1 a2), 0)) (br (eqI a0 10) (some ((bitw .xor .u32 a1 a2), 0)) (br (eqI a0 11) (br (ltI 31 a2) (some (0, 0)) (br (ltI a2 0) none (some ((X.shl .u32 a1 a2), 0)))) (br (eqI a0 12) (br (ltI 31 a2) (some (0, 0)) (br (ltI a2 0) none (some ((X.shr .u32 a1 a2), 0)))) (br (eqI a0 13) (br (ltI (if 32 < a2 then 32 else a2) 0) none (some ((IntKind.u32.wrap (X.shr .i64 t1 (if 32 < a2 then 32 else a2))), 0))) (br (eqI a0 14) ((lamplighterref01_yes.f (eqI a1 a2)).bind fun t3 => some (t3, 0)) (br (eqI a0 15) ((lamplighterref01_yes.f (!eqI a1 a2)).bind fun t4 => some (t4, 0)) (br (eqI a0 16) ((lamplighterref01_yes.f (ltI a1 a2)).bind fun t5 => some (t5, 0)) (br (eqI a0 17) ((lamplighterref01_yes.f (leI a1 a2)).bind fun t6 => some (t6, 0)) (br (eqI a0 18) ((lamplighterref01_yes.f (ltI t1 t2)).bind fun t7 => some (t7, 0)) (br (eqI a0 19) ((lamplighterref01_yes.f (leI t1 t2)).bind fun t8 => some (t8, 0)) (some (0, 2)))))))))))))))))))))) (br (eqI a0 1) (some ((IntKind.u32.wrap (a1 + a2)), 0)) (br (eqI a0 2) (some ((IntKind.u32.wrap (a1 - a2)), 0)) (br (eqI a0 3) (some ((IntKind.u32.wrap (a1 * a2)), 0)) (br (eqI a0 4) (br (eqI a2 0) none (some ((IntKind.u32.wrap (Int.tdiv a1 a2)), 0))) (br (eqI a0 5) (br (eqI a2 0) none (some ((Int.tmod a1 a2), 0))) (br (eqI a0 6) (br (eqI t2 0) none (some ((IntKind.u32.wrap (IntKind.i64.wrap (Int.tdiv t1 t2))), 0))) (br (eqI a0 7) (br (eqI t2 0) none (some ((IntKind.u32.wrap (Int.tmod t1 t2)), 0))) (br (eqI a0 8) (some ((bitw .and .u32 a1 a2), 0)) (br (eqI a0 9) (some ((bitw .or .u32 a1 a2), 0)) (br (eqI a0 10) (some ((bitw .xor .u32 a1 a2), 0)) (br (eqI a0 11) (br (ltI 31 a2) (some (0, 0)) (br (ltI a2 0) none (some ((X.shl .u32 a1 a2), 0)))) (br (eqI a0 12) (br (ltI 31 a2) (some (0, 0)) (br (ltI a2 0) none (some ((X.shr .u32 a1 a2), 0)))) (br (eqI a0 13) (br (ltI (if 32 < a2 then 32 else a2) 0) none (some ((IntKind.u32.wrap (X.shr .i64 t1 (if 32 < a2 then 32 else a2))), 0))) (br (eqI a0 14) ((lamplighterref01_yes.f (eqI a1 a2)).bind fun t9 => some (t9, 0)) (br (eqI a0 15) ((lamplighterref01_yes.f (!eqI a1 a2)).bind fun t10 => some (t10, 0)) (br (eqI a0 16) ((lamplighterref01_yes.f (ltI a1 a2)).bind fun t11 => some (t11, 0)) (br (eqI a0 17) ((lamplighterref01_yes.f (leI a1 a2)).bind fun t12 => some (t12, 0)) (br (eqI a0 18) ((lamplighterref01_yes.f (ltI t1 t2)).bind fun t13 => some (t13, 0)) (br (eqI a0 19) ((lamplighterref01_yes.f (leI t1 t2)).bind fun t14 => some (t14, 0)) (some (0, 2)))))))))))))))))))))) (br (eqI a0 1) (some ((IntKind.u32.wrap (a1 + a2)), 0)) (br (eqI a0 2) (some ((IntKind.u32.wrap (a1 - a2)), 0)) (br (eqI a0 3) (some ((IntKind.u32.wrap (a1 * a2)), 0)) (br (eqI a0 4) (br (eqI a2 0) none (some ((IntKind.u32.wrap (Int.tdiv a1 a2)), 0))) (br (eqI a0 5) (br (eqI a2 0) none (some ((Int.tmod a1 a2), 0))) (br (eqI a0 6) (br (eqI t2 0) none (some ((IntKind.u32.wrap (IntKind.i64.wrap (Int.tdiv t1 t2))), 0))) (br (eqI a0 7) (br (eqI t2 0) none (some ((IntKind.u32.wrap (Int.tmod t1 t2)), 0))) (br (eqI a0 8) (some ((bitw .and .u32 a1 a2), 0)) (br (eqI a0 9) (some ((bitw .or .u32 a1 a2), 0)) (br (eqI a0 10) (some ((bitw .xor .u32 a1 a2), 0)) (br (eqI a0 11) (br (ltI 31 a2) (some (0, 0)) (br (ltI a2 0) none (some ((X.shl .u32 a1 a2), 0)))) (br (eqI a0 12) (br (ltI 31 a2) (some (0, 0)) (br (ltI a2 0) none (some ((X.shr .u32 a1 a2), 0)))) (br (eqI a0 13) (br (ltI (if 32 < a2 then 32 else a2) 0) none (some ((IntKind.u32.wrap (X.shr .i64 t1 (if 32 < a2 then 32 else a2))), 0))) (br (eqI a0 14) ((lamplighterref01_yes.f (eqI a1 a2)).bind fun t15 => some (t15, 0)) (br (eqI a0 15) ((lamplighterref01_yes.f (!eqI a1 a2)).bind fun t16 => some (t16, 0)) (br (eqI a0 16) ((lamplighterref01_yes.f (ltI a1 a2)).bind fun t17 => some (t17, 0)) (br (eqI a0 17) ((lamplighterref01_yes.f (leI a1 a2)).bind fun t18 => some (t18, 0)) (br (eqI a0 18) ((lamplighterref01_yes.f (ltI t1 t2)).bind fun t19 => some (t19, 0)) (br (eqI a0 19) ((lamplighterref01_yes.f (leI t1 t2)).bind fun t20 => some (t20, 0)) (some (0, 2))))))))))))))))))))))))
theorem lamplighterref01_Do.eq (k : Nat) (a0 : Int) (a1 : Int) (a2 : Int) : run (E58 k) 20 16 [.v (.int .i64 a0), .v (.int .u32 a1), .v (.int .u32 a2)] [] (fun x _ => d3 x) = lamplighterref01_Do.f a0 a1 a2 := by kernel_rfl
theorem lamplighterref01_Do.calls (k : Nat) (a0 : Int) (a1 : Int) (a2 : Int) {w : World} (g : G w) {t : Int × Int} (h : lamplighterref01_Do.f a0 a1 a2 = some t) : Calls Tryz.prog 16 #[.int .i64 a0, .int .u32 a1, .int .u32 a2] w fun e w' => e = .returned (d3e t) ∧ Below w.heap.size w w' :=
  (all58 k).calls (vs := [.int .i64 a0, .int .u32 a1, .int .u32 a2]) g d3_ok ((lamplighterref01_Do.eq k a0 a1 a2).trans h)
noncomputable def lamplighterref01_Do.s (k : Nat) : Sum := { T := Int × Int, get := fun l => match l with | [.int .i64 a0, .int .u32 a1, .int .u32 a2] => some (lamplighterref01_Do.f a0 a1 a2) | _ => none, enc := d3e }
noncomputable def E59 (k : Nat) : Eng := (E58 k).add 16 (lamplighterref01_Do.s k)
theorem all59 (k : Nat) : EngAll (E59 k) := (all58 k).add (by kernel_rfl) (by
  intro vs t w g h
  simp only [lamplighterref01_Do.s] at h
  split at h
  · exact lamplighterref01_Do.calls k _ _ _ (show G w from g) (Option.some.inj h)
  · cases h)

/-! ### lamplighter/lamplighterref01.One -/
def lamplighterref01_One.f (a0 : Int) (a1 : Int) : Option (Int × Int) := (br (eqI a0 1) (some ((IntKind.u32.wrap (0 - a1)), 0)) (br (eqI a0 2) (some ((bitw .xor .u32 IntKind.u32.max a1), 0)) (br (eqI a0 3) ((lamplighterref01_yes.f (eqI a1 0)).bind fun t1 => some (t1, 0)) (some (0, 2)))))
theorem lamplighterref01_One.eq (k : Nat) (a0 : Int) (a1 : Int) : run (E59 k) 20 18 [.v (.int .i64 a0), .v (.int .u32 a1)] [] (fun x _ => d3 x) = lamplighterref01_One.f a0 a1 := by kernel_rfl
theorem lamplighterref01_One.calls (k : Nat) (a0 : Int) (a1 : Int) {w : World} (g : G w) {t : Int × Int} (h : lamplighterref01_One.f a0 a1 = some t) : Calls Tryz.prog 18 #[.int .i64 a0, .int .u32 a1] w fun e w' => e = .returned (d3e t) ∧ Below w.heap.size w w' :=
  (all59 k).calls (vs := [.int .i64 a0, .int .u32 a1]) g d3_ok ((lamplighterref01_One.eq k a0 a1).trans h)
noncomputable def lamplighterref01_One.s (k : Nat) : Sum := { T := Int × Int, get := fun l => match l with | [.int .i64 a0, .int .u32 a1] => some (lamplighterref01_One.f a0 a1) | _ => none, enc := d3e }
noncomputable def E60 (k : Nat) : Eng := (E59 k).add 18 (lamplighterref01_One.s k)
theorem all60 (k : Nat) : EngAll (E60 k) := (all59 k).add (by kernel_rfl) (by
  intro vs t w g h
  simp only [lamplighterref01_One.s] at h
  split at h
  · exact lamplighterref01_One.calls k _ _ (show G w from g) (Option.some.inj h)
  · cases h)

/-! ### lamplighter/lamplighterref01.Cut -/
def lamplighterref01_Cut.f (a0 : Int) (a1 : Int) : Option (Int × Int) := (br (eqI a1 8) (some ((Int.tmod a0 256), 0)) (br (eqI a1 16) (some ((Int.tmod a0 65536), 0)) (br (eqI a1 32) (some (a0, 0)) (some (0, 2)))))
theorem lamplighterref01_Cut.eq (k : Nat) (a0 : Int) (a1 : Int) : run (E60 k) 20 20 [.v (.int .u32 a0), .v (.int .i64 a1)] [] (fun x _ => d3 x) = lamplighterref01_Cut.f a0 a1 := by kernel_rfl
theorem lamplighterref01_Cut.calls (k : Nat) (a0 : Int) (a1 : Int) {w : World} (g : G w) {t : Int × Int} (h : lamplighterref01_Cut.f a0 a1 = some t) : Calls Tryz.prog 20 #[.int .u32 a0, .int .i64 a1] w fun e w' => e = .returned (d3e t) ∧ Below w.heap.size w w' :=
  (all60 k).calls (vs := [.int .u32 a0, .int .i64 a1]) g d3_ok ((lamplighterref01_Cut.eq k a0 a1).trans h)
noncomputable def lamplighterref01_Cut.s (k : Nat) : Sum := { T := Int × Int, get := fun l => match l with | [.int .u32 a0, .int .i64 a1] => some (lamplighterref01_Cut.f a0 a1) | _ => none, enc := d3e }
noncomputable def E61 (k : Nat) : Eng := (E60 k).add 20 (lamplighterref01_Cut.s k)
theorem all61 (k : Nat) : EngAll (E61 k) := (all60 k).add (by kernel_rfl) (by
  intro vs t w g h
  simp only [lamplighterref01_Cut.s] at h
  split at h
  · exact lamplighterref01_Cut.calls k _ _ (show G w from g) (Option.some.inj h)
  · cases h)

/-! ### lamplighter/lamplighterlaw21.v -/
def lamplighterlaw21_v.f (a0 : Int) (a1 : Int) (a2 : Int) (a3 : Int) : Option (Int × Int × Int × Int) := some (a0, a1, a2, a3)
theorem lamplighterlaw21_v.eq (k : Nat) (a0 : Int) (a1 : Int) (a2 : Int) (a3 : Int) : run (E61 k) 20 24 [.v (.int .u32 a0), .v (.int .u32 a1), .v (.int .u32 a2), .v (.int .u32 a3)] [] (fun x _ => d12 x) = lamplighterlaw21_v.f a0 a1 a2 a3 := by kernel_rfl
theorem lamplighterlaw21_v.calls (k : Nat) (a0 : Int) (a1 : Int) (a2 : Int) (a3 : Int) {w : World} (g : G w) {t : Int × Int × Int × Int} (h : lamplighterlaw21_v.f a0 a1 a2 a3 = some t) : Calls Tryz.prog 24 #[.int .u32 a0, .int .u32 a1, .int .u32 a2, .int .u32 a3] w fun e w' => e = .returned (d12e t) ∧ Below w.heap.size w w' :=
  (all61 k).calls (vs := [.int .u32 a0, .int .u32 a1, .int .u32 a2, .int .u32 a3]) g d12_ok ((lamplighterlaw21_v.eq k a0 a1 a2 a3).trans h)
noncomputable def lamplighterlaw21_v.s (k : Nat) : Sum := { T := Int × Int × Int × Int, get := fun l => match l with | [.int .u32 a0, .int .u32 a1, .int .u32 a2, .int .u32 a3] => some (lamplighterlaw21_v.f a0 a1 a2 a3) | _ => none, enc := d12e }
noncomputable def E62 (k : Nat) : Eng := (E61 k).add 24 (lamplighterlaw21_v.s k)
theorem all62 (k : Nat) : EngAll (E62 k) := (all61 k).add (by kernel_rfl) (by
  intro vs t w g h
  simp only [lamplighterlaw21_v.s] at h
  split at h
  · exact lamplighterlaw21_v.calls k _ _ _ _ (show G w from g) (Option.some.inj h)
  · cases h)

/-! ### lamplighter/lamplighterlaw21.lives -/
def lamplighterlaw21_lives.f (k : Nat) : Option (Bool) := ((lamplighterlaw21_v.f 4 7 0 0).bind fun t1 => ((value_Fit.f k t1.1 t1.2.1 t1.2.2.1 t1.2.2.2).bind fun t2 => ((lamplighterlaw21_v.f 3 6 1 0).bind fun t3 => ((value_Fit.f k t3.1 t3.2.1 t3.2.2.1 t3.2.2.2).bind fun t4 => ((value_All.f).bind fun t5 => ((value_One.f 12).bind fun t6 => ((value_Do.f k 8 t5.1 t5.2.1 t5.2.2.1 t5.2.2.2 t6.1 t6.2.1 t6.2.2.1 t6.2.2.2).bind fun t7 => ((lamplighterlaw21_v.f 4 7 4294967292 4).bind fun t8 => (br (((t2.1 == t8.1) && (t2.2.1 == t8.2.1)) && ((t2.2.2.1 == t8.2.2.1) && (t2.2.2.2.1 == t8.2.2.2))) ((lamplighterlaw21_v.f 3 6 4294967289 0).bind fun t9 => (br (((t4.1 == t9.1) && (t4.2.1 == t9.2.1)) && ((t4.2.2.1 == t9.2.2.1) && (t4.2.2.2.1 == t9.2.2.2))) ((lamplighterlaw21_v.f 0 12 4294967283 0).bind fun t10 => (br (((t7.1 == t10.1) && (t7.2.1 == t10.2.1)) && ((t7.2.2.1 == t10.2.2.1) && (t7.2.2.2.1 == t10.2.2.2))) (br t2.2.2.2.2 (br t4.2.2.2.2 (br t7.2.2.2.2.1 (some ((eqI t7.2.2.2.2.2 0))) (some (false))) (some (false))) (some (false))) (some (false)))) (some (false)))) (some (false)))))))))))
theorem lamplighterlaw21_lives.eq (k : Nat) : run (E62 k) 20 8 [] [] (fun x _ => d5 x) = lamplighterlaw21_lives.f k := by kernel_rfl
theorem lamplighterlaw21_lives.calls (k : Nat) {w : World} (g : G w) {t : Bool} (h : lamplighterlaw21_lives.f k = some t) : Calls Tryz.prog 8 #[] w fun e w' => e = .returned (d5e t) ∧ Below w.heap.size w w' :=
  (all62 k).calls (vs := []) g d5_ok ((lamplighterlaw21_lives.eq k).trans h)
noncomputable def lamplighterlaw21_lives.s (k : Nat) : Sum := { T := Bool, get := fun l => match l with | [] => some (lamplighterlaw21_lives.f k) | _ => none, enc := d5e }
noncomputable def E63 (k : Nat) : Eng := (E62 k).add 8 (lamplighterlaw21_lives.s k)
theorem all63 (k : Nat) : EngAll (E63 k) := (all62 k).add (by kernel_rfl) (by
  intro vs t w g h
  simp only [lamplighterlaw21_lives.s] at h
  split at h
  · exact lamplighterlaw21_lives.calls k (show G w from g) (Option.some.inj h)
  · cases h)
end Go.Proofs.YtdmondofdlkopaaGreatDoor.V
