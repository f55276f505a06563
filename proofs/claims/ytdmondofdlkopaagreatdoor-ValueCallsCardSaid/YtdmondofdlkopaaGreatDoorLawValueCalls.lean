/- The given statement ValueCallsCardSaid holds: where the listed variables hold what the program's text lays, the law returns true for every input, and each argument reads behind the call as it read before. Conditions: none. -/
import Derived.Test.YtdmondofdlkopaaGreatDoorCards
import Derived.Test.YtdmondofdlkopaaGreatDoorTie
import Derived.Test.YtdmondofdlkopaaGreatDoorPlainCalls
import Derived.WalkKit
import Derived.ProofKit
import Derived.OpenShut
import Derived.ShutString
import Derived.ChangeOld
import Derived.Below
import Derived.SizedLaws
import Derived.Deep.Fields
import Derived.Deep.Slices
import Derived.ChangeSame
import Derived.ChangeVars
import Derived.LaidLaws
import Derived.SevenTiedAt
import Derived.Lib.LaidTab
namespace Go.Proofs.YtdmondofdlkopaaGreatDoor.valueCalls
open Go.ChangeShapes Go.WideShapes Go.ChangeAt Go.RowKit
open Go.ChangeMaps (open_string shut_string)
open Go.Proofs.YtdmondofdlkopaaGreatDoor.V
open Go.Proofs.YtdmondofdlkopaaGreatDoor.X (GlobAt AV)
set_option linter.unusedVariables false
set_option maxRecDepth 100000
theorem own : ownKnob Tryz.prog.godebug = none := by kernel_rfl
theorem laidOut : laidOutB Tryz.prog = true := by kernel_rfl
/-- One listed variable's reading. -/
def VarReads (P : Program) (w : World) (n : String) (d : DataW Unit) : Prop :=
  ∃ g t cs fuel p, P.globalNamed n = some g ∧ (P.globals[g]?).map (·.type) = some t ∧ w.var? P n = some cs ∧ DataW.trod (fun _ => ()) P w 0 (fun _ => true) false fuel t cs.toList = some (d, p)
theorem reads_of {P : Program} {w : World} : ∀ {l : List (String × DataW Unit)} {ps : List MemPlace}, DataW.LaidVars P w l ps → ∀ n d, (n, d) ∈ l → VarReads P w n d
  | [], _, _, _, _, hm => by cases hm
  | (n', d') :: r, ps, h, n, d, hm => by
    obtain ⟨g, t, cs, fuel, p, q, h1, h2, h3, h4, h5, _⟩ := h
    rcases List.mem_cons.1 hm with e | e
    · cases e
      exact ⟨g, t, cs, fuel, p, h1, h2, h3, h4⟩
    · exact reads_of h5 n d e
theorem cells_of_strs {H : Type} {enc : TypeId × Value → H} {P : Program} {w : World} {base : Nat} {sp : Nat → Bool} {held : Bool} {fuel : Nat} {t e : TypeId} {n : Nat} {cs : List Value} {zs : List (List UInt8)} {p : List MemPlace}
    (ht : P.underlying t = some (.array n e)) (he : P.underlying e = some .string) (hce : P.cellsOf e = 1)
    (hct : P.cellsOf t = n) (h : DataW.trod enc P w base sp held fuel t cs = some (.agg (zs.map fun z => .lit (.string z)), p)) : cs = zs.map fun z => Value.string ⟨z.toArray⟩ := by
  obtain ⟨xs, m, rfl, hx, hl, hxl, hall⟩ := DataW.trod_array ht h
  have hxs : xs.map (·.1) = zs.map fun z => (DataW.lit (.string z) : DataW H) := by
    have := congrArg Prod.fst hx
    simpa using this.symm
  have hzl : zs.length = n := by
    have := congrArg List.length hxs
    simp at this
    omega
  apply List.ext_getElem?
  intro i
  by_cases hi : i < n
  · have h1 := hall i hi
    obtain ⟨b, hb⟩ : ∃ b, xs[i]? = some b := ⟨xs[i]'(by omega), List.getElem?_eq_getElem (by omega)⟩
    rw [hb, hce, Nat.mul_one] at h1
    obtain ⟨s, hcs, rfl, _⟩ := DataW.trod_string he h1
    have h2 : cs[i]? = some (.string s) := by
      have := congrArg (·[0]?) hcs
      simpa [List.getElem?_take, List.getElem?_drop] using this
    have h3 : (xs.map (·.1))[i]? = some (DataW.lit (.string s.data.toList) : DataW H) := by simp [hb]
    rw [hxs] at h3
    simp only [List.getElem?_map, Option.map_eq_some_iff, DataW.lit.injEq, Lit.string.injEq] at h3
    obtain ⟨z', hz', rfl⟩ := h3
    simp [h2, hz']
  · rw [List.getElem?_eq_none (by rw [hl, hct]; omega), List.getElem?_eq_none (by simp; omega)]
theorem var_block {P : Program} {w : World} {n : String} {g : Nat} {cs : Array Value} (hg : P.globalNamed n = some g) (h : w.var? P n = some cs) : g < w.heap.size ∧ ∃ t fr, w.heap[g]? = some (.cells cs t fr) := by
  simp only [World.var?, hg, Option.bind_some] at h
  split at h
  · rename_i cs' t fr e
    obtain rfl := Option.some.inj h
    exact ⟨(Array.getElem?_eq_some_iff.1 e).1, t, fr, e⟩
  · cases h
def signB : List (List UInt8) := [[], [43], [45], [42], [47], [37], [115, 47], [115, 37], [38], [124], [94], [60, 60], [62, 62], [115, 62, 62], [61, 61], [33, 61], [60], [60, 61], [115, 60], [115, 60, 61]]

def tab1 : List Int := [0, 1, 28, 2, 29, 14, 24, 3, 30, 22, 20, 15, 25, 17, 4, 8, 31, 27, 13, 23, 21, 19, 16, 7, 26, 12, 18, 6, 11, 5, 10, 9]
def tab3 : List Int := [0, 1, 56, 2, 57, 49, 28, 3, 61, 58, 42, 50, 38, 29, 17, 4, 62, 47, 59, 36, 45, 43, 51, 22, 53, 39, 33, 30, 24, 18, 12, 5, 63, 55, 48, 27, 60, 41, 37, 16, 46, 35, 44, 21, 52, 32, 23, 11, 54, 26, 40, 15, 34, 20, 31, 10, 25, 14, 19, 9, 13, 8, 7, 6]
def tab2 : List Int := [1, 10, 100, 1000, 10000, 100000, 1000000, 10000000, 100000000, 1000000000, 10000000000, 100000000000, 1000000000000, 10000000000000, 100000000000000, 1000000000000000, 10000000000000000, 100000000000000000, 1000000000000000000, 10000000000000000000]
theorem glob_at (vg : Nat → Nat) {W : World} (h : laidMet Tryz.prog Rows.valueCallsRow.laid W) : GlobAt (E0 0) vg W := by
  obtain ⟨ps, hv, _⟩ := h
  refine ⟨?_, ?_, fun k s hs => (by cases hs)⟩
  · intro g cs hg
    match g, hg with
    | 0, hg =>
      obtain rfl := Option.some.inj hg
      obtain ⟨g, t, cs, fuel, p, h1, h2, h3, h4⟩ := reads_of hv "lamplighter/word.signs" Rows.laid_lamplighter_word_signs (List.mem_cons_self ..)
      have n0 : Tryz.prog.globalNamed "lamplighter/word.signs" = some 0 := by kernel_rfl
      obtain rfl := Option.some.inj (h1.symm.trans n0)
      have t0 : (Tryz.prog.globals[0]?).map (·.type) = some 141 := by kernel_rfl
      obtain rfl := Option.some.inj (h2.symm.trans t0)
      have e := cells_of_strs (zs := signB) Tryz.underlying141 Tryz.underlying9 (by kernel_rfl) (by kernel_rfl) h4
      have e2 : signB.map (fun z => Value.string ⟨z.toArray⟩) = signs := rfl
      rw [e2] at e
      have e3 : cs = signs.toArray := by rw [← e, Array.toArray_toList]
      rw [e3] at h3
      have z := var_block n0 h3
      refine ⟨z.1, rfl, ?_⟩
      have e4 : (signs.map AV.v).map (AV.re vg) = signs := rfl
      rw [e4]
      exact z.2
  · intro g k l hg
    match g, hg with
    | 1, hg =>
      obtain ⟨rfl, rfl⟩ := Prod.mk.inj (Option.some.inj hg)
      obtain ⟨g, t, cs, fuel, p, h1, h2, h3, h4⟩ := reads_of hv "math/bits.deBruijn32tab" Rows.laid_math_bits_deBruijn32tab (List.mem_cons_of_mem _ (List.mem_cons_self ..))
      have n0 : Tryz.prog.globalNamed "math/bits.deBruijn32tab" = some 1 := by kernel_rfl
      obtain rfl := Option.some.inj (h1.symm.trans n0)
      have t0 : (Tryz.prog.globals[1]?).map (·.type) = some 125 := by kernel_rfl
      obtain rfl := Option.some.inj (h2.symm.trans t0)
      have e := Lib.cells_of_tab (zs := tab1) (k := .u8) Tryz.underlying125 Tryz.underlying5 (by kernel_rfl) (by kernel_rfl) h4
      have e3 : cs = (tab1.map (Value.int .u8)).toArray := by rw [← Array.toArray_toList (xs := cs), e]
      rw [e3] at h3
      exact var_block n0 h3
    | 3, hg =>
      obtain ⟨rfl, rfl⟩ := Prod.mk.inj (Option.some.inj hg)
      obtain ⟨g, t, cs, fuel, p, h1, h2, h3, h4⟩ := reads_of hv "math/bits.deBruijn64tab" Rows.laid_math_bits_deBruijn64tab (List.mem_cons_of_mem _ (List.mem_cons_of_mem _ (List.mem_cons_self ..)))
      have n0 : Tryz.prog.globalNamed "math/bits.deBruijn64tab" = some 3 := by kernel_rfl
      obtain rfl := Option.some.inj (h1.symm.trans n0)
      have t0 : (Tryz.prog.globals[3]?).map (·.type) = some 161 := by kernel_rfl
      obtain rfl := Option.some.inj (h2.symm.trans t0)
      have e := Lib.cells_of_tab (zs := tab3) (k := .u8) Tryz.underlying161 Tryz.underlying5 (by kernel_rfl) (by kernel_rfl) h4
      have e3 : cs = (tab3.map (Value.int .u8)).toArray := by rw [← Array.toArray_toList (xs := cs), e]
      rw [e3] at h3
      exact var_block n0 h3
    | 2, hg =>
      obtain ⟨rfl, rfl⟩ := Prod.mk.inj (Option.some.inj hg)
      obtain ⟨g, t, cs, fuel, p, h1, h2, h3, h4⟩ := reads_of hv "internal/strconv.uint64pow10" Rows.laid_internal_strconv_uint64pow10 (List.mem_cons_of_mem _ (List.mem_cons_of_mem _ (List.mem_cons_of_mem _ (List.mem_cons_self ..))))
      have n0 : Tryz.prog.globalNamed "internal/strconv.uint64pow10" = some 2 := by kernel_rfl
      obtain rfl := Option.some.inj (h1.symm.trans n0)
      have t0 : (Tryz.prog.globals[2]?).map (·.type) = some 158 := by kernel_rfl
      obtain rfl := Option.some.inj (h2.symm.trans t0)
      have e := Lib.cells_of_tab (zs := tab2) (k := .u64) Tryz.underlying158 Tryz.underlying91 (by kernel_rfl) (by kernel_rfl) h4
      have e3 : cs = (tab2.map (Value.int .u64)).toArray := by rw [← Array.toArray_toList (xs := cs), e]
      rw [e3] at h3
      exact var_block n0 h3
theorem glob_of {W : World} (h : laidMet Tryz.prog Rows.valueCallsRow.laid W) : G W := ⟨fun _ => 0, glob_at _ h⟩
/-- The settled world, the listed variables laid. -/
noncomputable def laidWorld (os : Os) : World :=
  let w0 := World.holding Tryz.prog os ⟨#[], #[], []⟩
  { w0 with heap := ((((w0.heap).modify 0 fun
      | .cells _ t frozen => .cells signs.toArray t frozen
      | o => o).modify 1 fun
      | .cells _ t frozen => .cells (tab1.map (Value.int .u8)).toArray t frozen
      | o => o).modify 3 fun
      | .cells _ t frozen => .cells (tab3.map (Value.int .u8)).toArray t frozen
      | o => o).modify 2 fun
      | .cells _ t frozen => .cells (tab2.map (Value.int .u64)).toArray t frozen
      | o => o }
theorem laidWorld_met (os : Os) (args : Array Value) : laidMet Tryz.prog Rows.valueCallsRow.laid ((laidWorld os).forCall (fun _ _ => 0) ⟨#[], args, []⟩).memory :=
  laidMet_of_run' 8 (by kernel_rfl) (by kernel_rfl)
theorem trod24 {H : Type} {enc : TypeId × Value → H} {w : World} {base : Nat} {spare : Nat → Bool} {held : Bool} {fuel : Nat} {cs : List Value} {x : DataW H × List MemPlace} (h : DataW.trod enc Tryz.prog w base spare held fuel 24 cs = some x) : ∃ (a0 : Int) (a1 : Int), cs = [.int .u32 a0, .int .u32 a1] ∧ (Lit.int .u32 a0).wf = true ∧ (Lit.int .u32 a1).wf = true := by
  obtain ⟨xs, n, _, _, hl, hxl, hg⟩ := DataW.trod_struct Tryz.underlying24 h
  have hC : Tryz.prog.cellsOf 24 = 2 := by kernel_rfl
  rw [hC] at hl
  match cs, hl with
  | [c0, c1], _ =>
    have hC0 : Tryz.prog.cellsOf 22 = 1 := by kernel_rfl
    obtain ⟨y0, hy0⟩ : ∃ y, xs[0]? = some y := ⟨_, List.getElem?_eq_getElem (by rw [hxl]; decide)⟩
    have g0 : DataW.trod enc Tryz.prog w base spare held n 22 [c0] = some y0 := by
      have z := hg 0 _ rfl
      rw [hy0] at z
      simpa [hC0] using z
    obtain ⟨a0, e0, _, w0⟩ := DataW.trod_int Tryz.underlying22 g0
    simp only [List.cons.injEq, and_true] at e0
    subst e0
    have hC1 : Tryz.prog.cellsOf 22 = 1 := by kernel_rfl
    obtain ⟨y1, hy1⟩ : ∃ y, xs[1]? = some y := ⟨_, List.getElem?_eq_getElem (by rw [hxl]; decide)⟩
    have g1 : DataW.trod enc Tryz.prog w base spare held n 22 [c1] = some y1 := by
      have z := hg 1 _ rfl
      rw [hy1] at z
      simpa [hC1] using z
    obtain ⟨a1, e1, _, w1⟩ := DataW.trod_int Tryz.underlying22 g1
    simp only [List.cons.injEq, and_true] at e1
    subst e1
    exact ⟨a0, a1, rfl, w0, w1⟩
theorem open24 {H : Type} {enc : TypeId × Value → H} {W : World} {base b0 : Nat} {spare : Nat → Bool} {held : Bool} {v : Value} {d : DataW H} {p : List MemPlace} (hv : Value.okWide Tryz.prog W .any b0 24 v) (h : DataW.Trod enc Tryz.prog W base spare held 24 v d p) : ∃ (a0 : Int) (a1 : Int), v = .agg #[.int .u32 a0, .int .u32 a1] ∧ (Lit.int .u32 a0).wf = true ∧ (Lit.int .u32 a1).wf = true := by
  obtain ⟨cs, rfl, _⟩ := okWide_struct Tryz.underlying24 hv
  obtain ⟨fuel, hf⟩ := h
  obtain ⟨a0, a1, e, w0, w1⟩ := trod24 hf
  have e2 : cs.toList = _ := e
  refine ⟨a0, a1, ?_, w0, w1⟩
  rw [← Array.toArray_toList (xs := cs), e2]
theorem trod26 {H : Type} {enc : TypeId × Value → H} {w : World} {base : Nat} {spare : Nat → Bool} {held : Bool} {fuel : Nat} {cs : List Value} {x : DataW H × List MemPlace} (h : DataW.trod enc Tryz.prog w base spare held fuel 26 cs = some x) : ∃ (a0 : Int) (a1 : Int), cs = [.int .u32 a0, .int .u32 a1] ∧ (Lit.int .u32 a0).wf = true ∧ (Lit.int .u32 a1).wf = true := by
  obtain ⟨xs, n, _, _, hl, hxl, hg⟩ := DataW.trod_struct Tryz.underlying26 h
  have hC : Tryz.prog.cellsOf 26 = 2 := by kernel_rfl
  rw [hC] at hl
  match cs, hl with
  | [c0, c1], _ =>
    have hC0 : Tryz.prog.cellsOf 22 = 1 := by kernel_rfl
    obtain ⟨y0, hy0⟩ : ∃ y, xs[0]? = some y := ⟨_, List.getElem?_eq_getElem (by rw [hxl]; decide)⟩
    have g0 : DataW.trod enc Tryz.prog w base spare held n 22 [c0] = some y0 := by
      have z := hg 0 _ rfl
      rw [hy0] at z
      simpa [hC0] using z
    obtain ⟨a0, e0, _, w0⟩ := DataW.trod_int Tryz.underlying22 g0
    simp only [List.cons.injEq, and_true] at e0
    subst e0
    have hC1 : Tryz.prog.cellsOf 22 = 1 := by kernel_rfl
    obtain ⟨y1, hy1⟩ : ∃ y, xs[1]? = some y := ⟨_, List.getElem?_eq_getElem (by rw [hxl]; decide)⟩
    have g1 : DataW.trod enc Tryz.prog w base spare held n 22 [c1] = some y1 := by
      have z := hg 1 _ rfl
      rw [hy1] at z
      simpa [hC1] using z
    obtain ⟨a1, e1, _, w1⟩ := DataW.trod_int Tryz.underlying22 g1
    simp only [List.cons.injEq, and_true] at e1
    subst e1
    exact ⟨a0, a1, rfl, w0, w1⟩
theorem open26 {H : Type} {enc : TypeId × Value → H} {W : World} {base b0 : Nat} {spare : Nat → Bool} {held : Bool} {v : Value} {d : DataW H} {p : List MemPlace} (hv : Value.okWide Tryz.prog W .any b0 26 v) (h : DataW.Trod enc Tryz.prog W base spare held 26 v d p) : ∃ (a0 : Int) (a1 : Int), v = .agg #[.int .u32 a0, .int .u32 a1] ∧ (Lit.int .u32 a0).wf = true ∧ (Lit.int .u32 a1).wf = true := by
  obtain ⟨cs, rfl, _⟩ := okWide_struct Tryz.underlying26 hv
  obtain ⟨fuel, hf⟩ := h
  obtain ⟨a0, a1, e, w0, w1⟩ := trod26 hf
  have e2 : cs.toList = _ := e
  refine ⟨a0, a1, ?_, w0, w1⟩
  rw [← Array.toArray_toList (xs := cs), e2]
theorem trod28 {H : Type} {enc : TypeId × Value → H} {w : World} {base : Nat} {spare : Nat → Bool} {held : Bool} {fuel : Nat} {cs : List Value} {x : DataW H × List MemPlace} (h : DataW.trod enc Tryz.prog w base spare held fuel 28 cs = some x) : ∃ (a0 : Int) (a1 : Int) (a2 : Int) (a3 : Int), cs = [.int .u32 a0, .int .u32 a1, .int .u32 a2, .int .u32 a3] ∧ (Lit.int .u32 a0).wf = true ∧ (Lit.int .u32 a1).wf = true ∧ (Lit.int .u32 a2).wf = true ∧ (Lit.int .u32 a3).wf = true := by
  obtain ⟨xs, n, _, _, hl, hxl, hg⟩ := DataW.trod_struct Tryz.underlying28 h
  have hC : Tryz.prog.cellsOf 28 = 4 := by kernel_rfl
  rw [hC] at hl
  match cs, hl with
  | [c0, c1, c2, c3], _ =>
    have hC0 : Tryz.prog.cellsOf 24 = 2 := by kernel_rfl
    obtain ⟨y0, hy0⟩ : ∃ y, xs[0]? = some y := ⟨_, List.getElem?_eq_getElem (by rw [hxl]; decide)⟩
    have g0 : DataW.trod enc Tryz.prog w base spare held n 24 [c0, c1] = some y0 := by
      have z := hg 0 _ rfl
      rw [hy0] at z
      simpa [hC0] using z
    obtain ⟨a0, a1, e0, w0, w1⟩ := trod24 g0
    simp only [List.cons.injEq, and_true] at e0
    obtain ⟨rfl, rfl⟩ := e0
    have hC1 : Tryz.prog.cellsOf 26 = 2 := by kernel_rfl
    obtain ⟨y1, hy1⟩ : ∃ y, xs[1]? = some y := ⟨_, List.getElem?_eq_getElem (by rw [hxl]; decide)⟩
    have g1 : DataW.trod enc Tryz.prog w base spare held n 26 [c2, c3] = some y1 := by
      have z := hg 1 _ rfl
      rw [hy1] at z
      simpa [hC1] using z
    obtain ⟨a2, a3, e1, w2, w3⟩ := trod26 g1
    simp only [List.cons.injEq, and_true] at e1
    obtain ⟨rfl, rfl⟩ := e1
    exact ⟨a0, a1, a2, a3, rfl, w0, w1, w2, w3⟩
theorem open28 {H : Type} {enc : TypeId × Value → H} {W : World} {base b0 : Nat} {spare : Nat → Bool} {held : Bool} {v : Value} {d : DataW H} {p : List MemPlace} (hv : Value.okWide Tryz.prog W .any b0 28 v) (h : DataW.Trod enc Tryz.prog W base spare held 28 v d p) : ∃ (a0 : Int) (a1 : Int) (a2 : Int) (a3 : Int), v = .agg #[.int .u32 a0, .int .u32 a1, .int .u32 a2, .int .u32 a3] ∧ (Lit.int .u32 a0).wf = true ∧ (Lit.int .u32 a1).wf = true ∧ (Lit.int .u32 a2).wf = true ∧ (Lit.int .u32 a3).wf = true := by
  obtain ⟨cs, rfl, _⟩ := okWide_struct Tryz.underlying28 hv
  obtain ⟨fuel, hf⟩ := h
  obtain ⟨a0, a1, a2, a3, e, w0, w1, w2, w3⟩ := trod28 hf
  have e2 : cs.toList = _ := e
  refine ⟨a0, a1, a2, a3, ?_, w0, w1, w2, w3⟩
  rw [← Array.toArray_toList (xs := cs), e2]
set_option maxRecDepth 100000 in
theorem lifted (os : Os) (started : os.Started) (H : Type) (enc : TypeId × Value → H) :
    ReturnsInHanded {} Tryz.checked os 7 .any (fun w args => (Rows.valueCallsSpec.pre enc Tryz.prog Tryz.f7 Rows.valueCallsRow.domain false w args ∧ laidMet Tryz.prog Rows.valueCallsRow.laid w) ∧ sizedMet enc Tryz.prog Tryz.f7 (OpenSpec.ofChange Rows.valueCallsSpec) false w args)
      (Rows.valueCallsSpec.post enc Tryz.prog Tryz.f7 false true false false) := by
  refine returnsInHanded_of_change_and (C := Tryz.checked) (X := fun w _ => laidMet Tryz.prog Rows.valueCallsRow.laid w) (fun _ _ _ hh h => h.of_heap hh) own started (by kernel_rfl) Tryz.func7
    (ChangeSpec.witness_at (enc := enc) (C := Tryz.checked) (os := os) (X := fun w _ => laidMet Tryz.prog Rows.valueCallsRow.laid w) false (laidWorld os) #[.agg #[.int .u32 0, .int .u32 0, .int .u32 0, .int .u32 0], .agg #[.int .u32 0, .int .u32 0, .int .u32 0, .int .u32 0], .int .u32 0, .int .i64 0, .int .i64 0] 8 rfl (by kernel_rfl) (by kernel_rfl) (by kernel_rfl) (by kernel_rfl) (by kernel_rfl) (laidWorld_met os _)) ?_
  intro W base args ds gs before hval0 hW _ _ hL _
  have hval : ∀ (j : Nat) t v, Tryz.f7.params[j]? = some t → args[j]? = some v → Value.okWide Tryz.prog W .any base t v := hval0
  have hW' := hW
  obtain ⟨p, q, hA0, hV, rfl, hfz, hnd⟩ := hW
  have hA : DataW.TrodAll enc Tryz.prog W 0 (fun _ => true) true Tryz.f7.params.toList args.toList ds p := hA0
  rw [Tryz.params7] at hA hval
  obtain ⟨v0, vs0, d0, ds0, p0, q0, hargs, rfl, rfl, h0, r0⟩ := trodAll_cons hA
  obtain ⟨v1, vs1, d1, ds1, p1, q1, rfl, rfl, rfl, h1, r1⟩ := trodAll_cons r0
  obtain ⟨v2, vs2, d2, ds2, p2, q2, rfl, rfl, rfl, h2, r2⟩ := trodAll_cons r1
  obtain ⟨v3, vs3, d3, ds3, p3, q3, rfl, rfl, rfl, h3, r3⟩ := trodAll_cons r2
  obtain ⟨v4, vs4, d4, ds4, p4, q4, rfl, rfl, rfl, h4, r4⟩ := trodAll_cons r3
  obtain ⟨rfl, rfl, rfl⟩ := trodAll_nil r4
  obtain rfl : args = #[v0, v1, v2, v3, v4] := by cases args; simp_all
  obtain ⟨rfl, rfl⟩ := trodVars_none hV
  have k0 := h0
  have lt0 : ∀ x ∈ p0, x.block < W.heap.size := by obtain ⟨m, hm⟩ := k0; exact DataW.trod_lt m _ _ _ hm
  obtain ⟨a0_0, a0_1, a0_2, a0_3, rfl, w0_0, w0_1, w0_2, w0_3⟩ := open28 (hval 0 28 v0 rfl rfl) h0
  have k1 := h1
  have lt1 : ∀ x ∈ p1, x.block < W.heap.size := by obtain ⟨m, hm⟩ := k1; exact DataW.trod_lt m _ _ _ hm
  obtain ⟨a1_0, a1_1, a1_2, a1_3, rfl, w1_0, w1_1, w1_2, w1_3⟩ := open28 (hval 1 28 v1 rfl rfl) h1
  obtain ⟨a2, rfl, rfl, rfl, w2⟩ := open_int Tryz.underlying22 (hval 2 22 v2 rfl rfl) h2
  obtain ⟨a3, rfl, rfl, rfl, w3⟩ := open_int Tryz.underlying3 (hval 3 3 v3 rfl rfl) h3
  obtain ⟨a4, rfl, rfl, rfl, w4⟩ := open_int Tryz.underlying3 (hval 4 3 v4 rfl rfl) h4
  clear hA0 hval0
  have hk := Snd.Holds.calls a0_0 a0_1 a0_2 a0_3 a1_0 a1_1 a1_2 a1_3 a2 a3 a4 w0_0 w0_1 w0_2 w0_3 w1_0 w1_1 w1_2 w1_3 w2 w3 w4
  refine (lamplighterlaw21_ValueCalls.calls 100 a0_0 a0_1 a0_2 a0_3 a1_0 a1_1 a1_2 a1_3 a2 a3 a4 (glob_of hL) hk).mono fun e W' ⟨he, bel⟩ => ?_
  subst he
  exact ⟨_, rfl, _, _, _, [], _, [], hW', trodAll_mk1 (shut_bool Tryz.underlying4 _), (trodAll_cons_mk (Below.trod laidOut (by kernel_rfl) (of_decide_eq_true (by kernel_rfl)) k0 bel lt0) (trodAll_cons_mk (Below.trod laidOut (by kernel_rfl) (of_decide_eq_true (by kernel_rfl)) k1 bel lt1) (trodAll_cons_mk (shut_int Tryz.underlying22 w2) (trodAll_cons_mk (shut_int Tryz.underlying3 w3) (trodAll_cons_mk (shut_int Tryz.underlying3 w4) trodAll_mk0))))), rfl, bel.frame _, fun h => by cases h⟩
theorem over : Rows.valueCallsRow.holds Tryz.pinned (OpenSpec.ofChange Rows.valueCallsSpec) :=
  OpenClaim.holds_of_wide 7 Tryz.f7 rfl rfl rfl rfl rfl rfl rfl ⟨rfl, rfl, rfl, rfl, rfl⟩ rfl rfl rfl rfl rfl (by kernel_rfl) Tryz.func7 (by kernel_rfl)
    (of_decide_eq_true (by kernel_rfl)) (by unfold Func.isWrapper; first | (rw [if_pos (by decide +kernel)]; kernel_rfl) | (rw [if_neg (by decide +kernel)]; exact ⟨rfl, rfl⟩))
    (fun os started H enc _ => lifted os started H enc)
theorem proved : Rows.ValueCallsCardSaid :=
  Claim7.holds_tied_plain_at .later [] [.data, .data, .data, .data] true (true, "bd796667ba35aa164508e0e4f46a4958008f6cfbefa2e43d762a710effc8f801") false
    over (fun _ h => by cases h) (by kernel_rfl) (fun _ h => by cases h) valueCalls_row_tie rfl ⟨rfl, rfl⟩ (by kernel_rfl) rfl
    (fun f fn hf hfn => by
      obtain rfl : f = 7 := Option.some.inj ((show Tryz.prog.funcNamed "lamplighter/lamplighterlaw21.ValueCalls" = some 7 by kernel_rfl).symm.trans hf) |>.symm
      obtain rfl : fn = Tryz.f7 := (Option.some.inj (Tryz.func7.symm.trans hfn)).symm
      exact ⟨by kernel_rfl, fun j t ht => by
        rw [Tryz.params7] at ht
        have all : ∀ t ∈ ([28, 28, 22, 3, 3] : List TypeId), Tryz.prog.wantsStandIn t = false := by
          intro t ht
          simp only [List.mem_cons, List.not_mem_nil, or_false] at ht
          rcases ht with rfl | rfl | rfl | rfl | rfl <;> kernel_rfl
        exact all t (by
          have := List.mem_of_getElem? (show ([28, 28, 22, 3, 3] : List TypeId)[j]? = some t from by simpa using ht)
          exact this)⟩)
    (by kernel_rfl)
#print axioms proved
end Go.Proofs.YtdmondofdlkopaaGreatDoor.valueCalls
