/- The given statement ValueOrderCardSaid holds: where the listed variables hold what the program's text lays, the law returns true for every input, and each argument reads behind the call as it read before. Conditions: none. -/
import Derived.Test.YtdmondofdlkopaaGreatDoorCards
import Derived.Test.YtdmondofdlkopaaGreatDoorTie
import Derived.Test.YtdmondofdlkopaaGreatDoorPlainOrder
import Derived.WalkKit
import Derived.ProofKit
import Derived.OpenShut
import Derived.ShutString
import Derived.ChangeOld
import Derived.Below
import Derived.SizedLaws
import Derived.Deep.Fields
import Derived.Deep.Slices
import Derived.ChangeSame
import Derived.ChangeVars
import Derived.LaidLaws
import Derived.SevenTiedAt
import Derived.Lib.LaidTab
namespace Go.Proofs.YtdmondofdlkopaaGreatDoor.valueOrder
open Go.ChangeShapes Go.WideShapes Go.ChangeAt Go.RowKit
open Go.ChangeMaps (open_string shut_string)
open Go.Proofs.YtdmondofdlkopaaGreatDoor.V
open Go.Proofs.YtdmondofdlkopaaGreatDoor.X (GlobAt AV)
set_option linter.unusedVariables false
set_option maxRecDepth 100000
theorem own : ownKnob Tryz.prog.godebug = none := by kernel_rfl
theorem laidOut : laidOutB Tryz.prog = true := by kernel_rfl
/-- One listed variable's reading. -/
def VarReads (P : Program) (w : World) (n : String) (d : DataW Unit) : Prop :=
  ∃ g t cs fuel p, P.globalNamed n = some g ∧ (P.globals[g]?).map (·.type) = some t ∧ w.var? P n = some cs ∧ DataW.trod (fun _ => ()) P w 0 (fun _ => true) false fuel t cs.toList = some (d, p)
theorem reads_of {P : Program} {w : World} : ∀ {l : List (String × DataW Unit)} {ps : List MemPlace}, DataW.LaidVars P w l ps → ∀ n d, (n, d) ∈ l → VarReads P w n d
  | [], _, _, _, _, hm => by cases hm
  | (n', d') :: r, ps, h, n, d, hm => by
    obtain ⟨g, t, cs, fuel, p, q, h1, h2, h3, h4, h5, _⟩ := h
    rcases List.mem_cons.1 hm with e | e
    · cases e
      exact ⟨g, t, cs, fuel, p, h1, h2, h3, h4⟩
    · exact reads_of h5 n d e
theorem cells_of_strs {H : Type} {enc : TypeId × Value → H} {P : Program} {w : World} {base : Nat} {sp : Nat → Bool} {held : Bool} {fuel : Nat} {t e : TypeId} {n : Nat} {cs : List Value} {zs : List (List UInt8)} {p : List MemPlace}
    (ht : P.underlying t = some (.array n e)) (he : P.underlying e = some .string) (hce : P.cellsOf e = 1)
    (hct : P.cellsOf t = n) (h : DataW.trod enc P w base sp held fuel t cs = some (.agg (zs.map fun z => .lit (.string z)), p)) : cs = zs.map fun z => Value.string ⟨z.toArray⟩ := by
  obtain ⟨xs, m, rfl, hx, hl, hxl, hall⟩ := DataW.trod_array ht h
  have hxs : xs.map (·.1) = zs.map fun z => (DataW.lit (.string z) : DataW H) := by
    have := congrArg Prod.fst hx
    simpa using this.symm
  have hzl : zs.length = n := by
    have := congrArg List.length hxs
    simp at this
    omega
  apply List.ext_getElem?
  intro i
  by_cases hi : i < n
  · have h1 := hall i hi
    obtain ⟨b, hb⟩ : ∃ b, xs[i]? = some b := ⟨xs[i]'(by omega), List.getElem?_eq_getElem (by omega)⟩
    rw [hb, hce, Nat.mul_one] at h1
    obtain ⟨s, hcs, rfl, _⟩ := DataW.trod_string he h1
    have h2 : cs[i]? = some (.string s) := by
      have := congrArg (·[0]?) hcs
      simpa [List.getElem?_take, List.getElem?_drop] using this
    have h3 : (xs.map (·.1))[i]? = some (DataW.lit (.string s.data.toList) : DataW H) := by simp [hb]
    rw [hxs] at h3
    simp only [List.getElem?_map, Option.map_eq_some_iff, DataW.lit.injEq, Lit.string.injEq] at h3
    obtain ⟨z', hz', rfl⟩ := h3
    simp [h2, hz']
  · rw [List.getElem?_eq_none (by rw [hl, hct]; omega), List.getElem?_eq_none (by simp; omega)]
theorem var_block {P : Program} {w : World} {n : String} {g : Nat} {cs : Array Value} (hg : P.globalNamed n = some g) (h : w.var? P n = some cs) : g < w.heap.size ∧ ∃ t fr, w.heap[g]? = some (.cells cs t fr) := by
  simp only [World.var?, hg, Option.bind_some] at h
  split at h
  · rename_i cs' t fr e
    obtain rfl := Option.some.inj h
    exact ⟨(Array.getElem?_eq_some_iff.1 e).1, t, fr, e⟩
  · cases h
def signB : List (List UInt8) := [[], [43], [45], [42], [47], [37], [115, 47], [115, 37], [38], [124], [94], [60, 60], [62, 62], [115, 62, 62], [61, 61], [33, 61], [60], [60, 61], [115, 60], [115, 60, 61]]

def tab1 : List Int := [0, 1, 28, 2, 29, 14, 24, 3, 30, 22, 20, 15, 25, 17, 4, 8, 31, 27, 13, 23, 21, 19, 16, 7, 26, 12, 18, 6, 11, 5, 10, 9]
theorem glob_at (vg : Nat → Nat) {W : World} (h : laidMet Tryz.prog Rows.valueOrderRow.laid W) : GlobAt (E0 0) vg W := by
  obtain ⟨ps, hv, _⟩ := h
  refine ⟨?_, ?_, fun k s hs => (by cases hs)⟩
  · intro g cs hg
    match g, hg with
    | 0, hg =>
      obtain rfl := Option.some.inj hg
      obtain ⟨g, t, cs, fuel, p, h1, h2, h3, h4⟩ := reads_of hv "lamplighter/word.signs" Rows.laid_lamplighter_word_signs (List.mem_cons_self ..)
      have n0 : Tryz.prog.globalNamed "lamplighter/word.signs" = some 0 := by kernel_rfl
      obtain rfl := Option.some.inj (h1.symm.trans n0)
      have t0 : (Tryz.prog.globals[0]?).map (·.type) = some 141 := by kernel_rfl
      obtain rfl := Option.some.inj (h2.symm.trans t0)
      have e := cells_of_strs (zs := signB) Tryz.underlying141 Tryz.underlying9 (by kernel_rfl) (by kernel_rfl) h4
      have e2 : signB.map (fun z => Value.string ⟨z.toArray⟩) = signs := rfl
      rw [e2] at e
      have e3 : cs = signs.toArray := by rw [← e, Array.toArray_toList]
      rw [e3] at h3
      have z := var_block n0 h3
      refine ⟨z.1, rfl, ?_⟩
      have e4 : (signs.map AV.v).map (AV.re vg) = signs := rfl
      rw [e4]
      exact z.2
  · intro g k l hg
    match g, hg with
    | 1, hg =>
      obtain ⟨rfl, rfl⟩ := Prod.mk.inj (Option.some.inj hg)
      obtain ⟨g, t, cs, fuel, p, h1, h2, h3, h4⟩ := reads_of hv "math/bits.deBruijn32tab" Rows.laid_math_bits_deBruijn32tab (List.mem_cons_of_mem _ (List.mem_cons_self ..))
      have n0 : Tryz.prog.globalNamed "math/bits.deBruijn32tab" = some 1 := by kernel_rfl
      obtain rfl := Option.some.inj (h1.symm.trans n0)
      have t0 : (Tryz.prog.globals[1]?).map (·.type) = some 125 := by kernel_rfl
      obtain rfl := Option.some.inj (h2.symm.trans t0)
      have e := Lib.cells_of_tab (zs := tab1) (k := .u8) Tryz.underlying125 Tryz.underlying5 (by kernel_rfl) (by kernel_rfl) h4
      have e3 : cs = (tab1.map (Value.int .u8)).toArray := by rw [← Array.toArray_toList (xs := cs), e]
      rw [e3] at h3
      exact var_block n0 h3
theorem glob_of {W : World} (h : laidMet Tryz.prog Rows.valueOrderRow.laid W) : G W := ⟨fun _ => 0, glob_at _ h⟩
/-- The settled world, the listed variables laid. -/
noncomputable def laidWorld (os : Os) : World :=
  let w0 := World.holding Tryz.prog os ⟨#[], #[], []⟩
  { w0 with heap := ((w0.heap).modify 0 fun
      | .cells _ t frozen => .cells signs.toArray t frozen
      | o => o).modify 1 fun
      | .cells _ t frozen => .cells (tab1.map (Value.int .u8)).toArray t frozen
      | o => o }
theorem laidWorld_met (os : Os) (args : Array Value) : laidMet Tryz.prog Rows.valueOrderRow.laid ((laidWorld os).forCall (fun _ _ => 0) ⟨#[], args, []⟩).memory :=
  laidMet_of_run' 8 (by kernel_rfl) (by kernel_rfl)
theorem trod24 {H : Type} {enc : TypeId × Value → H} {w : World} {base : Nat} {spare : Nat → Bool} {held : Bool} {fuel : Nat} {cs : List Value} {x : DataW H × List MemPlace} (h : DataW.trod enc Tryz.prog w base spare held fuel 24 cs = some x) : ∃ (a0 : Int) (a1 : Int), cs = [.int .u32 a0, .int .u32 a1] ∧ (Lit.int .u32 a0).wf = true ∧ (Lit.int .u32 a1).wf = true := by
  obtain ⟨xs, n, _, _, hl, hxl, hg⟩ := DataW.trod_struct Tryz.underlying24 h
  have hC : Tryz.prog.cellsOf 24 = 2 := by kernel_rfl
  rw [hC] at hl
  match cs, hl with
  | [c0, c1], _ =>
    have hC0 : Tryz.prog.cellsOf 22 = 1 := by kernel_rfl
    obtain ⟨y0, hy0⟩ : ∃ y, xs[0]? = some y := ⟨_, List.getElem?_eq_getElem (by rw [hxl]; decide)⟩
    have g0 : DataW.trod enc Tryz.prog w base spare held n 22 [c0] = some y0 := by
      have z := hg 0 _ rfl
      rw [hy0] at z
      simpa [hC0] using z
    obtain ⟨a0, e0, _, w0⟩ := DataW.trod_int Tryz.underlying22 g0
    simp only [List.cons.injEq, and_true] at e0
    subst e0
    have hC1 : Tryz.prog.cellsOf 22 = 1 := by kernel_rfl
    obtain ⟨y1, hy1⟩ : ∃ y, xs[1]? = some y := ⟨_, List.getElem?_eq_getElem (by rw [hxl]; decide)⟩
    have g1 : DataW.trod enc Tryz.prog w base spare held n 22 [c1] = some y1 := by
      have z := hg 1 _ rfl
      rw [hy1] at z
      simpa [hC1] using z
    obtain ⟨a1, e1, _, w1⟩ := DataW.trod_int Tryz.underlying22 g1
    simp only [List.cons.injEq, and_true] at e1
    subst e1
    exact ⟨a0, a1, rfl, w0, w1⟩
theorem open24 {H : Type} {enc : TypeId × Value → H} {W : World} {base b0 : Nat} {spare : Nat → Bool} {held : Bool} {v : Value} {d : DataW H} {p : List MemPlace} (hv : Value.okWide Tryz.prog W .any b0 24 v) (h : DataW.Trod enc Tryz.prog W base spare held 24 v d p) : ∃ (a0 : Int) (a1 : Int), v = .agg #[.int .u32 a0, .int .u32 a1] ∧ (Lit.int .u32 a0).wf = true ∧ (Lit.int .u32 a1).wf = true := by
  obtain ⟨cs, rfl, _⟩ := okWide_struct Tryz.underlying24 hv
  obtain ⟨fuel, hf⟩ := h
  obtain ⟨a0, a1, e, w0, w1⟩ := trod24 hf
  have e2 : cs.toList = _ := e
  refine ⟨a0, a1, ?_, w0, w1⟩
  rw [← Array.toArray_toList (xs := cs), e2]
theorem trod26 {H : Type} {enc : TypeId × Value → H} {w : World} {base : Nat} {spare : Nat → Bool} {held : Bool} {fuel : Nat} {cs : List Value} {x : DataW H × List MemPlace} (h : DataW.trod enc Tryz.prog w base spare held fuel 26 cs = some x) : ∃ (a0 : Int) (a1 : Int), cs = [.int .u32 a0, .int .u32 a1] ∧ (Lit.int .u32 a0).wf = true ∧ (Lit.int .u32 a1).wf = true := by
  obtain ⟨xs, n, _, _, hl, hxl, hg⟩ := DataW.trod_struct Tryz.underlying26 h
  have hC : Tryz.prog.cellsOf 26 = 2 := by kernel_rfl
  rw [hC] at hl
  match cs, hl with
  | [c0, c1], _ =>
    have hC0 : Tryz.prog.cellsOf 22 = 1 := by kernel_rfl
    obtain ⟨y0, hy0⟩ : ∃ y, xs[0]? = some y := ⟨_, List.getElem?_eq_getElem (by rw [hxl]; decide)⟩
    have g0 : DataW.trod enc Tryz.prog w base spare held n 22 [c0] = some y0 := by
      have z := hg 0 _ rfl
      rw [hy0] at z
      simpa [hC0] using z
    obtain ⟨a0, e0, _, w0⟩ := DataW.trod_int Tryz.underlying22 g0
    simp only [List.cons.injEq, and_true] at e0
    subst e0
    have hC1 : Tryz.prog.cellsOf 22 = 1 := by kernel_rfl
    obtain ⟨y1, hy1⟩ : ∃ y, xs[1]? = some y := ⟨_, List.getElem?_eq_getElem (by rw [hxl]; decide)⟩
    have g1 : DataW.trod enc Tryz.prog w base spare held n 22 [c1] = some y1 := by
      have z := hg 1 _ rfl
      rw [hy1] at z
      simpa [hC1] using z
    obtain ⟨a1, e1, _, w1⟩ := DataW.trod_int Tryz.underlying22 g1
    simp only [List.cons.injEq, and_true] at e1
    subst e1
    exact ⟨a0, a1, rfl, w0, w1⟩
theorem open26 {H : Type} {enc : TypeId × Value → H} {W : World} {base b0 : Nat} {spare : Nat → Bool} {held : Bool} {v : Value} {d : DataW H} {p : List MemPlace} (hv : Value.okWide Tryz.prog W .any b0 26 v) (h : DataW.Trod enc Tryz.prog W base spare held 26 v d p) : ∃ (a0 : Int) (a1 : Int), v = .agg #[.int .u32 a0, .int .u32 a1] ∧ (Lit.int .u32 a0).wf = true ∧ (Lit.int .u32 a1).wf = true := by
  obtain ⟨cs, rfl, _⟩ := okWide_struct Tryz.underlying26 hv
  obtain ⟨fuel, hf⟩ := h
  obtain ⟨a0, a1, e, w0, w1⟩ := trod26 hf
  have e2 : cs.toList = _ := e
  refine ⟨a0, a1, ?_, w0, w1⟩
  rw [← Array.toArray_toList (xs := cs), e2]
theorem trod28 {H : Type} {enc : TypeId × Value → H} {w : World} {base : Nat} {spare : Nat → Bool} {held : Bool} {fuel : Nat} {cs : List Value} {x : DataW H × List MemPlace} (h : DataW.trod enc Tryz.prog w base spare held fuel 28 cs = some x) : ∃ (a0 : Int) (a1 : Int) (a2 : Int) (a3 : Int), cs = [.int .u32 a0, .int .u32 a1, .int .u32 a2, .int .u32 a3] ∧ (Lit.int .u32 a0).wf = true ∧ (Lit.int .u32 a1).wf = true ∧ (Lit.int .u32 a2).wf = true ∧ (Lit.int .u32 a3).wf = true := by
  obtain ⟨xs, n, _, _, hl, hxl, hg⟩ := DataW.trod_struct Tryz.underlying28 h
  have hC : Tryz.prog.cellsOf 28 = 4 := by kernel_rfl
  rw [hC] at hl
  match cs, hl with
  | [c0, c1, c2, c3], _ =>
    have hC0 : Tryz.prog.cellsOf 24 = 2 := by kernel_rfl
    obtain ⟨y0, hy0⟩ : ∃ y, xs[0]? = some y := ⟨_, List.getElem?_eq_getElem (by rw [hxl]; decide)⟩
    have g0 : DataW.trod enc Tryz.prog w base spare held n 24 [c0, c1] = some y0 := by
      have z := hg 0 _ rfl
      rw [hy0] at z
      simpa [hC0] using z
    obtain ⟨a0, a1, e0, w0, w1⟩ := trod24 g0
    simp only [List.cons.injEq, and_true] at e0
    obtain ⟨rfl, rfl⟩ := e0
    have hC1 : Tryz.prog.cellsOf 26 = 2 := by kernel_rfl
    obtain ⟨y1, hy1⟩ : ∃ y, xs[1]? = some y := ⟨_, List.getElem?_eq_getElem (by rw [hxl]; decide)⟩
    have g1 : DataW.trod enc Tryz.prog w base spare held n 26 [c2, c3] = some y1 := by
      have z := hg 1 _ rfl
      rw [hy1] at z
      simpa [hC1] using z
    obtain ⟨a2, a3, e1, w2, w3⟩ := trod26 g1
    simp only [List.cons.injEq, and_true] at e1
    obtain ⟨rfl, rfl⟩ := e1
    exact ⟨a0, a1, a2, a3, rfl, w0, w1, w2, w3⟩
theorem open28 {H : Type} {enc : TypeId × Value → H} {W : World} {base b0 : Nat} {spare : Nat → Bool} {held : Bool} {v : Value} {d : DataW H} {p : List MemPlace} (hv : Value.okWide Tryz.prog W .any b0 28 v) (h : DataW.Trod enc Tryz.prog W base spare held 28 v d p) : ∃ (a0 : Int) (a1 : Int) (a2 : Int) (a3 : Int), v = .agg #[.int .u32 a0, .int .u32 a1, .int .u32 a2, .int .u32 a3] ∧ (Lit.int .u32 a0).wf = true ∧ (Lit.int .u32 a1).wf = true ∧ (Lit.int .u32 a2).wf = true ∧ (Lit.int .u32 a3).wf = true := by
  obtain ⟨cs, rfl, _⟩ := okWide_struct Tryz.underlying28 hv
  obtain ⟨fuel, hf⟩ := h
  obtain ⟨a0, a1, a2, a3, e, w0, w1, w2, w3⟩ := trod28 hf
  have e2 : cs.toList = _ := e
  refine ⟨a0, a1, a2, a3, ?_, w0, w1, w2, w3⟩
  rw [← Array.toArray_toList (xs := cs), e2]
def vgOf (g o n c : Nat) (b : Nat) : Nat := match b - 1000000 with
  | 0 => g
  | 1 => o
  | 2 => n
  | 3 => c
  | _ => 4
theorem exists_list {α : Type} (R : Nat → α → Prop) : ∀ n, (∀ i, i < n → ∃ s, R i s) → ∃ l : List α, l.length = n ∧ ∀ i s, l[i]? = some s → R i s
  | 0, _ => ⟨[], rfl, fun i s h => by simp at h⟩
  | n + 1, h => by
    obtain ⟨l, hl, hr⟩ := exists_list R n fun i hi => h i (by omega)
    obtain ⟨s, hs⟩ := h n (by omega)
    refine ⟨l ++ [s], by simp [hl], fun i t ht => ?_⟩
    by_cases hi : i < l.length
    · rw [List.getElem?_append_left hi] at ht
      exact hr i t ht
    · rw [List.getElem?_append_right (by omega)] at ht
      by_cases h0 : i - l.length = 0
      · rw [h0] at ht
        simp at ht
        subst ht
        rw [show i = n by omega]
        exact hs
      · rw [List.getElem?_eq_none (by simp; omega)] at ht
        cases ht
theorem openSL {H : Type} {enc : TypeId × Value → H} {W : World} {base b0 : Nat} {spare : Nat → Bool} {held : Bool} {v : Value} {d : DataW H} {p : List MemPlace} (hv : Value.okWide Tryz.prog W .any b0 29 v) (h : DataW.Trod enc Tryz.prog W base spare held 29 v d p) :
    (∃ (b : Option Addr) (c : Nat), v = .slice b 0 c) ∨ ∃ (g o cap : Nat) (l : List (Int × Int × Int × Int)), v = .slice (some ⟨g, o, none⟩) l.length cap ∧ (∀ x ∈ l, Snd.Ord.RowU x) ∧ g < W.heap.size ∧ ∃ (cs : List Value) (t : TypeId) (fr : Nat × Nat), W.heap[g]? = some (.cells cs.toArray t fr) ∧ ∀ i : Nat, i < l.length → o + i * 4 + 4 ≤ cs.length ∧ (cs.drop (o + i * 4)).take 4 = [.int .u32 (l.getD i (0, 0, 0, 0)).1, .int .u32 (l.getD i (0, 0, 0, 0)).2.1, .int .u32 (l.getD i (0, 0, 0, 0)).2.2.1, .int .u32 (l.getD i (0, 0, 0, 0)).2.2.2] := by
  obtain ⟨a0, len, cap, rfl⟩ := okWide_slice Tryz.underlying29 hv
  obtain ⟨fuel, hf⟩ := h
  rcases DataW.trod_slice Tryz.underlying29 hf with ⟨e, _⟩ | ⟨a, l, c, elems, rest, n, _, e, _, _, hlc, hcm, hel, hg, _⟩
  · simp [Value.cells] at e
    obtain ⟨rfl, rfl, rfl⟩ := e
    exact .inl ⟨none, 0, rfl⟩
  · simp [Value.cells] at e
    obtain ⟨rfl, rfl, rfl⟩ := e
    have hC : Tryz.prog.cellsOf 28 = 4 := by kernel_rfl
    rw [hC] at hg
    by_cases h0 : len = 0
    · subst h0
      exact .inl ⟨_, _, rfl⟩
    have hR : ∀ i, i < len → ∃ s : Int × Int × Int × Int, (∀ j u, [Value.int .u32 s.1, .int .u32 s.2.1, .int .u32 s.2.2.1, .int .u32 s.2.2.2][j]? = some u → W.cell? (a.add (i * 4 + j)) = some u) ∧ Snd.Ord.RowU s := by
      intro i hi
      have z := hg i hi
      rw [List.getElem?_eq_getElem (by omega)] at z
      obtain ⟨cs, hc, ht⟩ := Option.bind_eq_some_iff.mp z
      obtain ⟨a0, a1, a2, a3, rfl, w0, w1, w2, w3⟩ := trod28 ht
      obtain ⟨_, _, hat⟩ := World.cells?_some hc
      refine ⟨(a0, a1, a2, a3), fun j u hj => ?_, Vone.u_wf w0, Vone.u_wf w1, Vone.u_wf w2, Vone.u_wf w3⟩
      have hj2 : j < 4 := by
        have := (List.getElem?_eq_some_iff.mp hj).1
        simpa using this
      rw [← Go.Deep.add_add, hat j hj2]
      exact hj
    obtain ⟨l, hl, hr⟩ := exists_list _ len hR
    subst hl
    obtain ⟨s0, hs0⟩ : ∃ s, l[0]? = some s := ⟨_, List.getElem?_eq_getElem (by omega)⟩
    have c0 := (hr 0 s0 hs0).1 0 _ rfl
    obtain ⟨g, o, sp⟩ := a
    have e0 : (⟨g, o, sp⟩ : Addr).add (0 * 4 + 0) = ⟨g, o, sp⟩ := rfl
    rw [e0] at c0
    unfold World.cell? at c0
    simp only at c0
    split at c0
    · rename_i c ty fr hb
      split at c0
      · cases c0
      · rename_i hsp
        obtain rfl : sp = none := by simpa using hsp
        have at_ : ∀ k u, W.cell? ((⟨g, o, none⟩ : Addr).add k) = some u → c[o + k]? = some u := fun k u hk => by
          have e : (⟨g, o, none⟩ : Addr).add k = ⟨g, o + k, none⟩ := Snd.Ord.add_o
          rw [e] at hk
          unfold World.cell? at hk
          simp only [hb] at hk
          simpa using hk
        refine .inr ⟨g, o, _, l, rfl, fun x hx => ?_, (Array.getElem?_eq_some_iff.1 hb).1, c.toList, ty, fr, by rw [Array.toArray_toList]; exact hb, fun i hi => ?_⟩
        · obtain ⟨i, hi⟩ := List.mem_iff_getElem?.mp hx
          exact (hr i x hi).2
        · obtain ⟨s, hs⟩ : ∃ s, l[i]? = some s := ⟨_, List.getElem?_eq_getElem hi⟩
          have es : l.getD i (0, 0, 0, 0) = s := by rw [List.getD_eq_getElem?_getD, hs]; rfl
          rw [es]
          have q := (hr i s hs).1
          have q0 := at_ _ _ (q 0 _ rfl)
          have q1 := at_ _ _ (q 1 _ rfl)
          have q2 := at_ _ _ (q 2 _ rfl)
          have q3 := at_ _ _ (q 3 _ rfl)
          exact Snd.Ord.four q0 q1 q2 q3
    · cases c0
set_option maxRecDepth 100000 in
theorem lifted (os : Os) (started : os.Started) (H : Type) (enc : TypeId × Value → H) :
    ReturnsInHanded {} Tryz.checked os 3 .any (fun w args => (Rows.valueOrderSpec.pre enc Tryz.prog Tryz.f3 Rows.valueOrderRow.domain false w args ∧ laidMet Tryz.prog Rows.valueOrderRow.laid w) ∧ sizedMet enc Tryz.prog Tryz.f3 (OpenSpec.ofChange Rows.valueOrderSpec) false w args)
      (Rows.valueOrderSpec.post enc Tryz.prog Tryz.f3 false true false false) := by
  refine returnsInHanded_of_change_and (C := Tryz.checked) (X := fun w _ => laidMet Tryz.prog Rows.valueOrderRow.laid w) (fun _ _ _ hh h => h.of_heap hh) own started (by kernel_rfl) Tryz.func3
    (ChangeSpec.witness_at (enc := enc) (C := Tryz.checked) (os := os) (X := fun w _ => laidMet Tryz.prog Rows.valueOrderRow.laid w) false (laidWorld os) #[.agg #[.int .u32 0, .int .u32 0, .int .u32 0, .int .u32 0], .agg #[.int .u32 0, .int .u32 0, .int .u32 0, .int .u32 0], .agg #[.int .u32 0, .int .u32 0, .int .u32 0, .int .u32 0], .slice none 0 0] 8 rfl (by kernel_rfl) (by kernel_rfl) (by kernel_rfl) (by kernel_rfl) (by kernel_rfl) (laidWorld_met os _)) ?_
  intro W base args ds gs before hval0 hW _ _ hL _
  have hval : ∀ (j : Nat) t v, Tryz.f3.params[j]? = some t → args[j]? = some v → Value.okWide Tryz.prog W .any base t v := hval0
  have hW' := hW
  obtain ⟨p, q, hA0, hV, rfl, hfz, hnd⟩ := hW
  have hA : DataW.TrodAll enc Tryz.prog W 0 (fun _ => true) true Tryz.f3.params.toList args.toList ds p := hA0
  rw [Tryz.params3] at hA hval
  obtain ⟨v0, vs0, d0, ds0, p0, q0, hargs, rfl, rfl, h0, r0⟩ := trodAll_cons hA
  obtain ⟨v1, vs1, d1, ds1, p1, q1, rfl, rfl, rfl, h1, r1⟩ := trodAll_cons r0
  obtain ⟨v2, vs2, d2, ds2, p2, q2, rfl, rfl, rfl, h2, r2⟩ := trodAll_cons r1
  obtain ⟨v3, vs3, d3, ds3, p3, q3, rfl, rfl, rfl, h3, r3⟩ := trodAll_cons r2
  obtain ⟨rfl, rfl, rfl⟩ := trodAll_nil r3
  obtain rfl : args = #[v0, v1, v2, v3] := by cases args; simp_all
  obtain ⟨rfl, rfl⟩ := trodVars_none hV
  have k0 := h0
  have lt0 : ∀ x ∈ p0, x.block < W.heap.size := by obtain ⟨m, hm⟩ := k0; exact DataW.trod_lt m _ _ _ hm
  obtain ⟨a0_0, a0_1, a0_2, a0_3, rfl, w0_0, w0_1, w0_2, w0_3⟩ := open28 (hval 0 28 v0 rfl rfl) h0
  have k1 := h1
  have lt1 : ∀ x ∈ p1, x.block < W.heap.size := by obtain ⟨m, hm⟩ := k1; exact DataW.trod_lt m _ _ _ hm
  obtain ⟨a1_0, a1_1, a1_2, a1_3, rfl, w1_0, w1_1, w1_2, w1_3⟩ := open28 (hval 1 28 v1 rfl rfl) h1
  have k2 := h2
  have lt2 : ∀ x ∈ p2, x.block < W.heap.size := by obtain ⟨m, hm⟩ := k2; exact DataW.trod_lt m _ _ _ hm
  obtain ⟨a2_0, a2_1, a2_2, a2_3, rfl, w2_0, w2_1, w2_2, w2_3⟩ := open28 (hval 2 28 v2 rfl rfl) h2
  have k3 := h3
  have lt3 : ∀ x ∈ p3, x.block < W.heap.size := by obtain ⟨m, hm⟩ := k3; exact DataW.trod_lt m _ _ _ hm
  have hs3 := openSL (hval 3 29 v3 rfl rfl) h3
  clear hA0 hval0
  rcases hs3 with ⟨b, c, rfl⟩ | ⟨g, o, cap, l, rfl, hl, lt, cs, ty, fr, hb, hr⟩
  · have hk := Snd.Ord.Holds.order0 a0_0 a0_1 a0_2 a0_3 a1_0 a1_1 a1_2 a1_3 a2_0 a2_1 a2_2 a2_3 b c w0_0 w0_1 w0_2 w0_3 w1_0 w1_1 w1_2 w1_3 w2_0 w2_1 w2_2 w2_3
    refine (lamplighterlaw21_ValueOrder_0.calls 300 a0_0 a0_1 a0_2 a0_3 a1_0 a1_1 a1_2 a1_3 a2_0 a2_1 a2_2 a2_3 b c (glob_of hL) hk).mono fun e W' ⟨he, bel⟩ => ?_
    subst he
    exact ⟨_, rfl, _, _, _, [], _, [], hW', trodAll_mk1 (shut_bool Tryz.underlying4 _), (trodAll_cons_mk (Below.trod laidOut (by kernel_rfl) (of_decide_eq_true (by kernel_rfl)) k0 bel lt0) (trodAll_cons_mk (Below.trod laidOut (by kernel_rfl) (of_decide_eq_true (by kernel_rfl)) k1 bel lt1) (trodAll_cons_mk (Below.trod laidOut (by kernel_rfl) (of_decide_eq_true (by kernel_rfl)) k2 bel lt2) (trodAll_cons_mk (Below.trod laidOut (by kernel_rfl) (of_decide_eq_true (by kernel_rfl)) k3 bel lt3) trodAll_mk0)))), rfl, bel.frame _, fun h => by cases h⟩
  · have hk := Snd.Ord.Holds.order a0_0 a0_1 a0_2 a0_3 a1_0 a1_1 a1_2 a1_3 a2_0 a2_1 a2_2 a2_3 l w0_0 w0_1 w0_2 w0_3 w1_0 w1_1 w1_2 w1_3 w2_0 w2_1 w2_2 w2_3 hl
    have gl := glob_at (vgOf g o l.length cap) hL
    have ga : GlobAt ((E64 300).having (osv l)) (vgOf g o l.length cap) W := ⟨gl.1, gl.2.1, fun k s hs => by
      match k, hs with
      | 0, hs =>
        obtain rfl := Option.some.inj hs
        refine ⟨lt, rfl, rfl, cs, ty, fr, hb, fun i h0 h1 => ?_⟩
        have z := hr i.toNat (by have : i < (l.length : Int) := h1; omega)
        exact z⟩
    have z := lamplighterlaw21_ValueOrder.calls 300 a0_0 a0_1 a0_2 a0_3 a1_0 a1_1 a1_2 a1_3 a2_0 a2_1 a2_2 a2_3 l ga hk
    refine Calls.mono (z : Calls Tryz.prog 3 #[.agg #[.int .u32 a0_0, .int .u32 a0_1, .int .u32 a0_2, .int .u32 a0_3], .agg #[.int .u32 a1_0, .int .u32 a1_1, .int .u32 a1_2, .int .u32 a1_3], .agg #[.int .u32 a2_0, .int .u32 a2_1, .int .u32 a2_2, .int .u32 a2_3], .slice (some ⟨g, o, none⟩) l.length cap] W _) fun e W' ⟨he, bel⟩ => ?_
    subst he
    exact ⟨_, rfl, _, _, _, [], _, [], hW', trodAll_mk1 (shut_bool Tryz.underlying4 _), (trodAll_cons_mk (Below.trod laidOut (by kernel_rfl) (of_decide_eq_true (by kernel_rfl)) k0 bel lt0) (trodAll_cons_mk (Below.trod laidOut (by kernel_rfl) (of_decide_eq_true (by kernel_rfl)) k1 bel lt1) (trodAll_cons_mk (Below.trod laidOut (by kernel_rfl) (of_decide_eq_true (by kernel_rfl)) k2 bel lt2) (trodAll_cons_mk (Below.trod laidOut (by kernel_rfl) (of_decide_eq_true (by kernel_rfl)) k3 bel lt3) trodAll_mk0)))), rfl, bel.frame _, fun h => by cases h⟩
theorem over : Rows.valueOrderRow.holds Tryz.pinned (OpenSpec.ofChange Rows.valueOrderSpec) :=
  OpenClaim.holds_of_wide 3 Tryz.f3 rfl rfl rfl rfl rfl rfl rfl ⟨rfl, rfl, rfl, rfl, rfl⟩ rfl rfl rfl rfl rfl (by kernel_rfl) Tryz.func3 (by kernel_rfl)
    (of_decide_eq_true (by kernel_rfl)) (by unfold Func.isWrapper; first | (rw [if_pos (by decide +kernel)]; kernel_rfl) | (rw [if_neg (by decide +kernel)]; exact ⟨rfl, rfl⟩))
    (fun os started H enc _ => lifted os started H enc)
theorem proved : Rows.ValueOrderCardSaid :=
  Claim7.holds_tied_plain_at .later [] [.data, .data] true (true, "bd796667ba35aa164508e0e4f46a4958008f6cfbefa2e43d762a710effc8f801") false
    over (fun _ h => by cases h) (by kernel_rfl) (fun _ h => by cases h) valueOrder_row_tie rfl ⟨rfl, rfl⟩ (by kernel_rfl) rfl
    (fun f fn hf hfn => by
      obtain rfl : f = 3 := Option.some.inj ((show Tryz.prog.funcNamed "lamplighter/lamplighterlaw21.ValueOrder" = some 3 by kernel_rfl).symm.trans hf) |>.symm
      obtain rfl : fn = Tryz.f3 := (Option.some.inj (Tryz.func3.symm.trans hfn)).symm
      exact ⟨by kernel_rfl, fun j t ht => by
        rw [Tryz.params3] at ht
        have all : ∀ t ∈ ([28, 28, 28, 29] : List TypeId), Tryz.prog.wantsStandIn t = false := by
          intro t ht
          simp only [List.mem_cons, List.not_mem_nil, or_false] at ht
          rcases ht with rfl | rfl | rfl | rfl <;> kernel_rfl
        exact all t (by
          have := List.mem_of_getElem? (show ([28, 28, 28, 29] : List TypeId)[j]? = some t from by simpa using ht)
          exact this)⟩)
    (by kernel_rfl)
#print axioms proved
end Go.Proofs.YtdmondofdlkopaaGreatDoor.valueOrder
