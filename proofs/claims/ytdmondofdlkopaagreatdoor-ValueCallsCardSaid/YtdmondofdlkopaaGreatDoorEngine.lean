/- A reckoning of calls: where the reckoning tells an answer, the call of the function of the program returns it, and nothing that lay in memory has turned. Conditions: those each theorem names. -/
import Derived.Orders
import Derived.Still
import Derived.Scope
import Derived.RowKit3
import Derived.Below
import Derived.Laws.Sem
import Derived.Laws.World
import Derived.Laws.NewFold
import Derived.Laws.StructEq
import Derived.Laws.BytesString
set_option linter.unusedVariables false
set_option linter.unusedSimpArgs false
namespace Go.Proofs.YtdmondofdlkopaaGreatDoor.X
open Go
open Go.RowKit
/-! ### Values of a run that is told by reckoning: any value as it is; a place in a block of the run's own; a closure over such places; one that is not known -/
inductive AV where
  | v (x : Value)
  | p (b off : Nat)
  | s (b off len cap : Nat)
  | f (fn : FuncId) (caps : List (Nat × Nat))
  | ox (k : Nat)
  | oy (k : Nat) (i : Int)
  | u
/-- Where the blocks that came in are told. -/
def VB : Nat := 1000000
def vx (k j : Nat) : Nat := VB + (8 * k + j)
abbrev Blk := TypeId × List AV
abbrev Heap := List (Option Blk)
def AV.re (φ : Nat → Nat) : AV → Value
  | .v x => x
  | .p b o => .pointer (some ⟨φ b, o, none⟩)
  | .s b o l c => .slice (some ⟨φ b, o, none⟩) l c
  | .f fn cs => .func (.func fn) #[] (cs.map fun c => Value.pointer (some ⟨φ c.1, c.2, none⟩)).toArray
  | .ox k => .slice (some ⟨φ (vx k 0), φ (vx k 1), none⟩) (φ (vx k 2)) (φ (vx k 3))
  | .oy k i => .pointer (some ⟨φ (vx k 0), φ (vx k 1) + i.toNat * φ (vx k 4), none⟩)
  | .u => undef
def AV.known : AV → Bool
  | .u => false
  | _ => true
def hat (h : Heap) (b : Nat) : Option Blk := h.getD b none
/-- Two tellings of where the blocks lie agree where there are blocks. -/
def Agr (φ ψ : Nat → Nat) (h : Heap) : Prop := ∀ b, ((hat h b).isSome = true ∨ VB ≤ b) → ψ b = φ b
theorem Agr.refl (φ : Nat → Nat) (h : Heap) : Agr φ φ h := fun _ _ => rfl
/-- The heap's blocks, filled in the one, are filled in the other. -/
def Sub (h h' : Heap) : Prop := ∀ b, (hat h b).isSome = true → (hat h' b).isSome = true
theorem Sub.refl (h : Heap) : Sub h h := fun _ k => k
theorem Sub.trans {a b c : Heap} (h : Sub a b) (g : Sub b c) : Sub a c := fun i k => g i (h i k)
theorem Agr.trans {φ ψ χ : Nat → Nat} {h h' : Heap} (p : Agr φ ψ h) (q : Agr ψ χ h') (s : Sub h h') : Agr φ χ h := fun b k => (q b (k.imp (s b) id)).trans (p b k)
/-- A number of blocks; where what came in lies. -/
structure Base where
  n : Nat
  g : Nat → Nat
instance : CoeOut Base Nat := ⟨Base.n⟩
/-- What is told of the blocks holds in the world w. -/
structure Lies (N : Base) (w0 : World) (φ : Nat → Nat) (h : Heap) (w : World) : Prop where
  below : Below N w0 w
  size : N ≤ w.heap.size
  blk : ∀ b t cs, hat h b = some (t, cs) → N ≤ φ b ∧ ∀ ψ, Agr φ ψ h → w.heap[φ b]? = some (.cells (cs.map (AV.re ψ)).toArray t (0, 0))
  inj : ∀ b c, (hat h b).isSome = true → (hat h c).isSome = true → φ b = φ c → b = c
  vir : ∀ b, VB ≤ b → φ b = N.g b
/-- A row of temporaries. -/
def Fits (φ : Nat → Nat) (h : Heap) (t : List AV) (l : Array Value) : Prop := l.size = t.length ∧ ∀ ψ, Agr φ ψ h → ∀ (i : Nat) (x : AV), t[i]? = some x → x.known = true → l[i]? = some (x.re ψ)
def Stable (φ : Nat → Nat) (h : Heap) (v : AV) : Prop := ∀ ψ, Agr φ ψ h → v.re ψ = v.re φ
inductive Eff where
  | nop
  | fill (b : Blk)
  | write (b : Nat) (c : Blk)
def Eff.on (k : Nat) (h : Heap) : Eff → Heap
  | .nop => h
  | .fill b => h.set k (some b)
  | .write b c => h.set b (some c)
/-- What an operation comes to: its value, a heap; it yields the value, or is one without. -/
def Done (N : Base) (w0 : World) (φ : Nat → Nat) (h h' : Heap) (v : AV) (res : Result Next) : Prop :=
  ∃ φ' w', Agr φ φ' h ∧ Sub h h' ∧ Lies N w0 φ' h' w' ∧ Stable φ' h' v ∧ (res = .ok (.value (v.re φ')) w' ∨ (res = .ok .skip w' ∧ v = .v undef))
theorem hat_set_ne {h : Heap} {k b : Nat} {x : Option Blk} (e : k ≠ b) : hat (h.set k x) b = hat h b := by
  unfold hat
  rw [List.getD_eq_getElem?_getD, List.getD_eq_getElem?_getD, List.getElem?_set_ne e]
theorem hat_set_eq {h : Heap} {k : Nat} {x : Option Blk} (e : k < h.length) : hat (h.set k x) k = x := by
  unfold hat
  rw [List.getD_eq_getElem?_getD, List.getElem?_set_self e]
  rfl
theorem Lies.lt {N : Base} {w0 w : World} {φ : Nat → Nat} {h : Heap} (l : Lies N w0 φ h w) {b : Nat} (k : (hat h b).isSome = true) : φ b < w.heap.size := by
  cases e : hat h b with
  | none => rw [e] at k; cases k
  | some x =>
    have z := (l.blk b x.1 x.2 e).2 φ (Agr.refl _ _)
    exact (Array.getElem?_eq_some_iff.1 z).1
section
variable {N : Base} {w0 w : World} {φ : Nat → Nat} {h : Heap}
/-- A new block. -/
theorem Lies.fill (l : Lies N w0 φ h w) {k : Nat} (hv : k < VB) (hk : k < h.length) (hu : (hat h k).isSome = false) (t : TypeId) (cs : List AV) (hcs : ∀ c ∈ cs, Stable φ h c) :
    ∃ φ', φ' k = w.heap.size ∧ Agr φ φ' h ∧ Sub h (h.set k (some (t, cs))) ∧ Lies N w0 φ' (h.set k (some (t, cs))) (w.alloc (.cells (cs.map (AV.re φ)).toArray t)) := by
  have old : ∀ b, (hat h b).isSome = true → b ≠ k := fun b hb e => by rw [e, hu] at hb; cases hb
  refine ⟨fun b => if b = k then w.heap.size else φ b, if_pos rfl, fun b hb => if_neg (hb.elim (old b) fun q e => by omega), fun b hb => ?_, ?_⟩
  · rw [hat_set_ne (old b hb).symm]; exact hb
  · have sub : ∀ ψ, Agr (fun b => if b = k then w.heap.size else φ b) ψ (h.set k (some (t, cs))) → Agr φ ψ h := fun ψ a b hb => by
      have ne : b ≠ k := hb.elim (old b) fun q e => by omega
      have := a b (by rw [hat_set_ne ne.symm]; exact hb)
      rw [this]
      exact if_neg ne
    refine ⟨l.below.alloc l.size _, by simp; exact Nat.le_succ_of_le l.size, fun b t' cs' hb => ?_, fun b c hb hc e => ?_, fun b hb => by rw [if_neg (by omega)]; exact l.vir b hb⟩
    · by_cases e : b = k
      · subst e
        rw [hat_set_eq hk] at hb
        injection hb with hb
        injection hb with h1 h2
        subst h1 h2
        simp only [if_true]
        refine ⟨l.size, fun ψ a => ?_⟩
        have e : cs.map (AV.re ψ) = cs.map (AV.re φ) := List.map_congr_left fun c hc => hcs c hc ψ (sub ψ a)
        rw [e]
        show (w.heap.push _)[w.heap.size]? = _
        rw [Array.getElem?_push_size]
      · rw [hat_set_ne (Ne.symm e)] at hb
        simp only [if_neg e]
        have z := l.blk b t' cs' hb
        have lt := l.lt (b := b) (by rw [hb]; rfl)
        refine ⟨z.1, fun ψ a => ?_⟩
        rw [Below.heap_alloc _ _ _ lt]
        exact z.2 ψ (sub ψ a)
    · have key : ∀ b, (hat (h.set k (some (t, cs))) b).isSome = true → b ≠ k → (hat h b).isSome = true := fun b hb e => by rw [hat_set_ne (Ne.symm e)] at hb; exact hb
      by_cases e1 : b = k <;> by_cases e2 : c = k
      · rw [e1, e2]
      · simp only [if_pos e1, if_neg e2] at e
        have := l.lt (key c hc e2)
        omega
      · simp only [if_neg e1, if_pos e2] at e
        have := l.lt (key b hb e1)
        omega
      · simp only [if_neg e1, if_neg e2] at e
        exact l.inj b c (key b hb e1) (key c hc e2) e
def AV.one : AV → Bool
  | .v x => x.oneCell'
  | .u => false
  | _ => true
theorem one_re {x : AV} {ψ : Nat → Nat} (h : x.one = true) : (x.re ψ).oneCell' = true := by
  cases x <;> first | exact h | rfl
theorem some_set {k b : Nat} {x : Blk} (hk : (hat h k).isSome = true) : (hat (h.set k (some x)) b).isSome = (hat h b).isSome := by
  by_cases e : k = b
  · subst e
    have lt : k < h.length := by
      by_cases c : k < h.length
      · exact c
      · unfold hat at hk
        rw [List.getD_eq_getElem?_getD, List.getElem?_eq_none (by omega)] at hk
        cases hk
    rw [hat_set_eq lt, hk]
    rfl
  · rw [hat_set_ne e]
theorem agr_set {k : Nat} {x : Blk} (hk : (hat h k).isSome = true) {ψ : Nat → Nat} : Agr φ ψ (h.set k (some x)) ↔ Agr φ ψ h :=
  ⟨fun a b hb => a b (by rw [some_set hk]; exact hb), fun a b hb => a b (by rw [some_set hk] at hb; exact hb)⟩
theorem lt_of_hat {k : Nat} (hk : (hat h k).isSome = true) : k < h.length := by
  by_cases c : k < h.length
  · exact c
  · unfold hat at hk
    rw [List.getD_eq_getElem?_getD, List.getElem?_eq_none (by omega)] at hk
    cases hk
variable {P : Program}
/-- One cell of a block of the run's own is written. -/
theorem Lies.put (l : Lies N w0 φ h w) {b : Nat} {t : TypeId} {cs : List AV} (hb : hat h b = some (t, cs)) {j : Nat} (hj : j < cs.length) {x : AV} (hx : x.one = true) (st : Stable φ h x) :
    (store ⟨φ b, j, none⟩ (x.re φ)).run P w = .ok () (w.setCell ⟨φ b, j, none⟩ (x.re φ)) ∧ Lies N w0 φ (h.set b (some (t, cs.set j x))) (w.setCell ⟨φ b, j, none⟩ (x.re φ)) := by
  have hs : (hat h b).isSome = true := by rw [hb]; rfl
  have z := l.blk b t cs hb
  have zz := z.2 φ (Agr.refl _ _)
  constructor
  · rw [run_store _ _ _ _ _ (one_re hx)]
    have c : w.cell? ⟨φ b, j, none⟩ = some (cs[j].re φ) := by
      unfold World.cell?
      simp only [zz]
      simp [hj]
    have f : w.frozen? ⟨φ b, j, none⟩ = false := by
      unfold World.frozen?
      simp only [zz]
      simp
    rw [c, f]
    simp
  · refine ⟨l.below.setCell z.1 _, by rw [World.size_setCell]; exact l.size, fun c t' cs' hc => ?_, fun c d hc hd e => ?_, l.vir⟩
    · by_cases e : b = c
      · subst e
        rw [hat_set_eq (lt_of_hat hs)] at hc
        injection hc with hc
        injection hc with h1 h2
        subst h1 h2
        refine ⟨z.1, fun ψ a => ?_⟩
        rw [agr_set hs] at a
        show (w.heap.modify (φ b) _)[φ b]? = _
        rw [Array.getElem?_modify, if_pos rfl, z.2 ψ a]
        simp only [Option.map_some, Option.isSome_none, Bool.false_eq_true, if_false, List.setIfInBounds_toArray, List.map_set, st ψ a]
      · rw [hat_set_ne e] at hc
        have zc := l.blk c t' cs' hc
        refine ⟨zc.1, fun ψ a => ?_⟩
        rw [agr_set hs] at a
        rw [Below.heap_setCell _ _ _ _ (fun k => e (l.inj b c hs (by rw [hc]; rfl) k.symm))]
        exact zc.2 ψ a
    · rw [some_set hs] at hc hd
      exact l.inj c d hc hd e
def putAll (cs : List AV) (o : Nat) : List AV → List AV
  | [] => cs
  | x :: r => putAll (cs.set o x) (o + 1) r
theorem putAll_len : ∀ (xs cs : List AV) (o : Nat), (putAll cs o xs).length = cs.length
  | [], _, _ => rfl
  | x :: r, cs, o => by rw [putAll, putAll_len r]; simp
theorem set_set_heap {b : Nat} {x y : Option Blk} : (h.set b x).set b y = h.set b y := by simp
/-- Cells one behind the other. -/
theorem Lies.puts {b : Nat} {t : TypeId} {o : Nat} : ∀ (xs cs : List AV) (i : Nat) (w : World) (h : Heap), Lies N w0 φ h w → hat h b = some (t, cs) → o + i + xs.length ≤ cs.length → (∀ x ∈ xs, x.one = true ∧ Stable φ h x) →
    ∃ w', (storeCells ⟨φ b, o, none⟩ (xs.map (AV.re φ)) i).run P w = .ok () w' ∧ Lies N w0 φ (h.set b (some (t, putAll cs (o + i) xs))) w'
  | [], cs, i, w, h, l, hb, _, _ => by
    refine ⟨w, by simp [storeCells], ?_⟩
    have e : h.set b (some (t, cs)) = h := by
      apply List.ext_getElem?
      intro j
      by_cases c : b = j
      · subst c
        have lt := lt_of_hat (h := h) (k := b) (by rw [hb]; rfl)
        rw [List.getElem?_set_self lt]
        unfold hat at hb
        rw [List.getD_eq_getElem?_getD, List.getElem?_eq_getElem lt] at hb
        rw [List.getElem?_eq_getElem lt]
        exact congrArg some hb.symm
      · rw [List.getElem?_set_ne c]
    rw [putAll, e]
    exact l
  | x :: r, cs, i, w, h, l, hb, hl, hx => by
    simp only [List.length_cons] at hl
    have hs : (hat h b).isSome = true := by rw [hb]; rfl
    obtain ⟨p1, p2⟩ := hx x List.mem_cons_self
    obtain ⟨q1, q2⟩ := l.put (P := P) hb (j := o + i) (by omega) p1 p2
    obtain ⟨w', e1, e2⟩ := Lies.puts (o := o) r (cs.set (o + i) x) (i + 1) _ _ q2 (hat_set_eq (lt_of_hat hs)) (by simp; omega) (fun y hy => ⟨(hx y (List.mem_cons_of_mem _ hy)).1, fun ψ a => (hx y (List.mem_cons_of_mem _ hy)).2 ψ ((agr_set hs).1 a)⟩)
    rw [set_set_heap] at e2
    refine ⟨w', ?_, e2⟩
    have ad : (⟨φ b, o, none⟩ : Addr).add i = ⟨φ b, o + i, none⟩ := by
      unfold Addr.add
      split
      · rename_i k; subst k; rfl
      · rfl
    rw [List.map_cons, storeCells, Sem.run_bind, ad, q1]
    exact e1
/-- Cells are read, one behind the other. -/
theorem reads {g : Nat} {cs : List Value} {t : TypeId} {fr : Nat × Nat} {o : Nat} (hg : w.heap[g]? = some (.cells cs.toArray t fr)) : ∀ (n i : Nat) (acc : Array Value), o + i + n ≤ cs.length →
    (loadCellsFrom ⟨g, o, none⟩ i n acc).run P w = .ok (acc ++ ((cs.drop (o + i)).take n).toArray) w
  | 0, i, acc, _ => by simp [loadCellsFrom]
  | n + 1, i, acc, hl => by
    have ad : (⟨g, o, none⟩ : Addr).add i = ⟨g, o + i, none⟩ := by
      unfold Addr.add
      split
      · rename_i k; subst k; rfl
      · rfl
    have c : w.cell? ⟨g, o + i, none⟩ = some cs[o + i] := by
      unfold World.cell?
      simp only [hg]
      simp [show o + i < cs.length by omega]
    rw [loadCellsFrom, Sem.run_bind, ad, run_load, c]
    simp only [Result.andThen_ok]
    rw [reads hg n (i + 1) _ (by omega)]
    congr 1
    rw [List.drop_eq_getElem_cons (by omega : o + i < cs.length), List.take_succ_cons, show o + (i + 1) = o + i + 1 by omega]
    apply Array.ext'
    simp
theorem read1 {g : Nat} {cs : List Value} {t : TypeId} {fr : Nat × Nat} {o : Nat} {v : Value} (hg : w.heap[g]? = some (.cells cs.toArray t fr)) (ho : cs[o]? = some v) : (load ⟨g, o, none⟩).run P w = .ok v w := by
  have c : w.cell? ⟨g, o, none⟩ = some v := by
    unfold World.cell?
    simp only [hg]
    simp [ho]
  rw [run_load, c]
end
/-! ### The reckoning -/
/-- What a pure program yields. -/
def runP {α : Type} (P : Program) : Sem α → Option α
  | .pure a => some a
  | .program k => runP P (k P)
  | .mark _ k => runP P k
  | _ => none
theorem runP_run {α : Type} {P : Program} {s : Sem α} {a : α} (h : runP P s = some a) (w : World) : s.run P w = .ok a w := by
  induction s with
  | pure b => simp only [runP, Option.some.injEq] at h; subst h; rfl
  | program k ih => simp only [runP] at h; simp only [Sem.run]; exact ih P h
  | mark m k ih => simp only [runP] at h; simp only [Sem.run]; exact ih h
  | _ => simp [runP] at h
/-- A function told by another: its arguments, read; its answer, told as a value. -/
structure Sum where
  T : Type
  get : List Value → Option (Option T)
  enc : T → Value
/-- What came in from elsewhere: how many rows, of how many cells, and which. -/
structure OutS where
  n : Nat
  z : Nat
  row : Int → List Value
structure Eng where
  P : Program
  gl : Nat → Option (List AV)
  os : Nat → Option OutS
  gi : Nat → Option (IntKind × List Int)
  eqf : TypeId → Array Value → Array Value → Option Bool
  sm : FuncId → Option Sum
  fuel : FuncId → Nat
  keep : FuncId → Nat → Bool
def evA (t : List AV) : Operand → AV
  | .tmp i => t.getD i (.v undef)
  | .const x => .v x
  | .global g => .v (.pointer (some ⟨g, 0, none⟩))
  | .func f => .v (.func (.func f) #[] #[])
def cellsA : AV → List AV
  | .v x => x.cells.toList.map .v
  | x => [x]
/-- It speaks of what came in alone. -/
def AV.vir : AV → Bool
  | .v _ => true
  | .ox _ => true
  | .oy _ _ => true
  | _ => false
def AV.isV : AV → Bool
  | .v _ => true
  | _ => false
def rv (ρ : Operand → AV) (x : Operand) : Value := match ρ x with | .v y => y | _ => undef
def allV : List AV → Option (List Value)
  | [] => some []
  | .v x :: r => match allV r with | some l => some (x :: l) | none => none
  | _ :: _ => none
def pureOp (P : Program) (ρ : Operand → AV) (o : Oper) : Option Value :=
  match o.op with
  | .select _ _ => none
  | .alloc _ => none
  | .box _ _ => none
  | .buildSlice _ _ _ => none
  | .load _ _ => none
  | .store _ _ _ => none
  | _ => if o.op.operands.all (fun x => (ρ x).isV) then match runP P (execOp (rv ρ) o) with | some (.value v) => some v | _ => none else none
def aggT (P : Program) (t : TypeId) : Option Bool := match P.underlying t with
  | some (.struct _) => some true
  | some (.array _ _) => some true
  | some _ => some false
  | none => none
def sizeT (P : Program) (t : TypeId) : Option Nat := match P.info? t with | some i => some i.size | none => none
def zeroT (P : Program) (t : TypeId) : Option Value := match P.info? t with | some i => i.zero | none => none
/-- The cells from o on are read as a value of type t. -/
def loadA (P : Program) (t : TypeId) (cs : List AV) (o : Nat) : Option AV :=
  match aggT P t, sizeT P t with
  | some true, some n => if o + n ≤ cs.length then match allV ((cs.drop o).take n) with | some vs => some (.v (.agg vs.toArray)) | none => none else none
  | some false, some _ => cs[o]?
  | _, _ => none
def caps : List AV → Option (List (Nat × Nat))
  | [] => some []
  | .p b o :: r => match caps r with | some l => some ((b, o) :: l) | none => none
  | _ :: _ => none
/-- Operations on memory, and what hands places on. -/
def memOp (E : Eng) (h : Heap) (k : Nat) (ok : Nat → Bool) (ρ : Operand → AV) : Op → Option (AV × Eff)
  | .move x => if (ρ x).known then some (ρ x, .nop) else none
  | .assign x => if (ρ x).known then some (ρ x, .nop) else none
  | .alloc t => match zeroT E.P t with
    | some z => if (k < VB ∧ k < h.length) ∧ (hat h k).isSome = false then some (.p k 0, .fill (t, z.cells.toList.map .v)) else none
    | none => none
  | .box t x => if ((k < VB ∧ k < h.length) ∧ (hat h k).isSome = false) ∧ (ρ x).known = true then some (.p k 0, .fill (t, cellsA (ρ x))) else none
  | .buildSlice t n ps => match E.P.underlying t with
    | some (.slice e) => match sizeT E.P e, zeroT E.P e with
      | some z, some zv =>
        if (n * z ≤ 16777216 ∧ n * z ≠ 0 ∧ k < VB ∧ k < h.length) ∧ (hat h k).isSome = false ∧ ps.all (fun p => (ρ p.2).isV) = true then
          match Instr.fill (fun i => some (i * z, z)) ((Array.range (n * z)).map (zv.cells[· % zv.cells.size]!)) (ps.toList.map fun p => (p.1, rv ρ p.2)) with
          | some cs => some (.s k 0 n n, .fill (e, cs.toList.map .v))
          | none => none
        else none
      | _, _ => none
    | _ => none
  | .load t a => match ρ a with
    | .p b o => if ok (2 * b) then match hat h b with
      | some (_, cs) => match loadA E.P t cs o with | some v => some (v, .nop) | none => none
      | none => none else none
    | .v (.pointer (some ⟨g, o, none⟩)) => match E.gl g with
      | some cs => match loadA E.P t cs o with | some v => some (v, .nop) | none => none
      | none => none
    | _ => none
  | .store t a x => match ρ a with
    | .p b o => match hat h b, sizeT E.P t with
      | some (ty, cs), some n => if (cellsA (ρ x)).length = n ∧ o + n ≤ cs.length ∧ (cellsA (ρ x)).all AV.one = true ∧ ok (2 * b + 1) = true then some (.v undef, .write b (ty, putAll cs o (cellsA (ρ x)))) else none
      | _, _ => none
    | _ => none
  | .fieldAddr t a f => match ρ a, E.P.underlying t with
    | .p b o, some (.struct fs) => match fs[f]? with
      | some fd => match sizeT E.P fd.type with
        | some (_ + 1) => some (.p b (o + fd.offset), .nop)
        | _ => none
      | none => none
    | _, _ => none
  | .makeFunc (.func f) first cs => if first.isEmpty then match caps (cs.toList.map ρ) with
    | some l => if l.isEmpty then none else some (.f f l, .nop)
    | none => none else none
  | .nilCheck x => match ρ x with
    | .p b o => some (.p b o, .nop)
    | _ => none
  | .call ⟨.builtin .len, xs, ats⟩ => match xs.toList.map ρ, ats[0]? with
    | [.s _ _ n _], some t => match E.P.underlying t with | some (.slice _) => some (.v (.int .i64 n), .nop) | _ => none
    | [.ox k], some t => match E.P.underlying t, E.os k with | some (.slice _), some s => some (.v (.int .i64 s.n), .nop) | _, _ => none
    | _, _ => none
  | _ => none
def shl (k : IntKind) (x y : Int) : Int := k.wrap (x * 2 ^ (min y.toNat k.bits))
def shr (k : IntKind) (x y : Int) : Int := x.fdiv (2 ^ (min y.toNat k.bits))
/-- A parting of the ways, and what parts them: plain definitions, so that the kernel compares what they are made of before it looks into them. -/
def br {R : Type} (c : Bool) (x y : Option R) : Option R := if c = true then x else y
def eqI (a b : Int) : Bool := a == b
def ltI (a b : Int) : Bool := decide (a < b)
def leI (a b : Int) : Bool := decide (a ≤ b)
def inI (i n : Int) : Bool := decide (0 ≤ i ∧ i < n)
def ltN (a b : Nat) : Bool := decide (a < b)
def atN (o : Nat) (i : Int) (z : Nat) : Nat := o + i.toNat * z
def tabAt (l : List Int) (o : Nat) : Int := l.getD o 0
/-- Operators of bits, told so that the kernel looks at the numbers first. -/
def bitw (op : BinOp) (k : IntKind) : Int → Int → Int
  | .ofNat a, .ofNat b => bits op k (.ofNat a) (.ofNat b)
  | .ofNat a, .negSucc b => bits op k (.ofNat a) (.negSucc b)
  | .negSucc a, .ofNat b => bits op k (.negSucc a) (.ofNat b)
  | .negSucc a, .negSucc b => bits op k (.negSucc a) (.negSucc b)
theorem bitw_eq (op : BinOp) (k : IntKind) (a b : Int) : bitw op k a b = bits op k a b := by
  cases a <;> cases b <;> rfl
/-- The number i, if it is one of j, j + 1, .. -/
def xidx {R : Type} (i : Int) (f : Nat → Option R) : Nat → Nat → Option R
  | 0, _ => none
  | m + 1, j => br (eqI i (j : Int)) (f j) (xidx i f m (j + 1))
def byteAt (s : ByteArray) (i : Int) : Int := ((s.data.toList.getD i.toNat 0).toNat : Int)
/-- An operator of two whole numbers. -/
def xbin {R : Type} (op : BinOp) (j : IntKind) (a : Int) (j' : IntKind) (b : Int) (K : Value → Option R) : Option R :=
  match op with
  | .shl => br (ltI b 0) none (K (.int j (shl j a b)))
  | .shr => br (ltI b 0) none (K (.int j (shr j a b)))
  | .quo => if j = j' then br (eqI b 0) none (K (.int j (j.wrap (a.tdiv b)))) else none
  | .rem => if j = j' then br (eqI b 0) none (K (.int j (a.tmod b))) else none
  | .add => if j = j' then K (.int j (j.wrap (a + b))) else none
  | .sub => if j = j' then K (.int j (j.wrap (a - b))) else none
  | .mul => if j = j' then K (.int j (j.wrap (a * b))) else none
  | .and => if j = j' then K (.int j (bitw .and j a b)) else none
  | .or => if j = j' then K (.int j (bitw .or j a b)) else none
  | .xor => if j = j' then K (.int j (bitw .xor j a b)) else none
  | .andNot => if j = j' then K (.int j (bitw .andNot j a b)) else none
  | .eql => if j = j' then K (.bool (eqI a b)) else none
  | .neq => if j = j' then K (.bool (!eqI a b)) else none
  | .lss => if j = j' then K (.bool (ltI a b)) else none
  | .leq => if j = j' then K (.bool (leI a b)) else none
  | .gtr => if j = j' then K (.bool (ltI b a)) else none
  | .geq => if j = j' then K (.bool (leI b a)) else none
/-- An operation, but for calls of the program's functions; and for those behind. -/
def xop0 {R : Type} (E : Eng) (h : Heap) (k : Nat) (ok : Nat → Bool) (ρ : Operand → AV) (o : Oper) (K : AV → Eff → Option R) : Option R :=
  match memOp E h k ok ρ o.op with
  | some (v, e) => K v e
  | none =>
    match o.op with
    | .pick c a b => match ρ c with
      | .v (.bool c') => br c' (if (ρ a).known then K (ρ a) .nop else none) (if (ρ b).known then K (ρ b) .nop else none)
      | _ => none
    | .binOp .eql t x y _ => match ρ x, ρ y with
      | .v (.int j a), .v (.int j' b) => xbin .eql j a j' b fun v => K (.v v) .nop
      | .v (.agg xs), .v (.agg ys) => match E.eqf t xs ys with | some b => K (.v (.bool b)) .nop | none => none
      | .f _ _, .v .nilFunc => match E.P.underlying t with | some (.func _ _ _) => K (.v (.bool false)) .nop | _ => none
      | _, _ => match pureOp E.P ρ o with | some v => K (.v v) .nop | none => none
    | .binOp .neq t x y _ => match ρ x, ρ y with
      | .v (.int j a), .v (.int j' b) => xbin .neq j a j' b fun v => K (.v v) .nop
      | .v (.agg xs), .v (.agg ys) => match E.eqf t xs ys with | some b => K (.v (.bool (!b))) .nop | none => none
      | .f _ _, .v .nilFunc => match E.P.underlying t with | some (.func _ _ _) => K (.v (.bool true)) .nop | _ => none
      | _, _ => match pureOp E.P ρ o with | some v => K (.v v) .nop | none => none
    | .binOp op _ x y _ => match ρ x, ρ y with
      | .v (.int j a), .v (.int j' b) => xbin op j a j' b fun v => K (.v v) .nop
      | _, _ => match pureOp E.P ρ o with | some v => K (.v v) .nop | none => none
    | .unOp .not _ x => match ρ x with
      | .v (.bool b) => K (.v (.bool (!b))) .nop
      | _ => none
    | .unOp .neg _ x => match ρ x with
      | .v (.int j a) => K (.v (.int j (j.wrap (0 - a)))) .nop
      | _ => none
    | .unOp .xor _ x => match ρ x with
      | .v (.int j a) => K (.v (.int j (bitw .xor j (if j.signed then -1 else j.max) a))) .nop
      | _ => none
    | .convert src dst x => match ρ x, E.P.underlying src, E.P.underlying dst with
      | .v (.int _ a), some _, some (.int j) => K (.v (.int j (j.wrap a))) .nop
      | _, _, _ => match pureOp E.P ρ o with | some v => K (.v v) .nop | none => none
    | .extract x i => match ρ x with
      | .v (.tuple vs) => match vs[i]? with | some v => K (.v v) .nop | none => none
      | _ => none
    | .indexAddr t x ix => match ρ x, ρ ix, E.P.underlying t with
      | .p b o, .v (.int _ i), some (.array n e) => match sizeT E.P e with
        | some z => xidx i (fun j => K (.p b (o + j * z)) .nop) n 0
        | none => none
      | .s b o n _, .v (.int _ i), some (.slice e) => match sizeT E.P e with
        | some z => xidx i (fun j => K (.p b (o + j * z)) .nop) n 0
        | none => none
      | .v (.pointer (some ⟨g, o, none⟩)), .v (.int _ i), some (.array n e) => match sizeT E.P e with
        | some z => match E.gl g with
          | some _ => xidx i (fun j => K (.v (.pointer (some ⟨g, o + j * z, none⟩))) .nop) n 0
          | none => br (inI i (n : Int)) (K (.v (.pointer (some ⟨g, atN o i z, none⟩))) .nop) none
        | none => none
      | _, _, _ => none
    | .index t x ix => match ρ x, ρ ix, E.P.underlying t with
      | .v (.agg cs), .v (.int _ i), some (.array n e) => match sizeT E.P e, aggT E.P e with
        | some z, some false => xidx i (fun j => match cs[j * z]? with | some v => K (.v v) .nop | none => none) n 0
        | _, _ => none
      | .v (.string s), .v (.int _ i), some .string => br (inI i (s.size : Int)) (K (.v (.int .u8 (byteAt s i))) .nop) none
      | _, _, _ => none
    | .load t a => match ρ a with
      | .v (.pointer (some ⟨g, o, none⟩)) => match E.gi g, aggT E.P t with
        | some (k, l), some false => br (ltN o l.length) (K (.v (.int k (tabAt l o))) .nop) none
        | _, _ => none
      | _ => none
    | .call ⟨.value f, xs, _⟩ => match ρ f with
      | .v (.func (.func n) first cs) => match E.sm n with
        | some S => if first.isEmpty then match allV (xs.toList.map ρ) with
          | some vs => match S.get (vs ++ cs.toList) with
            | some r => r.bind fun t => K (.v (S.enc t)) .nop
            | none => none
          | none => none else none
        | none => none
      | _ => none
    | _ => match pureOp E.P ρ o with | some v => K (.v v) .nop | none => none
/-- A bound of a slice: a number, or what stands there if there is none. -/
def xbnd {R : Type} (ρ : Operand → AV) (v : Option Operand) (d m : Nat) (f : Nat → Option R) : Option R := match v with
  | none => f d
  | some y => match ρ y with
    | .v (.int _ i) => xidx i f (m + 1) 0
    | _ => none
def bytesOf : List AV → Option (List UInt8)
  | [] => some []
  | .v (.int .u8 n) :: r => match bytesOf r with | some l => some (UInt8.ofNat n.toNat :: l) | none => none
  | _ :: _ => none
def catOk (a b : ByteArray) : Bool := decide (((a.size + b.size : Nat) : Int) ≤ IntKind.i64.max)
def within3 (l h : Int) (n : Nat) : Bool := decide (0 ≤ l ∧ l ≤ h ∧ h ≤ (n : Int))
def cutB (s : ByteArray) (l h : Int) : ByteArray := s.extract l.toNat h.toNat
def newB (ρ : Operand → AV) : Op → Bool
  | .slice _ x _ _ none => match ρ x with | .p _ _ => true | .s _ _ _ _ => true | .v (.string _) => true | _ => false
  | .convert _ _ x => match ρ x with | .s _ _ _ _ => true | _ => false
  | .binOp .add _ x y _ => match ρ x, ρ y with | .v (.string _), .v (.string _) => true | _, _ => false
  | .indexAddr _ x _ => match ρ x with | .ox _ => true | _ => false
  | .load _ x => match ρ x with | .oy _ _ => true | _ => false
  | _ => false
def numA (ρ : Operand → AV) (v : Option Operand) (d : Int) : Option Int := match v with
  | none => some d
  | some y => match ρ y with | .v (.int _ i) => some i | _ => none
/-- Slices of arrays, slices and strings; strings of bytes; strings one behind the other; what came in. -/
def xnew {R : Type} (E : Eng) (h : Heap) (ok : Nat → Bool) (ρ : Operand → AV) (o : Op) (K : AV → Option R) : Option R := match o with
  | .slice t x lo hi none => match ρ x, E.P.underlying t with
    | .p b o, some (.array n e) => match sizeT E.P e with
      | some z => xbnd ρ hi n n fun h => xbnd ρ lo 0 h fun l => K (.s b (if n = l then o else o + l * z) (h - l) (n - l))
      | none => none
    | .s b o n c, some (.slice e) => match sizeT E.P e with
      | some z => xbnd ρ hi n c fun h => xbnd ρ lo 0 h fun l => K (.s b (if c = l then o else o + l * z) (h - l) (c - l))
      | none => none
    | .v (.string s), some .string => match numA ρ lo 0, numA ρ hi s.size with
      | some l, some h => br (within3 l h s.size) (K (.v (.string (cutB s l h)))) none
      | _, _ => none
    | _, _ => none
  | .convert src dst x => match ρ x, E.P.underlying src, E.P.underlying dst with
    | .s b o n _, some (.slice e), some .string => match E.P.underlying e with
      | some (.int .u8) => if ok (2 * b) then match hat h b with
        | some (_, cs) => if o + n ≤ cs.length then match bytesOf ((cs.drop o).take n) with | some l => K (.v (.string ⟨l.toArray⟩)) | none => none else none
        | none => none else none
      | _ => none
    | _, _, _ => none
  | .binOp .add _ x y _ => match ρ x, ρ y with
    | .v (.string a), .v (.string b) => br (catOk a b) (K (.v (.string (a ++ b)))) none
    | _, _ => none
  | .indexAddr t x ix => match ρ x, ρ ix, E.P.underlying t with
    | .ox k, .v (.int _ i), some (.slice e) => match E.os k, sizeT E.P e with
      | some s, some z => if z = s.z then br (inI i (s.n : Int)) (K (.oy k i)) none else none
      | _, _ => none
    | _, _, _ => none
  | .load t x => match ρ x with
    | .oy k i => match E.os k, aggT E.P t, sizeT E.P t with
      | some s, some true, some z => if z = s.z then br (inI i (s.n : Int)) (K (.v (.agg (s.row i).toArray))) none else none
      | some s, some false, some z => if z = s.z ∧ z = 1 then br (inI i (s.n : Int)) (match (s.row i)[0]? with | some v => K (.v v) | none => none) none else none
      | _, _, _ => none
    | _ => none
  | _ => none
/-- An operation, but for calls of the program's functions. -/
def xop {R : Type} (E : Eng) (h : Heap) (k : Nat) (ok : Nat → Bool) (ρ : Operand → AV) (o : Oper) (K : AV → Eff → Option R) : Option R :=
  match newB ρ o.op with
  | true => xnew E h ok ρ o.op fun v => K v .nop
  | false => xop0 E h k ok ρ o K
/-! ### The reckoning is right -/
structure EngOk (E : Eng) (N : Base) (w0 : World) : Prop where
  gl : ∀ g cs, E.gl g = some cs → g < N ∧ cs.all AV.vir = true ∧ ∃ t fr, w0.heap[g]? = some (.cells (cs.map (AV.re N.g)).toArray t fr)
  os : ∀ k s, E.os k = some s → N.g (vx k 0) < N ∧ N.g (vx k 2) = s.n ∧ N.g (vx k 4) = s.z ∧ ∃ (cs : List Value) (t : TypeId) (fr : Nat × Nat), w0.heap[N.g (vx k 0)]? = some (.cells cs.toArray t fr) ∧ ∀ i : Int, 0 ≤ i → i < s.n → N.g (vx k 1) + i.toNat * s.z + s.z ≤ cs.length ∧ (cs.drop (N.g (vx k 1) + i.toNat * s.z)).take s.z = s.row i
  gi : ∀ g k l, E.gi g = some (k, l) → g < N ∧ ∃ t fr, w0.heap[g]? = some (.cells (l.map (Value.int k)).toArray t fr)
  eq1 : ∀ t xs ys b, E.eqf t xs ys = some b → ∀ (x y : Operand) w, (do eqGuard .eql t x y (.agg xs) (.agg ys); binOp .eql t (.agg xs) (.agg ys)).run E.P w = .ok (.bool b) w
  eq2 : ∀ t xs ys b, E.eqf t xs ys = some b → ∀ (x y : Operand) w, (do eqGuard .neq t x y (.agg xs) (.agg ys); binOp .neq t (.agg xs) (.agg ys)).run E.P w = .ok (.bool (!b)) w
  smE : ∀ f S, E.sm f = some S → ∀ args w, (callFunc f args).run E.P w = .ok (.enter f args) w
  smC : ∀ f S, E.sm f = some S → ∀ vs t w, Below N w0 w → S.get vs = some (some t) → Calls E.P f vs.toArray w fun e w' => e = .returned (S.enc t) ∧ Below w.heap.size w w'
theorem allV_re {φ : Nat → Nat} : ∀ {l : List AV} {vs : List Value}, allV l = some vs → l.map (AV.re φ) = vs
  | [], vs, h => by simp only [allV, Option.some.injEq] at h; subst h; rfl
  | .v x :: r, vs, h => by
    simp only [allV] at h
    split at h
    · rename_i l e
      obtain rfl := Option.some.inj h
      rw [List.map_cons, allV_re e]
      rfl
    · cases h
  | .p _ _ :: r, vs, h => by cases h
  | .s _ _ _ _ :: r, vs, h => by cases h
  | .f _ _ :: r, vs, h => by cases h
  | .ox _ :: r, vs, h => by cases h
  | .oy _ _ :: r, vs, h => by cases h
  | .u :: r, vs, h => by cases h
section
variable {E : Eng} {N : Base} {w0 w : World} {φ : Nat → Nat} {h : Heap}
theorem isV_known {x : AV} (h : x.isV = true) : x.known = true := by cases x <;> first | rfl | cases h
theorem cells_re {x : AV} {ψ : Nat → Nat} : (x.re ψ).cells = ((cellsA x).map (AV.re ψ)).toArray := by
  cases x with
  | v x =>
    simp only [AV.re, cellsA, List.map_map]
    have e : (AV.re ψ ∘ AV.v) = id := rfl
    rw [e, List.map_id]
  | _ => rfl
theorem cells_stable {x : AV} (st : Stable φ h x) : ∀ c ∈ cellsA x, Stable φ h c := by
  cases x with
  | v x =>
    intro c hc
    simp only [cellsA, List.mem_map] at hc
    obtain ⟨y, _, rfl⟩ := hc
    exact fun ψ _ => rfl
  | _ =>
    intro c hc
    simp only [cellsA, List.mem_singleton] at hc
    subst hc
    exact st
theorem v_stable {x : Value} : Stable φ h (.v x) := fun _ _ => rfl
theorem le_vx {k j : Nat} : VB ≤ vx k j := Nat.le_add_right _ _
theorem vir_re {x : AV} (hx : x.vir = true) {φ ψ : Nat → Nat} (e : ∀ b, VB ≤ b → ψ b = φ b) : x.re ψ = x.re φ := by
  cases x with
  | v x => rfl
  | ox k => simp only [AV.re, e _ le_vx]
  | oy k i => simp only [AV.re, e _ le_vx]
  | _ => cases hx
theorem vir_stable {x : AV} (hx : x.vir = true) : Stable φ h x := fun ψ a => vir_re hx fun b hb => a b (.inr hb)
theorem ox_stable {k : Nat} : Stable φ h (.ox k) := vir_stable rfl
theorem oy_stable {k : Nat} {i : Int} : Stable φ h (.oy k i) := vir_stable rfl
theorem run_typeInfo {P : Program} {t : TypeId} {i : TypeInfo} (hi : P.info? t = some i) (w : World) : (typeInfo t).run P w = .ok i w := by simp [typeInfo, hi]
theorem run_underlying' {P : Program} {t : TypeId} {d : TypeDesc} (hi : P.underlying t = some d) (w : World) : (underlying t).run P w = .ok d w := by simp [underlying, hi]
theorem run_sizeOf {P : Program} {t : TypeId} {n : Nat} (hn : sizeT P t = some n) (w : World) : (sizeOf t).run P w = .ok n w := by
  unfold sizeT at hn
  split at hn
  · rename_i i hi
    obtain rfl := Option.some.inj hn
    simp [sizeOf, run_typeInfo hi]
  · cases hn
theorem run_isAgg {P : Program} {t : TypeId} {b : Bool} (hb : aggT P t = some b) (w : World) : (isAgg t).run P w = .ok b w := by
  unfold aggT at hb
  split at hb <;> first | (obtain rfl := Option.some.inj hb) | cases hb
  all_goals (rename_i e; simp [isAgg, run_underlying' e])
theorem run_loadA {P : Program} {t ty : TypeId} {fr : Nat × Nat} {cs : List AV} {o g : Nat} {v : AV} (hv : loadA P t cs o = some v) (hw : w.heap[g]? = some (.cells (cs.map (AV.re φ)).toArray ty fr)) :
    (loadVar t ⟨g, o, none⟩).run P w = .ok (v.re φ) w := by
  unfold loadA at hv
  split at hv
  · rename_i n e1 e2
    split at hv
    · rename_i le
      split at hv
      · rename_i vs ev
        obtain rfl := Option.some.inj hv
        have z := reads (P := P) (o := o) hw n 0 #[] (by simpa using le)
        simp only [Nat.add_zero, Array.empty_append] at z
        rw [← List.map_drop, ← List.map_take, allV_re ev] at z
        simp [loadVar, run_isAgg e1, run_sizeOf e2, loadCells, z, AV.re]
      · cases hv
    · cases hv
  · rename_i n e1 e2
    unfold loadVar
    rw [Sem.run_bind, run_isAgg e1]
    simp only [Result.andThen_ok, Bool.false_eq_true, if_false]
    exact read1 hw (by rw [List.getElem?_map, hv]; rfl)
  · cases hv
theorem loadA_stable {P : Program} {t : TypeId} {cs : List AV} {o : Nat} {v : AV} (hv : loadA P t cs o = some v) (st : ∀ c ∈ cs, Stable φ h c) : Stable φ h v := by
  unfold loadA at hv
  split at hv
  · split at hv
    · split at hv
      · obtain rfl := Option.some.inj hv
        exact v_stable
      · cases hv
    · cases hv
  · exact st v (List.mem_of_getElem? hv)
  · cases hv
theorem Lies.stable (l : Lies N w0 φ h w) {b : Nat} {t : TypeId} {cs : List AV} (hb : hat h b = some (t, cs)) : ∀ c ∈ cs, Stable φ h c := by
  intro c hc ψ a
  have z := (l.blk b t cs hb).2
  have z1 := z ψ a
  rw [z φ (Agr.refl _ _)] at z1
  injection z1 with z1
  injection z1 with z1
  have z2 := congrArg Array.toList z1
  simp only at z2
  obtain ⟨i, hi, rfl⟩ := List.getElem_of_mem hc
  have e1 : (cs.map (AV.re φ))[i]? = (cs.map (AV.re ψ))[i]? := congrArg (·[i]?) z2
  rw [List.getElem?_map, List.getElem?_map, List.getElem?_eq_getElem hi] at e1
  exact (Option.some.inj e1).symm
theorem done_same (l : Lies N w0 φ h w) {v : AV} (st : Stable φ h v) {res : Result Next} (hr : res = .ok (.value (v.re φ)) w) : Done N w0 φ h h v res :=
  ⟨φ, w, Agr.refl _ _, Sub.refl _, l, st, .inl hr⟩
theorem add_off {b o n : Nat} : (⟨b, o, none⟩ : Addr).add n = ⟨b, o + n, none⟩ := by
  unfold Addr.add
  split
  · rename_i k; subst k; rfl
  · rfl
theorem caps_re {ψ : Nat → Nat} : ∀ {l : List AV} {c : List (Nat × Nat)}, caps l = some c → l.map (AV.re ψ) = c.map fun c => Value.pointer (some ⟨ψ c.1, c.2, none⟩)
  | [], c, hc => by simp only [caps, Option.some.injEq] at hc; subst hc; rfl
  | .p b o :: r, c, hc => by
    simp only [caps] at hc
    split at hc
    · rename_i x e
      obtain rfl := Option.some.inj hc
      rw [List.map_cons, List.map_cons, caps_re e]
      rfl
    · cases hc
  | .v _ :: r, c, hc => by cases hc
  | .s _ _ _ _ :: r, c, hc => by cases hc
  | .f _ _ :: r, c, hc => by cases hc
  | .ox _ :: r, c, hc => by cases hc
  | .oy _ _ :: r, c, hc => by cases hc
  | .u :: r, c, hc => by cases hc
theorem caps_known : ∀ {l : List AV} {c : List (Nat × Nat)}, caps l = some c → ∀ x ∈ l, x.known = true
  | [], c, hc => fun x hx => by cases hx
  | .p b o :: r, c, hc => fun x hx => by
    simp only [caps] at hc
    split at hc
    · rename_i y e
      rcases List.mem_cons.1 hx with rfl | hx
      · rfl
      · exact caps_known e x hx
    · cases hc
  | .v _ :: r, c, hc => by cases hc
  | .s _ _ _ _ :: r, c, hc => by cases hc
  | .f _ _ :: r, c, hc => by cases hc
  | .ox _ :: r, c, hc => by cases hc
  | .oy _ _ :: r, c, hc => by cases hc
  | .u :: r, c, hc => by cases hc
theorem allV_known : ∀ {l : List AV} {c : List Value}, allV l = some c → ∀ x ∈ l, x.known = true
  | [], c, hc => fun x hx => by cases hx
  | .v b :: r, c, hc => fun x hx => by
    simp only [allV] at hc
    split at hc
    · rename_i y e
      rcases List.mem_cons.1 hx with rfl | hx
      · rfl
      · exact allV_known e x hx
    · cases hc
  | .p _ _ :: r, c, hc => by cases hc
  | .s _ _ _ _ :: r, c, hc => by cases hc
  | .f _ _ :: r, c, hc => by cases hc
  | .ox _ :: r, c, hc => by cases hc
  | .oy _ _ :: r, c, hc => by cases hc
  | .u :: r, c, hc => by cases hc
/-- Operations on memory. -/
theorem memOp_done (ok : EngOk E N w0) (l : Lies N w0 φ h w) {k : Nat} {okb : Nat → Bool} {ρ : Operand → AV} {a : Act} (ev : ∀ x, (ρ x).known = true → a.eval x = (ρ x).re φ) (st : ∀ x, Stable φ h (ρ x)) {o : Oper} {v : AV} {e : Eff} (hm : memOp E h k okb ρ o.op = some (v, e)) :
    Done N w0 φ h (e.on k h) v ((execOp a.eval o).run E.P w) := by
  obtain ⟨dst, op, type, pos, after, guard⟩ := o
  simp only at hm
  unfold memOp at hm
  split at hm
  · rename_i x
    split at hm
    · rename_i kn
      simp only [Option.some.injEq, Prod.mk.injEq] at hm
      obtain ⟨rfl, rfl⟩ := hm
      exact done_same l (st x) (by simp [execOp, ev x kn])
    · cases hm
  · rename_i x
    split at hm
    · rename_i kn
      simp only [Option.some.injEq, Prod.mk.injEq] at hm
      obtain ⟨rfl, rfl⟩ := hm
      exact done_same l (st x) (by simp [execOp, ev x kn])
    · cases hm
  · rename_i t
    split at hm
    · rename_i z hz
      split at hm
      · rename_i c
        simp only [Option.some.injEq, Prod.mk.injEq] at hm
        obtain ⟨rfl, rfl⟩ := hm
        unfold zeroT at hz
        split at hz
        · rename_i i hi
          obtain ⟨φ', e1, ag, sb, l'⟩ := l.fill c.1.1 c.1.2 c.2 t (z.cells.toList.map .v) (fun c hc => by
            simp only [List.mem_map] at hc
            obtain ⟨y, _, rfl⟩ := hc
            exact v_stable)
          refine ⟨φ', _, ag, sb, l', fun ψ a => ?_, .inl ?_⟩
          · simp only [AV.re]
            rw [a k (.inl (by rw [Eff.on, hat_set_eq c.1.2]; rfl))]
          · have e2 : (z.cells.toList.map AV.v).map (AV.re φ) = z.cells.toList := by
              rw [List.map_map]
              have e : (AV.re φ ∘ AV.v) = id := rfl
              rw [e, List.map_id]
            rw [e2]
            simp [execOp, Instr.alloc, zeroValue, run_typeInfo hi, hz, newVar, newRow, AV.re, e1]
        · cases hz
      · cases hm
    · cases hm
  · rename_i t x
    split at hm
    · rename_i c
      simp only [Option.some.injEq, Prod.mk.injEq] at hm
      obtain ⟨rfl, rfl⟩ := hm
      obtain ⟨φ', e1, ag, sb, l'⟩ := l.fill c.1.1.1 c.1.1.2 c.1.2 t (cellsA (ρ x)) (cells_stable (st x))
      refine ⟨φ', _, ag, sb, l', fun ψ a => ?_, .inl ?_⟩
      · simp only [AV.re]
        rw [a k (.inl (by rw [Eff.on, hat_set_eq c.1.1.2]; rfl))]
      · rw [← cells_re, ← ev x c.2]
        simp [execOp, Instr.box, newVar, newRow, AV.re, e1]
    · cases hm
  · rename_i t n ps
    split at hm
    · rename_i el hu
      split at hm
      · rename_i z zv hz hzv
        split at hm
        · rename_i c
          obtain ⟨⟨c1, c2, cv, c3⟩, c4, c5⟩ := c
          split at hm
          · rename_i cs hcs
            simp only [Option.some.injEq, Prod.mk.injEq] at hm
            obtain ⟨rfl, rfl⟩ := hm
            unfold zeroT at hzv
            split at hzv
            · rename_i i hi
              obtain ⟨φ', e1, ag, sb, l'⟩ := l.fill cv c3 c4 el (cs.toList.map .v) (fun c hc => by
                simp only [List.mem_map] at hc
                obtain ⟨y, _, rfl⟩ := hc
                exact v_stable)
              refine ⟨φ', _, ag, sb, l', fun ψ a => ?_, .inl ?_⟩
              · simp only [AV.re]
                rw [a k (.inl (by rw [Eff.on, hat_set_eq c3]; rfl))]
              · have e2 : (cs.toList.map AV.v).map (AV.re φ) = cs.toList := by
                  rw [List.map_map]
                  have e : (AV.re φ ∘ AV.v) = id := rfl
                  rw [e, List.map_id]
                rw [e2]
                have e3 : ps.toList.map (fun p => (p.1, a.eval p.2)) = ps.toList.map fun p => (p.1, rv ρ p.2) := List.map_congr_left fun p hp => by
                  have := Array.all_eq_true'.1 c5 p (by simpa using hp)
                  rw [ev p.2 (isV_known this)]
                  unfold rv
                  cases hx2 : ρ p.2 <;> rw [hx2] at this <;> first | rfl | cases this
                have e4 : (ps.map fun x => match x with | (i, x) => (i, a.eval x)).toList = ps.toList.map fun p => (p.1, rv ρ p.2) := by
                  rw [Array.toList_map, ← e3]
                simp only [execOp, Instr.buildSlice, Sem.run_bind, run_underlying' hu, Result.andThen_ok, run_sizeOf hz]
                rw [if_neg (by omega), if_neg c2]
                simp only [Sem.run_bind, Sem.run_pure, Result.andThen_ok, zeroValue, run_typeInfo hi, hzv, e4, hcs, newRow, run_newObj_alloc, AV.re, e1]
            · cases hzv
          · cases hm
        · cases hm
      · cases hm
    · cases hm
  · rename_i t x
    split at hm
    · rename_i b o hp
      split at hm
      · split at hm
        · rename_i ty cs hb
          split at hm
          · rename_i v' hv
            simp only [Option.some.injEq, Prod.mk.injEq] at hm
            obtain ⟨rfl, rfl⟩ := hm
            refine done_same l (loadA_stable hv (l.stable hb)) ?_
            have z := run_loadA (P := E.P) hv ((l.blk b ty cs hb).2 φ (Agr.refl _ _))
            have ex : a.eval x = .pointer (some ⟨φ b, o, none⟩) := by rw [ev x (by rw [hp]; rfl), hp]; rfl
            simp [execOp, ex, Instr.loadAt, Instr.sureAddr, z]
          · cases hm
        · cases hm
      · cases hm
    · rename_i g o hp
      split at hm
      · rename_i cs hg
        split at hm
        · rename_i v' hv
          simp only [Option.some.injEq, Prod.mk.injEq] at hm
          obtain ⟨rfl, rfl⟩ := hm
          obtain ⟨lt, hvir, ty, fr, hh⟩ := ok.gl g cs hg
          have hw : w.heap[g]? = some (.cells (cs.map (AV.re φ)).toArray ty fr) := by
            have e : cs.map (AV.re φ) = cs.map (AV.re N.g) := List.map_congr_left fun c hc => vir_re (List.all_eq_true.1 hvir c hc) fun b hb => l.vir b hb
            rw [e, l.below.block g lt]
            exact hh
          have z := run_loadA (P := E.P) hv hw
          refine done_same l (loadA_stable hv (fun c hc => vir_stable (List.all_eq_true.1 hvir c hc))) ?_
          have ex : a.eval x = .pointer (some ⟨g, o, none⟩) := by rw [ev x (by rw [hp]; rfl), hp]; rfl
          simp [execOp, ex, Instr.loadAt, Instr.sureAddr]
          exact congrArg (fun r => Result.andThen r _) z
        · cases hm
      · cases hm
    · cases hm
  · rename_i t x y
    split at hm
    · rename_i b o hp
      split at hm
      · rename_i ty cs n hb hn
        split at hm
        · rename_i c
          simp only [Option.some.injEq, Prod.mk.injEq] at hm
          obtain ⟨rfl, rfl⟩ := hm
          obtain ⟨c1, c2, c3, _⟩ := c
          obtain ⟨w', e1, l'⟩ := Lies.puts (P := E.P) (o := o) (cellsA (ρ y)) cs 0 w h l hb (by omega) (fun c hc => ⟨List.all_eq_true.1 c3 c hc, cells_stable (st y) c hc⟩)
          rw [Nat.add_zero] at l'
          have sb : Sub h (h.set b (some (ty, putAll cs o (cellsA (ρ y))))) := fun c hc => by
            rw [some_set (by rw [hb]; rfl)]
            exact hc
          refine ⟨φ, w', Agr.refl _ _, sb, l', v_stable, .inr ⟨?_, rfl⟩⟩
          have e2 : ((ρ y).re φ).cells.toList = (cellsA (ρ y)).map (AV.re φ) := by rw [cells_re]
          have e3 : ((ρ y).re φ).cells.size = n := by rw [← Array.length_toList, e2, List.length_map, c1]
          have ex : a.eval x = .pointer (some ⟨φ b, o, none⟩) := by rw [ev x (by rw [hp]; rfl), hp]; rfl
          obtain ⟨V, hV⟩ : ∃ V, (ρ y).re φ = V := ⟨_, rfl⟩
          have ky : (ρ y).known = true := by
            cases q : ρ y with
            | u =>
              rw [q] at c3
              cases c3
            | _ => rfl
          have ey : a.eval y = V := by rw [ev y ky, hV]
          rw [hV] at e2 e3
          simp [execOp, ex, ey, Instr.storeAt, Instr.sureAddr, storeVar, run_sizeOf hn, e3, e2, e1]
        · cases hm
      · cases hm
    · cases hm
  · rename_i t x f
    split at hm
    · rename_i b o fs hp hu
      split at hm
      · rename_i fd hf
        split at hm
        · rename_i n hn
          simp only [Option.some.injEq, Prod.mk.injEq] at hm
          obtain ⟨rfl, rfl⟩ := hm
          refine done_same l (fun ψ a => ?_) ?_
          · have := st x ψ a
            rw [hp] at this
            injection this with q
            injection q with q
            injection q with q
            simp only [AV.re, q]
          · have ex : a.eval x = .pointer (some ⟨φ b, o, none⟩) := by rw [ev x (by rw [hp]; rfl), hp]; rfl
            simp [execOp, ex, AV.re, Instr.fieldAt, run_underlying' hu, hf, Instr.sureAddr, fieldPlace, run_sizeOf hn, add_off]
        · cases hm
      · cases hm
    · cases hm
  · rename_i f first cs
    split at hm
    · rename_i fe
      split at hm
      · rename_i l' hc
        split at hm
        · cases hm
        · simp only [Option.some.injEq, Prod.mk.injEq] at hm
          obtain ⟨rfl, rfl⟩ := hm
          have c1 : ∀ ψ, (cs.toList.map ρ).map (AV.re ψ) = l'.map fun c => Value.pointer (some ⟨ψ c.1, c.2, none⟩) := fun ψ => caps_re hc
          refine done_same l (fun ψ a => ?_) ?_
          · simp only [AV.re]
            rw [← c1 ψ, ← c1 φ, List.map_map, List.map_map]
            have : (cs.toList.map (AV.re ψ ∘ ρ)) = cs.toList.map (AV.re φ ∘ ρ) := List.map_congr_left fun x _ => st x ψ a
            rw [this]
          · have f0 : first = #[] := by simpa using fe
            subst f0
            have e2 : cs.map a.eval = (l'.map fun c => Value.pointer (some ⟨φ c.1, c.2, none⟩)).toArray := by
              apply Array.ext'
              rw [Array.toList_map, ← c1 φ, List.map_map]
              exact List.map_congr_left fun x hx => ev x (caps_known hc _ (List.mem_map_of_mem hx))
            simp [execOp, Instr.makeFunc, AV.re, e2]
      · cases hm
    · cases hm
  · rename_i x
    split at hm
    · rename_i b o hp
      simp only [Option.some.injEq, Prod.mk.injEq] at hm
      obtain ⟨rfl, rfl⟩ := hm
      refine done_same l (by have := st x; rwa [hp] at this) ?_
      have ex : a.eval x = .pointer (some ⟨φ b, o, none⟩) := by rw [ev x (by rw [hp]; rfl), hp]; rfl
      simp [execOp, ex, AV.re]
    · cases hm
  · rename_i xs ats
    split at hm
    · rename_i b o n c t e1 e2
      split at hm
      · rename_i el hu
        simp only [Option.some.injEq, Prod.mk.injEq] at hm
        obtain ⟨rfl, rfl⟩ := hm
        refine done_same l v_stable ?_
        have x1 : xs.map a.eval = #[.slice (some ⟨φ b, o, none⟩) n c] := by
          apply Array.ext'
          have : xs.toList.map a.eval = (xs.toList.map ρ).map (AV.re φ) := by
            rw [List.map_map]
            refine List.map_congr_left fun x hx => ev x ?_
            have m : ρ x ∈ xs.toList.map ρ := List.mem_map_of_mem hx
            rw [e1] at m
            simp only [List.mem_singleton] at m
            rw [m]
            rfl
          rw [Array.toList_map, this, e1]
          rfl
        simp [execOp, resolve, x1, invoke, builtin, Builtin.len_, e2, run_underlying' hu, goInt, AV.re]
      · cases hm
    · rename_i kk t e1 e2
      split at hm
      · rename_i el s hu hs
        simp only [Option.some.injEq, Prod.mk.injEq] at hm
        obtain ⟨rfl, rfl⟩ := hm
        refine done_same l v_stable ?_
        have en : φ (vx kk 2) = s.n := by rw [l.vir _ le_vx]; exact (ok.os kk s hs).2.1
        have x1 : xs.map a.eval = #[.slice (some ⟨φ (vx kk 0), φ (vx kk 1), none⟩) s.n (φ (vx kk 3))] := by
          apply Array.ext'
          have : xs.toList.map a.eval = (xs.toList.map ρ).map (AV.re φ) := by
            rw [List.map_map]
            refine List.map_congr_left fun x hx => ev x ?_
            have m : ρ x ∈ xs.toList.map ρ := List.mem_map_of_mem hx
            rw [e1] at m
            simp only [List.mem_singleton] at m
            rw [m]
            rfl
          rw [Array.toList_map, this, e1]
          simp only [List.map_cons, List.map_nil, AV.re, en]
        simp [execOp, resolve, x1, invoke, builtin, Builtin.len_, e2, run_underlying' hu, goInt, AV.re]
      · cases hm
    · cases hm
  · cases hm
end
theorem xidx_at (i : Int) : ∀ (m j : Nat), (∃ q, ∀ (R : Type) (f : Nat → Option R), xidx i f m j = f q) ∨ (∀ (R : Type) (f : Nat → Option R), xidx i f m j = none)
  | 0, j => .inr fun R f => rfl
  | m + 1, j => by
    by_cases c : i = (j : Int)
    · exact .inl ⟨j, fun R f => by rw [xidx, br, if_pos (by simpa [eqI] using c)]⟩
    · rcases xidx_at i m (j + 1) with ⟨q, h⟩ | h
      · exact .inl ⟨q, fun R f => by rw [xidx, br, if_neg (by simpa [eqI] using c)]; exact h R f⟩
      · exact .inr fun R f => by rw [xidx, br, if_neg (by simpa [eqI] using c)]; exact h R f
theorem xidx_eq {i : Int} : ∀ {m j : Nat} {R : Type} {f : Nat → Option R} {r : R}, xidx i f m j = some r → ∃ q, f q = some r ∧ j ≤ q ∧ q < j + m ∧ i = (q : Int) ∧ ∀ (S : Type) (g : Nat → Option S), xidx i g m j = g q
  | 0, j, R, f, r, H => by cases H
  | m + 1, j, R, f, r, H => by
    rw [xidx, br] at H
    split at H
    · rename_i c
      exact ⟨j, H, by omega, by omega, by simpa [eqI] using c, fun S g => by rw [xidx, br, if_pos c]⟩
    · rename_i c
      obtain ⟨q, h1, h2, h3, h4, h5⟩ := xidx_eq H
      exact ⟨q, h1, by omega, by omega, h4, fun S g => by rw [xidx, br, if_neg c]; exact h5 S g⟩
theorem xbin_dir {R : Type} {op : BinOp} {j : IntKind} {a : Int} {j' : IntKind} {b : Int} {K : Value → Option R} {r : R} (H : xbin op j a j' b K = some r) : ∃ v, K v = some r ∧ ∀ (S : Type) (g : Value → Option S), xbin op j a j' b g = g v := by
  unfold xbin at H
  simp only [br] at H
  split at H <;> (repeat' (split at H)) <;> first
    | (cases H; done)
    | (refine ⟨_, H, fun S g => ?_⟩; simp_all [xbin, br]; done)
    | (refine ⟨_, H, fun S g => ?_⟩; rename_i hn; simp only [xbin, br]; rw [if_neg hn])
theorem xop0_dir {E : Eng} {R : Type} {h : Heap} {k : Nat} {okb : Nat → Bool} {ρ : Operand → AV} {o : Oper} {K : AV → Eff → Option R} {r : R} (H : xop0 E h k okb ρ o K = some r) :
    ∃ v e, xop0 E h k okb ρ o (fun v e => some (v, e)) = some (v, e) ∧ K v e = some r := by
  unfold xop0 at H ⊢
  simp only [br] at H ⊢
  split at H
  · rename_i v e hm
    exact ⟨v, e, rfl, H⟩
  · rename_i hm
    split at H <;> (repeat' (split at H)) <;> first
      | cases H
      | exact ⟨_, _, by simp [*], H⟩
      | (obtain ⟨t, ht, H⟩ := Option.bind_eq_some_iff.1 H; exact ⟨_, _, by simp [*], H⟩)
      | (obtain ⟨v, H, hq⟩ := xbin_dir H; exact ⟨_, _, (by simp only [hq]), H⟩)
      | (obtain ⟨q, H, _, _, _, hq⟩ := xidx_eq H; (try simp only at H); (try (split at H)) <;> first | (cases H; done) | exact ⟨_, _, by (rw [hq]) <;> simp [*], H⟩ | exact ⟨_, _, by (simp only [hq]) <;> simp [*], H⟩)
theorem xbnd_dir {R : Type} {ρ : Operand → AV} {v : Option Operand} {d m : Nat} {f : Nat → Option R} {r : R} (H : xbnd ρ v d m f = some r) : ∃ q, f q = some r ∧ (∀ (S : Type) (g : Nat → Option S), xbnd ρ v d m g = g q) ∧ (v = none → q = d) ∧ ∀ y, v = some y → q ≤ m ∧ ∃ j, ρ y = .v (.int j (q : Int)) := by
  cases v with
  | none => exact ⟨d, H, fun S g => rfl, fun _ => rfl, fun y h => by cases h⟩
  | some y =>
    unfold xbnd at H
    simp only at H
    split at H
    · rename_i j i hy
      obtain ⟨q, h1, h2, h3, h4, h5⟩ := xidx_eq H
      refine ⟨q, h1, fun S g => ?_, ?_, ?_⟩
      · unfold xbnd
        simp only [hy]
        exact h5 S g
      · intro h; cases h
      · intro y' h
        cases h
        exact ⟨by omega, j, by rw [hy, h4]⟩
    · cases H
theorem xnew_dir {E : Eng} {R : Type} {h : Heap} {ok : Nat → Bool} {ρ : Operand → AV} {o : Op} {K : AV → Option R} {r : R} (H : xnew E h ok ρ o K = some r) : ∃ v, K v = some r ∧ ∀ (S : Type) (g : AV → Option S), xnew E h ok ρ o g = g v := by
  unfold xnew at H ⊢
  simp only [br] at H ⊢
  split at H
  · split at H
    · rename_i b o' n e hx hu
      split at H
      · rename_i z hz
        obtain ⟨q, hq, g1, _, _⟩ := xbnd_dir H
        obtain ⟨p, hp, g2, _, _⟩ := xbnd_dir hq
        exact ⟨_, hp, fun S g => by simp only [hx, hu, hz, g1, g2]⟩
      · cases H
    · rename_i b o' n c e hx hu
      split at H
      · rename_i z hz
        obtain ⟨q, hq, g1, _, _⟩ := xbnd_dir H
        obtain ⟨p, hp, g2, _, _⟩ := xbnd_dir hq
        exact ⟨_, hp, fun S g => by simp only [hx, hu, hz, g1, g2]⟩
      · cases H
    · (repeat' (split at H)) <;> first
        | (cases H; done)
        | exact ⟨_, H, fun S g => by simp [*]⟩
    · cases H
  · (repeat' (split at H)) <;> first
      | (cases H; done)
      | exact ⟨_, H, fun S g => by simp [*]⟩
  · (repeat' (split at H)) <;> first
      | (cases H; done)
      | exact ⟨_, H, fun S g => by simp [*]⟩
  · (repeat' (split at H)) <;> first
      | (cases H; done)
      | exact ⟨_, H, fun S g => by simp [*]⟩
  · split at H
    · rename_i k i hx
      split at H
      · rename_i s z hs ha hz
        split at H
        · split at H
          · exact ⟨_, H, fun S g => by simp [*]⟩
          · cases H
        · cases H
      · rename_i s z hs ha hz
        split at H
        · rename_i c
          split at H
          · split at H
            · rename_i v hv
              refine ⟨.v v, H, fun S g => ?_⟩
              rw [if_pos c, if_pos (by assumption)]
            · cases H
          · cases H
        · cases H
      · cases H
    · cases H
  · cases H
theorem xop_dir {E : Eng} {R : Type} {h : Heap} {k : Nat} {okb : Nat → Bool} {ρ : Operand → AV} {o : Oper} {K : AV → Eff → Option R} {r : R} (H : xop E h k okb ρ o K = some r) :
    ∃ v e, xop E h k okb ρ o (fun v e => some (v, e)) = some (v, e) ∧ K v e = some r := by
  unfold xop at H ⊢
  split at H
  · rename_i hb
    obtain ⟨v, h1, h2⟩ := xnew_dir H
    exact ⟨v, .nop, h2 _ _, h1⟩
  · exact xop0_dir H
section
variable {E : Eng} {N : Base} {w0 w : World} {φ : Nat → Nat} {h : Heap}
theorem wp_of_done {P : Program} {o : Oper} {a : Act} {h' : Heap} {v : AV} {K : Act → World → Prop} {Q : Exit → Act → World → Prop} (d : Done N w0 φ h h' v ((execOp a.eval o).run P w))
    (hK : ∀ φ' w', Agr φ φ' h → Sub h h' → Lies N w0 φ' h' w' → Stable φ' h' v → K (a.put o.dst (v.re φ')) w') : o.wp P a w K Q := by
  obtain ⟨φ', w', ag, sb, l', st, hr | ⟨hr, hv⟩⟩ := d
  · unfold Oper.wp
    rw [hr]
    exact hK φ' w' ag sb l' st
  · unfold Oper.wp
    rw [hr]
    have := hK φ' w' ag sb l' st
    rw [hv] at this
    exact this
theorem pure_run {P : Program} {ρ : Operand → AV} {o : Oper} {v : Value} {a : Act} (ev : ∀ x, (ρ x).known = true → a.eval x = (ρ x).re φ) (hp : pureOp P ρ o = some v) (w : World) : (execOp a.eval o).run P w = .ok (.value v) w := by
  unfold pureOp at hp
  split at hp <;> (try (cases hp; done))
  · rename_i ns _ _ _ _ _
    split at hp
    · rename_i hv
      split at hp
      · rename_i u hr
        obtain rfl := Option.some.inj hp
        rw [execOp_congr o (fun cs b e => ns cs b e) (fun x hx => ?_)]
        · exact runP_run hr w
        · have := Array.all_eq_true'.1 hv x hx
          rw [ev x (isV_known this)]
          unfold rv
          cases hx2 : ρ x <;> rw [hx2] at this <;> first | rfl | cases this
      · cases hp
    · cases hp
theorem pure_done (l : Lies N w0 φ h w) {ρ : Operand → AV} {o : Oper} {v : Value} {a : Act} (ev : ∀ x, (ρ x).known = true → a.eval x = (ρ x).re φ) (hp : pureOp E.P ρ o = some v) : Done N w0 φ h h (.v v) ((execOp a.eval o).run E.P w) :=
  done_same l v_stable (pure_run ev hp w)
theorem run_shl {P : Program} {k j : IntKind} {x y : Int} (hy : ¬ y < 0) (w : World) : (Op.shift .shl k x j y).run P w = .ok (.int k (shl k x y)) w := by
  simp [Op.shift, hy, shl]
theorem run_shr {P : Program} {k j : IntKind} {x y : Int} (hy : ¬ y < 0) (w : World) : (Op.shift .shr k x j y).run P w = .ok (.int k (shr k x y)) w := by
  simp [Op.shift, hy, shr]
theorem run_equalNil {P : Program} {t : TypeId} {ps rs : Array TypeId} {va : Bool} (hu : P.underlying t = some (.func ps rs va)) {fn : Fn} {first caps : Array Value} (w : World) : (Op.equal t (.func fn first caps) .nilFunc).run P w = .ok false w := by
  have key : ∀ d, (Op.equalIn (d + 1) t (.func fn first caps) .nilFunc).run P w = .ok false w := fun d => by
    simp only [Op.equalIn, Sem.run_bind, run_underlying' hu, Result.andThen_ok]
    rfl
  exact key 9999
theorem run_funcNil1 {P : Program} {t : TypeId} {ps rs : Array TypeId} {va : Bool} (hu : P.underlying t = some (.func ps rs va)) {a : Act} {x y : Operand} {fn : Fn} {first caps : Array Value} (ex : a.eval x = .func fn first caps) (ey : a.eval y = .nilFunc) (w : World) {dst : Option Tmp} {yt type : TypeId} {pos : String} {after : Array Edge} {guard : Option (Nat × Bool)} :
    (execOp a.eval ⟨dst, .binOp .eql t x y yt, type, pos, after, guard⟩).run P w = .ok (.value (.bool false)) w := by
  have z := run_equalNil hu (fn := fn) (first := first) (caps := caps) w
  simp only [execOp, ex, ey, eqGuard, binOp, Sem.run_bind]
  simp [z]
theorem run_funcNil2 {P : Program} {t : TypeId} {ps rs : Array TypeId} {va : Bool} (hu : P.underlying t = some (.func ps rs va)) {a : Act} {x y : Operand} {fn : Fn} {first caps : Array Value} (ex : a.eval x = .func fn first caps) (ey : a.eval y = .nilFunc) (w : World) {dst : Option Tmp} {yt type : TypeId} {pos : String} {after : Array Edge} {guard : Option (Nat × Bool)} :
    (execOp a.eval ⟨dst, .binOp .neq t x y yt, type, pos, after, guard⟩).run P w = .ok (.value (.bool true)) w := by
  have z := run_equalNil hu (fn := fn) (first := first) (caps := caps) w
  simp only [execOp, ex, ey, eqGuard, binOp, Sem.run_bind]
  simp [z]
theorem p_stable {b o o' : Nat} (s1 : Stable φ h (.p b o)) : Stable φ h (.p b o') := fun ψ a => by
  have q := s1 ψ a
  injection q with q
  injection q with q
  injection q with q
  simp only [AV.re, q]
theorem s_stable {b o o' n c : Nat} (s1 : Stable φ h (.s b o n c)) : Stable φ h (.p b o') := fun ψ a => by
  have q := s1 ψ a
  injection q with q
  injection q with q
  injection q with q
  simp only [AV.re, q]
theorem run_guardInt {P : Program} {op : BinOp} {t : TypeId} {x y : Operand} {j j' : IntKind} {p q : Int} {w : World} : (eqGuard op t x y (.int j p) (.int j' q)).run P w = .ok () w := by
  unfold eqGuard
  cases op <;> simp
theorem run_xbin {P : Program} (t : TypeId) {op : BinOp} {j j' : IntKind} {p q : Int} {v : Value} {w : World} (h : xbin op j p j' q some = some v) : (binOp op t (.int j p) (.int j' q)).run P w = .ok v w := by
  unfold xbin at h
  split at h
  iterate 2
    by_cases c : q < 0
    · simp [br, ltI, c] at h
    · simp only [br, ltI, decide_eq_false c] at h
      obtain rfl := Option.some.inj h
      simp [binOp, Op.shift, shl, shr, c]
  all_goals
    by_cases hj : j = j'
    · subst hj
      rw [if_pos rfl] at h
      first
        | (by_cases c : q = 0
           · subst c; simp [br, eqI] at h; done
           · simp [br, eqI, c] at h; subst h; simp [binOp, Op.intArith, Op.intDiv, c]; done)
        | (obtain rfl := Option.some.inj h; simp [binOp, Op.intArith, Op.intCmp, ltI, leI, eqI, bne]; done)
        | (obtain rfl := Option.some.inj h; simp only [binOp]; simp [bitw_eq, intBits_and, intBits_or, intBits_xor, intBits_andNot]; done)
    · rw [if_neg hj] at h
      cases h
theorem run_convertInt {P : Program} {src dst : TypeId} {d : TypeDesc} {j kk : IntKind} {a : Int} (hs : P.underlying src = some d) (hd : P.underlying dst = some (.int j)) (w : World) : (convert src dst (.int kk a)).run P w = .ok (.int j (j.wrap a)) w := by
  unfold convert
  rw [Sem.run_bind, run_underlying' hs, Result.andThen_ok, Sem.run_bind, run_underlying' hd, Result.andThen_ok]
  cases d <;> rfl
/-- An operation that is no call into a function that is gone into. -/
theorem xop0_wp (ok : EngOk E N w0) (l : Lies N w0 φ h w) {k : Nat} {okb : Nat → Bool} {ρ : Operand → AV} {a : Act} (ev : ∀ x, (ρ x).known = true → a.eval x = (ρ x).re φ) (st : ∀ x, Stable φ h (ρ x)) {o : Oper} {v : AV} {e : Eff}
    (H : xop0 E h k okb ρ o (fun v e => some (v, e)) = some (v, e)) {K : Act → World → Prop} {Q : Exit → Act → World → Prop} (hK : ∀ φ' w', Agr φ φ' h → Sub h (e.on k h) → Lies N w0 φ' (e.on k h) w' → Stable φ' (e.on k h) v → K (a.put o.dst (v.re φ')) w') : o.wp E.P a w K Q := by
  unfold xop0 at H
  simp only [br] at H
  split at H
  · rename_i v' e' hm
    simp only [Option.some.injEq, Prod.mk.injEq] at H
    obtain ⟨rfl, rfl⟩ := H
    exact wp_of_done (memOp_done ok l ev st hm) hK
  · have pd : ∀ u, pureOp E.P ρ o = some u → AV.v u = v → Eff.nop = e → o.wp E.P a w K Q := fun u hp hv he => by
      subst hv he
      exact wp_of_done (pure_done l ev hp) hK
    have sd : ∀ u, (execOp a.eval o).run E.P w = .ok (.value u) w → AV.v u = v → Eff.nop = e → o.wp E.P a w K Q := fun u hp hv he => by
      subst hv he
      exact wp_of_done (done_same l v_stable hp) hK
    have bd : ∀ (op : BinOp) (t : TypeId) (x y : Operand) (j : IntKind) (p : Int) (j' : IntKind) (q : Int) {yt : TypeId}, o.op = .binOp op t x y yt → ρ x = .v (.int j p) → ρ y = .v (.int j' q) → xbin op j p j' q (fun v => some (AV.v v, Eff.nop)) = some (v, e) → o.wp E.P a w K Q := fun op t x y j p j' q {yt} ho hx hy hb => by
      obtain ⟨u, hu, hq⟩ := xbin_dir hb
      simp only [Option.some.injEq, Prod.mk.injEq] at hu
      refine sd u ?_ hu.1 hu.2
      have ex : a.eval x = .int j p := by rw [ev x (by rw [hx]; rfl), hx]; rfl
      have ey : a.eval y = .int j' q := by rw [ev y (by rw [hy]; rfl), hy]; rfl
      have hb2 := hq Value some
      obtain ⟨dst, op', type, pos, after, guard⟩ := o
      simp only at ho
      subst ho
      simp only [execOp, ex, ey]
      rw [Sem.run_bind, Sem.run_bind, run_guardInt, Result.andThen_ok, run_xbin t hb2]
      rfl
    obtain ⟨dst, op, type, pos, after, guard⟩ := o
    simp only at H
    split at H
    · rename_i c x y _
      split at H
      · rename_i b hc
        have key : ∀ z, (execOp a.eval ⟨dst, .pick c x y, type, pos, after, guard⟩).run E.P w = .ok (.value ((ρ z).re φ)) w → ρ z = v → Eff.nop = e → Oper.wp E.P ⟨dst, .pick c x y, type, pos, after, guard⟩ a w K Q := fun z hr hv he => by
          subst hv he
          exact wp_of_done (done_same l (st z) hr) hK
        have ec : a.eval c = .bool b := by rw [ev c (by rw [hc]; rfl), hc]; rfl
        split at H
        · rename_i hb
          split at H
          · rename_i kn
            simp only [Option.some.injEq, Prod.mk.injEq] at H
            refine key x ?_ H.1 H.2
            simp [execOp, ec, ev x kn, asBool, hb]
          · cases H
        · rename_i hb
          split at H
          · rename_i kn
            simp only [Option.some.injEq, Prod.mk.injEq] at H
            refine key y ?_ H.1 H.2
            simp [execOp, ec, ev y kn, asBool, hb]
          · cases H
      · cases H
    · rename_i t x y _ _
      split at H
      · rename_i j p j' q hx hy
        exact bd _ _ _ _ _ _ _ _ rfl hx hy H
      · rename_i xs ys hx hy
        split at H
        · rename_i b hb
          simp only [Option.some.injEq, Prod.mk.injEq] at H
          refine sd _ ?_ H.1 H.2
          have z := ok.eq1 t xs ys b hb x y w
          have ex : a.eval x = .agg xs := by rw [ev x (by rw [hx]; rfl), hx]; rfl
          have ey : a.eval y = .agg ys := by rw [ev y (by rw [hy]; rfl), hy]; rfl
          simp only [execOp, ex, ey]
          rw [Sem.run_bind, z]
          rfl
        · cases H
      · rename_i fn cs hx hy
        split at H
        · rename_i hu
          simp only [Option.some.injEq, Prod.mk.injEq] at H
          refine sd _ ?_ H.1 H.2
          have ex : a.eval x = .func (.func fn) #[] (cs.map fun c => Value.pointer (some ⟨φ c.1, c.2, none⟩)).toArray := by rw [ev x (by rw [hx]; rfl), hx]; rfl
          have ey : a.eval y = .nilFunc := by rw [ev y (by rw [hy]; rfl), hy]; rfl
          exact run_funcNil1 hu ex ey w
        · cases H
      · split at H
        · rename_i u hp
          simp only [Option.some.injEq, Prod.mk.injEq] at H
          exact pd u hp H.1 H.2
        · cases H
    · rename_i t x y _ _
      split at H
      · rename_i j p j' q hx hy
        exact bd _ _ _ _ _ _ _ _ rfl hx hy H
      · rename_i xs ys hx hy
        split at H
        · rename_i b hb
          simp only [Option.some.injEq, Prod.mk.injEq] at H
          refine sd _ ?_ H.1 H.2
          have z := ok.eq2 t xs ys b hb x y w
          have ex : a.eval x = .agg xs := by rw [ev x (by rw [hx]; rfl), hx]; rfl
          have ey : a.eval y = .agg ys := by rw [ev y (by rw [hy]; rfl), hy]; rfl
          simp only [execOp, ex, ey]
          rw [Sem.run_bind, z]
          rfl
        · cases H
      · rename_i fn cs hx hy
        split at H
        · rename_i hu
          simp only [Option.some.injEq, Prod.mk.injEq] at H
          refine sd _ ?_ H.1 H.2
          have ex : a.eval x = .func (.func fn) #[] (cs.map fun c => Value.pointer (some ⟨φ c.1, c.2, none⟩)).toArray := by rw [ev x (by rw [hx]; rfl), hx]; rfl
          have ey : a.eval y = .nilFunc := by rw [ev y (by rw [hy]; rfl), hy]; rfl
          exact run_funcNil2 hu ex ey w
        · cases H
      · split at H
        · rename_i u hp
          simp only [Option.some.injEq, Prod.mk.injEq] at H
          exact pd u hp H.1 H.2
        · cases H
    · rename_i op t x y _ _ _ _
      split at H
      · rename_i j p j' q hx hy
        exact bd _ _ _ _ _ _ _ _ rfl hx hy H
      · split at H
        · rename_i u hp
          simp only [Option.some.injEq, Prod.mk.injEq] at H
          exact pd u hp H.1 H.2
        · cases H
    · rename_i t x _
      split at H
      · rename_i b hx
        simp only [Option.some.injEq, Prod.mk.injEq] at H
        refine sd _ ?_ H.1 H.2
        have ex : a.eval x = .bool b := by rw [ev x (by rw [hx]; rfl), hx]; rfl
        simp [execOp, ex, Op.unary]
      · cases H
    · rename_i t x _
      split at H
      · rename_i j b hx
        simp only [Option.some.injEq, Prod.mk.injEq] at H
        refine sd _ ?_ H.1 H.2
        have ex : a.eval x = .int j b := by rw [ev x (by rw [hx]; rfl), hx]; rfl
        simp [execOp, ex, Op.unary, Op.intArith]
      · cases H
    · rename_i t x _
      split at H
      · rename_i j b hx
        simp only [Option.some.injEq, Prod.mk.injEq] at H
        refine sd _ ?_ H.1 H.2
        have ex : a.eval x = .int j b := by rw [ev x (by rw [hx]; rfl), hx]; rfl
        simp only [execOp, ex, Op.unary]
        rw [intBits_xor, ← bitw_eq]
        rfl
      · cases H
    · rename_i src dst' x _
      split at H
      · rename_i kk b d1 j hx hs hd
        simp only [Option.some.injEq, Prod.mk.injEq] at H
        refine sd _ ?_ H.1 H.2
        have ex : a.eval x = .int kk b := by rw [ev x (by rw [hx]; rfl), hx]; rfl
        have c := run_convertInt (a := b) (kk := kk) hs hd w
        simp only [execOp, ex]
        rw [Sem.run_bind, c]
        rfl
      · split at H
        · rename_i u hp
          simp only [Option.some.injEq, Prod.mk.injEq] at H
          exact pd u hp H.1 H.2
        · cases H
    · rename_i x i _
      split at H
      · rename_i vs hx
        split at H
        · rename_i u hu
          simp only [Option.some.injEq, Prod.mk.injEq] at H
          refine sd _ ?_ H.1 H.2
          have ex : a.eval x = .tuple vs := by rw [ev x (by rw [hx]; rfl), hx]; rfl
          simp [execOp, ex, Instr.extract, hu]
        · cases H
      · cases H
    · rename_i t x ix _
      split at H
      · rename_i b o kd i n e hx hi hu
        split at H
        · rename_i z hz
          obtain ⟨q, H, _, q1, q2, _⟩ := xidx_eq H
          simp only [Option.some.injEq, Prod.mk.injEq] at H
          obtain ⟨rfl, rfl⟩ := H
          have ex : a.eval x = .pointer (some ⟨φ b, o, none⟩) := by rw [ev x (by rw [hx]; rfl), hx]; rfl
          have ei : a.eval ix = .int kd i := by rw [ev ix (by rw [hi]; rfl), hi]; rfl
          have s1 := st x
          rw [hx] at s1
          refine wp_of_done (done_same l (p_stable s1) ?_) hK
          subst q2
          simp [execOp, ex, ei, AV.re, Instr.indexAt, asIntOf, run_underlying' hu, Instr.sureAddr, run_sizeOf hz, add_off]
          omega
        · cases H
      · rename_i b o n cap kd i e hx hi hu
        split at H
        · rename_i z hz
          obtain ⟨q, H, _, q1, q2, _⟩ := xidx_eq H
          simp only [Option.some.injEq, Prod.mk.injEq] at H
          obtain ⟨rfl, rfl⟩ := H
          have ex : a.eval x = .slice (some ⟨φ b, o, none⟩) n cap := by rw [ev x (by rw [hx]; rfl), hx]; rfl
          have ei : a.eval ix = .int kd i := by rw [ev ix (by rw [hi]; rfl), hi]; rfl
          have s1 := st x
          rw [hx] at s1
          refine wp_of_done (done_same l (s_stable s1) ?_) hK
          subst q2
          simp [execOp, ex, ei, AV.re, Instr.indexAt, asIntOf, run_underlying' hu, run_sizeOf hz, add_off]
          omega
        · cases H
      · rename_i g o kd i n e hx hi hu
        split at H
        · rename_i z hz
          split at H
          · obtain ⟨q, H, _, q1, q2, _⟩ := xidx_eq H
            simp only [Option.some.injEq, Prod.mk.injEq] at H
            refine sd _ ?_ H.1 H.2
            have ex : a.eval x = .pointer (some ⟨g, o, none⟩) := by rw [ev x (by rw [hx]; rfl), hx]; rfl
            have ei : a.eval ix = .int kd i := by rw [ev ix (by rw [hi]; rfl), hi]; rfl
            subst q2
            simp [execOp, ex, ei, Instr.indexAt, asIntOf, run_underlying' hu, Instr.sureAddr, run_sizeOf hz, add_off]
            omega
          split at H
          · rename_i c
            simp only [inI, decide_eq_true_eq] at c
            simp only [Option.some.injEq, Prod.mk.injEq] at H
            refine sd _ ?_ H.1 H.2
            have ex : a.eval x = .pointer (some ⟨g, o, none⟩) := by rw [ev x (by rw [hx]; rfl), hx]; rfl
            have ei : a.eval ix = .int kd i := by rw [ev ix (by rw [hi]; rfl), hi]; rfl
            simp [execOp, ex, ei, Instr.indexAt, asIntOf, run_underlying' hu, Instr.sureAddr, run_sizeOf hz, add_off, c, atN]
          · cases H
        · cases H
      · cases H
    · rename_i t x ix _
      split at H
      · rename_i cs kd i n e hx hi hu
        split at H
        · rename_i z hz ha
          obtain ⟨q, H, _, q1, q2, _⟩ := xidx_eq H
          split at H
          · rename_i u hc
            simp only [Option.some.injEq, Prod.mk.injEq] at H
            refine sd _ ?_ H.1 H.2
            have ex : a.eval x = .agg cs := by rw [ev x (by rw [hx]; rfl), hx]; rfl
            have ei : a.eval ix = .int kd i := by rw [ev ix (by rw [hi]; rfl), hi]; rfl
            subst q2
            have lt : (0 : Int) ≤ (q : Int) ∧ (q : Int) < (n : Int) := by omega
            simp [execOp, ex, ei, Instr.index, asIntOf, run_underlying' hu, run_sizeOf hz, part, run_isAgg ha, hc]
            intro hle
            omega
          · cases H
        · cases H
      · rename_i s kd i hx hi hu
        split at H
        · rename_i c
          simp only [inI, decide_eq_true_eq] at c
          simp only [Option.some.injEq, Prod.mk.injEq] at H
          refine sd _ ?_ H.1 H.2
          have ex : a.eval x = .string s := by rw [ev x (by rw [hx]; rfl), hx]; rfl
          have ei : a.eval ix = .int kd i := by rw [ev ix (by rw [hi]; rfl), hi]; rfl
          have lt : i.toNat < s.size := by omega
          have gb : s[i.toNat]? = some s[i.toNat] := by simp [getElem?_pos, lt]
          have gv : byteAt s i = (s[i.toNat].toNat : Int) := by
            unfold byteAt
            have lt2 : i.toNat < s.data.toList.length := by simpa using lt
            rw [List.getD_eq_getElem?_getD, List.getElem?_eq_getElem lt2]
            rfl
          simp [execOp, ex, ei, Instr.index, asIntOf, run_underlying' hu, c.1, gb, gv]
        · cases H
      · cases H
    · rename_i t x _
      split at H
      · rename_i g o hx
        split at H
        · rename_i kk li hg ha
          split at H
          · rename_i lt
            simp only [ltN, decide_eq_true_eq] at lt
            simp only [Option.some.injEq, Prod.mk.injEq] at H
            refine sd _ ?_ H.1 H.2
            have ex : a.eval x = .pointer (some ⟨g, o, none⟩) := by rw [ev x (by rw [hx]; rfl), hx]; rfl
            obtain ⟨lt', ty, fr, hh⟩ := ok.gi g kk li hg
            have hw : w.heap[g]? = some (.cells (li.map (Value.int kk)).toArray ty fr) := by
              rw [l.below.block g lt']
              exact hh
            have z : (loadVar t ⟨g, o, none⟩).run E.P w = .ok (.int kk (li.getD o 0)) w := by
              unfold loadVar
              rw [Sem.run_bind, run_isAgg ha]
              simp only [Result.andThen_ok, Bool.false_eq_true, if_false]
              refine read1 hw ?_
              rw [List.getElem?_map, List.getElem?_eq_getElem lt, List.getD_eq_getElem?_getD, List.getElem?_eq_getElem lt]
              rfl
            simp [execOp, ex, Instr.loadAt, Instr.sureAddr]
            exact congrArg (fun r => Result.andThen r _) z
          · cases H
        · cases H
      · cases H
    · rename_i f xs ats _
      split at H
      · rename_i n first cs hf
        split at H
        · rename_i S hS
          split at H
          · rename_i fe
            split at H
            · rename_i vs hvs
              split at H
              · rename_i r hr
                obtain ⟨t, ht, H⟩ := Option.bind_eq_some_iff.1 H
                rw [ht] at hr
                clear ht
                have H := Option.some.inj H
                injection H with h1 h2
                subst h1 h2
                have f0 : first = #[] := by simpa using fe
                subst f0
                have x1 : xs.map a.eval = vs.toArray := by
                  apply Array.ext'
                  have : xs.toList.map a.eval = (xs.toList.map ρ).map (AV.re φ) := by
                    rw [List.map_map]
                    exact List.map_congr_left fun x hx => ev x (allV_known hvs _ (List.mem_map_of_mem hx))
                  rw [Array.toList_map, this, allV_re hvs]
                have x2 : vs.toArray ++ cs = (vs ++ cs.toList).toArray := by
                  apply Array.ext'
                  simp
                have c := ok.smC n S hS _ t w l.below hr
                unfold Oper.wp
                have run : (execOp a.eval ⟨dst, .call ⟨.value f, xs, ats⟩, type, pos, after, guard⟩).run E.P w = .ok (.enter n (vs ++ cs.toList).toArray) w := by
                  have ef : a.eval f = .func (.func n) #[] cs := by rw [ev f (by rw [hf]; rfl), hf]; rfl
                  simp only [execOp, resolve, ef, x1]
                  simp only [Deferred.ofValue, pure_bind, Array.empty_append]
                  simp only [invoke, x2]
                  exact ok.smE n S hS _ w
                rw [run]
                simp only [Oper.upon]
                refine c.mono fun e w' he => ?_
                obtain ⟨rfl, hb⟩ := he
                refine hK φ w' (Agr.refl _ _) (Sub.refl _) ?_ v_stable
                show Lies N w0 φ h w'
                refine ⟨l.below.trans (hb.mono l.size), Nat.le_trans l.size hb.size, fun b t cs hc => ?_, l.inj, l.vir⟩
                have z := l.blk b t cs hc
                refine ⟨z.1, fun ψ ag => ?_⟩
                have lt := l.lt (b := b) (by rw [hc]; rfl)
                rw [hb.block _ lt]
                exact z.2 ψ ag
              · cases H
            · cases H
          · cases H
        · cases H
      · cases H
    · split at H
      · rename_i u hp
        simp only [Option.some.injEq, Prod.mk.injEq] at H
        exact pd u hp H.1 H.2
      · cases H
/-- A bound of a slice. -/
theorem sb_run {P : Program} {j : IntKind} {q m : Nat} {c : BoundsCode} {w : World} (h : q ≤ m) : (Instr.sliceBound (.int j (q : Int)) m c).run P w = .ok q w := by
  simp [Instr.sliceBound, asIntOf, h]
theorem bounds_run {P : Program} {ρ : Operand → AV} {a : Act} (ev : ∀ x, (ρ x).known = true → a.eval x = (ρ x).re φ) {isS : Bool} {len cap hq lq : Nat} {lo hi : Option Operand} (h1 : hi = none → hq = len) (h2 : ∀ y, hi = some y → hq ≤ cap ∧ ∃ j, ρ y = .v (.int j (hq : Int))) (l1 : lo = none → lq = 0) (l2 : ∀ y, lo = some y → lq ≤ hq ∧ ∃ j, ρ y = .v (.int j (lq : Int))) (w : World) :
    (Instr.sliceBounds isS len cap (lo.map a.eval) (hi.map a.eval) none).run P w = .ok (lq, hq, cap) w := by
  have key : ∀ (v : Option Operand) (y : Operand) (q m : Nat), (q ≤ m ∧ ∃ j, ρ y = .v (.int j (q : Int))) → ∀ c, (Instr.sliceBound (a.eval y) m c).run P w = .ok q w := fun _ y q m h c => by
    obtain ⟨le, j, e⟩ := h
    have ey : a.eval y = .int j (q : Int) := by rw [ev y (by rw [e]; rfl), e]; rfl
    rw [ey]
    exact sb_run le
  unfold Instr.sliceBounds
  cases hi with
  | none =>
    obtain rfl := h1 rfl
    cases lo with
    | none =>
      obtain rfl := l1 rfl
      simp
    | some z => simp [key (some z) z lq hq (l2 z rfl)]
  | some y =>
    cases lo with
    | none =>
      obtain rfl := l1 rfl
      simp [key (some y) y hq cap (h2 y rfl)]
    | some z => simp [key (some y) y hq cap (h2 y rfl), key (some z) z lq hq (l2 z rfl)]
theorem bytesOf_is : ∀ {l : List AV} {bs : List UInt8}, bytesOf l = some bs → ∃ ns : List Int, l = ns.map (fun n => AV.v (.int .u8 n)) ∧ bs = ns.map fun n => UInt8.ofNat n.toNat
  | [], bs, h => by
    simp only [bytesOf, Option.some.injEq] at h
    subst h
    exact ⟨[], rfl, rfl⟩
  | x :: r, bs, h => by
    unfold bytesOf at h
    split at h
    · rename_i l hl; cases hl
    · rename_i n r' hx
      cases hx
      split at h
      · rename_i l e
        obtain rfl := Option.some.inj h
        obtain ⟨ns, h1, h2⟩ := bytesOf_is e
        exact ⟨n :: ns, by rw [h1]; rfl, by rw [h2]; rfl⟩
      · cases h
    · cases h
theorem push_all : ∀ (ns : List Int) (s : ByteArray), ns.foldl (fun r n => r.push (UInt8.ofNat n.toNat)) s = ⟨s.data ++ (ns.map fun n => UInt8.ofNat n.toNat).toArray⟩
  | [], s => by simp
  | n :: ns, s => by
    rw [List.foldl_cons, push_all ns]
    congr 1
    apply Array.ext'
    simp [ByteArray.push]
/-- The operations behind. -/
theorem xnew_run (ok : EngOk E N w0) (l : Lies N w0 φ h w) {okb : Nat → Bool} {ρ : Operand → AV} {a : Act} (ev : ∀ x, (ρ x).known = true → a.eval x = (ρ x).re φ) (st : ∀ x, Stable φ h (ρ x)) {o : Oper} {v : AV} (H : xnew E h okb ρ o.op some = some v) :
    (execOp a.eval o).run E.P w = .ok (.value (v.re φ)) w ∧ Stable φ h v := by
  obtain ⟨dst, op, type, pos, after, guard⟩ := o
  simp only at H ⊢
  unfold xnew at H
  simp only [br] at H
  split at H
  · rename_i t x lo hi
    split at H
    · rename_i b o n e hx hu
      split at H
      · rename_i z hz
        obtain ⟨hq, H, _, h1, h2⟩ := xbnd_dir H
        obtain ⟨lq, H, _, l1, l2⟩ := xbnd_dir H
        obtain rfl := Option.some.inj H
        have s1 := st x
        rw [hx] at s1
        have ex : a.eval x = .pointer (some ⟨φ b, o, none⟩) := by rw [ev x (by rw [hx]; rfl), hx]; rfl
        have br := bounds_run (P := E.P) ev (isS := false) h1 h2 l1 l2 w
        have sst : ∀ o' n' c', Stable φ h (.s b o' n' c') := fun o' n' c' ψ ag => by
          have q := s1 ψ ag
          injection q with q
          injection q with q
          injection q with q
          simp only [AV.re, q]
        refine ⟨?_, ?_⟩
        · simp only [execOp, ex, Instr.sliceAt, Sem.run_bind, run_underlying' hu, Result.andThen_ok, Instr.sureAddr, Sem.run_pure, Option.map_none]
          erw [br]
          simp only [Result.andThen_ok, Sem.run_bind, run_sizeOf hz, Sem.run_pure, AV.re]
          split <;> simp [add_off]
        · split <;> exact sst _ _ _
      · cases H
    · rename_i b o n c e hx hu
      split at H
      · rename_i z hz
        obtain ⟨hq, H, _, h1, h2⟩ := xbnd_dir H
        obtain ⟨lq, H, _, l1, l2⟩ := xbnd_dir H
        obtain rfl := Option.some.inj H
        have s1 := st x
        rw [hx] at s1
        have ex : a.eval x = .slice (some ⟨φ b, o, none⟩) n c := by rw [ev x (by rw [hx]; rfl), hx]; rfl
        have br := bounds_run (P := E.P) ev (isS := true) h1 h2 l1 l2 w
        have sst : ∀ o' n' c', Stable φ h (.s b o' n' c') := fun o' n' c' ψ ag => by
          have := s1 ψ ag
          simp only [AV.re] at this ⊢
          injection this with q
          injection q with q
          injection q with q
          simp only [q]
        refine ⟨?_, ?_⟩
        · simp only [execOp, ex, Instr.sliceAt, Instr.slice, Sem.run_bind, run_underlying' hu, Result.andThen_ok, Option.map_none]
          erw [br]
          simp only [Result.andThen_ok, Sem.run_bind, run_sizeOf hz, Sem.run_pure, AV.re]
          split <;> simp [add_off]
        · split <;> exact sst _ _ _
      · cases H
    · rename_i s hx hu
      split at H
      · rename_i lq hq hl hh
        split at H
        · rename_i c
          obtain rfl := Option.some.inj H
          simp only [within3, decide_eq_true_eq] at c
          have ex : a.eval x = .string s := by rw [ev x (by rw [hx]; rfl), hx]; rfl
          have q1 : ∀ y, hi = some y → hq.toNat ≤ s.size ∧ ∃ j, ρ y = .v (.int j (hq.toNat : Int)) := fun y hy => by
            subst hy
            simp only [numA] at hh
            split at hh
            · rename_i j i hy
              obtain rfl := Option.some.inj hh
              exact ⟨by omega, j, by rw [hy]; congr 2; omega⟩
            · cases hh
          have q2 : ∀ y, lo = some y → lq.toNat ≤ hq.toNat ∧ ∃ j, ρ y = .v (.int j (lq.toNat : Int)) := fun y hy => by
            subst hy
            simp only [numA] at hl
            split at hl
            · rename_i j i hy
              obtain rfl := Option.some.inj hl
              exact ⟨by omega, j, by rw [hy]; congr 2; omega⟩
            · cases hl
          have br := bounds_run (P := E.P) ev (isS := false) (len := s.size) (cap := s.size) (hq := hq.toNat) (lq := lq.toNat) (lo := lo) (hi := hi) (fun e => by subst e; simp only [numA, Option.some.injEq] at hh; omega) q1 (fun e => by subst e; simp only [numA, Option.some.injEq] at hl; omega) q2 w
          refine ⟨?_, v_stable⟩
          simp only [execOp, ex, Instr.sliceAt, Instr.slice, Sem.run_bind, run_underlying' hu, Result.andThen_ok, Option.map_none, Option.isSome_none, Bool.false_eq_true, if_false]
          simp only [Sem.run_bind, Sem.run_pure, Result.andThen_ok]
          erw [br]
          simp only [Result.andThen_ok, Sem.run_pure, AV.re, cutB]
        · cases H
      · cases H
    · cases H
  · rename_i src dst' x
    split at H
    · rename_i b o n cp e hx hs hd
      split at H
      · rename_i he
        split at H
        · split at H
          · rename_i ty cs hb
            split at H
            · rename_i le
              split at H
              · rename_i bs hbs
                obtain rfl := Option.some.inj H
                refine ⟨?_, v_stable⟩
                obtain ⟨ns, e1, e2⟩ := bytesOf_is hbs
                have ex : a.eval x = .slice (some ⟨φ b, o, none⟩) n cp := by rw [ev x (by rw [hx]; rfl), hx]; rfl
                have z := reads (P := E.P) (o := o) ((l.blk b ty cs hb).2 φ (Agr.refl _ _)) n 0 #[] (by simpa using le)
                simp only [Nat.add_zero, Array.empty_append] at z
                rw [← List.map_drop, ← List.map_take, e1, List.map_map] at z
                have z2 : (loadCells ⟨φ b, o, none⟩ n).run E.P w = .ok (ns.map (Value.int .u8)).toArray w := z
                have c := run_convert_bytes_string (P := E.P) w src dst' e (some ⟨φ b, o, none⟩) n cp hs he hd
                rw [run_bytesToString w _ n cp ns z2, push_all] at c
                simp only [execOp, ex, Sem.run_bind, c, Result.andThen_ok, Sem.run_pure, AV.re, e2]
                simp [ByteArray.empty, ByteArray.emptyWithCapacity]
                rfl
              · cases H
            · cases H
          · cases H
        · cases H
      · cases H
    · cases H
  · rename_i t x y yt
    split at H
    · rename_i s1 s2 hx hy
      split at H
      · rename_i c
        obtain rfl := Option.some.inj H
        simp only [catOk, decide_eq_true_eq] at c
        refine ⟨?_, v_stable⟩
        have ex : a.eval x = .string s1 := by rw [ev x (by rw [hx]; rfl), hx]; rfl
        have ey : a.eval y = .string s2 := by rw [ev y (by rw [hy]; rfl), hy]; rfl
        have n : ¬ (((s1.size + s2.size : Nat) : Int) > IntKind.i64.max) := by omega
        simp only [execOp, ex, ey, eqGuard, binOp, Op.stringOp]
        rw [if_neg n]
        rfl
      · cases H
    · cases H
  · rename_i t x ix
    split at H
    · rename_i k kd i e hx hi hu
      split at H
      · rename_i s z hs hz
        split at H
        · rename_i ez
          split at H
          · rename_i c
            obtain rfl := Option.some.inj H
            simp only [inI, decide_eq_true_eq] at c
            refine ⟨?_, oy_stable⟩
            obtain ⟨_, o2, o4, _⟩ := ok.os k s hs
            have ex : a.eval x = .slice (some ⟨φ (vx k 0), φ (vx k 1), none⟩) s.n (φ (vx k 3)) := by
              rw [ev x (by rw [hx]; rfl), hx]
              simp only [AV.re, l.vir _ le_vx, o2]
            have ei : a.eval ix = .int kd i := by rw [ev ix (by rw [hi]; rfl), hi]; rfl
            have ez4 : φ (vx k 4) = z := by rw [l.vir _ le_vx, o4, ez]
            simp [execOp, ex, ei, AV.re, Instr.indexAt, asIntOf, run_underlying' hu, run_sizeOf hz, add_off, c, ez4]
          · cases H
        · cases H
      · cases H
    · cases H
  · rename_i t x
    split at H
    · rename_i k i hx
      have key : ∀ s, E.os k = some s → inI i (s.n : Int) = true → a.eval x = .pointer (some ⟨N.g (vx k 0), N.g (vx k 1) + i.toNat * s.z, none⟩) ∧ ∃ (cs : List Value) (ty : TypeId) (fr : Nat × Nat), w.heap[N.g (vx k 0)]? = some (.cells cs.toArray ty fr) ∧ N.g (vx k 1) + i.toNat * s.z + s.z ≤ cs.length ∧ (cs.drop (N.g (vx k 1) + i.toNat * s.z)).take s.z = s.row i := fun s hs c => by
        simp only [inI, decide_eq_true_eq] at c
        obtain ⟨lt, o2, o4, cs, ty, fr, hb, hr⟩ := ok.os k s hs
        refine ⟨?_, cs, ty, fr, by rw [l.below.block _ lt]; exact hb, hr i c.1 c.2⟩
        rw [ev x (by rw [hx]; rfl), hx]
        simp only [AV.re, l.vir _ le_vx, o4]
      split at H
      · rename_i s z hs ha hz
        split at H
        · rename_i ez
          split at H
          · rename_i c
            obtain rfl := Option.some.inj H
            refine ⟨?_, v_stable⟩
            obtain ⟨ex, cs, ty, fr, hb, le, hr⟩ := key s hs c
            have zr := reads (P := E.P) (o := N.g (vx k 1) + i.toNat * s.z) hb s.z 0 #[] (by omega)
            simp only [Nat.add_zero, Array.empty_append, hr] at zr
            simp [execOp, ex, Instr.loadAt, Instr.sureAddr, loadVar, run_isAgg ha, run_sizeOf hz, ez, loadCells, zr, AV.re]
          · cases H
        · cases H
      · rename_i s z hs ha hz
        split at H
        · rename_i ez
          split at H
          · rename_i c
            split at H
            · rename_i v' hv
              obtain rfl := Option.some.inj H
              refine ⟨?_, v_stable⟩
              obtain ⟨ex, cs, ty, fr, hb, le, hr⟩ := key s hs c
              have hc : cs[N.g (vx k 1) + i.toNat * s.z]? = some v' := by
                rw [← hr, List.getElem?_take, if_pos (by omega), List.getElem?_drop, Nat.add_zero] at hv
                exact hv
              have zr := read1 (P := E.P) hb hc
              have z : (loadVar t ⟨N.g (vx k 0), N.g (vx k 1) + i.toNat * s.z, none⟩).run E.P w = .ok v' w := by
                unfold loadVar
                rw [Sem.run_bind, run_isAgg ha]
                simp only [Result.andThen_ok, Bool.false_eq_true, if_false]
                exact zr
              simp [execOp, ex, Instr.loadAt, Instr.sureAddr]
              exact congrArg (fun r => Result.andThen r _) z
            · cases H
          · cases H
        · cases H
      · cases H
    · cases H
  · cases H
/-- An operation that is no call into a function that is gone into. -/
theorem xop_wp (ok : EngOk E N w0) (l : Lies N w0 φ h w) {k : Nat} {okb : Nat → Bool} {ρ : Operand → AV} {a : Act} (ev : ∀ x, (ρ x).known = true → a.eval x = (ρ x).re φ) (st : ∀ x, Stable φ h (ρ x)) {o : Oper} {v : AV} {e : Eff}
    (H : xop E h k okb ρ o (fun v e => some (v, e)) = some (v, e)) {K : Act → World → Prop} {Q : Exit → Act → World → Prop} (hK : ∀ φ' w', Agr φ φ' h → Sub h (e.on k h) → Lies N w0 φ' (e.on k h) w' → Stable φ' (e.on k h) v → K (a.put o.dst (v.re φ')) w') : o.wp E.P a w K Q := by
  unfold xop at H
  split at H
  · obtain ⟨v', h1, h2⟩ := xnew_dir H
    simp only [Option.some.injEq, Prod.mk.injEq] at h1
    obtain ⟨rfl, rfl⟩ := h1
    obtain ⟨r1, r2⟩ := xnew_run ok l ev st (h2 _ some)
    exact wp_of_done (done_same l r2 r1) hK
  · exact xop0_wp ok l ev st H hK
end
/-! ### Regions, code, calls -/
structure St where
  t : List AV
  h : Heap
def St.put (s : St) (dst : Option Tmp) (v : AV) (h : Heap) : St := ⟨match dst with | some d => s.t.set d v | none => s.t, h⟩
structure Rel (N : Base) (w0 : World) (φ : Nat → Nat) (s : St) (a : Act) (w : World) : Prop where
  lies : Lies N w0 φ s.h w
  fits : Fits φ s.h s.t a.tmps
  defers : a.defers = []
def entersB (P : Program) (f : FuncId) : Bool := match P.funcs[f]? with | some fn => fn.name != "runtime.NumGoroutine" && fn.body.isSome | none => false
theorem run_enters {P : Program} {f : FuncId} (h : entersB P f = true) (args : Array Value) (w : World) : (callFunc f args).run P w = .ok (.enter f args) w := by
  unfold entersB at h
  split at h
  · rename_i fn hf
    rw [Bool.and_eq_true] at h
    have h1 : ¬ fn.name = "runtime.NumGoroutine" := by simpa using h.1
    have h2 : ¬ fn.body = none := fun e => by rw [e] at h; cases h.2
    simp [callFunc, hf, h1, h2]
  · cases h
abbrev Call (R : Type) := FuncId → List AV → Heap → (AV → Heap → Option R) → Option R
/-- One operation: a call of a function that has no telling of its own is gone into. -/
def xop1 {R : Type} (E : Eng) (call : Call R) (okb : Nat → Bool) (h : Heap) (k : Nat) (ρ : Operand → AV) (o : Oper) (K : AV → Heap → Option R) : Option R :=
  match o.op with
  | .call ⟨.value f, xs, _⟩ => match ρ f with
    | .v (.func (.func n) first cs) => match E.sm n with
      | some _ => xop E h k okb ρ o (fun v e => K v (e.on k h))
      | none => if first.isEmpty = true ∧ (xs.toList.map ρ).all AV.known = true then call n (xs.toList.map ρ ++ cs.toList.map .v) h K else none
    | .f n cs => if (xs.toList.map ρ).all AV.known = true then call n (xs.toList.map ρ ++ cs.map fun c => .p c.1 c.2) h K else none
    | _ => none
  | _ => xop E h k okb ρ o (fun v e => K v (e.on k h))
def guardTmp (all : Array Oper) (j : Nat) : Option Tmp := (all[j]?).bind (·.dst)
def xops {R : Type} (E : Eng) (call : Call R) (okb : Nat → Bool) (all : Array Oper) (m : Nat) : List Oper → Nat → St → (St → Option R) → Option R
  | [], _, s, K => K s
  | o :: rest, i, s, K =>
    match o.guard with
    | none => xop1 E call okb s.h (m + i) (evA s.t) o fun v h => xops E call okb all m rest (i + 1) (s.put o.dst v h) K
    | some (j, want) => match guardTmp all j with
      | none => xops E call okb all m rest (i + 1) (s.put o.dst (.v undef) s.h) K
      | some d => match s.t.getD d (.v undef) with
        | .v (.bool c) =>
          br c
            (if want = true then xop1 E call okb s.h (m + i) (evA (s.t.set d (.v (.bool true)))) o fun v h => xops E call okb all m rest (i + 1) (St.put ⟨s.t.set d (.v (.bool true)), s.h⟩ o.dst v h) K
             else xops E call okb all m rest (i + 1) (St.put ⟨s.t.set d (.v (.bool true)), s.h⟩ o.dst (.v undef) s.h) K)
            (if want = true then xops E call okb all m rest (i + 1) (St.put ⟨s.t.set d (.v (.bool false)), s.h⟩ o.dst (.v undef) s.h) K
             else xop1 E call okb s.h (m + i) (evA (s.t.set d (.v (.bool false)))) o fun v h => xops E call okb all m rest (i + 1) (St.put ⟨s.t.set d (.v (.bool false)), s.h⟩ o.dst v h) K)
        | .u => none
        | _ => xops E call okb all m rest (i + 1) (s.put o.dst (.v undef) s.h) K
section
variable {E : Eng} {N : Base} {w0 : World}
/-- What a call comes to. -/
def Ret (E : Eng) (N : Base) (w0 : World) (f : FuncId) (as : List AV) (h : Heap) (v : AV) (h' : Heap) : Prop :=
  Sub h h' ∧ ∀ φ w, Lies N w0 φ h w → (∀ a ∈ as, Stable φ h a) → Calls E.P f (as.map (AV.re φ)).toArray w fun e w' => ∃ φ', Agr φ φ' h ∧ Lies N w0 φ' h' w' ∧ Stable φ' h' v ∧ e = .returned (v.re φ')
def CallOk {R : Type} (E : Eng) (N : Base) (w0 : World) (call : Call R) : Prop :=
  ∀ f as h (K : AV → Heap → Option R) r, call f as h K = some r → entersB E.P f = true ∧ ∃ v h', K v h' = some r ∧ Ret E N w0 f as h v h'
theorem Rel.get {φ : Nat → Nat} {s : St} {a : Act} {w : World} (r : Rel N w0 φ s a w) {d : Nat} {x : AV} (h : s.t[d]? = some x) (hk : x.known = true) : a.tmps[d]? = some (x.re φ) := r.fits.2 φ (Agr.refl _ _) d x h hk
theorem Rel.ev {φ : Nat → Nat} {s : St} {a : Act} {w : World} (r : Rel N w0 φ s a w) (x : Operand) (hk : (evA s.t x).known = true) : a.eval x = (evA s.t x).re φ := by
  cases x with
  | tmp i =>
    simp only [Act.eval, evA] at hk ⊢
    rw [List.getD_eq_getElem?_getD] at hk ⊢
    rw [Array.getD_eq_getD_getElem?]
    cases c : s.t[i]? with
    | none =>
      have : a.tmps[i]? = none := by
        rw [Array.getElem?_eq_none_iff, r.fits.1]
        exact List.getElem?_eq_none_iff.1 c
      rw [this]
      rfl
    | some y =>
      rw [c] at hk
      rw [r.get c hk]
      rfl
  | _ => rfl
theorem Rel.st {φ : Nat → Nat} {s : St} {a : Act} {w : World} (r : Rel N w0 φ s a w) (x : Operand) : Stable φ s.h (evA s.t x) := by
  intro ψ ag
  cases x with
  | tmp i =>
    simp only [evA]
    rw [List.getD_eq_getElem?_getD]
    cases c : s.t[i]? with
    | none => rfl
    | some y =>
      show y.re ψ = y.re φ
      cases k : y.known with
      | false => cases y <;> first | rfl | cases k
      | true =>
        have e1 := r.fits.2 φ (Agr.refl _ _) i y c k
        have e2 := r.fits.2 ψ ag i y c k
        rw [e1] at e2
        exact (Option.some.inj e2).symm
  | _ => rfl
theorem Fits.set {φ φ' : Nat → Nat} {h h' : Heap} {t : List AV} {l : Array Value} (f : Fits φ h t l) (ag : Agr φ φ' h) (sb : Sub h h') {v : AV} (st : Stable φ' h' v) (dst : Option Tmp) (ds : List Deferred) :
    Fits φ' h' (match dst with | some d => t.set d v | none => t) ((⟨l, ds⟩ : Act).put dst (v.re φ')).tmps := by
  cases dst with
  | none => exact ⟨f.1, fun ψ a => f.2 ψ (ag.trans a sb)⟩
  | some d =>
    refine ⟨by simp only [Act.put]; simp [f.1], fun ψ a i x hx hk => ?_⟩
    simp only [Act.put]
    by_cases e : d = i
    · subst e
      have lt : d < t.length := by
        have := (List.getElem?_eq_some_iff.1 hx).1
        simpa using this
      rw [List.getElem?_set_self lt] at hx
      obtain rfl := Option.some.inj hx
      rw [Array.getElem?_setIfInBounds_self_of_lt (by rw [f.1]; exact lt), st ψ a]
    · rw [List.getElem?_set_ne e] at hx
      rw [Array.getElem?_setIfInBounds_ne e]
      exact f.2 ψ (ag.trans a sb) i x hx hk
/-- The frame behind an operation. -/
theorem Rel.put {φ φ' : Nat → Nat} {s : St} {a : Act} {w w' : World} {h' : Heap} (r : Rel N w0 φ s a w) (ag : Agr φ φ' s.h) (sb : Sub s.h h') (l : Lies N w0 φ' h' w') {v : AV} (st : Stable φ' h' v) (dst : Option Tmp) : Rel N w0 φ' (s.put dst v h') (a.put dst (v.re φ')) w' :=
  ⟨l, Fits.set r.fits ag sb st dst a.defers, by cases dst <;> exact r.defers⟩
theorem sub_on {h : Heap} {k : Nat} {e : Eff} (hw : ∀ b c, e = .write b c → (hat h b).isSome = true) : Sub h (e.on k h) := by
  cases e with
  | nop => exact Sub.refl _
  | fill b =>
    intro c hc
    by_cases x : k = c
    · subst x
      rw [Eff.on, hat_set_eq (lt_of_hat hc)]
      rfl
    · rw [Eff.on, hat_set_ne x]
      exact hc
  | write b c =>
    intro d hd
    rw [Eff.on, some_set (hw b c rfl)]
    exact hd
theorem xop0_sub {h : Heap} {k : Nat} {okb : Nat → Bool} {ρ : Operand → AV} {o : Oper} {v : AV} {e : Eff} (H : xop0 E h k okb ρ o (fun v e => some (v, e)) = some (v, e)) : Sub h (e.on k h) := by
  apply sub_on
  intro b c he
  subst he
  unfold xop0 at H
  simp only [br] at H
  split at H
  · rename_i v' e' hm
    simp only [Option.some.injEq, Prod.mk.injEq] at H
    obtain ⟨rfl, rfl⟩ := H
    unfold memOp at hm
    split at hm <;> (repeat' (split at hm)) <;> first
      | (cases hm; done)
      | (simp only [Option.some.injEq, Prod.mk.injEq, reduceCtorEq, and_false] at hm; done)
      | (simp only [Option.some.injEq, Prod.mk.injEq, Eff.write.injEq] at hm; obtain ⟨_, rfl, _⟩ := hm; simp [*])
  · (repeat' (split at H)) <;> first
      | (cases H; done)
      | (simp only [Option.some.injEq, Prod.mk.injEq, reduceCtorEq, and_false] at H; done)
      | (obtain ⟨t, ht, H⟩ := Option.bind_eq_some_iff.1 H; simp only [Option.some.injEq, Prod.mk.injEq, reduceCtorEq, and_false] at H; done)
      | (obtain ⟨v, H, _⟩ := xbin_dir H; simp only [Option.some.injEq, Prod.mk.injEq, reduceCtorEq, and_false] at H; done)
      | (obtain ⟨q, H, _⟩ := xidx_eq H; (try (split at H)) <;> first | (cases H; done) | (simp only [Option.some.injEq, Prod.mk.injEq, reduceCtorEq, and_false] at H; done))
theorem xop_sub {h : Heap} {k : Nat} {okb : Nat → Bool} {ρ : Operand → AV} {o : Oper} {v : AV} {e : Eff} (H : xop E h k okb ρ o (fun v e => some (v, e)) = some (v, e)) : Sub h (e.on k h) := by
  unfold xop at H
  split at H
  · obtain ⟨v', h1, _⟩ := xnew_dir H
    simp only [Option.some.injEq, Prod.mk.injEq] at h1
    obtain ⟨_, rfl⟩ := h1
    exact Sub.refl _
  · exact xop0_sub H
end
section
variable {E : Eng} {N : Base} {w0 : World}
/-- One operation of a region that is not drawn. -/
theorem xop1_wp {R : Type} {call : Call R} {okb : Nat → Bool} (ok : EngOk E N w0) (cok : CallOk E N w0 call) {s : St} {k : Nat} {o : Oper} {K : AV → Heap → Option R} {r : R} (H : xop1 E call okb s.h k (evA s.t) o K = some r) :
    ∃ v h', K v h' = some r ∧ Sub s.h h' ∧ ∀ φ a w, Rel N w0 φ s a w → ∀ (K' : Act → World → Prop) Q, (∀ φ' a' w', Agr φ φ' s.h → Rel N w0 φ' (s.put o.dst v h') a' w' → K' a' w') → o.wp E.P a w K' Q := by
  have plain : xop E s.h k okb (evA s.t) o (fun v e => K v (e.on k s.h)) = some r → ∃ v h', K v h' = some r ∧ Sub s.h h' ∧ ∀ φ a w, Rel N w0 φ s a w → ∀ (K' : Act → World → Prop) Q, (∀ φ' a' w', Agr φ φ' s.h → Rel N w0 φ' (s.put o.dst v h') a' w' → K' a' w') → o.wp E.P a w K' Q := fun H => by
    obtain ⟨v, e, d, hk⟩ := xop_dir H
    refine ⟨v, e.on k s.h, hk, xop_sub d, fun φ a w rel K' Q hK => ?_⟩
    exact xop_wp ok rel.lies rel.ev rel.st d fun φ' w' ag sb l st => hK φ' _ w' ag (rel.put ag sb l st _)
  have into : ∀ (n : FuncId) (as : List AV), call n as s.h K = some r → (∀ φ, (∀ x, Stable φ s.h (evA s.t x)) → ∀ a ∈ as, Stable φ s.h a) → (∀ φ a w, Rel N w0 φ s a w → entersB E.P n = true → (execOp a.eval o).run E.P w = .ok (.enter n (as.map (AV.re φ)).toArray) w) →
      ∃ v h', K v h' = some r ∧ Sub s.h h' ∧ ∀ φ a w, Rel N w0 φ s a w → ∀ (K' : Act → World → Prop) Q, (∀ φ' a' w', Agr φ φ' s.h → Rel N w0 φ' (s.put o.dst v h') a' w' → K' a' w') → o.wp E.P a w K' Q := fun n as hc hst hrun => by
    obtain ⟨en, v, h', hk, sb, ret⟩ := cok n as s.h K r hc
    refine ⟨v, h', hk, sb, fun φ a w rel K' Q hK => ?_⟩
    unfold Oper.wp
    rw [hrun φ a w rel en]
    simp only [Oper.upon]
    refine (ret φ w rel.lies (hst φ rel.st)).mono fun e w' he => ?_
    obtain ⟨φ', ag, l, st, rfl⟩ := he
    exact hK φ' _ w' ag (rel.put ag sb l st _)
  obtain ⟨dst, op, type, pos, after, guard⟩ := o
  unfold xop1 at H
  simp only at H
  split at H
  · rename_i f xs ats
    split at H
    · rename_i n first cs hf
      split at H
      · exact plain H
      · split at H
        · rename_i fe
          obtain ⟨fe, fk⟩ := fe
          refine into n _ H (fun φ st a ha => ?_) (fun φ a w rel en => ?_)
          · rw [List.mem_append] at ha
            rcases ha with ha | ha
            · obtain ⟨x, _, rfl⟩ := List.mem_map.1 ha
              exact st x
            · obtain ⟨x, _, rfl⟩ := List.mem_map.1 ha
              exact v_stable
          · have f0 : first = #[] := by simpa using fe
            subst f0
            have x2 : xs.map a.eval ++ cs = ((xs.toList.map (evA s.t) ++ cs.toList.map AV.v).map (AV.re φ)).toArray := by
              apply Array.ext'
              rw [Array.toList_append, List.map_append, List.map_map, List.map_map, Array.toList_map]
              have e : (AV.re φ ∘ AV.v) = id := rfl
              rw [e, List.map_id]
              congr 1
              exact List.map_congr_left fun x hx => rel.ev x (List.all_eq_true.1 fk _ (List.mem_map_of_mem hx))
            have ef : a.eval f = .func (.func n) #[] cs := by rw [rel.ev f (by rw [hf]; rfl), hf]; rfl
            simp only [execOp, resolve, ef]
            simp only [Deferred.ofValue, pure_bind, Array.empty_append]
            simp only [invoke, x2]
            exact run_enters en _ w
        · cases H
    · rename_i n cs hf
      split at H <;> (try (cases H; done))
      rename_i fk
      refine into n _ H (fun φ st a ha => ?_) (fun φ a w rel en => ?_)
      · rw [List.mem_append] at ha
        rcases ha with ha | ha
        · obtain ⟨x, _, rfl⟩ := List.mem_map.1 ha
          exact st x
        · obtain ⟨x, hx, rfl⟩ := List.mem_map.1 ha
          intro ψ ag
          have z := st f ψ ag
          rw [hf] at z
          injection z with z1 z2 z3
          have z4 := congrArg Array.toList z3
          simp only at z4
          obtain ⟨i, hi, rfl⟩ := List.getElem_of_mem hx
          have e1 := congrArg (·[i]?) z4
          simp only [List.getElem?_map, List.getElem?_eq_getElem hi, Option.map_some] at e1
          exact Option.some.inj e1
      · have x2 : xs.map a.eval ++ (cs.map fun c => Value.pointer (some ⟨φ c.1, c.2, none⟩)).toArray = ((xs.toList.map (evA s.t) ++ cs.map fun c => AV.p c.1 c.2).map (AV.re φ)).toArray := by
          apply Array.ext'
          rw [Array.toList_append, List.map_append, List.map_map, List.map_map, Array.toList_map]
          congr 1
          exact List.map_congr_left fun x hx => rel.ev x (List.all_eq_true.1 fk _ (List.mem_map_of_mem hx))
        have ef : a.eval f = .func (.func n) #[] (cs.map fun c => Value.pointer (some ⟨φ c.1, c.2, none⟩)).toArray := by rw [rel.ev f (by rw [hf]; rfl), hf]; rfl
        simp only [execOp, resolve, ef]
        simp only [Deferred.ofValue, pure_bind, Array.empty_append]
        simp only [invoke, x2]
        exact run_enters en _ w
    · cases H
  · exact plain H
end
section
variable {E : Eng} {N : Base} {w0 : World}
theorem yields_bool {φ : Nat → Nat} {s : St} {a : Act} {w : World} (r : Rel N w0 φ s a w) {all : Array Oper} {j d : Nat} {c : Bool} (hd : guardTmp all j = some d) (hc : s.t.getD d (.v undef) = .v (.bool c)) : yielded all a.tmps j = some c := by
  unfold yielded
  unfold guardTmp at hd
  rw [hd]
  simp only [Option.bind_some]
  rw [List.getD_eq_getElem?_getD] at hc
  cases e : s.t[d]? with
  | none => rw [e] at hc; cases hc
  | some x =>
    rw [e] at hc
    simp only [Option.getD_some] at hc
    subst hc
    rw [r.get e rfl]
    rfl
theorem yields_none {φ : Nat → Nat} {s : St} {a : Act} {w : World} (r : Rel N w0 φ s a w) {all : Array Oper} {j d : Nat} (hd : guardTmp all j = some d) (hk : (s.t.getD d (.v undef)).known = true) (hc : ∀ c, s.t.getD d (.v undef) ≠ .v (.bool c)) : yielded all a.tmps j = none := by
  unfold yielded
  unfold guardTmp at hd
  rw [hd]
  simp only [Option.bind_some]
  rw [List.getD_eq_getElem?_getD] at hc hk
  cases e : s.t[d]? with
  | none =>
    have : a.tmps[d]? = none := by
      rw [Array.getElem?_eq_none_iff, r.fits.1]
      exact List.getElem?_eq_none_iff.1 e
    rw [this]
  | some x =>
    rw [e] at hc hk
    simp only [Option.getD_some] at hc hk
    rw [r.get e hk]
    cases x with
    | v y =>
      cases y with
      | bool c => exact absurd rfl (hc c)
      | _ => rfl
    | u => cases hk
    | _ => rfl
theorem set_bool {t : List AV} {d : Nat} {c : Bool} (hc : t.getD d (.v undef) = .v (.bool c)) : t.set d (.v (.bool c)) = t := by
  rw [List.getD_eq_getElem?_getD] at hc
  apply List.ext_getElem?
  intro j
  by_cases e : d = j
  · subst e
    cases h : t[d]? with
    | none => rw [h] at hc; cases hc
    | some x =>
      rw [h] at hc
      simp only [Option.getD_some] at hc
      have lt := (List.getElem?_eq_some_iff.1 h).1
      rw [List.getElem?_set_self lt, hc]
  · rw [List.getElem?_set_ne e]
theorem xops_wp {R : Type} {call : Call R} {okb : Nat → Bool} (ok : EngOk E N w0) (cok : CallOk E N w0 call) {all : Array Oper} {m : Nat} : ∀ (l : List Oper) (i : Nat) (s : St) (K : St → Option R) (r : R), xops E call okb all m l i s K = some r →
    ∃ s', K s' = some r ∧ Sub s.h s'.h ∧ ∀ φ a w, Rel N w0 φ s a w → ∀ Q : Exit → Act → World → Prop, (∀ φ' a' w', Agr φ φ' s.h → Rel N w0 φ' s' a' w' → Q .normal a' w') → wpList E.P all Q l a w
  | [], i, s, K, r, H => ⟨s, H, Sub.refl _, fun φ a w rel Q hQ => hQ φ a w (Agr.refl _ _) rel⟩
  | o :: rest, i, s, K, r, H => by
    -- it is carried out
    have go : ∀ {b : Bool}, xop1 E call okb s.h (m + i) (evA s.t) o (fun v h => xops E call okb all m rest (i + 1) (s.put o.dst v h) K) = some r →
        (∀ φ a w, Rel N w0 φ s a w → Region.wanted o (yielded all a.tmps) = true) →
        ∃ s', K s' = some r ∧ Sub s.h s'.h ∧ ∀ φ a w, Rel N w0 φ s a w → ∀ Q : Exit → Act → World → Prop, (∀ φ' a' w', Agr φ φ' s.h → Rel N w0 φ' s' a' w' → Q .normal a' w') → wpList E.P all Q (o :: rest) a w := fun {b} H hw => by
      obtain ⟨v, h', H2, sb, run⟩ := xop1_wp ok cok H
      obtain ⟨s', hk, sb2, run2⟩ := xops_wp ok cok rest (i + 1) _ K r H2
      refine ⟨s', hk, sb.trans sb2, fun φ a w rel Q hQ => ?_⟩
      unfold wpList
      rw [if_pos (hw φ a w rel)]
      exact .inl (run φ a w rel _ _ fun φ' a' w' ag rel' => run2 φ' a' w' rel' Q fun φ'' a'' w'' ag' rel'' => hQ φ'' a'' w'' (ag.trans ag' sb) rel'')
    have pass : xops E call okb all m rest (i + 1) (s.put o.dst (.v undef) s.h) K = some r → (∀ φ a w, Rel N w0 φ s a w → Region.wanted o (yielded all a.tmps) = false) →
        ∃ s', K s' = some r ∧ Sub s.h s'.h ∧ ∀ φ a w, Rel N w0 φ s a w → ∀ Q : Exit → Act → World → Prop, (∀ φ' a' w', Agr φ φ' s.h → Rel N w0 φ' s' a' w' → Q .normal a' w') → wpList E.P all Q (o :: rest) a w := fun H hw => by
      obtain ⟨s', hk, sb2, run2⟩ := xops_wp ok cok rest (i + 1) _ K r H
      refine ⟨s', hk, sb2, fun φ a w rel Q hQ => ?_⟩
      unfold wpList
      rw [if_neg (by rw [hw φ a w rel]; decide)]
      exact run2 φ _ w (rel.put (Agr.refl _ _) (Sub.refl _) rel.lies v_stable o.dst) Q hQ
    unfold xops at H
    simp only [br] at H
    split at H
    · rename_i hg
      exact go (b := true) H fun φ a w rel => by unfold Region.wanted; rw [hg]
    · rename_i j want hg
      split at H
      · rename_i hd
        exact pass H fun φ a w rel => by
          unfold Region.wanted yielded
          unfold guardTmp at hd
          rw [hg]
          simp only [hd]
          cases want <;> rfl
      · rename_i d hd
        split at H
        · rename_i c hc
          have wt : ∀ φ a w, Rel N w0 φ s a w → Region.wanted o (yielded all a.tmps) = (c == want) := fun φ a w rel => by
            unfold Region.wanted
            rw [hg]
            simp only [yields_bool rel hd hc]
            cases c <;> cases want <;> rfl
          split at H
          · rename_i hct
            subst hct
            rw [set_bool hc] at H
            split at H
            · rename_i hwt
              subst hwt
              exact go (b := true) H fun φ a w rel => by rw [wt φ a w rel]; rfl
            · rename_i hwt
              exact pass H fun φ a w rel => by rw [wt φ a w rel]; cases want <;> simp_all
          · rename_i hct
            have hcf : c = false := by simpa using hct
            subst hcf
            rw [set_bool hc] at H
            split at H
            · rename_i hwt
              subst hwt
              exact pass H fun φ a w rel => by rw [wt φ a w rel]; rfl
            · rename_i hwt
              exact go (b := true) H fun φ a w rel => by rw [wt φ a w rel]; cases want <;> simp_all
        · cases H
        · rename_i hu hc
          have hk : (s.t.getD d (.v undef)).known = true := by
            cases q : s.t.getD d (.v undef) with
            | u => exact absurd q hc
            | _ => rfl
          exact pass H fun φ a w rel => by
            unfold Region.wanted
            rw [hg]
            simp only [yields_none rel hd hk (fun c => hu c)]
            cases want <;> rfl
end
/-! ### Regions that draw their order -/
/-- What an operation does to the run's blocks: 0 nothing, 1 reads, 2 makes one, 3 writes. -/
def kindOf : Op → Nat
  | .load _ _ => 1
  | .alloc _ => 2
  | .box _ _ => 2
  | .buildSlice _ _ _ => 2
  | .store _ _ _ => 3
  | .convert _ _ _ => 1
  | _ => 0
def memOk (fresh : Bool) (a b : Nat) : Bool := a == 0 || b == 0 || (decide (a ≤ 2) && decide (b ≤ 2)) || (fresh && (a == 1 || b == 1))
/-- What may be read and written where the order is drawn: read: the blocks that lay there; written: where fresh, the region's own. -/
def okD (fresh : Bool) (m : Nat) (c : Nat) : Bool := bif c % 2 == 0 then Nat.blt (c / 2) m else (!fresh || Nat.ble m (c / 2))
theorem okD_read {fresh : Bool} {m b : Nat} (h : okD fresh m (2 * b) = true) : b < m := by
  unfold okD at h
  have e : 2 * b % 2 = 0 := by omega
  have d : 2 * b / 2 = b := by omega
  rw [e, d] at h
  simp [Nat.blt] at h
  omega
theorem okD_write {fresh : Bool} {m b : Nat} (hf : fresh = true) (h : okD fresh m (2 * b + 1) = true) : m ≤ b := by
  unfold okD at h
  have e : (2 * b + 1) % 2 = 1 := by omega
  have d : (2 * b + 1) / 2 = b := by omega
  rw [e, d, hf] at h
  simpa using h
def memLex (fresh : Bool) (ops : Array Oper) : Bool := (List.range ops.size).all fun j => (List.range j).all fun i => match ops[i]?, ops[j]? with
  | some oi, some oj => oj.after.any (fun e => Region.binds .any e && e.on == i) || memOk fresh (kindOf oi.op) (kindOf oj.op)
  | _, _ => true
def wantedA (all : Array Oper) (o : Oper) (t : List AV) : Option Bool := match o.guard with
  | none => some true
  | some (j, want) => match guardTmp all j with
    | none => some false
    | some d => match t.getD d (.v undef) with
      | .v (.bool c) => some (c == want)
      | .u => none
      | _ => some false
theorem xop0_congr {E : Eng} {R : Type} {h : Heap} {k : Nat} {okb : Nat → Bool} {ρ ρ' : Operand → AV} {o : Oper} {K : AV → Eff → Option R} (hρ : ∀ x ∈ o.op.operands, ρ x = ρ' x) : xop0 E h k okb ρ o K = xop0 E h k okb ρ' o K := by
  have p : pureOp E.P ρ o = pureOp E.P ρ' o := by
    unfold pureOp
    split <;> (try rfl)
    · rename_i ns _ _ _ _ _
      have e1 : (o.op.operands.all fun x => (ρ x).isV) = (o.op.operands.all fun x => (ρ' x).isV) := by
        rw [Bool.eq_iff_iff, Array.all_eq_true', Array.all_eq_true']
        exact ⟨fun a x hx => by rw [← hρ x hx]; exact a x hx, fun a x hx => by rw [hρ x hx]; exact a x hx⟩
      rw [e1, execOp_congr (ρ := rv ρ) (ρ' := rv ρ') o (fun cs b e => ns cs b e) (fun x hx => by unfold rv; rw [hρ x hx])]
  have m : memOp E h k okb ρ o.op = memOp E h k okb ρ' o.op := by
    obtain ⟨dst, op, type, pos, after, guard⟩ := o
    simp only at hρ ⊢
    cases op with
    | buildSlice t n ps =>
      have e : ps.toList.map (fun p => (p.1, rv ρ p.2)) = ps.toList.map fun p => (p.1, rv ρ' p.2) := List.map_congr_left fun p hp => by
        unfold rv
        rw [hρ p.2 (by simp [Op.operands]; exact ⟨p.1, by simpa using hp⟩)]
      have e1 : (ps.all fun p => (ρ p.2).isV) = (ps.all fun p => (ρ' p.2).isV) := by
        rw [Bool.eq_iff_iff, Array.all_eq_true', Array.all_eq_true']
        have q : ∀ p ∈ ps, ρ p.2 = ρ' p.2 := fun p hp => hρ p.2 (by simp [Op.operands]; exact ⟨p.1, by simpa using hp⟩)
        exact ⟨fun a x hx => by rw [← q x hx]; exact a x hx, fun a x hx => by rw [q x hx]; exact a x hx⟩
      simp only [memOp, e, e1]
    | makeFunc fn first cs =>
      have e : cs.toList.map ρ = cs.toList.map ρ' := List.map_congr_left fun x hx => hρ x (by simp [Op.operands]; exact .inr (by simpa using hx))
      cases fn <;> simp only [memOp, e]
    | call c =>
      obtain ⟨callee, xs, ats⟩ := c
      have e : xs.toList.map ρ = xs.toList.map ρ' := List.map_congr_left fun x hx => hρ x (by simp [Op.operands, Call.operands]; exact .inr (by simpa using hx))
      cases callee with
      | builtin b => cases b <;> simp only [memOp, e]
      | _ => rfl
    | _ => first
      | rfl
      | (simp only [Op.operands] at hρ; simp [memOp, hρ])
  unfold xop0
  rw [m, p]
  split
  · rfl
  · obtain ⟨dst, op, type, pos, after, guard⟩ := o
    simp only at hρ ⊢
    cases op with
    | pick c a b => simp only [Op.operands] at hρ; simp [hρ]
    | indexAddr t x ix => simp only [Op.operands] at hρ; simp [hρ]
    | unOp op t x => simp only [Op.operands] at hρ; cases op <;> simp [hρ]
    | convert s d x => simp only [Op.operands] at hρ; simp [hρ]
    | extract x i => simp only [Op.operands] at hρ; simp [hρ]
    | index t x ix => simp only [Op.operands] at hρ; simp [hρ]
    | load t x => simp only [Op.operands] at hρ; simp [hρ]
    | binOp op t x y yt =>
      simp only [Op.operands] at hρ
      have h1 := hρ x (by simp)
      have h2 := hρ y (by simp)
      cases op <;> simp only [h1, h2]
    | call c =>
      obtain ⟨callee, xs, ats⟩ := c
      have e : xs.toList.map ρ = xs.toList.map ρ' := List.map_congr_left fun x hx => hρ x (by simp [Op.operands, Call.operands]; exact .inr (by simpa using hx))
      cases callee with
      | value f =>
        have h1 := hρ f (by simp [Op.operands, Call.operands])
        simp only [e, h1]
      | _ => rfl
    | _ => rfl
theorem xbnd_congr {R : Type} {ρ ρ' : Operand → AV} {v : Option Operand} (h : ∀ y, v = some y → ρ y = ρ' y) {d m : Nat} {f : Nat → Option R} : xbnd ρ v d m f = xbnd ρ' v d m f := by
  cases v with
  | none => rfl
  | some y => simp only [xbnd, h y rfl]
theorem numA_congr {ρ ρ' : Operand → AV} {v : Option Operand} (h : ∀ y, v = some y → ρ y = ρ' y) {d : Int} : numA ρ v d = numA ρ' v d := by
  cases v with
  | none => rfl
  | some y => simp only [numA, h y rfl]
theorem newB_congr {ρ ρ' : Operand → AV} {o : Op} (hρ : ∀ x ∈ o.operands, ρ x = ρ' x) : newB ρ o = newB ρ' o := by
  cases o with
  | slice t x lo hi mx =>
    cases mx with
    | none => simp only [newB, hρ x (by simp [Op.operands])]
    | some m => rfl
  | convert s d x => simp only [newB, hρ x (by simp [Op.operands])]
  | binOp op t x y yt => cases op <;> simp only [newB, hρ x (by simp [Op.operands]), hρ y (by simp [Op.operands])]
  | indexAddr t x ix => simp only [newB, hρ x (by simp [Op.operands])]
  | load t x => simp only [newB, hρ x (by simp [Op.operands])]
  | _ => rfl
theorem xnew_congr {E : Eng} {R : Type} {h : Heap} {okb : Nat → Bool} {ρ ρ' : Operand → AV} {o : Op} {K : AV → Option R} (hρ : ∀ x ∈ o.operands, ρ x = ρ' x) : xnew E h okb ρ o K = xnew E h okb ρ' o K := by
  cases o with
  | slice t x lo hi mx =>
    cases mx with
    | none =>
      have e1 : ∀ y, lo = some y → ρ y = ρ' y := fun y hy => hρ y (by subst hy; simp [Op.operands])
      have e2 : ∀ y, hi = some y → ρ y = ρ' y := fun y hy => hρ y (by subst hy; simp [Op.operands])
      simp only [xnew, hρ x (by simp [Op.operands]), xbnd_congr e1, xbnd_congr e2, numA_congr e1, numA_congr e2]
    | some m => rfl
  | convert s d x => simp only [xnew, hρ x (by simp [Op.operands])]
  | binOp op t x y yt => cases op <;> simp only [xnew, hρ x (by simp [Op.operands]), hρ y (by simp [Op.operands])]
  | indexAddr t x ix => simp only [xnew, hρ x (by simp [Op.operands]), hρ ix (by simp [Op.operands])]
  | load t x => simp only [xnew, hρ x (by simp [Op.operands])]
  | _ => rfl
theorem xop_congr {E : Eng} {R : Type} {h : Heap} {k : Nat} {okb : Nat → Bool} {ρ ρ' : Operand → AV} {o : Oper} {K : AV → Eff → Option R} (hρ : ∀ x ∈ o.op.operands, ρ x = ρ' x) : xop E h k okb ρ o K = xop E h k okb ρ' o K := by
  unfold xop
  rw [newB_congr hρ, xnew_congr hρ, xop0_congr hρ]
section
variable {E : Eng} {N : Base} {w0 : World} {all : Array Oper} {m : Nat} {okb : Nat → Bool}
/-- In the state s the operation o (number i) has this value and this effect. -/
def DY (E : Eng) (all : Array Oper) (m : Nat) (okb : Nat → Bool) (i : Nat) (o : Oper) (s : St) (v : AV) (e : Eff) : Prop :=
  (wantedA all o s.t = some true ∧ xop E s.h (m + i) okb (evA s.t) o (fun v e => some (v, e)) = some (v, e)) ∨ (wantedA all o s.t = some false ∧ v = .v undef ∧ e = .nop)
def St.aft (s : St) (m i : Nat) (o : Oper) (v : AV) (e : Eff) : St := s.put o.dst v (e.on (m + i) s.h)
def pOp (E : Eng) (all : Array Oper) (m : Nat) (okb : Nat → Bool) (i : Nat) (K : St → Prop) (s : St) : Prop :=
  match all[i]? with
  | none => K s
  | some o => ∃ v e, DY E all m okb i o s v e ∧ K (s.aft m i o v e)
def pAny (E : Eng) (all : Array Oper) (m : Nat) (okb : Nat → Bool) (Q : St → Prop) : Nat → Array Bool → St → Prop
  | 0, listed, s => Region.ready .any all listed = [] ∧ Q s
  | fuel + 1, listed, s => (Region.ready .any all listed = [] → Q s) ∧ ∀ i ∈ Region.ready .any all listed, pOp E all m okb i (pAny E all m okb Q fuel (listed.setIfInBounds i true)) s
theorem pOp_mono {i : Nat} {s : St} {K K' : St → Prop} (h : ∀ s, K s → K' s) (hh : pOp E all m okb i K s) : pOp E all m okb i K' s := by
  unfold pOp at *
  split
  · rename_i e; rw [e] at hh; exact h _ hh
  · rename_i o e
    rw [e] at hh
    obtain ⟨v, x, h1, h2⟩ := hh
    exact ⟨v, x, h1, h _ h2⟩
theorem put_t {s : St} {dst : Option Tmp} {v : AV} {h : Heap} : (s.put dst v h).t = match dst with | some d => s.t.set d v | none => s.t := rfl
theorem evA_put {s : St} {dst : Option Tmp} {v : AV} {h : Heap} {x : Operand} (hx : ∀ d, dst = some d → x ≠ .tmp d) : evA (s.put dst v h).t x = evA s.t x := by
  cases dst with
  | none => rfl
  | some d =>
    cases x with
    | tmp j =>
      have ne : d ≠ j := fun e => hx d rfl (by rw [e])
      simp only [evA, put_t]
      rw [List.getD_eq_getElem?_getD, List.getD_eq_getElem?_getD, List.getElem?_set_ne ne]
    | _ => rfl
theorem ops_put {s : St} {dst : Option Tmp} {v : AV} {h : Heap} {o : Oper} (ho : ∀ d, dst = some d → d ∉ o.looksAt all) : ∀ x ∈ o.op.operands, evA (s.put dst v h).t x = evA s.t x := by
  intro x hx
  refine evA_put fun d hd hxd => ho d hd ?_
  subst hxd
  exact List.mem_append_left _ (List.mem_filterMap.2 ⟨.tmp d, by simpa using hx, rfl⟩)
theorem wantedA_put {s : St} {dst : Option Tmp} {v : AV} {h : Heap} {o : Oper} (ho : ∀ d, dst = some d → d ∉ o.looksAt all) : wantedA all o (s.put dst v h).t = wantedA all o s.t := by
  cases dst with
  | none => rfl
  | some d =>
    unfold wantedA
    cases hg : o.guard with
    | none => rfl
    | some gw =>
      obtain ⟨g, want⟩ := gw
      simp only
      cases ht : guardTmp all g with
      | none => rfl
      | some t =>
        have ne : d ≠ t := fun e => ho d rfl (by
          subst e
          unfold guardTmp at ht
          simp [Oper.looksAt, hg, ht])
        simp only [put_t]
        rw [List.getD_eq_getElem?_getD, List.getD_eq_getElem?_getD, List.getElem?_set_ne ne]
/-- What an operation's effect may be, by its kind; and what it looks at in the heap. -/
theorem xop0_kind {R : Type} {h h' : Heap} {k : Nat} {ρ : Operand → AV} {o : Oper} {K : AV → Eff → Option R} (hk : kindOf o.op = 0 ∨ (kindOf o.op = 1 ∧ ∀ b, okb (2 * b) = true → hat h b = hat h' b) ∨ (kindOf o.op = 2 ∧ h.length = h'.length ∧ hat h k = hat h' k)) : xop0 E h k okb ρ o K = xop0 E h' k okb ρ o K := by
  have m : memOp E h k okb ρ o.op = memOp E h' k okb ρ o.op := by
    obtain ⟨dst, op, type, pos, after, guard⟩ := o
    simp only at hk ⊢
    cases op <;> simp only [kindOf] at hk
    case load t a =>
      rcases hk with hk | ⟨_, hk⟩ | ⟨hk, _⟩
      · cases hk
      · simp only [memOp]
        split
        · split
          · rename_i hb
            rw [hk _ hb]
          · rfl
        · rfl
        · rfl
      · cases hk
    case alloc t =>
      rcases hk with hk | ⟨hk, _⟩ | ⟨_, h1, h2⟩
      · cases hk
      · cases hk
      · simp only [memOp, h1, h2]
    case box t =>
      rcases hk with hk | ⟨hk, _⟩ | ⟨_, h1, h2⟩
      · cases hk
      · cases hk
      · simp only [memOp, h1, h2]
    case buildSlice t =>
      rcases hk with hk | ⟨hk, _⟩ | ⟨_, h1, h2⟩
      · cases hk
      · cases hk
      · simp only [memOp, h1, h2]
    case store => rcases hk with hk | ⟨hk, _⟩ | ⟨hk, _⟩ <;> cases hk
    case makeFunc fn first cs => cases fn <;> rfl
    case call c =>
      obtain ⟨callee, xs, ats⟩ := c
      cases callee with
      | builtin b => cases b <;> rfl
      | _ => rfl
    all_goals rfl
  unfold xop0
  rw [m]
theorem xnew_kind {R : Type} {h h' : Heap} {ρ : Operand → AV} {o : Op} {K : AV → Option R} (hk : kindOf o = 0 ∨ ∀ b, okb (2 * b) = true → hat h b = hat h' b) : xnew E h okb ρ o K = xnew E h' okb ρ o K := by
  cases o with
  | convert s d x =>
    rcases hk with hk | hk
    · cases hk
    · simp only [xnew]
      split
      · split
        · split
          · rename_i hb
            rw [hk _ hb]
          · rfl
        · rfl
      · rfl
  | slice t x lo hi mx => cases mx <;> rfl
  | binOp op t x y yt => cases op <;> rfl
  | _ => rfl
theorem newB_two {ρ : Operand → AV} {o : Op} (hk : kindOf o = 2) : newB ρ o = false := by
  cases o <;> first | rfl | cases hk
theorem xop_kind {R : Type} {h h' : Heap} {k : Nat} {ρ : Operand → AV} {o : Oper} {K : AV → Eff → Option R} (hk : kindOf o.op = 0 ∨ (kindOf o.op = 1 ∧ ∀ b, okb (2 * b) = true → hat h b = hat h' b) ∨ (kindOf o.op = 2 ∧ h.length = h'.length ∧ hat h k = hat h' k)) : xop E h k okb ρ o K = xop E h' k okb ρ o K := by
  unfold xop
  rw [xop0_kind hk]
  rcases hk with hk | hk | hk
  · rw [xnew_kind (.inl hk)]
  · rw [xnew_kind (.inr hk.2)]
  · rw [newB_two hk.1]
theorem eff0_kind {h : Heap} {k : Nat} {ρ : Operand → AV} {o : Oper} {v : AV} {e : Eff} (H : xop0 E h k okb ρ o (fun v e => some (v, e)) = some (v, e)) : (kindOf o.op ≤ 1 → e = .nop) ∧ (kindOf o.op = 2 → ∃ b, e = .fill b) ∧ (∀ b c, e = .write b c → okb (2 * b + 1) = true) := by
  obtain ⟨dst, op, type, pos, after, guard⟩ := o
  unfold xop0 at H
  simp only [br] at H
  split at H
  · rename_i v' e' hm
    simp only [Option.some.injEq, Prod.mk.injEq] at H
    obtain ⟨rfl, rfl⟩ := H
    simp only at hm ⊢
    unfold memOp at hm
    split at hm <;> (repeat' (split at hm)) <;> first
      | (cases hm; done)
      | (simp only [Option.some.injEq, Prod.mk.injEq] at hm; obtain ⟨_, rfl⟩ := hm; simp [kindOf]; done)
      | (simp only [Option.some.injEq, Prod.mk.injEq] at hm; obtain ⟨_, rfl⟩ := hm; refine ⟨by simp [kindOf], by simp [kindOf], fun b' c' he => ?_⟩; injection he with e1 e2; rw [← e1]; simp_all; done)
  · rename_i hm
    have nop : e = .nop := by
      (repeat' (split at H)) <;> first
        | (cases H; done)
        | (simp only [Option.some.injEq, Prod.mk.injEq] at H; exact H.2.symm)
        | (obtain ⟨t, ht, H⟩ := Option.bind_eq_some_iff.1 H; simp only [Option.some.injEq, Prod.mk.injEq] at H; exact H.2.symm)
        | (obtain ⟨v, H, _⟩ := xbin_dir H; simp only [Option.some.injEq, Prod.mk.injEq] at H; exact H.2.symm)
        | (obtain ⟨q, H, _⟩ := xidx_eq H; (try (split at H)) <;> first | (cases H; done) | (simp only [Option.some.injEq, Prod.mk.injEq] at H; exact H.2.symm))
    refine ⟨fun _ => nop, fun hk => ?_, fun b c he => by rw [nop] at he; cases he⟩
    exfalso
    simp only at H hk
    cases op <;> simp only [kindOf] at hk <;> first
      | (cases hk; done)
      | (simp only [pureOp] at H; cases H; done)
theorem eff_kind {h : Heap} {k : Nat} {ρ : Operand → AV} {o : Oper} {v : AV} {e : Eff} (H : xop E h k okb ρ o (fun v e => some (v, e)) = some (v, e)) : (kindOf o.op ≤ 1 → e = .nop) ∧ (kindOf o.op = 2 → ∃ b, e = .fill b) ∧ (∀ b c, e = .write b c → okb (2 * b + 1) = true) := by
  unfold xop at H
  split at H
  · rename_i hb
    obtain ⟨v', h1, _⟩ := xnew_dir H
    simp only [Option.some.injEq, Prod.mk.injEq] at h1
    obtain ⟨_, rfl⟩ := h1
    exact ⟨fun _ => rfl, (fun hk => by rw [newB_two hk] at hb; cases hb), (fun b c he => by cases he)⟩
  · exact eff0_kind H
end
section
variable {E : Eng} {N : Base} {w0 : World} {all : Array Oper} {m : Nat} {okb : Nat → Bool} {fresh : Bool}
theorem dy_eff {i : Nat} {o : Oper} {s : St} {v : AV} {e : Eff} (d : DY E all m okb i o s v e) : (kindOf o.op ≤ 1 → e = .nop) ∧ (kindOf o.op = 2 → e = .nop ∨ ∃ b, e = .fill b) ∧ (∀ b c, e = .write b c → okb (2 * b + 1) = true) := by
  rcases d with ⟨_, d⟩ | ⟨_, _, d⟩
  · exact ⟨(eff_kind d).1, fun k => .inr ((eff_kind d).2.1 k), (eff_kind d).2.2⟩
  · exact ⟨fun _ => d, fun _ => .inl d, fun b c he => by rw [d] at he; cases he⟩
theorem inv_eff {R : Type} {i j : Nat} (hij : i ≠ j) {oi oj : Oper} {h : Heap} {e : Eff} (he : (kindOf oi.op ≤ 1 → e = .nop) ∧ (kindOf oi.op = 2 → e = .nop ∨ ∃ b, e = .fill b) ∧ (∀ b c, e = .write b c → okb (2 * b + 1) = true)) (hm : memOk fresh (kindOf oi.op) (kindOf oj.op) = true) (hb : ∀ b, okb (2 * b) = true → b < m) (hw : ∀ b, fresh = true → okb (2 * b + 1) = true → m ≤ b) {ρ : Operand → AV} {K : AV → Eff → Option R} :
    xop E (e.on (m + i) h) (m + j) okb ρ oj K = xop E h (m + j) okb ρ oj K := by
  by_cases k1 : kindOf oi.op ≤ 1
  · rw [he.1 k1]
    rfl
  · by_cases k2 : kindOf oi.op = 2
    · rcases he.2.1 k2 with rfl | ⟨b, rfl⟩
      · rfl
      · refine (xop_kind ?_).symm
        have k3 : kindOf oj.op = 0 ∨ kindOf oj.op = 1 ∨ kindOf oj.op = 2 := by
          rw [k2] at hm
          simp [memOk] at hm
          omega
        rcases k3 with k3 | k3 | k3
        · exact .inl k3
        · refine .inr (.inl ⟨k3, fun b hb' => ?_⟩)
          have := hb b hb'
          rw [Eff.on, hat_set_ne (by omega)]
        · refine .inr (.inr ⟨k3, by simp [Eff.on], ?_⟩)
          rw [Eff.on, hat_set_ne (by omega)]
    · by_cases k3 : kindOf oj.op = 0
      · exact xop_kind (.inl k3)
      · have k4 : fresh = true ∧ kindOf oj.op = 1 := by
          simp [memOk] at hm
          rcases hm with (hm | hm) | hm
          · omega
          · omega
          · exact ⟨hm.1, by omega⟩
        refine (xop_kind (.inr (.inl ⟨k4.2, fun b hb' => ?_⟩))).symm
        have := hb b hb'
        cases he' : e with
        | nop => rfl
        | fill c => rw [Eff.on, hat_set_ne (by omega)]
        | write d c =>
          have := hw d k4.1 (he.2.2 d c he')
          rw [Eff.on, hat_set_ne (by omega)]
theorem eff_comm {i j : Nat} (hij : i ≠ j) {oi oj : Oper} {h : Heap} {e f : Eff} (he : (kindOf oi.op ≤ 1 → e = .nop) ∧ (kindOf oi.op = 2 → e = .nop ∨ ∃ b, e = .fill b) ∧ (∀ b c, e = .write b c → okb (2 * b + 1) = true)) (hf : (kindOf oj.op ≤ 1 → f = .nop) ∧ (kindOf oj.op = 2 → f = .nop ∨ ∃ b, f = .fill b) ∧ (∀ b c, f = .write b c → okb (2 * b + 1) = true)) (hm : memOk fresh (kindOf oi.op) (kindOf oj.op) = true) :
    e.on (m + i) (f.on (m + j) h) = f.on (m + j) (e.on (m + i) h) := by
  by_cases k1 : kindOf oi.op ≤ 1
  · rw [he.1 k1]; rfl
  · by_cases k2 : kindOf oj.op ≤ 1
    · rw [hf.1 k2]; rfl
    · have k3 : kindOf oi.op = 2 ∧ kindOf oj.op = 2 := by
        simp [memOk] at hm
        omega
      rcases he.2.1 k3.1 with rfl | ⟨b, rfl⟩
      · rfl
      · rcases hf.2.1 k3.2 with rfl | ⟨c, rfl⟩
        · rfl
        · simp only [Eff.on]
          exact List.set_comm _ _ (by omega)
theorem memOk_comm {a b : Nat} : memOk fresh a b = memOk fresh b a := by
  unfold memOk
  cases (a == 0) <;> cases (b == 0) <;> cases decide (a ≤ 2) <;> cases decide (b ≤ 2) <;> cases fresh <;> cases (a == 1) <;> cases (b == 1) <;> rfl
/-- Two operations that are apart: in either order. -/
theorem dy_swap {i j : Nat} (hij : i ≠ j) {oi oj : Oper} (hap : oi.apart all oj = true) (hm : memOk fresh (kindOf oi.op) (kindOf oj.op) = true) (hb : ∀ b, okb (2 * b) = true → b < m) (hw : ∀ b, fresh = true → okb (2 * b + 1) = true → m ≤ b) {s : St} {v v2 : AV} {e f : Eff}
    (hi : DY E all m okb i oi s v e) (hj : DY E all m okb j oj (s.aft m i oi v e) v2 f) :
    DY E all m okb j oj s v2 f ∧ DY E all m okb i oi (s.aft m j oj v2 f) v e ∧ (s.aft m j oj v2 f).aft m i oi v e = (s.aft m i oi v e).aft m j oj v2 f := by
  obtain ⟨h1, h2, h3⟩ := Oper.apart_spec hap
  have he := dy_eff hi
  have hf := dy_eff hj
  have A : DY E all m okb j oj s v2 f := by
    rcases hj with ⟨w, x⟩ | ⟨w, x⟩
    · refine .inl ⟨by rw [← w]; exact (wantedA_put h1).symm, ?_⟩
      rw [← x]
      unfold St.aft
      rw [xop_congr (ops_put h1)]
      exact (inv_eff hij he hm hb hw).symm
    · exact .inr ⟨by rw [← w]; exact (wantedA_put h1).symm, x⟩
  refine ⟨A, ?_, ?_⟩
  · rcases hi with ⟨w, x⟩ | ⟨w, x⟩
    · refine .inl ⟨by rw [← w]; exact wantedA_put h3, ?_⟩
      rw [← x]
      unfold St.aft
      rw [xop_congr (ops_put h3)]
      exact inv_eff (Ne.symm hij) hf (by rw [memOk_comm]; exact hm) hb hw
    · exact .inr ⟨by rw [← w]; exact wantedA_put h3, x⟩
  · unfold St.aft St.put
    simp only [St.mk.injEq]
    constructor
    · cases d1 : oi.dst with
      | none => rfl
      | some a =>
        cases d2 : oj.dst with
        | none => rfl
        | some b =>
          have ne : a ≠ b := fun e => h2 a d1 (by rw [d2, e])
          exact List.set_comm _ _ (Ne.symm ne)
    · exact eff_comm hij he hf hm
theorem pAny_first {Q : St → Prop} {i : Nat} {oi : Oper} {v : AV} {e : Eff} (hi : all[i]? = some oi) (hb : ∀ b, okb (2 * b) = true → b < m) (hw : ∀ b, fresh = true → okb (2 * b + 1) = true → m ≤ b) :
    ∀ (fuel : Nat) (listed : Array Bool) (s : St),
      (∀ j oj, all[j]? = some oj → j ≠ i → listed.getD j true = false → (∀ e ∈ oj.after, Region.binds .any e = true → e.on ≠ i) → oi.apart all oj = true ∧ memOk fresh (kindOf oi.op) (kindOf oj.op) = true) →
      i ∈ Region.ready .any all listed → DY E all m okb i oi s v e →
      pAny E all m okb Q fuel (listed.setIfInBounds i true) (s.aft m i oi v e) → pAny E all m okb Q (fuel + 1) listed s := by
  intro fuel
  have self : ∀ {K : St → Prop} {s : St}, DY E all m okb i oi s v e → K (s.aft m i oi v e) → pOp E all m okb i K s := fun {K s} d k => by
    unfold pOp
    rw [hi]
    exact ⟨v, e, d, k⟩
  induction fuel with
  | zero =>
    intro listed s _ hr hy H
    refine ⟨fun h => (by rw [h] at hr; cases hr), fun j hj => ?_⟩
    by_cases hji : j = i
    · subst hji; exact self hy H
    · have := ready_mono hj hji
      rw [H.1] at this
      cases this
  | succ fuel ih =>
    intro listed s hfree hr hy H
    refine ⟨fun h => (by rw [h] at hr; cases hr), fun j hj => ?_⟩
    by_cases hji : j = i
    · subst hji; exact self hy H
    · have h1 := H.2 j (ready_mono hj hji)
      obtain ⟨hjun, oj, hoj, hall⟩ := mem_ready.1 hj
      have hnot : ∀ e ∈ oj.after, Region.binds .any e = true → e.on ≠ i := fun e he hb heq => by
        have h1 := hall e he hb
        have h0 := (mem_ready.1 hr).1
        rw [heq] at h1
        rcases Nat.lt_or_ge i listed.size with h' | h'
        · simp [h'] at h0 h1; rw [h0] at h1; cases h1
        · simp [Array.getElem?_eq_none h'] at h1
      have fr := hfree j oj hoj hji hjun hnot
      unfold pOp at h1 ⊢
      rw [hoj] at h1 ⊢
      obtain ⟨v2, f, dj, h2⟩ := h1
      obtain ⟨dj', di', eq⟩ := dy_swap (Ne.symm hji) fr.1 fr.2 hb hw hy dj
      refine ⟨v2, f, dj', ?_⟩
      refine ih (listed.setIfInBounds j true) _ (fun k ok hk hki hun hno => ?_) (ready_mono hr (Ne.symm hji)) di' ?_
      · refine hfree k ok hk hki ?_ hno
        by_cases hjk : j = k
        · subst hjk; exact hjun
        · rw [getD_set_ne true hjk] at hun; exact hun
      · rw [eq, Array.setIfInBounds_comm _ _ hji]
        exact h2
/-- The run in the order of the text, told step by step. -/
def Lex (E : Eng) (all : Array Oper) (m : Nat) (okb : Nat → Bool) (Q : St → Prop) : List Oper → Nat → St → Prop
  | [], _, s => Q s
  | o :: rest, i, s => ∃ v e, DY E all m okb i o s v e ∧ Lex E all m okb Q rest (i + 1) (s.aft m i o v e)
theorem memLex_spec (h : memLex fresh all = true) {i j : Nat} (hij : i < j) {oi oj : Oper} (hi : all[i]? = some oi) (hj : all[j]? = some oj) (hn : ∀ e ∈ oj.after, Region.binds .any e = true → e.on ≠ i) : memOk fresh (kindOf oi.op) (kindOf oj.op) = true := by
  have lt := (Array.getElem?_eq_some_iff.1 hj).1
  have z := List.all_eq_true.1 (List.all_eq_true.1 h j (List.mem_range.2 lt)) i (List.mem_range.2 hij)
  simp only [hi, hj, Bool.or_eq_true] at z
  rcases z with z | z
  · obtain ⟨e, he, hz⟩ := Array.any_eq_true'.1 z
    rw [Bool.and_eq_true] at hz
    exact absurd (by simpa using hz.2) (hn e he hz.1)
  · exact z
theorem pAny_lex {Q : St → Prop} (hb : ∀ b, okb (2 * b) = true → b < m) (hw : ∀ b, fresh = true → okb (2 * b + 1) = true → m ≤ b) (hm : memLex fresh all = true) : ∀ (l : List Oper) (k : Nat) (listed : Array Bool) (s : St), (∀ j, l[j]? = all[k + j]?) → (∀ j, j < k → listed.getD j true = true) →
    Region.lexFrom .any all l.length k listed = true → Lex E all m okb Q l k s → pAny E all m okb Q l.length listed s
  | [], _, _, _, _, _, hB, h => ⟨by simpa [Region.lexFrom] using hB, h⟩
  | o :: l, k, listed, s, hl, hd, hB, h => by
    have h0 : all[k]? = some o := by simpa using (hl 0).symm
    simp only [List.length_cons, Region.lexFrom, Bool.and_eq_true] at hB
    obtain ⟨⟨hr, hf⟩, hB'⟩ := hB
    obtain ⟨v, e, dy, hK⟩ := h
    refine pAny_first h0 hb hw l.length listed s (fun j oj hj hji hun hno => ⟨Region.free_spec h0 hf j oj hj hji hun hno, ?_⟩) (by simpa using hr) dy
      (pAny_lex hb hw hm l (k + 1) _ _ (fun j => by have := hl (j + 1); simpa [Nat.add_assoc, Nat.add_comm 1 j] using this) (fun j hj => ?_) hB' hK)
    · have : k < j := by
        rcases Nat.lt_or_ge j k with c | c
        · rw [hd j c] at hun; cases hun
        · omega
      exact memLex_spec hm this h0 hj hno
    · by_cases c : k = j
      · subst c
        rcases Nat.lt_or_ge k listed.size with c | c
        · simp [c]
        · simp [Array.getElem?_eq_none c]
      · rw [getD_set_ne true c]
        exact hd j (by omega)
end
section
variable {E : Eng} {N : Base} {w0 : World} {all : Array Oper} {m : Nat} {okb : Nat → Bool}
theorem wantedA_eq {φ : Nat → Nat} {s : St} {a : Act} {w : World} (r : Rel N w0 φ s a w) {o : Oper} {b : Bool} (h : wantedA all o s.t = some b) : Region.wanted o (yielded all a.tmps) = b := by
  unfold wantedA at h
  unfold Region.wanted
  cases hg : o.guard with
  | none =>
    rw [hg] at h
    exact Option.some.inj h
  | some gw =>
    obtain ⟨j, want⟩ := gw
    rw [hg] at h
    simp only at h ⊢
    cases hd : guardTmp all j with
    | none =>
      rw [hd] at h
      simp only [Option.some.injEq] at h
      subst h
      unfold yielded
      unfold guardTmp at hd
      rw [hd]
      cases want <;> rfl
    | some d =>
      rw [hd] at h
      simp only at h
      split at h
      · rename_i c hc
        obtain rfl := Option.some.inj h
        rw [yields_bool r hd hc]
        cases c <;> cases want <;> rfl
      · cases h
      · rename_i hc hu
        obtain rfl := Option.some.inj h
        have hk : (s.t.getD d (.v undef)).known = true := by
          cases q : s.t.getD d (.v undef) with
          | u => exact absurd q hu
          | _ => rfl
        rw [yields_none r hd hk hc]
        cases want <;> rfl
theorem wpAny_of_p (ok : EngOk E N w0) {Q : St → Prop} {Q' : Exit → Act → World → Prop} {h0 : Heap} {φ0 : Nat → Nat} (hQ : ∀ s φ a w, Sub h0 s.h → Agr φ0 φ h0 → Rel N w0 φ s a w → Q s → Q' .normal a w) : ∀ (fuel : Nat) (listed : Array Bool) (s : St) (φ : Nat → Nat) (a : Act) (w : World), Sub h0 s.h → Agr φ0 φ h0 → Rel N w0 φ s a w →
    pAny E all m okb Q fuel listed s → wpAny E.P .any all Q' fuel listed a w
  | 0, _, s, φ, a, w, sb, ag, rel, h => ⟨h.1, hQ s φ a w sb ag rel h.2⟩
  | fuel + 1, _, s, φ, a, w, sb, ag, rel, h => ⟨fun k => hQ s φ a w sb ag rel (h.1 k), fun i hi => by
    have z := h.2 i hi
    unfold pOp at z
    unfold wpOp
    cases ho : all[i]? with
    | none =>
      rw [ho] at z
      exact wpAny_of_p ok hQ fuel _ s φ a w sb ag rel z
    | some o =>
      rw [ho] at z
      obtain ⟨v, e, d, hp⟩ := z
      simp only
      rcases d with ⟨wt, x⟩ | ⟨wt, hv, he⟩
      · rw [if_pos (wantedA_eq rel wt)]
        refine .inl (xop_wp ok rel.lies rel.ev rel.st x fun φ' w' ag' sb' l st => ?_)
        exact wpAny_of_p ok hQ fuel _ _ φ' _ w' (sb.trans sb') (ag.trans ag' sb) (rel.put ag' sb' l st _) hp
      · rw [if_neg (by rw [wantedA_eq rel wt]; decide)]
        subst hv he
        exact wpAny_of_p ok hQ fuel _ (s.aft m i o (.v undef) .nop) φ _ w sb ag (rel.put (Agr.refl _ _) (Sub.refl _) rel.lies v_stable o.dst) hp⟩
/-- No function is gone into. -/
def noCall {R : Type} : Call R := fun _ _ _ _ => none
theorem lex_of {R : Type} : ∀ (l : List Oper) (i : Nat) (s : St) (K : St → Option R) (r : R), xops E noCall okb all m l i s K = some r → ∃ s', K s' = some r ∧ Sub s.h s'.h ∧ Lex E all m okb (fun x => x = s') l i s
  | [], i, s, K, r, H => ⟨s, H, Sub.refl _, rfl⟩
  | o :: rest, i, s, K, r, H => by
    have go : wantedA all o s.t = some true → xop1 E noCall okb s.h (m + i) (evA s.t) o (fun v h => xops E noCall okb all m rest (i + 1) (s.put o.dst v h) K) = some r → ∃ s', K s' = some r ∧ Sub s.h s'.h ∧ Lex E all m okb (fun x => x = s') (o :: rest) i s := fun wt H => by
      have H2 : xop E s.h (m + i) okb (evA s.t) o (fun v e => (fun v h => xops E noCall okb all m rest (i + 1) (s.put o.dst v h) K) v (e.on (m + i) s.h)) = some r := by
        unfold xop1 at H
        split at H
        · split at H
          · split at H
            · exact H
            · split at H
              · cases H
              · cases H
          · split at H
            · cases H
            · cases H
          · cases H
        · exact H
      obtain ⟨v, e, d, hk⟩ := xop_dir H2
      obtain ⟨s', k, sb, lx⟩ := lex_of rest (i + 1) _ K r hk
      exact ⟨s', k, (xop_sub d).trans sb, v, e, .inl ⟨wt, d⟩, lx⟩
    have pass : wantedA all o s.t = some false → xops E noCall okb all m rest (i + 1) (s.put o.dst (.v undef) s.h) K = some r → ∃ s', K s' = some r ∧ Sub s.h s'.h ∧ Lex E all m okb (fun x => x = s') (o :: rest) i s := fun wt H => by
      obtain ⟨s', k, sb, lx⟩ := lex_of rest (i + 1) _ K r H
      exact ⟨s', k, sb, .v undef, .nop, .inr ⟨wt, rfl, rfl⟩, lx⟩
    unfold xops at H
    simp only [br] at H
    split at H
    · rename_i hg
      exact go (by unfold wantedA; rw [hg]) H
    · rename_i j want hg
      split at H
      · rename_i hd
        exact pass (by unfold wantedA; rw [hg]; simp only [hd]) H
      · rename_i d hd
        split at H
        · rename_i c hc
          have wt : wantedA all o s.t = some (c == want) := by
            unfold wantedA
            rw [hg]
            simp only [hd, hc]
          split at H
          · rename_i hct
            subst hct
            rw [set_bool hc] at H
            split at H
            · rename_i hwt
              subst hwt
              exact go wt H
            · rename_i hwt
              exact pass (by rw [wt]; cases want <;> simp_all) H
          · rename_i hct
            have hcf : c = false := by simpa using hct
            subst hcf
            rw [set_bool hc] at H
            split at H
            · rename_i hwt
              subst hwt
              exact pass wt H
            · rename_i hwt
              exact go (by rw [wt]; cases want <;> simp_all) H
        · cases H
        · rename_i hu hc
          refine pass ?_ H
          unfold wantedA
          rw [hg]
          simp only [hd]
/-! ### Code -/
def addNone (h : Heap) (n : Nat) : Heap := h ++ List.replicate n none
theorem hat_add {h : Heap} {n b : Nat} : hat (addNone h n) b = hat h b := by
  unfold hat addNone
  rw [List.getD_eq_getElem?_getD, List.getD_eq_getElem?_getD]
  rcases Nat.lt_or_ge b h.length with c | c
  · rw [List.getElem?_append_left c]
  · rw [List.getElem?_append_right c, List.getElem?_eq_none c, List.getElem?_replicate]
    split <;> rfl
theorem agr_add {h : Heap} {n : Nat} {φ ψ : Nat → Nat} : Agr φ ψ (addNone h n) ↔ Agr φ ψ h := by
  unfold Agr
  simp only [hat_add]
theorem sub_add {h : Heap} {n : Nat} : Sub h (addNone h n) := fun b k => by rw [hat_add]; exact k
theorem Rel.add {φ : Nat → Nat} {s : St} {a : Act} {w : World} (r : Rel N w0 φ s a w) (n : Nat) : Rel N w0 φ ⟨s.t, addNone s.h n⟩ a w := by
  obtain ⟨l, f, d⟩ := r
  refine ⟨⟨l.below, l.size, fun b t cs hb => ?_, fun b c hb hc => ?_, l.vir⟩, ⟨f.1, fun ψ a => f.2 ψ (agr_add.1 a)⟩, d⟩
  · simp only [hat_add] at hb
    exact ⟨(l.blk b t cs hb).1, fun ψ a => (l.blk b t cs hb).2 ψ (agr_add.1 a)⟩
  · simp only [hat_add] at hb hc
    exact l.inj b c hb hc
theorem Rel.drew {φ : Nat → Nat} {s : St} {a : Act} {w : World} (r : Rel N w0 φ s a w) : Rel N w0 φ s a { w with drawn := w.drawn + 1 } :=
  ⟨⟨r.lies.below.drew, r.lies.size, r.lies.blk, r.lies.inj, r.lies.vir⟩, r.fits, r.defers⟩
inductive Ex where
  | normal
  | exit (id : Nat)
  | ret
def Ex.ex : Ex → Exit
  | .normal => .normal
  | .exit id => .exit id
  | .ret => .ret
def xreg {R : Type} (E : Eng) (call : Call R) (ops : Array Oper) (draw : Bool) (s : St) (K : St → Option R) : Option R :=
  if draw = true then
    (if Region.lexB .any ops = true ∧ E.P.follows .mixedOrders = true then (match memLex false ops, memLex true ops with
      | true, _ => xops E noCall (okD false s.h.length) ops s.h.length ops.toList 0 ⟨s.t, addNone s.h ops.size⟩ K
      | false, true => xops E noCall (okD true s.h.length) ops s.h.length ops.toList 0 ⟨s.t, addNone s.h ops.size⟩ K
      | false, false => none) else none)
  else xops E call (fun _ => true) ops s.h.length ops.toList 0 ⟨s.t, addNone s.h ops.size⟩ K
/-- It speaks of blocks below m alone. -/
def AV.below (m : Nat) : AV → Bool
  | .p b _ => Nat.blt b m
  | .s b _ _ _ => Nat.blt b m
  | .f _ cs => cs.all fun c => Nat.blt c.1 m
  | _ => true
/-- What a loop's head keeps: temporaries that live on, blocks below m. -/
def cutT (keep : Nat → Bool) (m : Nat) : Nat → List AV → List AV
  | _, [] => []
  | i, x :: r => (match keep i, x.below m with | true, true => x | _, _ => .u) :: cutT keep m (i + 1) r
def closedH (m : Nat) (h : Heap) : Bool := h.all fun b => match b with | some (_, cs) => cs.all (AV.below m) | none => true
def xloop {R : Type} (keep : Nat → Bool) (m : Nat) (body : St → (Ex → St → Option R) → Option R) : Nat → St → (Ex → St → Option R) → Option R
  | 0, _, _ => none
  | n + 1, s, K => body s fun e s' => match e with
    | .normal => match closedH m (s'.h.take m) with
      | true => xloop keep m body n ⟨cutT keep m 0 s'.t, s'.h.take m⟩ K
      | false => none
    | .exit id => K (.exit id) s'
    | .ret => K .ret s'
def xc {R : Type} (E : Eng) (call : Call R) (keep : Nat → Bool) (L : Nat) : Code → St → (Ex → St → Option R) → Option R
  | .skip, s, K => K .normal s
  | .region _ ops draw, s, K => xreg E call ops draw s (K .normal)
  | .seq a b, s, K => xc E call keep L a s fun e s' => match e with
    | .normal => xc E call keep L b s' K
    | .exit id => K (.exit id) s'
    | .ret => K .ret s'
  | .cond c x y, s, K => match evA s.t c with
    | .v (.bool b) => br b (xc E call keep L x s K) (xc E call keep L y s K)
    | _ => none
  | .block id b, s, K => xc E call keep L b s fun e s' => match e with
    | .normal => K .normal s'
    | .exit j => if j = id then K .normal s' else K (.exit j) s'
    | .ret => K .ret s'
  | .loop b, s, K => match closedH s.h.length s.h with
    | true => xloop keep s.h.length (fun s K => xc E call keep L b s K) L ⟨cutT keep s.h.length 0 s.t, s.h⟩ K
    | false => none
  | .exit id, s, K => K (.exit id) s
  | .scope b, s, K => xc E call keep L b s K
  | .label _, s, K => K .normal s
  | .ret, s, K => K .ret s
  | _, _, _ => none
def wpL (P : Program) (c : Code) (Q : Exit → Act → World → Prop) (a : Act) (w : World) : Prop :=
  ∀ (b : Frame) (k : List Item) (cs : List Frame), ∃ e a' w', Q e a' w' ∧ Arrives P (lone (b.at a (.code c :: .inLoop c :: k)) cs w) b k cs e a' w'
theorem wpL_of {P : Program} {c : Code} {Q : Exit → Act → World → Prop} {a : Act} {w : World} (h : c.wp P (Exit.then (wpL P c Q) Q) a w) : wpL P c Q a w := by
  intro b k cs
  obtain ⟨e, a₁, w₁, hq, harr⟩ := h b (.inLoop c :: k) cs
  cases e with
  | normal =>
    obtain ⟨e₂, a₂, w₂, hq₂, harr₂⟩ := hq b k cs
    exact ⟨e₂, a₂, w₂, hq₂, .of_steps (Steps.trans harr (.one step_inLoop)) harr₂⟩
  | exit id => exact ⟨_, a₁, w₁, hq, .pass (x := .inLoop c) rfl (fun _ _ => .inl (by simp)) harr⟩
  | goto l => exact ⟨_, a₁, w₁, hq, .pass (x := .inLoop c) rfl (fun _ _ => .inl (by simp)) harr⟩
  | ret => exact ⟨_, a₁, w₁, hq, .pass (x := .inLoop c) rfl (fun _ _ => .inl (by simp)) harr⟩
  | panic ch => exact ⟨_, a₁, w₁, hq, .pass (x := .inLoop c) rfl (fun _ _ => .inl (by simp)) harr⟩
  | outgrown => exact ⟨_, a₁, w₁, hq, .pass (x := .inLoop c) rfl (fun _ _ => .inl (by simp)) harr⟩
theorem wp_of_wpL {P : Program} {c : Code} {Q : Exit → Act → World → Prop} {a : Act} {w : World} (h : wpL P c Q a w) : (Code.loop c).wp P Q a w :=
  fun b k cs => let ⟨e, a', w', q, r⟩ := h b k cs; ⟨e, a', w', q, .of_steps (.one step_loop) r⟩
/-- The code comes to this end, in this state. -/
def Runs (E : Eng) (N : Base) (w0 : World) (c : Code) (s : St) (e : Ex) (s' : St) : Prop :=
  Sub s.h s'.h ∧ ∀ φ a w, Rel N w0 φ s a w → c.wp E.P (fun x a' w' => x = e.ex ∧ ∃ φ', Agr φ φ' s.h ∧ Rel N w0 φ' s' a' w') a w
theorem xreg_runs {R : Type} {call : Call R} (ok : EngOk E N w0) (cok : CallOk E N w0 call) {id : Nat} {ops : Array Oper} {draw : Bool} {s : St} {K : St → Option R} {r : R} (H : xreg E call ops draw s K = some r) :
    ∃ s', K s' = some r ∧ Runs E N w0 (.region id ops draw) s .normal s' := by
  unfold xreg at H
  split at H
  · rename_i hd
    subst hd
    have go : ∀ fresh : Bool, memLex fresh ops = true → Region.lexB .any ops = true → E.P.follows .mixedOrders = true → xops E noCall (okD fresh s.h.length) ops s.h.length ops.toList 0 ⟨s.t, addNone s.h ops.size⟩ K = some r → ∃ s', K s' = some r ∧ Runs E N w0 (.region id ops true) s .normal s' := by
      intro fresh c2 c1 c3 H
      obtain ⟨s', hk, sb, lx⟩ := lex_of _ _ _ _ _ H
      refine ⟨s', hk, sub_add.trans sb, fun φ a w rel => ?_⟩
      refine wp_region_any c3 ?_
      have B := c1
      simp only [Region.lexB, Bool.and_eq_true] at B
      have p := pAny_lex (E := E) (m := s.h.length) (okb := okD fresh s.h.length) (fresh := fresh) (Q := fun x => x = s') (fun b hb => okD_read hb) (fun b hf hb => okD_write hf hb) c2 ops.toList 0 (Array.replicate ops.size false) ⟨s.t, addNone s.h ops.size⟩ (by simp) (fun j hj => by omega) (by simpa using B.2) lx
      have p2 := wpAny_of_p (Q' := fun x a' w' => x = Ex.normal.ex ∧ ∃ φ', Agr φ φ' s.h ∧ Rel N w0 φ' s' a' w') ok (h0 := s.h) (φ0 := φ) (fun x φ' a' w' _ ag rel' hx => by subst hx; exact ⟨rfl, φ', ag, rel'⟩) _ _ _ φ a _ sub_add (Agr.refl _ _) (rel.add ops.size).drew p
      simpa using p2
    split at H
    · rename_i c
      split at H
      · rename_i q
        exact go false q c.1 c.2 H
      · rename_i _ q
        exact go true q c.1 c.2 H
      · cases H
    · cases H
  · rename_i hd
    have hd : draw = false := by simpa using hd
    subst hd
    obtain ⟨s', hk, sb, run⟩ := xops_wp ok cok _ _ _ _ _ H
    refine ⟨s', hk, sub_add.trans sb, fun φ a w rel => ?_⟩
    exact wp_region_list (run φ a w (rel.add ops.size) _ fun φ' a' w' ag rel' => ⟨rfl, φ', agr_add.1 ag, rel'⟩)
end
section
variable {E : Eng} {N : Base} {w0 : World}
theorem ex_inj {e e' : Ex} (h : e.ex = e'.ex) : e = e' := by
  cases e <;> cases e' <;> simp_all [Ex.ex]
/-- What a body's telling says of it. -/
def BodyOk {R : Type} (E : Eng) (N : Base) (w0 : World) (c : Code) (body : St → (Ex → St → Option R) → Option R) : Prop := ∀ s K r, body s K = some r → ∃ e s', K e s' = some r ∧ Runs E N w0 c s e s'
theorem below_re {m : Nat} {x : AV} (h : x.below m = true) {ψ χ : Nat → Nat} (e : ∀ b, b < m → ψ b = χ b) (e2 : ∀ b, VB ≤ b → ψ b = χ b) : x.re ψ = x.re χ := by
  cases x with
  | ox k => simp only [AV.re, e2 _ le_vx]
  | oy k i => simp only [AV.re, e2 _ le_vx]
  | p b o =>
    simp only [AV.below, Nat.blt_eq] at h
    simp only [AV.re, e b h]
  | s b o n c =>
    simp only [AV.below, Nat.blt_eq] at h
    simp only [AV.re, e b h]
  | f fn cs =>
    simp only [AV.below, List.all_eq_true, Nat.blt_eq] at h
    simp only [AV.re]
    have : (cs.map fun c => Value.pointer (some ⟨ψ c.1, c.2, none⟩)) = cs.map fun c => Value.pointer (some ⟨χ c.1, c.2, none⟩) := List.map_congr_left fun c hc => by rw [e c.1 (h c hc)]
    rw [this]
  | _ => rfl
theorem hat_take {h : Heap} {m b : Nat} : hat (h.take m) b = if b < m then hat h b else none := by
  unfold hat
  rw [List.getD_eq_getElem?_getD, List.getD_eq_getElem?_getD, List.getElem?_take]
  split <;> rfl
theorem cutT_get {keep : Nat → Bool} {m : Nat} : ∀ {t : List AV} {i j : Nat} {x : AV}, (cutT keep m j t)[i]? = some x → x.known = true → t[i]? = some x ∧ x.below m = true
  | [], i, j, x, h, _ => by simp [cutT] at h
  | y :: r, 0, j, x, h, hk => by
    simp only [cutT, List.getElem?_cons_zero, Option.some.injEq] at h
    split at h
    · rename_i _ hb
      subst h
      exact ⟨rfl, hb⟩
    · subst h
      cases hk
  | y :: r, i + 1, j, x, h, hk => by
    simp only [cutT, List.getElem?_cons_succ] at h
    have z := cutT_get h hk
    exact ⟨by rw [List.getElem?_cons_succ]; exact z.1, z.2⟩
theorem cutT_len {keep : Nat → Bool} {m : Nat} : ∀ {t : List AV} {j : Nat}, (cutT keep m j t).length = t.length
  | [], _ => rfl
  | y :: r, j => by simp only [cutT, List.length_cons, cutT_len]
/-- A loop's head, behind what it keeps. -/
theorem Rel.cut {φ : Nat → Nat} {s : St} {a : Act} {w : World} (r : Rel N w0 φ s a w) {m : Nat} (keep : Nat → Bool) (hc : closedH m (s.h.take m) = true) : Rel N w0 φ ⟨cutT keep m 0 s.t, s.h.take m⟩ a w := by
  obtain ⟨l, f, d⟩ := r
  have ext : ∀ ψ, Agr φ ψ (s.h.take m) → Agr φ (fun b => if b < m then ψ b else φ b) s.h := fun ψ ag b hb => by
    by_cases c : b < m
    · simp only [if_pos c]
      exact ag b (hb.imp (fun q => by rw [hat_take, if_pos c]; exact q) id)
    · simp only [if_neg c]
  have far : ∀ ψ, Agr φ ψ (s.h.take m) → ∀ b, VB ≤ b → (if b < m then ψ b else φ b) = ψ b := fun ψ ag b hb => by
    split
    · rfl
    · exact (ag b (.inr hb)).symm
  refine ⟨⟨l.below, l.size, fun b t cs hb => ?_, fun b c hb hc' => ?_, l.vir⟩, ⟨by rw [cutT_len]; exact f.1, fun ψ ag i x hx hk => ?_⟩, d⟩
  · have hb' := hb
    simp only [hat_take] at hb'
    split at hb'
    · rename_i lt
      refine ⟨(l.blk b t cs hb').1, fun ψ ag => ?_⟩
      have z := (l.blk b t cs hb').2 _ (ext ψ ag)
      have cl : ∀ x ∈ cs, x.below m = true := by
        have lt2 : b < (s.h.take m).length := lt_of_hat (by rw [hb]; rfl)
        have mem : some (t, cs) ∈ s.h.take m := by
          unfold hat at hb
          rw [List.getD_eq_getElem?_getD, List.getElem?_eq_getElem lt2] at hb
          have hb : (s.h.take m)[b] = some (t, cs) := hb
          rw [← hb]
          exact List.getElem_mem lt2
        have := List.all_eq_true.1 hc _ mem
        exact List.all_eq_true.1 this
      have e : cs.map (AV.re fun b => if b < m then ψ b else φ b) = cs.map (AV.re ψ) := List.map_congr_left fun x hx => below_re (cl x hx) (fun b hb => if_pos hb) (far ψ ag)
      rw [e] at z
      exact z
    · cases hb'
  · simp only [hat_take] at hb hc'
    split at hb
    · split at hc'
      · exact l.inj b c hb hc'
      · cases hc'
    · cases hb
  · obtain ⟨hx', hb⟩ := cutT_get hx hk
    have z := f.2 _ (ext ψ ag) i x hx' hk
    rw [z, below_re hb (fun b hb => if_pos hb) (far ψ ag)]
theorem Sub.cut {h h' : Heap} {m : Nat} (sb : Sub h h') (hm : ∀ b, (hat h b).isSome = true → b < m) : Sub h (h'.take m) := fun b hb => by
  rw [hat_take, if_pos (hm b hb)]
  exact sb b hb
theorem xloop_runs {R : Type} {keep : Nat → Bool} {m : Nat} {c : Code} {body : St → (Ex → St → Option R) → Option R} (hb : BodyOk E N w0 c body) : ∀ (n : Nat) {s : St} (K : Ex → St → Option R) (r : R), (∀ b, (hat s.h b).isSome = true → b < m) → xloop keep m body n s K = some r →
    ∃ e s', K e s' = some r ∧ Sub s.h s'.h ∧ ∀ φ a w, Rel N w0 φ s a w → wpL E.P c (fun x a' w' => x = e.ex ∧ ∃ φ', Agr φ φ' s.h ∧ Rel N w0 φ' s' a' w') a w
  | 0, _, K, r, _, H => by cases H
  | n + 1, s, K, r, hm, H => by
    unfold xloop at H
    obtain ⟨e, s1, hk, sb, run⟩ := hb s _ r H
    cases e with
    | normal =>
      simp only at hk
      split at hk
      · rename_i hc
        have sb1 := sb.cut hm
        obtain ⟨e2, s2, hk2, sb2, run2⟩ := xloop_runs hb n K r (fun b hb => by
          simp only [hat_take] at hb
          split at hb
          · assumption
          · cases hb) hk
        refine ⟨e2, s2, hk2, sb1.trans sb2, fun φ a w rel => wpL_of (wp_mono (run φ a w rel) fun x a' w' hx => ?_)⟩
        obtain ⟨rfl, φ', ag, rel'⟩ := hx
        intro b k cs
        obtain ⟨x, a2, w2, hq, arr⟩ := run2 φ' a' w' (rel'.cut keep hc) b k cs
        obtain ⟨hx, φ'', ag', rel''⟩ := hq
        exact ⟨x, a2, w2, ⟨hx, φ'', ag.trans ag' sb1, rel''⟩, arr⟩
      · cases hk
    | exit id =>
      refine ⟨.exit id, s1, hk, sb, fun φ a w rel => wpL_of (wp_mono (run φ a w rel) fun x a' w' hx => ?_)⟩
      obtain ⟨rfl, φ', ag, rel'⟩ := hx
      exact ⟨rfl, φ', ag, rel'⟩
    | ret =>
      refine ⟨.ret, s1, hk, sb, fun φ a w rel => wpL_of (wp_mono (run φ a w rel) fun x a' w' hx => ?_)⟩
      obtain ⟨rfl, φ', ag, rel'⟩ := hx
      exact ⟨rfl, φ', ag, rel'⟩
theorem xc_runs {R : Type} {call : Call R} (ok : EngOk E N w0) (cok : CallOk E N w0 call) {keep : Nat → Bool} {L : Nat} : ∀ (c : Code), BodyOk E N w0 c (xc E call keep L c)
  | .skip => fun s K r H => ⟨.normal, s, H, Sub.refl _, fun φ a w rel => wp_skip ⟨rfl, φ, Agr.refl _ _, rel⟩⟩
  | .region _ ops draw => fun s K r H => by
    obtain ⟨s', hk, run⟩ := xreg_runs ok cok H
    exact ⟨.normal, s', hk, run⟩
  | .seq x y => fun s K r H => by
    unfold xc at H
    obtain ⟨e, s1, hk, sb, run⟩ := xc_runs ok cok x s _ r H
    cases e with
    | normal =>
      obtain ⟨e2, s2, hk2, sb2, run2⟩ := xc_runs ok cok y s1 K r hk
      refine ⟨e2, s2, hk2, sb.trans sb2, fun φ a w rel => wp_seq (wp_mono (run φ a w rel) fun x a' w' hx => ?_)⟩
      obtain ⟨rfl, φ', ag, rel'⟩ := hx
      exact wp_mono (run2 φ' a' w' rel') fun x a2 w2 hx => ⟨hx.1, hx.2.elim fun φ'' h => ⟨φ'', ag.trans h.1 sb, h.2⟩⟩
    | exit id =>
      refine ⟨.exit id, s1, hk, sb, fun φ a w rel => wp_seq (wp_mono (run φ a w rel) fun x a' w' hx => ?_)⟩
      obtain ⟨rfl, φ', ag, rel'⟩ := hx
      exact ⟨rfl, φ', ag, rel'⟩
    | ret =>
      refine ⟨.ret, s1, hk, sb, fun φ a w rel => wp_seq (wp_mono (run φ a w rel) fun x a' w' hx => ?_)⟩
      obtain ⟨rfl, φ', ag, rel'⟩ := hx
      exact ⟨rfl, φ', ag, rel'⟩
  | .cond c x y => fun s K r H => by
    unfold xc at H
    simp only [br] at H
    split at H
    · rename_i b hc
      have ev : ∀ φ a w, Rel N w0 φ s a w → a.eval c = .bool b := fun φ a w rel => by rw [rel.ev c (by rw [hc]; rfl), hc]; rfl
      split at H
      · rename_i hb
        obtain ⟨e, s1, hk, sb, run⟩ := xc_runs ok cok x s K r H
        exact ⟨e, s1, hk, sb, fun φ a w rel => wp_cond_true (by rw [ev φ a w rel, hb]) (run φ a w rel)⟩
      · rename_i hb
        obtain ⟨e, s1, hk, sb, run⟩ := xc_runs ok cok y s K r H
        exact ⟨e, s1, hk, sb, fun φ a w rel => wp_cond_false (by rw [ev φ a w rel]; simpa using hb) (run φ a w rel)⟩
    · cases H
  | .block id b => fun s K r H => by
    unfold xc at H
    obtain ⟨e, s1, hk, sb, run⟩ := xc_runs ok cok b s _ r H
    cases e with
    | normal =>
      refine ⟨.normal, s1, hk, sb, fun φ a w rel => wp_block (wp_mono (run φ a w rel) fun x a' w' hx => ?_)⟩
      obtain ⟨rfl, φ', ag, rel'⟩ := hx
      exact ⟨rfl, φ', ag, rel'⟩
    | exit j =>
      simp only at hk
      split at hk
      · rename_i hj
        refine ⟨.normal, s1, hk, sb, fun φ a w rel => wp_block (wp_mono (run φ a w rel) fun x a' w' hx => ?_)⟩
        obtain ⟨rfl, φ', ag, rel'⟩ := hx
        show (if j = id then _ else _)
        rw [if_pos hj]
        exact ⟨rfl, φ', ag, rel'⟩
      · rename_i hj
        refine ⟨.exit j, s1, hk, sb, fun φ a w rel => wp_block (wp_mono (run φ a w rel) fun x a' w' hx => ?_)⟩
        obtain ⟨rfl, φ', ag, rel'⟩ := hx
        show (if j = id then _ else _)
        rw [if_neg hj]
        exact ⟨rfl, φ', ag, rel'⟩
    | ret =>
      refine ⟨.ret, s1, hk, sb, fun φ a w rel => wp_block (wp_mono (run φ a w rel) fun x a' w' hx => ?_)⟩
      obtain ⟨rfl, φ', ag, rel'⟩ := hx
      exact ⟨rfl, φ', ag, rel'⟩
  | .loop b => fun s K r H => by
    unfold xc at H
    split at H
    · rename_i hc
      have hc2 : closedH s.h.length (s.h.take s.h.length) = true := by rw [List.take_length]; exact hc
      obtain ⟨e, s1, hk, sb, run⟩ := xloop_runs (m := s.h.length) (s := ⟨cutT keep s.h.length 0 s.t, s.h⟩) (xc_runs ok cok b) L K r (fun b hb => lt_of_hat hb) H
      refine ⟨e, s1, hk, sb, fun φ a w rel => wp_of_wpL (run φ a w ?_)⟩
      have z := rel.cut keep hc2
      rw [List.take_length] at z
      exact z
    · cases H
  | .exit id => fun s K r H => ⟨.exit id, s, H, Sub.refl _, fun φ a w rel => wp_exit ⟨rfl, φ, Agr.refl _ _, rel⟩⟩
  | .label _ => fun s K r H => ⟨.normal, s, H, Sub.refl _, fun φ a w rel => wp_label ⟨rfl, φ, Agr.refl _ _, rel⟩⟩
  | .ret => fun s K r H => ⟨.ret, s, H, Sub.refl _, fun φ a w rel => wp_ret ⟨rfl, φ, Agr.refl _ _, rel⟩⟩
  | .rangeFunc _ _ _ _ => fun s K r H => by cases H
  | .scope b => fun s K r H => by
    unfold xc at H
    obtain ⟨e, s1, hk, sb, run⟩ := xc_runs ok cok b s K r H
    refine ⟨e, s1, hk, sb, fun φ a w rel => wp_scope_straight (wp_mono (run φ a w rel) fun x a' w' hx => ?_)⟩
    obtain ⟨rfl, φ', ag, rel'⟩ := hx
    cases e <;> exact ⟨rfl, φ', ag, rel'⟩
  | .goto _ => fun s K r H => by cases H
  | .refuse _ => fun s K r H => by cases H
/-! ### Calls -/
def xres1 (E : Eng) (s : St) : ResultVar → Option AV
  | .tmp t => match s.t.getD t (.v undef) with
    | .u => none
    | x => some x
  | .cell a t => match s.t.getD a (.v undef) with
    | .p b o => match hat s.h b with
      | some (_, cs) => loadA E.P t cs o
      | none => none
    | _ => none
def xresL (E : Eng) (s : St) : List ResultVar → Option (List AV)
  | [] => some []
  | x :: r => match xres1 E s x, xresL E s r with | some v, some l => some (v :: l) | _, _ => none
def xres {R : Type} (E : Eng) (fn : Func) (s : St) (K : AV → Heap → Option R) : Option R :=
  match xresL E s fn.results.toList with
  | some [v] => K v s.h
  | some l => match allV l with | some vs => K (.v (.tuple vs.toArray)) s.h | none => none
  | none => none
def run {R : Type} (E : Eng) : Nat → Call R
  | 0 => fun _ _ _ _ => none
  | n + 1 => fun f as h K => match E.P.funcs[f]? with
    | some fn => if entersB E.P f = true ∧ as.all AV.known = true then match fn.body with
      | some c => xc E (run E n) (E.keep f) (E.fuel f) c ⟨as ++ List.replicate (fn.ntmps - as.length) (.v undef), h⟩ fun e s => match e with
        | .normal => xres E fn s K
        | .ret => xres E fn s K
        | .exit _ => none
      | none => none else none
    | none => none
def resOne (tmps : Array Value) : ResultVar → Sem Value
  | .tmp t => pure (tmps.getD t undef)
  | .cell a t => do loadVar t (← asAddr (tmps.getD a undef))
theorem results_eq (fn : Func) (tmps : Array Value) : results fn tmps = (do
    let vs ← fn.results.mapM (resOne tmps)
    pure (if h : vs.size = 1 then vs[0] else .tuple vs)) := by
  unfold results
  congr 2
theorem res1_run {φ : Nat → Nat} {s : St} {a : Act} {w : World} (rel : Rel N w0 φ s a w) {x : ResultVar} {v : AV} (h : xres1 E s x = some v) :
    (resOne a.tmps x).run E.P w = .ok (v.re φ) w ∧ Stable φ s.h v := by
  cases x with
  | tmp t =>
    have e := rel.ev (.tmp t)
    have sst := rel.st (.tmp t)
    simp only [Act.eval, evA] at e sst
    simp only [xres1] at h
    split at h
    · cases h
    · rename_i nu
      obtain rfl := Option.some.inj h
      have hk : (s.t.getD t (.v undef)).known = true := by
        cases q : s.t.getD t (.v undef) with
        | u => exact absurd q nu
        | _ => rfl
      exact ⟨by simp only [resOne, Sem.run_pure, e hk], sst⟩
  | cell b t =>
    have e := rel.ev (.tmp b)
    simp only [Act.eval, evA] at e
    simp only [xres1] at h
    split at h
    · rename_i g o hp
      split at h
      · rename_i ty cs hb
        have z := run_loadA (P := E.P) h ((rel.lies.blk g ty cs hb).2 φ (Agr.refl _ _))
        refine ⟨?_, loadA_stable h (rel.lies.stable hb)⟩
        have e := e (by rw [hp]; rfl)
        simp only [resOne, e, hp, AV.re, asAddr, pure_bind]
        exact z
      · cases h
    · cases h
theorem resL_run {φ : Nat → Nat} {s : St} {a : Act} {w : World} (rel : Rel N w0 φ s a w) : ∀ {l : List ResultVar} {vs : List AV}, xresL E s l = some vs →
    (l.mapM (resOne a.tmps)).run E.P w = .ok (vs.map (AV.re φ)) w ∧ ∀ v ∈ vs, Stable φ s.h v
  | [], vs, h => by simp only [xresL, Option.some.injEq] at h; subst h; exact ⟨rfl, fun v hv => by cases hv⟩
  | x :: l, vs, h => by
    simp only [xresL] at h
    split at h
    · rename_i v l' h1 h2
      obtain rfl := Option.some.inj h
      obtain ⟨p1, p2⟩ := res1_run rel h1
      obtain ⟨q1, q2⟩ := resL_run rel h2
      refine ⟨?_, fun y hu => ?_⟩
      · rw [List.mapM_cons, Sem.run_bind, p1]
        simp only [Result.andThen_ok]
        rw [Sem.run_bind, q1]
        rfl
      · rcases List.mem_cons.1 hu with rfl | hu
        · exact p2
        · exact q2 _ hu
    · cases h
theorem xres_run {R : Type} {fn : Func} {s : St} {K : AV → Heap → Option R} {r : R} (H : xres E fn s K = some r) : ∃ v, K v s.h = some r ∧ ∀ φ a w, Rel N w0 φ s a w → (results fn a.tmps).run E.P w = .ok (v.re φ) w ∧ Stable φ s.h v := by
  unfold xres at H
  have key : ∀ {vs : List AV}, xresL E s fn.results.toList = some vs → ∀ φ a w, Rel N w0 φ s a w → (fn.results.mapM (resOne a.tmps)).run E.P w = .ok (vs.map (AV.re φ)).toArray w ∧ ∀ v ∈ vs, Stable φ s.h v := fun {vs} hv φ a w rel => by
    obtain ⟨q1, q2⟩ := resL_run rel hv
    refine ⟨?_, q2⟩
    rw [Array.mapM_eq_mapM_toList, Sem.run_map, q1]
    rfl
  split at H
  · rename_i v hv
    refine ⟨v, H, fun φ a w rel => ?_⟩
    obtain ⟨q1, q2⟩ := key hv φ a w rel
    refine ⟨?_, q2 v (by simp)⟩
    rw [results_eq, Sem.run_bind, q1]
    rfl
  · rename_i vs ns hv
    split at H
    · rename_i us hu
      refine ⟨_, H, fun φ a w rel => ?_⟩
      obtain ⟨q1, q2⟩ := key hv φ a w rel
      refine ⟨?_, v_stable⟩
      rw [results_eq, Sem.run_bind, q1]
      simp only [Result.andThen_ok, Sem.run_pure]
      rw [dif_neg (by
        intro k
        have : vs.length = 1 := by simpa using k
        obtain ⟨y, rfl⟩ := List.length_eq_one_iff.1 this
        exact ns y rfl), allV_re hu]
      rfl
    · cases H
  · cases H
theorem fits_enter {φ : Nat → Nat} {h : Heap} {as : List AV} (st : ∀ a ∈ as, Stable φ h a) (n : Nat) : Fits φ h (as ++ List.replicate n (.v undef)) ((as.map (AV.re φ)).toArray ++ Array.replicate n undef) := by
  refine ⟨by simp, fun ψ ag i x hx hk => ?_⟩
  have e : (as.map (AV.re φ)).toArray ++ Array.replicate n undef = ((as ++ List.replicate n (AV.v undef)).map (AV.re ψ)).toArray := by
    apply Array.ext'
    rw [List.map_append, List.map_replicate, Array.toList_append, Array.toList_replicate]
    have e : as.map (AV.re ψ) = as.map (AV.re φ) := List.map_congr_left fun a ha => st a ha ψ ag
    rw [e]
    rfl
  rw [e, List.getElem?_toArray, List.getElem?_map, hx]
  rfl
/-- A call that is gone into. -/
theorem run_ok {R : Type} (ok : EngOk E N w0) : ∀ n, CallOk (R := R) E N w0 (run E n)
  | 0 => fun f as h K r H => by cases H
  | n + 1 => fun f as h K r H => by
    unfold run at H
    split at H
    · rename_i fn hf
      split at H
      · rename_i en
        split at H
        · rename_i c hc
          obtain ⟨e, s, hk, sb, run⟩ := xc_runs ok (run_ok ok n) c _ _ r H
          have fin : xres E fn s K = some r → (e = .normal ∨ e = .ret) → entersB E.P f = true ∧ ∃ v h', K v h' = some r ∧ Ret E N w0 f as h v h' := fun hx he => by
            obtain ⟨v, hv, hr⟩ := xres_run (N := N) (w0 := w0) hx
            refine ⟨en.1, v, s.h, hv, sb, fun φ w l st => ?_⟩
            refine calls_of_wp hf hc ?_
            have rel : Rel N w0 φ ⟨as ++ List.replicate (fn.ntmps - as.length) (.v undef), h⟩ { tmps := (as.map (AV.re φ)).toArray ++ Array.replicate (fn.ntmps - (as.map (AV.re φ)).toArray.size) undef, defers := [] } w := by
              refine ⟨l, ?_, rfl⟩
              have e : (as.map (AV.re φ)).toArray.size = as.length := by simp
              rw [e]
              exact fits_enter st _
            refine wp_mono (run φ _ w rel) fun x a' w' hx => ?_
            obtain ⟨rfl, φ', ag, rel'⟩ := hx
            obtain ⟨q1, q2⟩ := hr φ' a' w' rel'
            rcases he with rfl | rfl
            · exact ⟨rel'.defers, _, q1, φ', ag, rel'.lies, q2, rfl⟩
            · exact ⟨rel'.defers, _, q1, φ', ag, rel'.lies, q2, rfl⟩
          cases e with
          | normal => exact fin hk (.inl rfl)
          | ret => exact fin hk (.inr rfl)
          | exit id => cases hk
        · cases H
      · cases H
    · cases H
/-- **A call of the program**: what the reckoning tells comes about. -/
theorem calls_at {E : Eng} {w : World} {vg : Nat → Nat} (ok : EngOk E ⟨w.heap.size, vg⟩ w) {f : FuncId} {as : List AV} (hv : as.all AV.vir = true) {T : Type} {dec : AV → Option T} {enc : T → Value} (hd : ∀ x t, dec x = some t → x = .v (enc t)) {t : T} {cl : Call T} (cok : CallOk E ⟨w.heap.size, vg⟩ w cl) (H : cl f as [] (fun x _ => dec x) = some t) :
    Calls E.P f (as.map (AV.re vg)).toArray w fun e w' => e = .returned (enc t) ∧ Below w.heap.size w w' := by
  obtain ⟨_, x, h', hk, sb, ret⟩ := cok f _ _ _ t H
  have l : Lies ⟨w.heap.size, vg⟩ w vg [] w := ⟨Below.refl _ _, Nat.le_refl _, fun b t cs hb => (by cases hb), fun b c hb => (by cases hb), fun b _ => rfl⟩
  have z := ret vg w l (fun a ha => vir_stable (List.all_eq_true.1 hv a ha))
  refine z.mono fun e w' he => ?_
  obtain ⟨φ', _, l', _, rfl⟩ := he
  rw [hd x t hk]
  exact ⟨rfl, l'.below⟩
theorem v_vir {vs : List Value} : (vs.map AV.v).all AV.vir = true := by
  rw [List.all_eq_true]
  intro a ha
  obtain ⟨y, _, rfl⟩ := List.mem_map.1 ha
  rfl
theorem v_re {vs : List Value} {φ : Nat → Nat} : (vs.map AV.v).map (AV.re φ) = vs := by
  rw [List.map_map]
  have e : (AV.re φ ∘ AV.v) = id := rfl
  rw [e, List.map_id]
end
/-! ### Engines, put together -/
/-- The listed package-level variables hold what the engine takes them to hold. -/
def GlobAt (E : Eng) (vg : Nat → Nat) (w : World) : Prop :=
  (∀ g cs, E.gl g = some cs → g < w.heap.size ∧ cs.all AV.vir = true ∧ ∃ t fr, w.heap[g]? = some (.cells (cs.map (AV.re vg)).toArray t fr)) ∧
  (∀ g k l, E.gi g = some (k, l) → g < w.heap.size ∧ ∃ t fr, w.heap[g]? = some (.cells (l.map (Value.int k)).toArray t fr)) ∧
  ∀ k s, E.os k = some s → vg (vx k 0) < w.heap.size ∧ vg (vx k 2) = s.n ∧ vg (vx k 4) = s.z ∧ ∃ (cs : List Value) (t : TypeId) (fr : Nat × Nat), w.heap[vg (vx k 0)]? = some (.cells cs.toArray t fr) ∧ ∀ i : Int, 0 ≤ i → i < s.n → vg (vx k 1) + i.toNat * s.z + s.z ≤ cs.length ∧ (cs.drop (vg (vx k 1) + i.toNat * s.z)).take s.z = s.row i
def Glob (E : Eng) (w : World) : Prop := ∃ vg, GlobAt E vg w
structure EngAll (E : Eng) : Prop where
  eq1 : ∀ t xs ys b, E.eqf t xs ys = some b → ∀ (x y : Operand) w, (do eqGuard .eql t x y (.agg xs) (.agg ys); binOp .eql t (.agg xs) (.agg ys)).run E.P w = .ok (.bool b) w
  eq2 : ∀ t xs ys b, E.eqf t xs ys = some b → ∀ (x y : Operand) w, (do eqGuard .neq t x y (.agg xs) (.agg ys); binOp .neq t (.agg xs) (.agg ys)).run E.P w = .ok (.bool (!b)) w
  smE : ∀ f S, E.sm f = some S → entersB E.P f = true
  smC : ∀ f S, E.sm f = some S → ∀ vs t w, Glob E w → S.get vs = some (some t) → Calls E.P f vs.toArray w fun e w' => e = .returned (S.enc t) ∧ Below w.heap.size w w'
theorem GlobAt.step {E : Eng} {vg : Nat → Nat} {w w' : World} (g : GlobAt E vg w) (b : Below w.heap.size w w') : GlobAt E vg w' :=
  ⟨fun i cs h => ⟨Nat.lt_of_lt_of_le (g.1 i cs h).1 b.size, (g.1 i cs h).2.1, by rw [b.block i (g.1 i cs h).1]; exact (g.1 i cs h).2.2⟩, fun i k l h => ⟨Nat.lt_of_lt_of_le (g.2.1 i k l h).1 b.size, by rw [b.block i (g.2.1 i k l h).1]; exact (g.2.1 i k l h).2⟩,
    fun k s h => ⟨Nat.lt_of_lt_of_le (g.2.2 k s h).1 b.size, (g.2.2 k s h).2.1, (g.2.2 k s h).2.2.1, by rw [b.block _ (g.2.2 k s h).1]; exact (g.2.2 k s h).2.2.2⟩⟩
theorem Glob.step {E : Eng} {w w' : World} (g : Glob E w) (b : Below w.heap.size w w') : Glob E w' := g.elim fun vg g => ⟨vg, g.step b⟩
theorem EngAll.at {E : Eng} (h : EngAll E) {vg : Nat → Nat} {w : World} (g : GlobAt E vg w) : EngOk E ⟨w.heap.size, vg⟩ w :=
  ⟨g.1, g.2.2, g.2.1, h.eq1, h.eq2, fun f S hf args w => run_enters (h.smE f S hf) args w, fun f S hf vs t w' b ht => h.smC f S hf vs t w' ⟨vg, g.step b⟩ ht⟩
/-- One telling more. -/
def Eng.add (E : Eng) (f : FuncId) (S : Sum) : Eng := { E with sm := fun n => match Nat.beq n f with | true => some S | false => E.sm n }
theorem EngAll.add {E : Eng} (h : EngAll E) {f : FuncId} {S : Sum} (he : entersB E.P f = true) (hc : ∀ vs t w, Glob E w → S.get vs = some (some t) → Calls E.P f vs.toArray w fun e w' => e = .returned (S.enc t) ∧ Below w.heap.size w w') : EngAll (E.add f S) := by
  have key : ∀ n S', (E.add f S).sm n = some S' → (n = f ∧ S' = S) ∨ E.sm n = some S' := fun n S' hs => by
    simp only [Eng.add] at hs
    split at hs
    · rename_i b
      exact .inl ⟨Nat.eq_of_beq_eq_true b, (Option.some.inj hs).symm⟩
    · exact .inr hs
  refine ⟨h.eq1, h.eq2, fun n S' hs => ?_, fun n S' hs => ?_⟩
  · rcases key n S' hs with ⟨rfl, rfl⟩ | hs
    · exact he
    · exact h.smE n S' hs
  · rcases key n S' hs with ⟨rfl, rfl⟩ | hs
    · exact hc
    · exact h.smC n S' hs
/-- A call, by an engine. -/
theorem EngAll.calls {E : Eng} (h : EngAll E) {w : World} (g : Glob E w) {f : FuncId} {vs : List Value} {n : Nat} {T : Type} {dec : AV → Option T} {enc : T → Value} (hd : ∀ x t, dec x = some t → x = .v (enc t)) {t : T} (H : run E n f (vs.map .v) [] (fun x _ => dec x) = some t) :
    Calls E.P f vs.toArray w fun e w' => e = .returned (enc t) ∧ Below w.heap.size w w' := by
  obtain ⟨vg, g⟩ := g
  have z := calls_at (h.at g) v_vir hd (run_ok (h.at g) n) H
  rw [v_re] at z
  exact z
/-- The same engine, and what came in. -/
def Eng.having (E : Eng) (os : Nat → Option OutS) : Eng := { E with os := os }
theorem EngAll.having {E : Eng} (h : EngAll E) (hn : ∀ k, E.os k = none) (os : Nat → Option OutS) : EngAll (E.having os) :=
  ⟨h.eq1, h.eq2, h.smE, fun f S hf vs t w g ht => h.smC f S hf vs t w (g.elim fun vg g => ⟨vg, g.1, g.2.1, fun k s hs => by rw [hn] at hs; cases hs⟩) ht⟩
/-! ### Struct equality; the continuation at a loop -/
theorem eq_any {P : Program} {t : TypeId} {fs : Array Field} {xs ys : Array Value} {r : Bool} (hu : P.underlying t = some (.struct fs)) (hp : P.stoodInHeld t = false) (hg : P.eqGuardType P.depth t = false)
    (h : ∀ w, (Op.eqFields 9999 xs ys fs.toList).run P w = .ok r w) (x y : Operand) (w : World) :
    (do eqGuard .eql t x y (.agg xs) (.agg ys); binOp .eql t (.agg xs) (.agg ys)).run P w = .ok (.bool r) w ∧ (do eqGuard .neq t x y (.agg xs) (.agg ys); binOp .neq t (.agg xs) (.agg ys)).run P w = .ok (.bool (!r)) w := by
  have hf : P.fieldsOf t = fs := by simp [Program.fieldsOf, hu]
  have e : (Op.equalIn 10000 t (.agg xs) (.agg ys)).run P w = .ok r w := by
    rw [run_equalIn_struct (P := P) w 9999 t xs ys (by rw [hf]; exact hu) hp, hf]
    exact h w
  constructor
  · simp [eqGuard, hg, binOp, Op.equal, Op.maxDepth, e]
  · simp [eqGuard, hg, binOp, Op.equal, Op.maxDepth, e]
theorem int_eq {P : Program} {k : IntKind} {t : TypeId} (hu : P.underlying t = some (.int k)) (d : Nat) (j : IntKind) (a b : Int) (w : World) : (Op.equalIn (d + 1) t (.int j a) (.int j b)).run P w = .ok (a == b) w := by
  simp [Op.equalIn, run_underlying' hu]
theorem str_eq {P : Program} {t : TypeId} {fs : Array Field} {xs ys : Array Value} {r : Bool} (hu : P.underlying t = some (.struct fs)) (hp : P.stoodInHeld t = false) (d : Nat) (w : World)
    (h : (Op.eqFields d xs ys fs.toList).run P w = .ok r w) : (Op.equalIn (d + 1) t (.agg xs) (.agg ys)).run P w = .ok r w := by
  have hf : P.fieldsOf t = fs := by simp [Program.fieldsOf, hu]
  rw [run_equalIn_struct (P := P) w d t xs ys (by rw [hf]; exact hu) hp, hf]
  exact h
theorem eqf_one {P : Program} {d : Nat} {xs ys : Array Value} {f : Field} {a b : Value} {r : Bool} {w : World} (hn : f.name ≠ "_") (ha : (part f.type xs f.offset).run P w = .ok a w) (hb : (part f.type ys f.offset).run P w = .ok b w) (he : (Op.equalIn d f.type a b).run P w = .ok r w) : (Op.eqFields d xs ys [f]).run P w = .ok r w := by
  simp only [Op.eqFields, if_pos hn, Sem.run_bind, ha, hb, he, Result.andThen_ok]
  cases r <;> simp
theorem eqf_more {P : Program} {d : Nat} {xs ys : Array Value} {f : Field} {fs : List Field} {a b : Value} {r s : Bool} {w : World} (hn : f.name ≠ "_") (ha : (part f.type xs f.offset).run P w = .ok a w) (hb : (part f.type ys f.offset).run P w = .ok b w) (he : (Op.equalIn d f.type a b).run P w = .ok r w) (hr : (Op.eqFields d xs ys fs).run P w = .ok s w) : (Op.eqFields d xs ys (f :: fs)).run P w = .ok (r && s) w := by
  rw [Op.eqFields]
  simp only [if_pos hn, Sem.run_bind, ha, hb, he, Result.andThen_ok]
  cases r
  · simp
  · simpa using hr
theorem part_one {P : Program} {t : TypeId} {cs : Array Value} {o : Nat} {v : Value} (ha : aggT P t = some false) (hv : cs[o]? = some v) (w : World) : (part t cs o).run P w = .ok v w := by
  simp [part, run_isAgg ha, hv]
theorem part_agg {P : Program} {t : TypeId} {cs : Array Value} {o n : Nat} (ha : aggT P t = some true) (hn : sizeT P t = some n) (w : World) : (part t cs o).run P w = .ok (.agg (cs.extract o (o + n))) w := by
  simp [part, run_isAgg ha, run_sizeOf hn]
def codeAt : List Nat → Code → Code
  | 0 :: p, .seq a _ => codeAt p a
  | 1 :: p, .seq _ b => codeAt p b
  | 0 :: p, .block _ b => codeAt p b
  | 1 :: p, .cond _ x _ => codeAt p x
  | 2 :: p, .cond _ _ y => codeAt p y
  | 0 :: p, .loop b => codeAt p b
  | 0 :: p, .scope b => codeAt p b
  | _, c => c
/-- What follows behind the code at this place of c. -/
def kont {R : Type} (E : Eng) (call : Call R) (keep : Nat → Bool) (L : Nat) : List Nat → Code → (Ex → St → Option R) → Ex → St → Option R
  | 0 :: p, .seq a b, K => kont E call keep L p a fun e s' => match e with
    | .normal => xc E call keep L b s' K
    | .exit id => K (.exit id) s'
    | .ret => K .ret s'
  | 1 :: p, .seq _ b, K => kont E call keep L p b K
  | 0 :: p, .block id b, K => kont E call keep L p b fun e s' => match e with
    | .normal => K .normal s'
    | .exit j => if j = id then K .normal s' else K (.exit j) s'
    | .ret => K .ret s'
  | 1 :: p, .cond _ x _, K => kont E call keep L p x K
  | 2 :: p, .cond _ _ y, K => kont E call keep L p y K
  | 0 :: p, .scope b, K => kont E call keep L p b K
  | _, _, K => K
def kEnd {R : Type} (E : Eng) (fn : Func) (K : AV → Heap → Option R) : Ex → St → Option R
  | .normal, s => xres E fn s K
  | .ret, s => xres E fn s K
  | .exit _, _ => none
/-- The loop at a place of function f's code c, from a state on, with n rounds left. -/
def loopAt {R : Type} (E : Eng) (d : Nat) (f : FuncId) (fn : Func) (c : Code) (p : List Nat) (m : Nat) (n : Nat) (s : St) (K : AV → Heap → Option R) : Option R :=
  xloop (E.keep f) m (fun s K => xc E (run E d) (E.keep f) (E.fuel f) (codeAt (p ++ [0]) c) s K) n s (kont E (run E d) (E.keep f) (E.fuel f) p c (kEnd E fn K))
/-- A run from a place in the code on. -/
def seqAt {R : Type} (E : Eng) (d : Nat) (f : FuncId) (fn : Func) (c : Code) (p : List Nat) (s : St) (K : AV → Heap → Option R) : Option R :=
  xc E (run E d) (E.keep f) (E.fuel f) (codeAt p c) s (kont E (run E d) (E.keep f) (E.fuel f) p c (kEnd E fn K))
/-! ### A run in pieces: what stands between the pieces is told once -/
def padH (n : Nat) (h : Heap) : Heap := h ++ List.replicate (n - h.length) none
/-- What is kept at a join: temporaries that live on; the heap brought to one length. -/
def St.norm (keep : List Nat) (n : Nat) (s : St) : St := ⟨cutT (fun i => keep.contains i) n 0 s.t, padH n s.h⟩
/-- The first m statements of a row of statements, then J. -/
def xsp {R : Type} (E : Eng) (call : Call R) (keep : Nat → Bool) (L : Nat) : Nat → Code → St → (St → Option R) → (Ex → St → Option R) → Option R
  | 0, _, s, J, _ => J s
  | m + 1, .seq a b, s, J, K => xc E call keep L a s fun e s' => match e with
    | .normal => xsp E call keep L m b s' J K
    | .exit id => K (.exit id) s'
    | .ret => K .ret s'
  | _ + 1, _, _, _, _ => none
def restAt : Nat → Code → Code
  | 0, c => c
  | m + 1, .seq _ b => restAt m b
  | _ + 1, c => c
/-- A row of statements in pieces. -/
def xps {R : Type} (E : Eng) (call : Call R) (keep : Nat → Bool) (L : Nat) : List (Nat × List Nat × Nat) → Code → St → (Ex → St → Option R) → Option R
  | [], c, s, K => xc E call keep L c s K
  | (m, ks, n) :: r, c, s, K => xsp E call keep L m c s (fun s' => xps E call keep L r (restAt m c) (s'.norm ks n) K) K
def runJ {R : Type} (E : Eng) (n : Nat) (ps : List (Nat × List Nat × Nat)) (f : FuncId) (as : List AV) (h : Heap) (K : AV → Heap → Option R) : Option R := match E.P.funcs[f]? with
    | some fn => if entersB E.P f = true ∧ as.all AV.known = true then match fn.body with
      | some c => xps E (run E n) (E.keep f) (E.fuel f) ps c ⟨as ++ List.replicate (fn.ntmps - as.length) (.v undef), h⟩ (kEnd E fn K)
      | none => none else none
    | none => none
section
variable {E : Eng} {N : Base} {w0 : World}
theorem hat_pad {h : Heap} {n b : Nat} : hat (padH n h) b = hat h b := hat_add
theorem sub_pad {h : Heap} {n : Nat} : Sub h (padH n h) := sub_add
theorem agr_pad {h : Heap} {n : Nat} {φ ψ : Nat → Nat} : Agr φ ψ (padH n h) ↔ Agr φ ψ h := agr_add
theorem cutT_get1 {keep : Nat → Bool} {m : Nat} {t : List AV} {i j : Nat} {x : AV} (h : (cutT keep m j t)[i]? = some x) (hk : x.known = true) : t[i]? = some x := (cutT_get h hk).1
theorem Rel.norm {φ : Nat → Nat} {s : St} {a : Act} {w : World} (r : Rel N w0 φ s a w) (ks : List Nat) (n : Nat) : Rel N w0 φ (s.norm ks n) a w := by
  have z := r.add (n - s.h.length)
  obtain ⟨l, f, d⟩ := z
  refine ⟨l, ⟨by show _ = (cutT _ n 0 s.t).length; rw [cutT_len]; exact f.1, fun ψ ag i x hx hk => ?_⟩, d⟩
  exact f.2 ψ ag i x (cutT_get1 hx hk) hk
theorem xsp_runs {R : Type} {call : Call R} (ok : EngOk E N w0) (cok : CallOk E N w0 call) {keep : Nat → Bool} {L : Nat} : ∀ (m : Nat) (c : Code) (s : St) (J : St → Option R) (K : Ex → St → Option R) (r : R), xsp E call keep L m c s J K = some r →
    (∃ s1, J s1 = some r ∧ Sub s.h s1.h ∧ ∀ ks n e s2, Runs E N w0 (restAt m c) (s1.norm ks n) e s2 → Runs E N w0 c s e s2) ∨ (∃ e s2, K e s2 = some r ∧ Runs E N w0 c s e s2)
  | 0, c, s, J, K, r, H => .inl ⟨s, H, Sub.refl _, fun ks n e s2 h => ⟨sub_pad.trans h.1, fun φ a w rel => wp_mono (h.2 φ a w (rel.norm ks n)) fun x a' w' hx => ⟨hx.1, hx.2.elim fun φ' g => ⟨φ', agr_pad.1 g.1, g.2⟩⟩⟩⟩
  | m + 1, .seq x y, s, J, K, r, H => by
    unfold xsp at H
    obtain ⟨e, s1, hk, sb, run⟩ := xc_runs ok cok x s _ r H
    have glue : ∀ e2 s2, Runs E N w0 y s1 e2 s2 → e = .normal → Runs E N w0 (.seq x y) s e2 s2 := fun e2 s2 h he => by
      subst he
      refine ⟨sb.trans h.1, fun φ a w rel => wp_seq (wp_mono (run φ a w rel) fun x a' w' hx => ?_)⟩
      obtain ⟨rfl, φ', ag, rel'⟩ := hx
      exact wp_mono (h.2 φ' a' w' rel') fun x a2 w2 hx => ⟨hx.1, hx.2.elim fun φ'' h => ⟨φ'', ag.trans h.1 sb, h.2⟩⟩
    cases e with
    | normal =>
      simp only at hk
      rcases xsp_runs ok cok m y s1 J K r hk with ⟨s2, hj, sb2, go⟩ | ⟨e2, s2, hk2, run2⟩
      · exact .inl ⟨s2, hj, sb.trans sb2, fun ks n e s3 h => glue e s3 (go ks n e s3 h) rfl⟩
      · exact .inr ⟨e2, s2, hk2, glue e2 s2 run2 rfl⟩
    | exit id =>
      refine .inr ⟨.exit id, s1, hk, sb, fun φ a w rel => wp_seq (wp_mono (run φ a w rel) fun x a' w' hx => ?_)⟩
      obtain ⟨rfl, φ', ag, rel'⟩ := hx
      exact ⟨rfl, φ', ag, rel'⟩
    | ret =>
      refine .inr ⟨.ret, s1, hk, sb, fun φ a w rel => wp_seq (wp_mono (run φ a w rel) fun x a' w' hx => ?_)⟩
      obtain ⟨rfl, φ', ag, rel'⟩ := hx
      exact ⟨rfl, φ', ag, rel'⟩
  | m + 1, .skip, s, J, K, r, H => by simp [xsp] at H
  | m + 1, .region _ _ _, s, J, K, r, H => by simp [xsp] at H
  | m + 1, .cond _ _ _, s, J, K, r, H => by simp [xsp] at H
  | m + 1, .block _ _, s, J, K, r, H => by simp [xsp] at H
  | m + 1, .loop _, s, J, K, r, H => by simp [xsp] at H
  | m + 1, .exit _, s, J, K, r, H => by simp [xsp] at H
  | m + 1, .label _, s, J, K, r, H => by simp [xsp] at H
  | m + 1, .ret, s, J, K, r, H => by simp [xsp] at H
  | m + 1, .rangeFunc _ _ _ _, s, J, K, r, H => by simp [xsp] at H
  | m + 1, .scope _, s, J, K, r, H => by simp [xsp] at H
  | m + 1, .goto _, s, J, K, r, H => by simp [xsp] at H
  | m + 1, .refuse _, s, J, K, r, H => by simp [xsp] at H
theorem xps_runs {R : Type} {call : Call R} (ok : EngOk E N w0) (cok : CallOk E N w0 call) {keep : Nat → Bool} {L : Nat} : ∀ (l : List (Nat × List Nat × Nat)) (c : Code), BodyOk E N w0 c (xps (R := R) E call keep L l c)
  | [], c => xc_runs ok cok c
  | (m, ks, n) :: l, c => fun s K r H => by
    unfold xps at H
    rcases xsp_runs ok cok m c s _ K r H with ⟨s1, hj, sb, go⟩ | h
    · obtain ⟨e, s2, hk, run⟩ := xps_runs ok cok l (restAt m c) _ K r hj
      exact ⟨e, s2, hk, go ks n e s2 run⟩
    · exact h
/-- A call that is gone into, in pieces. -/
theorem runJ_ok {R : Type} (ok : EngOk E N w0) (n : Nat) (ps : List (Nat × List Nat × Nat)) : CallOk (R := R) E N w0 (runJ E n ps) := fun f as h K r H => by
    unfold runJ at H
    split at H
    · rename_i fn hf
      split at H
      · rename_i en
        split at H
        · rename_i c hc
          obtain ⟨e, s, hk, sb, run⟩ := xps_runs ok (run_ok ok n) ps c _ _ r H
          have fin : xres E fn s K = some r → (e = .normal ∨ e = .ret) → entersB E.P f = true ∧ ∃ v h', K v h' = some r ∧ Ret E N w0 f as h v h' := fun hx he => by
            obtain ⟨v, hv, hr⟩ := xres_run (N := N) (w0 := w0) hx
            refine ⟨en.1, v, s.h, hv, sb, fun φ w l st => ?_⟩
            refine calls_of_wp hf hc ?_
            have rel : Rel N w0 φ ⟨as ++ List.replicate (fn.ntmps - as.length) (.v undef), h⟩ { tmps := (as.map (AV.re φ)).toArray ++ Array.replicate (fn.ntmps - (as.map (AV.re φ)).toArray.size) undef, defers := [] } w := by
              refine ⟨l, ?_, rfl⟩
              have e : (as.map (AV.re φ)).toArray.size = as.length := by simp
              rw [e]
              exact fits_enter st _
            refine wp_mono (run φ _ w rel) fun x a' w' hx => ?_
            obtain ⟨rfl, φ', ag, rel'⟩ := hx
            obtain ⟨q1, q2⟩ := hr φ' a' w' rel'
            rcases he with rfl | rfl
            · exact ⟨rel'.defers, _, q1, φ', ag, rel'.lies, q2, rfl⟩
            · exact ⟨rel'.defers, _, q1, φ', ag, rel'.lies, q2, rfl⟩
          cases e with
          | normal => exact fin hk (.inl rfl)
          | ret => exact fin hk (.inr rfl)
          | exit id => cases hk
        · cases H
      · cases H
    · cases H
theorem EngAll.callsJ {E : Eng} (h : EngAll E) {w : World} (g : Glob E w) {f : FuncId} {vs : List Value} {n : Nat} {ps : List (Nat × List Nat × Nat)} {T : Type} {dec : AV → Option T} {enc : T → Value} (hd : ∀ x t, dec x = some t → x = .v (enc t)) {t : T} (H : runJ E n ps f (vs.map .v) [] (fun x _ => dec x) = some t) :
    Calls E.P f vs.toArray w fun e w' => e = .returned (enc t) ∧ Below w.heap.size w w' := by
  obtain ⟨vg, g⟩ := g
  have z := calls_at (h.at g) v_vir hd (runJ_ok (h.at g) n ps) H
  rw [v_re] at z
  exact z
/-- The same, with what came in among the arguments. -/
theorem EngAll.callsJ_in {E : Eng} (h : EngAll E) {vg : Nat → Nat} {w : World} (g : GlobAt E vg w) {f : FuncId} {as : List AV} (hv : as.all AV.vir = true) {n : Nat} {ps : List (Nat × List Nat × Nat)} {T : Type} {dec : AV → Option T} {enc : T → Value} (hd : ∀ x t, dec x = some t → x = .v (enc t)) {t : T} (H : runJ E n ps f as [] (fun x _ => dec x) = some t) :
    Calls E.P f (as.map (AV.re vg)).toArray w fun e w' => e = .returned (enc t) ∧ Below w.heap.size w w' := calls_at (h.at g) hv hd (runJ_ok (h.at g) n ps) H
end
theorem runJ_eq {R : Type} {E : Eng} {n : Nat} {ps : List (Nat × List Nat × Nat)} {f : FuncId} {as : List AV} {h : Heap} {K : AV → Heap → Option R} {fn : Func} {c : Code} (hf : E.P.funcs[f]? = some fn) (he : entersB E.P f = true) (ha : as.all AV.known = true) (hc : fn.body = some c) :
    runJ E n ps f as h K = xps E (run E n) (E.keep f) (E.fuel f) ps c ⟨as ++ List.replicate (fn.ntmps - as.length) (.v undef), h⟩ (kEnd E fn K) := by
  unfold runJ
  simp only [hf, hc]
  rw [if_pos ⟨he, ha⟩]
theorem xps_cut {R : Type} {E : Eng} {call : Call R} {keep : Nat → Bool} {L m n : Nat} {ks : List Nat} {r : List (Nat × List Nat × Nat)} {c : Code} {s : St} {K : Ex → St → Option R} : xps E call keep L ((m, ks, n) :: r) c s K = xsp E call keep L m c s (fun s' => (fun z => xps E call keep L r (restAt m c) z K) (s'.norm ks n)) K := rfl
end Go.Proofs.YtdmondofdlkopaaGreatDoor.X
