/- Small words of this session for printed texts: each lemma's last argument is filled by the tactic that stood at its place. Conditions: none. -/
import Derived.Test.YtmhmfnjbioplhaaWMore
namespace Go.Proofs.Ytmhmfnjbioplhaa.Help
open Go.RowKit Go.Proofs.YtmhmfnjbioplhaaW.PrintWords Go.Proofs.YtmhmfnjbioplhaaW.PrintLast Go.Proofs.YtmhmfnjbioplhaaW.PrintMore
theorem am {P : Prop} (h : P) : Aside0 P := ⟨h⟩
theorem bkA {P Q : Prop} (h : Aside0 P) (f : P → Q := by (intro h_; (with_reducible repeat (first | refine blk_drewN ?_ _ | refine blk_drew ?_ | refine blk_alloc ?_ _)); exact h_)) : Q := f h.out
theorem hbA {P Q : Prop} (h : Aside0 P) (f : P → Q := by (intro h_; repeat (first | (with_reducible first | exact h_ | apply below_alloc | apply pw_below_drewN | apply below_drew1 | refine below_set ?_ (Aside0.out (by with_reducible assumption))) | exact h_))) : Q := f h.out
theorem bkT {P Q : Prop} (h : P) (f : P → Q := by (intro h_; (with_reducible repeat (first | refine blk_drewN ?_ _ | refine blk_drew ?_ | refine blk_alloc ?_ _)); exact h_)) : Q := f h
theorem gwA {g : Nat} {w W : World} {P : Prop} (hg : g = W.heap.size) (h : Aside0 P) (f : P → Below w.heap.size w W := by (intro h_; repeat (first | (with_reducible first | exact h_ | apply below_alloc | apply pw_below_drewN | apply below_drew1 | refine below_set ?_ (Aside0.out (by with_reducible assumption))) | exact h_))) : Aside0 (w.heap.size ≤ g) := ⟨by rw [hg]; exact below_size (f h.out)⟩
theorem ltA {g g' : Nat} {W : World} {o : Obj} {P : Prop} (hg : g' = W.heap.size) (h : Aside0 P) (f : P → W.heap[g]? = some o := by (intro h_; (with_reducible repeat (first | refine blk_drewN ?_ _ | refine blk_drew ?_ | refine blk_alloc ?_ _)); exact h_)) : Aside0 (g ≠ g') := ⟨by rw [hg]; exact Nat.ne_of_lt (blk_lt (f h.out))⟩
theorem gtA {g g' : Nat} {W : World} {o : Obj} {P : Prop} (hg : g' = W.heap.size) (h : Aside0 P) (f : P → W.heap[g]? = some o := by (intro h_; (with_reducible repeat (first | refine blk_drewN ?_ _ | refine blk_drew ?_ | refine blk_alloc ?_ _)); exact h_)) : Aside0 (g' ≠ g) := ⟨by rw [hg]; exact Nat.ne_of_gt (blk_lt (f h.out))⟩
end Go.Proofs.Ytmhmfnjbioplhaa.Help
