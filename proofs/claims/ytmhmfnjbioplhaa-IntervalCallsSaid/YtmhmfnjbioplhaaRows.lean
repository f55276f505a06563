/-
  No cell of these rows narrows 'for every input' (looked for: loops, veiled, ifaces, maps, wideKeys, modest, calm, conditions, laid).
  DERIVED. THE GIVEN ROWS OF THIS SEAT. 5 by the template 'for every input the law returns true; each argument reads behind the call as it read before'; 0 by the template 'total and deterministic' (their statements: YtmhmfnjbioplhaaTotals.lean).
  GIVEN WITH THE SEED: the statements are not yours to turn. If you find one false, say at which input.
  Laid BY PROGRAM, IN A SANDBOX (cutbox-rows.mjs): the forced cells as the released guide's own fill.sh prints them over the translation 44e2044beb7a8c11… (all of the seat's roots in one cut). By AI agents, Wed Nov 11 2026. No macro, syntax, notation, axiom, sorry.
-/
import Derived.Test.YtmhmfnjbioplhaaChecked
import GoSem.Claim
import GoSem.ClaimJoined
import GoSem.ClaimMapViews
import Derived.JoinedTies
import Derived.KernelRfl
namespace Go.Proofs.Ytmhmfnjbioplhaa
/- THE CELL 'sum', in the pinned program and in every row, IS THE sha256 OF THE DUMP (.gsa) THAT YtmhmfnjbioplhaaProg.lean LOADS. Nothing in Lean hashes anything: it is a label: what it is worth is what the hold of that sum in a sandbox is worth. -/
noncomputable def Try.pinned : Pinned := { name := "ytmhmfnjbioplhaa", sum := "44e2044beb7a8c11d5dab8e64e577f17fb78d29591936cae453afcaa56d477c0", checked := Try.checked }
namespace Rows
def none {H : Type} : Left H := { results := [], args := [] }

/-- 'lamplighterlaw19.IntervalGrows': WHATEVER THE INPUT: true; the input reads as it did. -/
def intervalGrowsSpec : ChangeSpec := { name := "intervalGrows", fn := fun _ => fun
  | [d1, d2, d3, d4, d5, d6] => { results := [.lit (.bool true)], args := [d1, d2, d3, d4, d5, d6] }
  | _ => none }
def intervalGrowsRow : OpenClaim := { program := "ytmhmfnjbioplhaa", sum := "44e2044beb7a8c11d5dab8e64e577f17fb78d29591936cae453afcaa56d477c0", func := "lamplighter/lamplighterlaw19.IntervalGrows", spec := "intervalGrows", unfollowed := true, recurses := true, apart := false }
def IntervalGrowsSaid : Prop := intervalGrowsRow.holds Try.pinned (OpenSpec.ofChange intervalGrowsSpec)

/-- ITS FALSE NEIGHBOUR: 'it returns false'. Refute it at one input. -/
def intervalGrowsWrong : ChangeSpec := { name := "intervalGrows", fn := fun _ => fun
  | [d1, d2, d3, d4, d5, d6] => { results := [.lit (.bool false)], args := [d1, d2, d3, d4, d5, d6] }
  | _ => none }
def IntervalGrowsWrongFalsely : Prop := intervalGrowsRow.holds Try.pinned (OpenSpec.ofChange intervalGrowsWrong)

/-- 'lamplighterlaw19.IntervalNames': WHATEVER THE INPUT: true; the input reads as it did. -/
def intervalNamesSpec : ChangeSpec := { name := "intervalNames", fn := fun _ => fun
  | [] => { results := [.lit (.bool true)], args := [] }
  | _ => none }
def intervalNamesRow : OpenClaim := { program := "ytmhmfnjbioplhaa", sum := "44e2044beb7a8c11d5dab8e64e577f17fb78d29591936cae453afcaa56d477c0", func := "lamplighter/lamplighterlaw19.IntervalNames", spec := "intervalNames", unfollowed := true, recurses := true, apart := false }
def IntervalNamesSaid : Prop := intervalNamesRow.holds Try.pinned (OpenSpec.ofChange intervalNamesSpec)

/-- ITS FALSE NEIGHBOUR: 'it returns false'. Refute it at one input. -/
def intervalNamesWrong : ChangeSpec := { name := "intervalNames", fn := fun _ => fun
  | [] => { results := [.lit (.bool false)], args := [] }
  | _ => none }
def IntervalNamesWrongFalsely : Prop := intervalNamesRow.holds Try.pinned (OpenSpec.ofChange intervalNamesWrong)

/-- 'lamplighterlaw19.IntervalTurns': WHATEVER THE INPUT: true; the input reads as it did. -/
def intervalTurnsSpec : ChangeSpec := { name := "intervalTurns", fn := fun _ => fun
  | [d1, d2, d3, d4] => { results := [.lit (.bool true)], args := [d1, d2, d3, d4] }
  | _ => none }
def intervalTurnsRow : OpenClaim := { program := "ytmhmfnjbioplhaa", sum := "44e2044beb7a8c11d5dab8e64e577f17fb78d29591936cae453afcaa56d477c0", func := "lamplighter/lamplighterlaw19.IntervalTurns", spec := "intervalTurns", unfollowed := true, recurses := true, apart := false }
def IntervalTurnsSaid : Prop := intervalTurnsRow.holds Try.pinned (OpenSpec.ofChange intervalTurnsSpec)

/-- ITS FALSE NEIGHBOUR: 'it returns false'. Refute it at one input. -/
def intervalTurnsWrong : ChangeSpec := { name := "intervalTurns", fn := fun _ => fun
  | [d1, d2, d3, d4] => { results := [.lit (.bool false)], args := [d1, d2, d3, d4] }
  | _ => none }
def IntervalTurnsWrongFalsely : Prop := intervalTurnsRow.holds Try.pinned (OpenSpec.ofChange intervalTurnsWrong)

/-- 'lamplighterlaw19.IntervalSound': WHATEVER THE INPUT: true; the input reads as it did. -/
def intervalSoundSpec : ChangeSpec := { name := "intervalSound", fn := fun _ => fun
  | [d1, d2, d3, d4, d5, d6] => { results := [.lit (.bool true)], args := [d1, d2, d3, d4, d5, d6] }
  | _ => none }
def intervalSoundRow : OpenClaim := { program := "ytmhmfnjbioplhaa", sum := "44e2044beb7a8c11d5dab8e64e577f17fb78d29591936cae453afcaa56d477c0", func := "lamplighter/lamplighterlaw19.IntervalSound", spec := "intervalSound", unfollowed := true, recurses := true, apart := false }
def IntervalSoundSaid : Prop := intervalSoundRow.holds Try.pinned (OpenSpec.ofChange intervalSoundSpec)

/-- ITS FALSE NEIGHBOUR: 'it returns false'. Refute it at one input. -/
def intervalSoundWrong : ChangeSpec := { name := "intervalSound", fn := fun _ => fun
  | [d1, d2, d3, d4, d5, d6] => { results := [.lit (.bool false)], args := [d1, d2, d3, d4, d5, d6] }
  | _ => none }
def IntervalSoundWrongFalsely : Prop := intervalSoundRow.holds Try.pinned (OpenSpec.ofChange intervalSoundWrong)

/-- 'lamplighterlaw19.IntervalCalls': WHATEVER THE INPUT: true; the input reads as it did. -/
def intervalCallsSpec : ChangeSpec := { name := "intervalCalls", fn := fun _ => fun
  | [d1, d2, d3, d4, d5] => { results := [.lit (.bool true)], args := [d1, d2, d3, d4, d5] }
  | _ => none }
def intervalCallsRow : OpenClaim := { program := "ytmhmfnjbioplhaa", sum := "44e2044beb7a8c11d5dab8e64e577f17fb78d29591936cae453afcaa56d477c0", func := "lamplighter/lamplighterlaw19.IntervalCalls", spec := "intervalCalls", unfollowed := true, recurses := true, apart := false }
def IntervalCallsSaid : Prop := intervalCallsRow.holds Try.pinned (OpenSpec.ofChange intervalCallsSpec)

/-- ITS FALSE NEIGHBOUR: 'it returns false'. Refute it at one input. -/
def intervalCallsWrong : ChangeSpec := { name := "intervalCalls", fn := fun _ => fun
  | [d1, d2, d3, d4, d5] => { results := [.lit (.bool false)], args := [d1, d2, d3, d4, d5] }
  | _ => none }
def IntervalCallsWrongFalsely : Prop := intervalCallsRow.holds Try.pinned (OpenSpec.ofChange intervalCallsWrong)

/- THE SECOND FORM. 'bulk': how many values and letters a reading holds, each counted each time it is reached (what is shared counts as often as it is met; a slice's spare places count too). A statement '..UptoSaid' is the law's where the arguments, and the package variables that the reading takes, are together of bulk at most 1048576: NARROWER than '..Said'. Prove '..Said' where nothing that the law and all that it calls make is longer than what came in: it says more and counts as full. Else prove '..UptoSaid'. A law counts once. -/
mutual
def uptoBulk {H : Type} : DataW H → Nat
  | .lit (.string bytes) => bytes.length + 1
  | .lit _ => 1
  | .nil => 1
  | .ptr d => uptoBulk d + 1
  | .slice elems spare => uptoBulkAll elems + uptoBulkAll spare + 1
  | .agg parts => uptoBulkAll parts + 1
  | .iface _ d => uptoBulk d + 1
  | .map entries => uptoBulkEntries entries + 1
  | .held _ => 1
def uptoBulkAll {H : Type} : List (DataW H) → Nat
  | [] => 0
  | d :: r => uptoBulk d + uptoBulkAll r
def uptoBulkEntries {H : Type} : List (Lit × DataW H) → Nat
  | [] => 0
  | x :: r => uptoBulkEntry x + uptoBulkEntries r
def uptoBulkEntry {H : Type} : Lit × DataW H → Nat
  | (.string bytes, d) => bytes.length + uptoBulk d + 1
  | (_, d) => uptoBulk d + 1
 end
def uptoSmall : (H : Type) → List (DataW H) → Bool := fun _ ds => decide (uptoBulkAll ds ≤ 1048576)
def OpenSpec.upto (s : _root_.Go.ChangeSpec) : _root_.Go.OpenSpec := { _root_.Go.OpenSpec.ofChange s with cond := some uptoSmall }

/-- 'lamplighterlaw19.IntervalGrows', WHERE WHAT IT READS IS OF BULK AT MOST 1048576: true; the input reads as it did. -/
def intervalGrowsUptoRow : OpenClaim := { program := "ytmhmfnjbioplhaa", sum := "44e2044beb7a8c11d5dab8e64e577f17fb78d29591936cae453afcaa56d477c0", func := "lamplighter/lamplighterlaw19.IntervalGrows", spec := "intervalGrows", unfollowed := true, recurses := true, apart := false, narrowed := true }
def IntervalGrowsUptoSaid : Prop := intervalGrowsUptoRow.holds Try.pinned (OpenSpec.upto intervalGrowsSpec)

/-- 'lamplighterlaw19.IntervalNames', WHERE WHAT IT READS IS OF BULK AT MOST 1048576: true; the input reads as it did. -/
def intervalNamesUptoRow : OpenClaim := { program := "ytmhmfnjbioplhaa", sum := "44e2044beb7a8c11d5dab8e64e577f17fb78d29591936cae453afcaa56d477c0", func := "lamplighter/lamplighterlaw19.IntervalNames", spec := "intervalNames", unfollowed := true, recurses := true, apart := false, narrowed := true }
def IntervalNamesUptoSaid : Prop := intervalNamesUptoRow.holds Try.pinned (OpenSpec.upto intervalNamesSpec)

/-- 'lamplighterlaw19.IntervalTurns', WHERE WHAT IT READS IS OF BULK AT MOST 1048576: true; the input reads as it did. -/
def intervalTurnsUptoRow : OpenClaim := { program := "ytmhmfnjbioplhaa", sum := "44e2044beb7a8c11d5dab8e64e577f17fb78d29591936cae453afcaa56d477c0", func := "lamplighter/lamplighterlaw19.IntervalTurns", spec := "intervalTurns", unfollowed := true, recurses := true, apart := false, narrowed := true }
def IntervalTurnsUptoSaid : Prop := intervalTurnsUptoRow.holds Try.pinned (OpenSpec.upto intervalTurnsSpec)

/-- 'lamplighterlaw19.IntervalSound', WHERE WHAT IT READS IS OF BULK AT MOST 1048576: true; the input reads as it did. -/
def intervalSoundUptoRow : OpenClaim := { program := "ytmhmfnjbioplhaa", sum := "44e2044beb7a8c11d5dab8e64e577f17fb78d29591936cae453afcaa56d477c0", func := "lamplighter/lamplighterlaw19.IntervalSound", spec := "intervalSound", unfollowed := true, recurses := true, apart := false, narrowed := true }
def IntervalSoundUptoSaid : Prop := intervalSoundUptoRow.holds Try.pinned (OpenSpec.upto intervalSoundSpec)

/-- 'lamplighterlaw19.IntervalCalls', WHERE WHAT IT READS IS OF BULK AT MOST 1048576: true; the input reads as it did. -/
def intervalCallsUptoRow : OpenClaim := { program := "ytmhmfnjbioplhaa", sum := "44e2044beb7a8c11d5dab8e64e577f17fb78d29591936cae453afcaa56d477c0", func := "lamplighter/lamplighterlaw19.IntervalCalls", spec := "intervalCalls", unfollowed := true, recurses := true, apart := false, narrowed := true }
def IntervalCallsUptoSaid : Prop := intervalCallsUptoRow.holds Try.pinned (OpenSpec.upto intervalCallsSpec)

end Rows
end Go.Proofs.Ytmhmfnjbioplhaa
