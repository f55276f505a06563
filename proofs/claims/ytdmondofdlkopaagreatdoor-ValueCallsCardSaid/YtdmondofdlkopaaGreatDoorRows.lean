/-
  NARROWER THAN 'FOR EVERY INPUT', by the rows' own cells (each row's printed sentence says how): ValueOrder: laid · ValueOne: laid · ValueSound: laid · ValueNames: laid · ValueCalls: laid.
  DERIVED. THE GIVEN ROWS OF THIS SEAT. 5 by the template 'for every input the law returns true; each argument reads behind the call as it read before'; 0 by the template 'total and deterministic' (their statements: YtdmondofdlkopaaGreatDoorTotals.lean).
  GIVEN WITH THE SEED: the statements are not yours to turn. If you find one false, say at which input.
  Laid BY PROGRAM, IN A SANDBOX (cutbox-rows.mjs): the forced cells as the released guide's own fill.sh prints them over the translation 807b553a2d5c1eef… (all of the seat's roots in one cut). By AI agents, Wed Nov 11 2026. No macro, syntax, notation, axiom, sorry.
-/
import Derived.Test.YtdmondofdlkopaaGreatDoorChecked
import GoSem.Claim
import GoSem.ClaimJoined
import GoSem.ClaimMapViews
import Derived.JoinedTies
import Derived.KernelRfl
namespace Go.Proofs.YtdmondofdlkopaaGreatDoor
/- THE CELL 'sum', in the pinned program and in every row, IS THE sha256 OF THE DUMP (.gsa) THAT YtdmondofdlkopaaGreatDoorProg.lean LOADS. Nothing in Lean hashes anything: it is a label: what it is worth is what the hold of that sum in a sandbox is worth. -/
noncomputable def Tryz.pinned : Pinned := { name := "ytdmondofdlkopaagreatdoor", sum := "807b553a2d5c1eef49a39b8257a8dff486d1f1d5afdeeaa2fe4aa93dd86ab059", checked := Tryz.checked }
namespace Rows
def none {H : Type} : Left H := { results := [], args := [] }

/- WHAT THE LISTED PACKAGE-LEVEL VARIABLES READ AS WHEN THE CALL BEGINS. Each datum BY PROGRAM (the guide's laid-datum.mjs) off the statement by which the dump's own 'gosem.cut.vars' lays the variable. In a bare row this is a premise. The card (YtdmondofdlkopaaGreatDoorCards.lean) ties it to the program's text. -/
def laid_lamplighter_word_signs {H : Type} : DataW H := .agg [.lit (.string []), .lit (.string [43]), .lit (.string [45]), .lit (.string [42]), .lit (.string [47]), .lit (.string [37]), .lit (.string [115, 47]), .lit (.string [115, 37]), .lit (.string [38]), .lit (.string [124]), .lit (.string [94]), .lit (.string [60, 60]), .lit (.string [62, 62]), .lit (.string [115, 62, 62]), .lit (.string [61, 61]), .lit (.string [33, 61]), .lit (.string [60]), .lit (.string [60, 61]), .lit (.string [115, 60]), .lit (.string [115, 60, 61])]
def laid_math_bits_deBruijn32tab {H : Type} : DataW H := .agg [.lit (.int .u8 0), .lit (.int .u8 1), .lit (.int .u8 28), .lit (.int .u8 2), .lit (.int .u8 29), .lit (.int .u8 14), .lit (.int .u8 24), .lit (.int .u8 3), .lit (.int .u8 30), .lit (.int .u8 22), .lit (.int .u8 20), .lit (.int .u8 15), .lit (.int .u8 25), .lit (.int .u8 17), .lit (.int .u8 4), .lit (.int .u8 8), .lit (.int .u8 31), .lit (.int .u8 27), .lit (.int .u8 13), .lit (.int .u8 23), .lit (.int .u8 21), .lit (.int .u8 19), .lit (.int .u8 16), .lit (.int .u8 7), .lit (.int .u8 26), .lit (.int .u8 12), .lit (.int .u8 18), .lit (.int .u8 6), .lit (.int .u8 11), .lit (.int .u8 5), .lit (.int .u8 10), .lit (.int .u8 9)]
def laid_math_bits_deBruijn64tab {H : Type} : DataW H := .agg [.lit (.int .u8 0), .lit (.int .u8 1), .lit (.int .u8 56), .lit (.int .u8 2), .lit (.int .u8 57), .lit (.int .u8 49), .lit (.int .u8 28), .lit (.int .u8 3), .lit (.int .u8 61), .lit (.int .u8 58), .lit (.int .u8 42), .lit (.int .u8 50), .lit (.int .u8 38), .lit (.int .u8 29), .lit (.int .u8 17), .lit (.int .u8 4), .lit (.int .u8 62), .lit (.int .u8 47), .lit (.int .u8 59), .lit (.int .u8 36), .lit (.int .u8 45), .lit (.int .u8 43), .lit (.int .u8 51), .lit (.int .u8 22), .lit (.int .u8 53), .lit (.int .u8 39), .lit (.int .u8 33), .lit (.int .u8 30), .lit (.int .u8 24), .lit (.int .u8 18), .lit (.int .u8 12), .lit (.int .u8 5), .lit (.int .u8 63), .lit (.int .u8 55), .lit (.int .u8 48), .lit (.int .u8 27), .lit (.int .u8 60), .lit (.int .u8 41), .lit (.int .u8 37), .lit (.int .u8 16), .lit (.int .u8 46), .lit (.int .u8 35), .lit (.int .u8 44), .lit (.int .u8 21), .lit (.int .u8 52), .lit (.int .u8 32), .lit (.int .u8 23), .lit (.int .u8 11), .lit (.int .u8 54), .lit (.int .u8 26), .lit (.int .u8 40), .lit (.int .u8 15), .lit (.int .u8 34), .lit (.int .u8 20), .lit (.int .u8 31), .lit (.int .u8 10), .lit (.int .u8 25), .lit (.int .u8 14), .lit (.int .u8 19), .lit (.int .u8 9), .lit (.int .u8 13), .lit (.int .u8 8), .lit (.int .u8 7), .lit (.int .u8 6)]
def laid_internal_strconv_uint64pow10 {H : Type} : DataW H := .agg [.lit (.int .u64 1), .lit (.int .u64 10), .lit (.int .u64 100), .lit (.int .u64 1000), .lit (.int .u64 10000), .lit (.int .u64 100000), .lit (.int .u64 1000000), .lit (.int .u64 10000000), .lit (.int .u64 100000000), .lit (.int .u64 1000000000), .lit (.int .u64 10000000000), .lit (.int .u64 100000000000), .lit (.int .u64 1000000000000), .lit (.int .u64 10000000000000), .lit (.int .u64 100000000000000), .lit (.int .u64 1000000000000000), .lit (.int .u64 10000000000000000), .lit (.int .u64 100000000000000000), .lit (.int .u64 1000000000000000000), .lit (.int .u64 10000000000000000000)]

/-- 'lamplighterlaw21.ValueOrder': WHATEVER THE INPUT: true; the input reads as it did. -/
def valueOrderSpec : ChangeSpec := { name := "valueOrder", fn := fun _ => fun
  | [d1, d2, d3, d4] => { results := [.lit (.bool true)], args := [d1, d2, d3, d4] }
  | _ => none }
def valueOrderRow : OpenClaim := { program := "ytdmondofdlkopaagreatdoor", sum := "807b553a2d5c1eef49a39b8257a8dff486d1f1d5afdeeaa2fe4aa93dd86ab059", func := "lamplighter/lamplighterlaw21.ValueOrder", spec := "valueOrder", unfollowed := true, recurses := true, named := ["lamplighter/word.signs", "math/bits.deBruijn32tab"], apart := false, laid := [("lamplighter/word.signs", laid_lamplighter_word_signs), ("math/bits.deBruijn32tab", laid_math_bits_deBruijn32tab)] }
def ValueOrderSaid : Prop := valueOrderRow.holds Tryz.pinned (OpenSpec.ofChange valueOrderSpec)

/-- ITS FALSE NEIGHBOUR: 'it returns false'. Refute it at one input. -/
def valueOrderWrong : ChangeSpec := { name := "valueOrder", fn := fun _ => fun
  | [d1, d2, d3, d4] => { results := [.lit (.bool false)], args := [d1, d2, d3, d4] }
  | _ => none }
def ValueOrderWrongFalsely : Prop := valueOrderRow.holds Tryz.pinned (OpenSpec.ofChange valueOrderWrong)

/-- 'lamplighterlaw21.ValueOne': WHATEVER THE INPUT: true; the input reads as it did. -/
def valueOneSpec : ChangeSpec := { name := "valueOne", fn := fun _ => fun
  | [d1, d2, d3, d4, d5] => { results := [.lit (.bool true)], args := [d1, d2, d3, d4, d5] }
  | _ => none }
def valueOneRow : OpenClaim := { program := "ytdmondofdlkopaagreatdoor", sum := "807b553a2d5c1eef49a39b8257a8dff486d1f1d5afdeeaa2fe4aa93dd86ab059", func := "lamplighter/lamplighterlaw21.ValueOne", spec := "valueOne", unfollowed := true, recurses := true, named := ["lamplighter/word.signs", "math/bits.deBruijn32tab"], apart := false, laid := [("lamplighter/word.signs", laid_lamplighter_word_signs), ("math/bits.deBruijn32tab", laid_math_bits_deBruijn32tab)] }
def ValueOneSaid : Prop := valueOneRow.holds Tryz.pinned (OpenSpec.ofChange valueOneSpec)

/-- ITS FALSE NEIGHBOUR: 'it returns false'. Refute it at one input. -/
def valueOneWrong : ChangeSpec := { name := "valueOne", fn := fun _ => fun
  | [d1, d2, d3, d4, d5] => { results := [.lit (.bool false)], args := [d1, d2, d3, d4, d5] }
  | _ => none }
def ValueOneWrongFalsely : Prop := valueOneRow.holds Tryz.pinned (OpenSpec.ofChange valueOneWrong)

/-- 'lamplighterlaw21.ValueSound': WHATEVER THE INPUT: true; the input reads as it did. -/
def valueSoundSpec : ChangeSpec := { name := "valueSound", fn := fun _ => fun
  | [d1, d2, d3, d4, d5, d6, d7] => { results := [.lit (.bool true)], args := [d1, d2, d3, d4, d5, d6, d7] }
  | _ => none }
def valueSoundRow : OpenClaim := { program := "ytdmondofdlkopaagreatdoor", sum := "807b553a2d5c1eef49a39b8257a8dff486d1f1d5afdeeaa2fe4aa93dd86ab059", func := "lamplighter/lamplighterlaw21.ValueSound", spec := "valueSound", unfollowed := true, recurses := true, named := ["lamplighter/word.signs", "math/bits.deBruijn32tab"], apart := false, laid := [("lamplighter/word.signs", laid_lamplighter_word_signs), ("math/bits.deBruijn32tab", laid_math_bits_deBruijn32tab)] }
def ValueSoundSaid : Prop := valueSoundRow.holds Tryz.pinned (OpenSpec.ofChange valueSoundSpec)

/-- ITS FALSE NEIGHBOUR: 'it returns false'. Refute it at one input. -/
def valueSoundWrong : ChangeSpec := { name := "valueSound", fn := fun _ => fun
  | [d1, d2, d3, d4, d5, d6, d7] => { results := [.lit (.bool false)], args := [d1, d2, d3, d4, d5, d6, d7] }
  | _ => none }
def ValueSoundWrongFalsely : Prop := valueSoundRow.holds Tryz.pinned (OpenSpec.ofChange valueSoundWrong)

/-- 'lamplighterlaw21.ValueNames': WHATEVER THE INPUT: true; the input reads as it did. -/
def valueNamesSpec : ChangeSpec := { name := "valueNames", fn := fun _ => fun
  | [] => { results := [.lit (.bool true)], args := [] }
  | _ => none }
def valueNamesRow : OpenClaim := { program := "ytdmondofdlkopaagreatdoor", sum := "807b553a2d5c1eef49a39b8257a8dff486d1f1d5afdeeaa2fe4aa93dd86ab059", func := "lamplighter/lamplighterlaw21.ValueNames", spec := "valueNames", unfollowed := true, recurses := true, named := ["lamplighter/word.signs", "math/bits.deBruijn32tab", "internal/strconv.uint64pow10", "math/bits.deBruijn64tab"], apart := false, laid := [("lamplighter/word.signs", laid_lamplighter_word_signs), ("math/bits.deBruijn32tab", laid_math_bits_deBruijn32tab), ("math/bits.deBruijn64tab", laid_math_bits_deBruijn64tab), ("internal/strconv.uint64pow10", laid_internal_strconv_uint64pow10)] }
def ValueNamesSaid : Prop := valueNamesRow.holds Tryz.pinned (OpenSpec.ofChange valueNamesSpec)

/-- ITS FALSE NEIGHBOUR: 'it returns false'. Refute it at one input. -/
def valueNamesWrong : ChangeSpec := { name := "valueNames", fn := fun _ => fun
  | [] => { results := [.lit (.bool false)], args := [] }
  | _ => none }
def ValueNamesWrongFalsely : Prop := valueNamesRow.holds Tryz.pinned (OpenSpec.ofChange valueNamesWrong)

/-- 'lamplighterlaw21.ValueCalls': WHATEVER THE INPUT: true; the input reads as it did. -/
def valueCallsSpec : ChangeSpec := { name := "valueCalls", fn := fun _ => fun
  | [d1, d2, d3, d4, d5] => { results := [.lit (.bool true)], args := [d1, d2, d3, d4, d5] }
  | _ => none }
def valueCallsRow : OpenClaim := { program := "ytdmondofdlkopaagreatdoor", sum := "807b553a2d5c1eef49a39b8257a8dff486d1f1d5afdeeaa2fe4aa93dd86ab059", func := "lamplighter/lamplighterlaw21.ValueCalls", spec := "valueCalls", unfollowed := true, recurses := true, named := ["lamplighter/word.signs", "math/bits.deBruijn32tab", "internal/strconv.uint64pow10", "math/bits.deBruijn64tab"], apart := false, laid := [("lamplighter/word.signs", laid_lamplighter_word_signs), ("math/bits.deBruijn32tab", laid_math_bits_deBruijn32tab), ("math/bits.deBruijn64tab", laid_math_bits_deBruijn64tab), ("internal/strconv.uint64pow10", laid_internal_strconv_uint64pow10)] }
def ValueCallsSaid : Prop := valueCallsRow.holds Tryz.pinned (OpenSpec.ofChange valueCallsSpec)

/-- ITS FALSE NEIGHBOUR: 'it returns false'. Refute it at one input. -/
def valueCallsWrong : ChangeSpec := { name := "valueCalls", fn := fun _ => fun
  | [d1, d2, d3, d4, d5] => { results := [.lit (.bool false)], args := [d1, d2, d3, d4, d5] }
  | _ => none }
def ValueCallsWrongFalsely : Prop := valueCallsRow.holds Tryz.pinned (OpenSpec.ofChange valueCallsWrong)

/- THE SECOND FORM. 'bulk': how many values and letters a reading holds, each counted each time it is reached (what is shared counts as often as it is met; a slice's spare places count too). A statement '..UptoSaid' is the law's where the arguments, and the package variables that the reading takes, are together of bulk at most 1048576: NARROWER than '..Said'. Prove '..Said' where nothing that the law and all that it calls make is longer than what came in: it says more and counts as full. Else prove '..UptoSaid'. A law counts once. -/
mutual
def uptoBulk {H : Type} : DataW H → Nat
  | .lit (.string bytes) => bytes.length + 1
  | .lit _ => 1
  | .nil => 1
  | .ptr d => uptoBulk d + 1
  | .slice elems spare => uptoBulkAll elems + uptoBulkAll spare + 1
  | .agg parts => uptoBulkAll parts + 1
  | .iface _ d => uptoBulk d + 1
  | .map entries => uptoBulkEntries entries + 1
  | .held _ => 1
def uptoBulkAll {H : Type} : List (DataW H) → Nat
  | [] => 0
  | d :: r => uptoBulk d + uptoBulkAll r
def uptoBulkEntries {H : Type} : List (Lit × DataW H) → Nat
  | [] => 0
  | x :: r => uptoBulkEntry x + uptoBulkEntries r
def uptoBulkEntry {H : Type} : Lit × DataW H → Nat
  | (.string bytes, d) => bytes.length + uptoBulk d + 1
  | (_, d) => uptoBulk d + 1
 end
def uptoSmall : (H : Type) → List (DataW H) → Bool := fun _ ds => decide (uptoBulkAll ds ≤ 1048576)
def OpenSpec.upto (s : _root_.Go.ChangeSpec) : _root_.Go.OpenSpec := { _root_.Go.OpenSpec.ofChange s with cond := some uptoSmall }

/-- 'lamplighterlaw21.ValueOrder', WHERE WHAT IT READS IS OF BULK AT MOST 1048576: true; the input reads as it did. -/
def valueOrderUptoRow : OpenClaim := { program := "ytdmondofdlkopaagreatdoor", sum := "807b553a2d5c1eef49a39b8257a8dff486d1f1d5afdeeaa2fe4aa93dd86ab059", func := "lamplighter/lamplighterlaw21.ValueOrder", spec := "valueOrder", unfollowed := true, recurses := true, named := ["lamplighter/word.signs", "math/bits.deBruijn32tab"], apart := false, laid := [("lamplighter/word.signs", laid_lamplighter_word_signs), ("math/bits.deBruijn32tab", laid_math_bits_deBruijn32tab)], narrowed := true }
def ValueOrderUptoSaid : Prop := valueOrderUptoRow.holds Tryz.pinned (OpenSpec.upto valueOrderSpec)

/-- 'lamplighterlaw21.ValueOne', WHERE WHAT IT READS IS OF BULK AT MOST 1048576: true; the input reads as it did. -/
def valueOneUptoRow : OpenClaim := { program := "ytdmondofdlkopaagreatdoor", sum := "807b553a2d5c1eef49a39b8257a8dff486d1f1d5afdeeaa2fe4aa93dd86ab059", func := "lamplighter/lamplighterlaw21.ValueOne", spec := "valueOne", unfollowed := true, recurses := true, named := ["lamplighter/word.signs", "math/bits.deBruijn32tab"], apart := false, laid := [("lamplighter/word.signs", laid_lamplighter_word_signs), ("math/bits.deBruijn32tab", laid_math_bits_deBruijn32tab)], narrowed := true }
def ValueOneUptoSaid : Prop := valueOneUptoRow.holds Tryz.pinned (OpenSpec.upto valueOneSpec)

/-- 'lamplighterlaw21.ValueSound', WHERE WHAT IT READS IS OF BULK AT MOST 1048576: true; the input reads as it did. -/
def valueSoundUptoRow : OpenClaim := { program := "ytdmondofdlkopaagreatdoor", sum := "807b553a2d5c1eef49a39b8257a8dff486d1f1d5afdeeaa2fe4aa93dd86ab059", func := "lamplighter/lamplighterlaw21.ValueSound", spec := "valueSound", unfollowed := true, recurses := true, named := ["lamplighter/word.signs", "math/bits.deBruijn32tab"], apart := false, laid := [("lamplighter/word.signs", laid_lamplighter_word_signs), ("math/bits.deBruijn32tab", laid_math_bits_deBruijn32tab)], narrowed := true }
def ValueSoundUptoSaid : Prop := valueSoundUptoRow.holds Tryz.pinned (OpenSpec.upto valueSoundSpec)

/-- 'lamplighterlaw21.ValueNames', WHERE WHAT IT READS IS OF BULK AT MOST 1048576: true; the input reads as it did. -/
def valueNamesUptoRow : OpenClaim := { program := "ytdmondofdlkopaagreatdoor", sum := "807b553a2d5c1eef49a39b8257a8dff486d1f1d5afdeeaa2fe4aa93dd86ab059", func := "lamplighter/lamplighterlaw21.ValueNames", spec := "valueNames", unfollowed := true, recurses := true, named := ["lamplighter/word.signs", "math/bits.deBruijn32tab", "internal/strconv.uint64pow10", "math/bits.deBruijn64tab"], apart := false, laid := [("lamplighter/word.signs", laid_lamplighter_word_signs), ("math/bits.deBruijn32tab", laid_math_bits_deBruijn32tab), ("math/bits.deBruijn64tab", laid_math_bits_deBruijn64tab), ("internal/strconv.uint64pow10", laid_internal_strconv_uint64pow10)], narrowed := true }
def ValueNamesUptoSaid : Prop := valueNamesUptoRow.holds Tryz.pinned (OpenSpec.upto valueNamesSpec)

/-- 'lamplighterlaw21.ValueCalls', WHERE WHAT IT READS IS OF BULK AT MOST 1048576: true; the input reads as it did. -/
def valueCallsUptoRow : OpenClaim := { program := "ytdmondofdlkopaagreatdoor", sum := "807b553a2d5c1eef49a39b8257a8dff486d1f1d5afdeeaa2fe4aa93dd86ab059", func := "lamplighter/lamplighterlaw21.ValueCalls", spec := "valueCalls", unfollowed := true, recurses := true, named := ["lamplighter/word.signs", "math/bits.deBruijn32tab", "internal/strconv.uint64pow10", "math/bits.deBruijn64tab"], apart := false, laid := [("lamplighter/word.signs", laid_lamplighter_word_signs), ("math/bits.deBruijn32tab", laid_math_bits_deBruijn32tab), ("math/bits.deBruijn64tab", laid_math_bits_deBruijn64tab), ("internal/strconv.uint64pow10", laid_internal_strconv_uint64pow10)], narrowed := true }
def ValueCallsUptoSaid : Prop := valueCallsUptoRow.holds Tryz.pinned (OpenSpec.upto valueCallsSpec)

end Rows
end Go.Proofs.YtdmondofdlkopaaGreatDoor
