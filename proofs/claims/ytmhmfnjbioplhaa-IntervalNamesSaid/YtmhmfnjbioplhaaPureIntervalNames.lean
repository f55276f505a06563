/- The plain law of IntervalNames: the printed function answers true. Conditions: none. -/
import Derived.KernelRfl
import Derived.Test.YtmhmfnjbioplhaaPIntervalNamesx8
namespace Go.Proofs.Ytmhmfnjbioplhaa.Pure
open Go.RowKit Go.Proofs.Ytmhmfnjbioplhaa.PIntervalNames Go.Proofs.YtmhmfnjbioplhaaW.PrintWords Go.Proofs.YtmhmfnjbioplhaaW.PrintLast

/-- YOURS: ∃ k, lamplighterlaw19_IntervalNames.f k  = some true
What it reaches (each with k first where it has rounds; `.mono`: more rounds tell the same; `.l0`, ..: its loops, with `.mono_l`): interval_One.f, interval_yes.f, interval_sure.f, interval_All.f, bits_Add32.f, interval_add.f, bits_Sub32.f, interval_sub.f, bits_Mul32.f, interval_mul.f, interval_noZero.f, interval_div.f, interval_rem.f, interval_plain.f, interval_shl.f, interval_shr.f, interval_sar.f, interval_may.f, interval_Meet.f, interval_eq.f, interval_ne.f, interval_maker.f, interval_Do.f, interval_steps.f, interval_Widen.f, lamplighterlaw19_r.f, lamplighterlaw19_lives.f, interval_Check.f, interval_Un.f, word_Cut.f, interval_Cut.f, lamplighterlaw19_IntervalNames.f -/
theorem IntervalNames : lamplighterlaw19_IntervalNames.Pure := by
  exact ⟨40, by kernel_rfl⟩

end Go.Proofs.Ytmhmfnjbioplhaa.Pure
