/- Contracts of Go functions of the given program: where NAME.f answers, the call returns that. Conditions: those each theorem names. -/
import Derived.Test.YtmhmfnjbioplhaaPIntervalCallsx0
import Derived.Test.YtmhmfnjbioplhaaPIntervalCallsx2
import Derived.Test.YtmhmfnjbioplhaaPIntervalCallsx3
namespace Go.Proofs.Ytmhmfnjbioplhaa.PIntervalCalls
open Go.RowKit Go.Proofs.YtmhmfnjbioplhaaW.PrintWords Go.Proofs.YtmhmfnjbioplhaaW.PrintLast Go.Proofs.YtmhmfnjbioplhaaW.PrintMore Go.Proofs.Ytmhmfnjbioplhaa.Help
attribute [local go_sem] max2_int min2_int max_two min_two max_three min_three max_four min_four   -- for this text's walks alone
set_option linter.unusedVariables false
set_option linter.unusedSimpArgs false

/-! ### interval_Do: function 11 -/
theorem bcell {W w1 : World} (hb : Below W.heap.size W w1) : (∀ b o, b < W.heap.size → w1.cell? ⟨b, o, none⟩ = W.cell? ⟨b, o, none⟩) ∧ (∀ b o, b < W.heap.size → w1.frozen? ⟨b, o, none⟩ = W.frozen? ⟨b, o, none⟩) :=
  ⟨fun b o h => hb.cell (p := ⟨b, o, none⟩) h, fun b o h => hb.frozen (p := ⟨b, o, none⟩) h⟩
/-- A function value without captured variables, over two ranges, that answers what g says. -/
structure FR (n : Nat) (g : Int → Int → Int → Int → Option (Int × Int)) : Prop where
  enters : ∀ args w, Sem.run Try.prog (callFunc n args) w = .ok (.enter n args) w
  calls : ∀ (al ah bl bh r1 r2 : Int), g al ah bl bh = some (r1, r2) → ∀ W, Calls Try.prog n #[.agg #[.int .u32 al, .int .u32 ah], .agg #[.int .u32 bl, .int .u32 bh]] W fun e w' => e = .returned (.agg #[.int .u32 r1, .int .u32 r2]) ∧ Below W.heap.size W w'
/-- The same, with a bool behind the range. -/
structure FM (n : Nat) (g : Int → Int → Int → Int → Option (Int × Int × Bool)) : Prop where
  enters : ∀ args w, Sem.run Try.prog (callFunc n args) w = .ok (.enter n args) w
  calls : ∀ (al ah bl bh r1 r2 : Int) (r3 : Bool), g al ah bl bh = some (r1, r2, r3) → ∀ W, Calls Try.prog n #[.agg #[.int .u32 al, .int .u32 ah], .agg #[.int .u32 bl, .int .u32 bh]] W fun e w' => e = .returned (.tuple #[.agg #[.int .u32 r1, .int .u32 r2], .bool r3]) ∧ Below W.heap.size W w'
/-- A function value with captured variables that answers what g says, in every world behind W0. -/
structure FV (W0 : World) (n : Nat) (caps : Array Value) (g : Int → Int → Int → Int → Option (Int × Int × Bool)) : Prop where
  enters : ∀ args w, Sem.run Try.prog (callFunc n args) w = .ok (.enter n args) w
  calls : ∀ (al ah bl bh r1 r2 : Int) (r3 : Bool), g al ah bl bh = some (r1, r2, r3) → ∀ W, Below W0.heap.size W0 W → Calls Try.prog n (#[.agg #[.int .u32 al, .int .u32 ah], .agg #[.int .u32 bl, .int .u32 bh]] ++ caps) W fun e w' => e = .returned (.tuple #[.agg #[.int .u32 r1, .int .u32 r2], .bool r3]) ∧ Below W.heap.size W w'
set_option maxHeartbeats 800000 in
theorem sure1 {n : Nat} {g : Int → Int → Int → Int → Option (Int × Int)} (hF : FR n g) (pb : Nat) (w : World) (hlt : pb < w.heap.size) (hp : w.cell? ⟨pb, 0, none⟩ = some (.func (.func n) #[] #[])) (al ah bl bh r1 r2 : Int) (h : g al ah bl bh = some (r1, r2)) :
    Calls Try.prog 72 #[.agg #[.int .u32 al, .int .u32 ah], .agg #[.int .u32 bl, .int .u32 bh], .pointer (some ⟨pb, 0, none⟩)] w fun e w' => e = .returned (.tuple #[.agg #[.int .u32 r1, .int .u32 r2], .bool true]) ∧ Below w.heap.size w w' := by
  have hg := am (hF.calls al ah bl bh r1 r2 h)
  have he := hF.enters
  clear hF h; have hu24 := Try.underlying24
  have hu32 := Try.underlying32
  have hq : ∀ o1 o2 o3, (((w.alloc o1).alloc o2).alloc o3).cell? ⟨pb, 0, none⟩ = some (.func (.func n) #[] #[]) := by
    intro o1 o2 o3
    rw [World.cell?_alloc_lt, World.cell?_alloc_lt, World.cell?_alloc_lt, hp]
    all_goals (simp; omega)
  go_enter Try.func72, Try.ntmps72
  go_wp2_with fail
  refine (hg.out _).mono ?_
  rintro e w1 ⟨rfl, hb⟩
  obtain ⟨hc, hf⟩ := bcell hb; have hz : w.heap.size + 1 + 1 < w1.heap.size := by have := hb.size; simp at this; omega
  go_wp2_with fail
  refine bodyPost_ret (v := .tuple #[.agg #[.int .u32 r1, .int .u32 r2], .bool true]) (by simp [results, Try.results72, go_sem, hc]) rfl ⟨rfl, ?_⟩
  exact ((((((Below.refl _ _).alloc (Nat.le_refl _) _).alloc (by simp) _).alloc (by simp; omega) _).trans (hb.mono (by simp; omega))).setCell (by simp; omega) _).setCell (by simp; omega) _
/-- What a signed operator makes of an unsigned one. -/
def plainF (g : Int → Int → Int → Int → Option (Int × Int × Bool)) (al ah bl bh : Int) : Option (Int × Int × Bool) :=
  if bh = 0 then some (0, 0, false) else if ah ≥ 2147483648 then some (0, 4294967295, true) else if bh ≥ 2147483648 then some (0, 4294967295, true) else g al ah bl bh
set_option maxHeartbeats 1600000 in
theorem plain1 {n : Nat} {g : Int → Int → Int → Int → Option (Int × Int × Bool)} (hF : FM n g) (pb : Nat) (w : World) (hlt : pb < w.heap.size) (hp : w.cell? ⟨pb, 0, none⟩ = some (.func (.func n) #[] #[])) (al ah bl bh r1 r2 : Int) (r3 : Bool) (h : plainF g al ah bl bh = some (r1, r2, r3)) :
    Calls Try.prog 77 #[.agg #[.int .u32 al, .int .u32 ah], .agg #[.int .u32 bl, .int .u32 bh], .pointer (some ⟨pb, 0, none⟩)] w fun e w' => e = .returned (.tuple #[.agg #[.int .u32 r1, .int .u32 r2], .bool r3]) ∧ Below w.heap.size w w' := by
  have hg := am (hF.calls al ah bl bh r1 r2 r3)
  have he := hF.enters
  clear hF; have hu24 := Try.underlying24
  have hu54 := Try.underlying54
  have hq : ∀ o1 o2 o3, (((w.alloc o1).alloc o2).alloc o3).cell? ⟨pb, 0, none⟩ = some (.func (.func n) #[] #[]) := by
    intro o1 o2 o3
    rw [World.cell?_alloc_lt, World.cell?_alloc_lt, World.cell?_alloc_lt, hp]
    all_goals (simp; omega)
  unfold plainF at h
  by_cases c1 : bh = 0
  · rw [if_pos c1] at h
    simp only [Option.some.injEq, Prod.mk.injEq] at h
    obtain ⟨rfl, rfl, rfl⟩ := h; have c1b : (bh == 0) = true := beq_iff_eq.mpr c1; clear c1
    go_enter Try.func77, Try.ntmps77
    go_wp2_with fail
    refine bodyPost_ret (v := .tuple #[.agg #[.int .u32 0, .int .u32 0], .bool false]) (by simp [results, Try.results77, go_sem]) rfl ⟨rfl, ?_⟩
    exact (((Below.refl _ _).alloc (Nat.le_refl _) _).alloc (by simp) _).alloc (by simp; omega) _
  rw [if_neg c1] at h
  have c1b : (bh == 0) = false := beq_eq_false_iff_ne.mpr c1; clear c1; by_cases c2 : ah ≥ 2147483648
  · rw [if_pos c2] at h
    simp only [Option.some.injEq, Prod.mk.injEq] at h
    obtain ⟨rfl, rfl, rfl⟩ := h; have c2b : decide (2147483648 ≤ ah) = true := decide_eq_true c2; clear c2
    go_enter Try.func77, Try.ntmps77
    go_wp2_with fail
    refine (interval_All.calls 0 4294967295 _ rfl).mono ?_
    rintro e w1 ⟨rfl, hb⟩
    obtain ⟨hc, hf⟩ := bcell hb; have hz : w.heap.size + 1 + 1 < w1.heap.size := by have := hb.size; simp at this; omega
    go_wp2_with fail
    refine bodyPost_ret (v := .tuple #[.agg #[.int .u32 0, .int .u32 4294967295], .bool true]) (by simp [results, Try.results77, go_sem, hc]) rfl ⟨rfl, ?_⟩
    exact ((((((Below.refl _ _).alloc (Nat.le_refl _) _).alloc (by simp) _).alloc (by simp; omega) _).trans (hb.mono (by simp; omega))).setCell (by simp; omega) _).setCell (by simp; omega) _
  rw [if_neg c2] at h
  have c2b : decide (2147483648 ≤ ah) = false := decide_eq_false c2; clear c2; by_cases c3 : bh ≥ 2147483648
  · rw [if_pos c3] at h
    simp only [Option.some.injEq, Prod.mk.injEq] at h
    obtain ⟨rfl, rfl, rfl⟩ := h; have c3b : decide (2147483648 ≤ bh) = true := decide_eq_true c3; clear c3
    go_enter Try.func77, Try.ntmps77
    go_wp2_with fail
    refine (interval_All.calls 0 4294967295 _ rfl).mono ?_
    rintro e w1 ⟨rfl, hb⟩
    obtain ⟨hc, hf⟩ := bcell hb; have hz : w.heap.size + 1 + 1 < w1.heap.size := by have := hb.size; simp at this; omega
    go_wp2_with fail
    refine bodyPost_ret (v := .tuple #[.agg #[.int .u32 0, .int .u32 4294967295], .bool true]) (by simp [results, Try.results77, go_sem, hc]) rfl ⟨rfl, ?_⟩
    exact ((((((Below.refl _ _).alloc (Nat.le_refl _) _).alloc (by simp) _).alloc (by simp; omega) _).trans (hb.mono (by simp; omega))).setCell (by simp; omega) _).setCell (by simp; omega) _
  rw [if_neg c3] at h
  have c3b : decide (2147483648 ≤ bh) = false := decide_eq_false c3; clear c3; replace hg := am (hg.out h)
  clear h
  go_enter Try.func77, Try.ntmps77
  go_wp2_with fail
  refine (hg.out _).mono ?_
  rintro e w1 ⟨rfl, hb⟩
  obtain ⟨hc, hf⟩ := bcell hb; have hz : w.heap.size + 1 + 1 < w1.heap.size := by have := hb.size; simp at this; omega
  go_wp2_with fail
  refine bodyPost_ret (v := .tuple #[.agg #[.int .u32 r1, .int .u32 r2], .bool r3]) (by simp [results, Try.results77, go_sem, hc]) rfl ⟨rfl, ?_⟩
  exact ((((((Below.refl _ _).alloc (Nat.le_refl _) _).alloc (by simp) _).alloc (by simp; omega) _).trans (hb.mono (by simp; omega))).setCell (by simp; omega) _).setCell (by simp; omega) _
theorem sure_calls (n : Nat) (w : World) : Calls Try.prog 50 #[.func (.func n) #[] #[]] w fun e w' => e = .returned (.func (.func 72) #[] #[.pointer (some ⟨w.heap.size, 0, none⟩)]) ∧ w.alloc (.cells #[.func (.func n) #[] #[]] 32) = w' := by
  have hmf : ∀ (fn : Fn) (first cap : Array Value) (w : World), (Instr.makeFunc fn first cap).run Try.prog w = .ok (.func fn first cap) w := fun _ _ _ _ => rfl
  have hu32 := Try.underlying32
  go_enter Try.func50, Try.ntmps50
  go_wp2
  go_ret
  exact ⟨rfl, rfl⟩
theorem plain_calls (n : Nat) (w : World) : Calls Try.prog 56 #[.func (.func n) #[] #[]] w fun e w' => e = .returned (.func (.func 77) #[] #[.pointer (some ⟨w.heap.size, 0, none⟩)]) ∧ w.alloc (.cells #[.func (.func n) #[] #[]] 54) = w' := by
  have hmf : ∀ (fn : Fn) (first cap : Array Value) (w : World), (Instr.makeFunc fn first cap).run Try.prog w = .ok (.func fn first cap) w := fun _ _ _ _ => rfl
  have hu54 := Try.underlying54
  go_enter Try.func56, Try.ntmps56
  go_wp2
  go_ret
  exact ⟨rfl, rfl⟩
/-- A function that always makes something, as one that may make nothing. -/
def sureF (g : Int → Int → Int → Int → Option (Int × Int)) (al ah bl bh : Int) : Option (Int × Int × Bool) := (g al ah bl bh).bind fun r => some (r.1, r.2, true)
theorem FV.sure {n : Nat} {g : Int → Int → Int → Int → Option (Int × Int)} (hF : FR n g) (w : World) : FV (w.alloc (.cells #[.func (.func n) #[] #[]] 32)) 72 #[.pointer (some ⟨w.heap.size, 0, none⟩)] (sureF g) := by
  refine ⟨fun _ _ => enters_ Try.func72 (by kernel_rfl) rfl _ _, fun al ah bl bh r1 r2 r3 h W hB => ?_⟩
  obtain ⟨⟨q1, q2⟩, hq, h⟩ := Option.bind_eq_some_iff.mp h; simp only [Option.some.injEq, Prod.mk.injEq] at h
  obtain ⟨rfl, rfl, rfl⟩ := h; have hs := hB.size
  have hc := (bcell hB).1 w.heap.size 0 (by simp)
  refine sure1 hF w.heap.size W (by simp at hs; omega) (hc.trans (by simp)) al ah bl bh q1 q2 hq
theorem FV.plain {n : Nat} {g : Int → Int → Int → Int → Option (Int × Int × Bool)} (hF : FM n g) (w : World) : FV (w.alloc (.cells #[.func (.func n) #[] #[]] 54)) 77 #[.pointer (some ⟨w.heap.size, 0, none⟩)] (plainF g) := by
  refine ⟨fun _ _ => enters_ Try.func77 (by kernel_rfl) rfl _ _, fun al ah bl bh r1 r2 r3 h W hB => ?_⟩
  have hs := hB.size
  have hc := (bcell hB).1 w.heap.size 0 (by simp)
  exact plain1 hF w.heap.size W (by simp at hs; omega) (hc.trans (by simp)) al ah bl bh r1 r2 r3 h
theorem FV.bare {n : Nat} {g : Int → Int → Int → Int → Option (Int × Int × Bool)} (hF : FM n g) (w : World) : FV w n #[] g :=
  ⟨hF.enters, fun al ah bl bh r1 r2 r3 h W _ => by rw [Array.append_empty]; exact hF.calls al ah bl bh r1 r2 r3 h W⟩
theorem FR.add : FR 51 interval_add.f := ⟨fun _ _ => enters_ Try.func51 (by kernel_rfl) rfl _ _, fun _ _ _ _ _ _ h W => interval_add.calls _ _ _ _ _ _ W h⟩
theorem FR.sub : FR 52 interval_sub.f := ⟨fun _ _ => enters_ Try.func52 (by kernel_rfl) rfl _ _, fun _ _ _ _ _ _ h W => interval_sub.calls _ _ _ _ _ _ W h⟩
theorem FR.mul : FR 53 interval_mul.f := ⟨fun _ _ => enters_ Try.func53 (by kernel_rfl) rfl _ _, fun _ _ _ _ _ _ h W => interval_mul.calls _ _ _ _ _ _ W h⟩
theorem FM.div : FM 54 interval_div.f := ⟨fun _ _ => enters_ Try.func54 (by kernel_rfl) rfl _ _, fun _ _ _ _ _ _ _ h W => interval_div.calls _ _ _ _ _ _ _ W h⟩
theorem FM.rem : FM 55 interval_rem.f := ⟨fun _ _ => enters_ Try.func55 (by kernel_rfl) rfl _ _, fun _ _ _ _ _ _ _ h W => interval_rem.calls _ _ _ _ _ _ _ W h⟩
theorem FR.and : FR 57 interval_maker_1.f := ⟨fun _ _ => enters_ Try.func57 (by kernel_rfl) rfl _ _, fun _ _ _ _ _ _ h W => interval_maker_1.calls _ _ _ _ _ _ W h⟩
theorem FR.or : FR 58 interval_maker_2.f := ⟨fun _ _ => enters_ Try.func58 (by kernel_rfl) rfl _ _, fun _ _ _ _ _ _ h W => interval_maker_2.calls _ _ _ _ _ _ W h⟩
theorem FR.xor : FR 60 interval_maker_3.f := ⟨fun _ _ => enters_ Try.func60 (by kernel_rfl) rfl _ _, fun _ _ _ _ _ _ h W => interval_maker_3.calls _ _ _ _ _ _ W h⟩
theorem FR.shl : FR 61 interval_shl.f := ⟨fun _ _ => enters_ Try.func61 (by kernel_rfl) rfl _ _, fun _ _ _ _ _ _ h W => interval_shl.calls _ _ _ _ _ _ W h⟩
theorem FR.shr : FR 62 interval_shr.f := ⟨fun _ _ => enters_ Try.func62 (by kernel_rfl) rfl _ _, fun _ _ _ _ _ _ h W => interval_shr.calls _ _ _ _ _ _ W h⟩
theorem FR.sar : FR 63 interval_sar.f := ⟨fun _ _ => enters_ Try.func63 (by kernel_rfl) rfl _ _, fun _ _ _ _ _ _ h W => interval_sar.calls _ _ _ _ _ _ W h⟩
theorem FR.eq (k : Nat) : FR 64 (interval_eq.f k) := ⟨fun _ _ => enters_ Try.func64 (by kernel_rfl) rfl _ _, fun _ _ _ _ _ _ h W => interval_eq.calls k _ _ _ _ _ _ W h⟩
theorem FR.ne (k : Nat) : FR 65 (interval_ne.f k) := ⟨fun _ _ => enters_ Try.func65 (by kernel_rfl) rfl _ _, fun _ _ _ _ _ _ h W => interval_ne.calls k _ _ _ _ _ _ W h⟩
theorem FR.lt : FR 66 interval_maker_4.f := ⟨fun _ _ => enters_ Try.func66 (by kernel_rfl) rfl _ _, fun _ _ _ _ _ _ h W => interval_maker_4.calls _ _ _ _ _ _ W h⟩
theorem FR.le : FR 67 interval_maker_5.f := ⟨fun _ _ => enters_ Try.func67 (by kernel_rfl) rfl _ _, fun _ _ _ _ _ _ h W => interval_maker_5.calls _ _ _ _ _ _ W h⟩
theorem FR.lts (k : Nat) : FR 68 (interval_maker_6.f k) := ⟨fun _ _ => enters_ Try.func68 (by kernel_rfl) rfl _ _, fun _ _ _ _ _ _ h W => interval_maker_6.calls k _ _ _ _ _ _ W h⟩
theorem FR.les (k : Nat) : FR 70 (interval_maker_7.f k) := ⟨fun _ _ => enters_ Try.func70 (by kernel_rfl) rfl _ _, fun _ _ _ _ _ _ h W => interval_maker_7.calls k _ _ _ _ _ _ W h⟩
/-- What an operator makes, by its number. -/
def makeF (k : Nat) (op : Int) : Int → Int → Int → Int → Option (Int × Int × Bool) :=
  if op = 1 then sureF interval_add.f else if op = 2 then sureF interval_sub.f else if op = 3 then sureF interval_mul.f else if op = 4 then interval_div.f else if op = 5 then interval_rem.f
  else if op = 6 then plainF interval_div.f else if op = 7 then plainF interval_rem.f else if op = 8 then sureF interval_maker_1.f else if op = 9 then sureF interval_maker_2.f else if op = 10 then sureF interval_maker_3.f
  else if op = 11 then sureF interval_shl.f else if op = 12 then sureF interval_shr.f else if op = 13 then sureF interval_sar.f else if op = 14 then sureF (interval_eq.f k) else if op = 15 then sureF (interval_ne.f k)
  else if op = 16 then sureF interval_maker_4.f else if op = 17 then sureF interval_maker_5.f else if op = 18 then sureF (interval_maker_6.f k) else if op = 19 then sureF (interval_maker_7.f k) else fun _ _ _ _ => none
set_option maxHeartbeats 8000000 in
theorem maker_sure (op : Int) (n : Nat) (w : World) (h : (op, n) ∈ [((1 : Int), 51), (2, 52), (3, 53), (8, 57), (9, 58), (10, 60), (11, 61), (12, 62), (13, 63), (14, 64), (15, 65), (16, 66), (17, 67), (18, 68), (19, 70)]) :
    Calls Try.prog 35 #[.int .i64 op] w fun e w' => e = .returned (.func (.func 72) #[] #[.pointer (some ⟨w.heap.size, 0, none⟩)]) ∧ w.alloc (.cells #[.func (.func n) #[] #[]] 32) = w' := by
  simp only [List.mem_cons, Prod.mk.injEq, List.not_mem_nil, or_false] at h
  rcases h with ⟨rfl, rfl⟩ | ⟨rfl, rfl⟩ | ⟨rfl, rfl⟩ | ⟨rfl, rfl⟩ | ⟨rfl, rfl⟩ | ⟨rfl, rfl⟩ | ⟨rfl, rfl⟩ | ⟨rfl, rfl⟩ | ⟨rfl, rfl⟩ | ⟨rfl, rfl⟩ | ⟨rfl, rfl⟩ | ⟨rfl, rfl⟩ | ⟨rfl, rfl⟩ | ⟨rfl, rfl⟩ | ⟨rfl, rfl⟩
  all_goals
    go_enter Try.func35, Try.ntmps35
    go_wp2_with fail
    refine (sure_calls _ _).mono ?_
    rintro e w1 ⟨rfl, rfl⟩
    go_wp2_with fail
    go_ret
    exact ⟨rfl, rfl⟩
set_option maxHeartbeats 8000000 in
theorem maker_plain (op : Int) (n : Nat) (w : World) (h : (op, n) ∈ [((6 : Int), 54), (7, 55)]) :
    Calls Try.prog 35 #[.int .i64 op] w fun e w' => e = .returned (.func (.func 77) #[] #[.pointer (some ⟨w.heap.size, 0, none⟩)]) ∧ w.alloc (.cells #[.func (.func n) #[] #[]] 54) = w' := by
  simp only [List.mem_cons, Prod.mk.injEq, List.not_mem_nil, or_false] at h
  rcases h with ⟨rfl, rfl⟩ | ⟨rfl, rfl⟩
  all_goals
    go_enter Try.func35, Try.ntmps35
    go_wp2_with fail
    refine (plain_calls _ _).mono ?_
    rintro e w1 ⟨rfl, rfl⟩
    go_wp2_with fail
    go_ret
    exact ⟨rfl, rfl⟩
set_option maxHeartbeats 8000000 in
theorem maker_bare (op : Int) (n : Nat) (w : World) (h : (op, n) ∈ [((4 : Int), 54), (5, 55)]) :
    Calls Try.prog 35 #[.int .i64 op] w fun e w' => e = .returned (.func (.func n) #[] #[]) ∧ w = w' := by
  simp only [List.mem_cons, Prod.mk.injEq, List.not_mem_nil, or_false] at h
  rcases h with ⟨rfl, rfl⟩ | ⟨rfl, rfl⟩
  all_goals
    go_enter Try.func35, Try.ntmps35
    go_wp2_with fail
    go_ret
    exact ⟨rfl, rfl⟩
set_option maxHeartbeats 8000000 in
theorem maker_none (op : Int) (w : World) (h : ¬ (1 ≤ op ∧ op ≤ 19)) :
    Calls Try.prog 35 #[.int .i64 op] w fun e w' => e = .returned .nilFunc ∧ w = w' := by
  have c1 : (op == 1) = false := beq_eq_false_iff_ne.mpr (by omega)
  have c2 : (op == 2) = false := beq_eq_false_iff_ne.mpr (by omega)
  have c3 : (op == 3) = false := beq_eq_false_iff_ne.mpr (by omega)
  have c4 : (op == 4) = false := beq_eq_false_iff_ne.mpr (by omega)
  have c5 : (op == 5) = false := beq_eq_false_iff_ne.mpr (by omega)
  have c6 : (op == 6) = false := beq_eq_false_iff_ne.mpr (by omega)
  have c7 : (op == 7) = false := beq_eq_false_iff_ne.mpr (by omega)
  have c8 : (op == 8) = false := beq_eq_false_iff_ne.mpr (by omega)
  have c9 : (op == 9) = false := beq_eq_false_iff_ne.mpr (by omega)
  have c10 : (op == 10) = false := beq_eq_false_iff_ne.mpr (by omega)
  have c11 : (op == 11) = false := beq_eq_false_iff_ne.mpr (by omega)
  have c12 : (op == 12) = false := beq_eq_false_iff_ne.mpr (by omega)
  have c13 : (op == 13) = false := beq_eq_false_iff_ne.mpr (by omega)
  have c14 : (op == 14) = false := beq_eq_false_iff_ne.mpr (by omega)
  have c15 : (op == 15) = false := beq_eq_false_iff_ne.mpr (by omega)
  have c16 : (op == 16) = false := beq_eq_false_iff_ne.mpr (by omega)
  have c17 : (op == 17) = false := beq_eq_false_iff_ne.mpr (by omega)
  have c18 : (op == 18) = false := beq_eq_false_iff_ne.mpr (by omega)
  have c19 : (op == 19) = false := beq_eq_false_iff_ne.mpr (by omega)
  clear h
  go_enter Try.func35, Try.ntmps35
  go_wp2_with fail
  go_ret
  exact ⟨rfl, rfl⟩
theorem below_cells (w : World) (n : Nat) (T : TypeId) : Below w.heap.size w (w.alloc (.cells #[.func (.func n) #[] #[]] T)) := (Below.refl _ _).alloc (Nat.le_refl _) _
theorem maker_calls (k : Nat) (op : Int) (w : World) (h1 : 1 ≤ op) (h2 : op ≤ 19) :
    Calls Try.prog 35 #[.int .i64 op] w fun e w' => ∃ n caps, e = .returned (.func (.func n) #[] caps) ∧ Below w.heap.size w w' ∧ FV w' n caps (makeF k op) := by
  have e : op = 1 ∨ op = 2 ∨ op = 3 ∨ op = 4 ∨ op = 5 ∨ op = 6 ∨ op = 7 ∨ op = 8 ∨ op = 9 ∨ op = 10 ∨ op = 11 ∨ op = 12 ∨ op = 13 ∨ op = 14 ∨ op = 15 ∨ op = 16 ∨ op = 17 ∨ op = 18 ∨ op = 19 := by omega
  rcases e with rfl | rfl | rfl | rfl | rfl | rfl | rfl | rfl | rfl | rfl | rfl | rfl | rfl | rfl | rfl | rfl | rfl | rfl | rfl
  · exact (maker_sure _ _ w (by decide)).mono fun _ _ ⟨he, hw⟩ => ⟨_, _, he, hw ▸ below_cells w _ _, hw ▸ FV.sure FR.add w⟩
  · exact (maker_sure _ _ w (by decide)).mono fun _ _ ⟨he, hw⟩ => ⟨_, _, he, hw ▸ below_cells w _ _, hw ▸ FV.sure FR.sub w⟩
  · exact (maker_sure _ _ w (by decide)).mono fun _ _ ⟨he, hw⟩ => ⟨_, _, he, hw ▸ below_cells w _ _, hw ▸ FV.sure FR.mul w⟩
  · exact (maker_bare _ _ w (by decide)).mono fun _ _ ⟨he, hw⟩ => ⟨_, _, he, hw ▸ Below.refl _ _, hw ▸ FV.bare FM.div w⟩
  · exact (maker_bare _ _ w (by decide)).mono fun _ _ ⟨he, hw⟩ => ⟨_, _, he, hw ▸ Below.refl _ _, hw ▸ FV.bare FM.rem w⟩
  · exact (maker_plain _ _ w (by decide)).mono fun _ _ ⟨he, hw⟩ => ⟨_, _, he, hw ▸ below_cells w _ _, hw ▸ FV.plain FM.div w⟩
  · exact (maker_plain _ _ w (by decide)).mono fun _ _ ⟨he, hw⟩ => ⟨_, _, he, hw ▸ below_cells w _ _, hw ▸ FV.plain FM.rem w⟩
  · exact (maker_sure _ _ w (by decide)).mono fun _ _ ⟨he, hw⟩ => ⟨_, _, he, hw ▸ below_cells w _ _, hw ▸ FV.sure FR.and w⟩
  · exact (maker_sure _ _ w (by decide)).mono fun _ _ ⟨he, hw⟩ => ⟨_, _, he, hw ▸ below_cells w _ _, hw ▸ FV.sure FR.or w⟩
  · exact (maker_sure _ _ w (by decide)).mono fun _ _ ⟨he, hw⟩ => ⟨_, _, he, hw ▸ below_cells w _ _, hw ▸ FV.sure FR.xor w⟩
  · exact (maker_sure _ _ w (by decide)).mono fun _ _ ⟨he, hw⟩ => ⟨_, _, he, hw ▸ below_cells w _ _, hw ▸ FV.sure FR.shl w⟩
  · exact (maker_sure _ _ w (by decide)).mono fun _ _ ⟨he, hw⟩ => ⟨_, _, he, hw ▸ below_cells w _ _, hw ▸ FV.sure FR.shr w⟩
  · exact (maker_sure _ _ w (by decide)).mono fun _ _ ⟨he, hw⟩ => ⟨_, _, he, hw ▸ below_cells w _ _, hw ▸ FV.sure FR.sar w⟩
  · exact (maker_sure _ _ w (by decide)).mono fun _ _ ⟨he, hw⟩ => ⟨_, _, he, hw ▸ below_cells w _ _, hw ▸ FV.sure (FR.eq k) w⟩
  · exact (maker_sure _ _ w (by decide)).mono fun _ _ ⟨he, hw⟩ => ⟨_, _, he, hw ▸ below_cells w _ _, hw ▸ FV.sure (FR.ne k) w⟩
  · exact (maker_sure _ _ w (by decide)).mono fun _ _ ⟨he, hw⟩ => ⟨_, _, he, hw ▸ below_cells w _ _, hw ▸ FV.sure FR.lt w⟩
  · exact (maker_sure _ _ w (by decide)).mono fun _ _ ⟨he, hw⟩ => ⟨_, _, he, hw ▸ below_cells w _ _, hw ▸ FV.sure FR.le w⟩
  · exact (maker_sure _ _ w (by decide)).mono fun _ _ ⟨he, hw⟩ => ⟨_, _, he, hw ▸ below_cells w _ _, hw ▸ FV.sure (FR.lts k) w⟩
  exact (maker_sure _ _ w (by decide)).mono fun _ _ ⟨he, hw⟩ => ⟨_, _, he, hw ▸ below_cells w _ _, hw ▸ FV.sure (FR.les k) w⟩
theorem two_read (W : World) (T : TypeId) (al ah bl bh : Int) : Kd.C k24 (W.alloc (.cells #[.int .u32 al, .int .u32 ah, .int .u32 bl, .int .u32 bh] T)) (some ⟨W.heap.size, 0, none⟩) [(⟨al, ah⟩ : S24), (⟨bl, bh⟩ : S24)].length [(⟨al, ah⟩ : S24), (⟨bl, bh⟩ : S24)] := by
  refine ⟨rfl, by simp, fun _ => ⟨_, rfl, fun j p hj => ?_⟩⟩
  match j, hj with
  | 0, hj =>
    simp only [List.getElem?_cons_zero, Option.some.injEq] at hj
    subst hj; refine ⟨_, rfl, k24_mk _ _, fun i u hi => ?_⟩
    match i, hi with
    | 0, hi => simp at hi; subst hi; simp [Addr.add]
    | 1, hi => simp at hi; subst hi; simp [Addr.add]
  | 1, hj =>
    simp only [List.getElem?_cons_succ, List.getElem?_cons_zero, Option.some.injEq] at hj
    subst hj; refine ⟨_, rfl, k24_mk _ _, fun i u hi => ?_⟩
    match i, hi with
    | 0, hi => simp at hi; subst hi; simp [Addr.add, k24, Kd.iso, Kd.pair, Kd.int, Kd.scalar]
    | 1, hi => simp at hi; subst hi; simp [Addr.add, k24, Kd.iso, Kd.pair, Kd.int, Kd.scalar]
/-- What Do tells, by the operator's number. -/
def interval_Do.f (k : Nat) (a0 : Int) (a1_0 : Int) (a1_1 : Int) (a2_0 : Int) (a2_1 : Int) : Option (Int × Int × Bool × Int) :=
  if 1 ≤ a0 ∧ a0 ≤ 19 then (interval_may.f k [(⟨a1_0, a1_1⟩ : S24), (⟨a2_0, a2_1⟩ : S24)]).bind fun t => if t = true then (makeF k a0 a1_0 a1_1 a2_0 a2_1).bind fun r => some (r.1, r.2.1, r.2.2, 0) else some (0, 0, false, 2)
  else some (0, 0, false, 2)
set_option maxHeartbeats 8000000 in
theorem interval_Do.calls (k : Nat) (a0 : Int) (a1_0 : Int) (a1_1 : Int) (a2_0 : Int) (a2_1 : Int) (r1 : Int) (r2 : Int) (r3 : Bool) (r4 : Int) (w : World) (h : interval_Do.f k a0 a1_0 a1_1 a2_0 a2_1 = some (r1, r2, r3, r4)) :
    Calls Try.prog 11 #[.int .i64 a0, .agg #[.int .u32 a1_0, .int .u32 a1_1], .agg #[.int .u32 a2_0, .int .u32 a2_1]] w fun e w' => e = .returned (.tuple #[.agg #[.int .u32 r1, .int .u32 r2], .bool r3, .int .i64 r4]) ∧ Below w.heap.size w w' := by
  have hu24 := Try.underlying24
  have hu54 := Try.underlying54
  have hbo : ∀ (n : Nat) (caps : Array Value) (W : World), Sem.run Try.prog (binOp .eql 54 (.func (.func n) #[] caps) .nilFunc) W = .ok (.bool false) W := fun _ _ _ => by rfl
  have hbn : ∀ (W : World), Sem.run Try.prog (binOp .eql 54 .nilFunc .nilFunc) W = .ok (.bool true) W := fun _ => by rfl
  unfold interval_Do.f at h
  by_cases c1 : 1 ≤ a0 ∧ a0 ≤ 19
  · rw [if_pos c1] at h
    obtain ⟨t, ht, h⟩ := Option.bind_eq_some_iff.mp h; have hm := am (maker_calls k a0 · c1.1 c1.2)
    have ht := am ht; clear c1
    cases t with
    | true =>
      rw [if_pos rfl] at h
      obtain ⟨⟨q1, q2, q3⟩, hq, h⟩ := Option.bind_eq_some_iff.mp h; simp only [Option.some.injEq, Prod.mk.injEq] at h
      obtain ⟨rfl, rfl, rfl, rfl⟩ := h; have hq := am hq
      go_enter Try.func11, Try.ntmps11
      go_wp2_with fail
      refine (hm.out _).mono ?_
      rintro e w1 ⟨n, caps, rfl, hb1, hV⟩
      have hV := am hV; clear hm; obtain ⟨hc1, hf1⟩ := bcell hb1; have hz1 : w.heap.size + 1 + 1 < w1.heap.size := by have := hb1.size; simp at this; omega
      have hz1a : w.heap.size < w1.heap.size := by omega
      have hz1b : w.heap.size + 1 < w1.heap.size := by omega
      go_wp2_with fail
      refine (interval_may.calls k _ _ _ true _ (two_read w1 _ a1_0 a1_1 a2_0 a2_1) (Nat.le_refl _) ht.out).mono ?_
      rintro e w2 ⟨rfl, hb2⟩
      have hb3 : Below w1.heap.size w1 w2 := ((Below.refl _ _).alloc (Nat.le_refl _) _).trans (hb2.mono (by simp))
      clear hb2; obtain ⟨hc2, hf2⟩ := bcell hb3; have hz2 : w.heap.size + 1 + 1 < w2.heap.size := by have := hb3.size; omega
      have hz2a : w.heap.size < w2.heap.size := by omega
      have hz2b : w.heap.size + 1 < w2.heap.size := by omega
      have he := hV.out.enters
      go_wp2_with fail
      refine (hV.out.calls a1_0 a1_1 a2_0 a2_1 q1 q2 q3 hq.out _ hb3).mono ?_
      rintro e w3 ⟨rfl, hb4⟩
      obtain ⟨hc4, hf4⟩ := bcell hb4; have hz4 : w.heap.size + 1 + 1 < w3.heap.size := by have := hb4.size; omega
      have hz4a : w.heap.size < w3.heap.size := by omega
      have hz4b : w.heap.size + 1 < w3.heap.size := by omega
      go_wp2_with fail
      refine bodyPost_ret (v := .tuple #[.agg #[.int .u32 q1, .int .u32 q2], .bool q3, .int .i64 0]) (by simp [results, Try.results11, go_sem, hc4, hc2, hc1, hz1, hz2, hz4]) rfl ⟨rfl, ?_⟩
      exact (((((((((Below.refl _ _).alloc (Nat.le_refl _) _).alloc (by simp) _).alloc (by simp; omega) _).trans (hb1.mono (by simp; omega))).trans (hb3.mono (by omega))).trans (hb4.mono (by omega))).setCell (by simp; omega) _).setCell (by simp; omega) _).alloc (by simp; omega) _
    | false =>
      rw [if_neg (by decide)] at h
      simp only [Option.some.injEq, Prod.mk.injEq] at h
      obtain ⟨rfl, rfl, rfl, rfl⟩ := h
      go_enter Try.func11, Try.ntmps11
      go_wp2_with fail
      refine (hm.out _).mono ?_
      rintro e w1 ⟨n, caps, rfl, hb1, _⟩
      clear hm; obtain ⟨hc1, hf1⟩ := bcell hb1; have hz1 : w.heap.size + 1 + 1 < w1.heap.size := by have := hb1.size; simp at this; omega
      have hz1a : w.heap.size < w1.heap.size := by omega
      have hz1b : w.heap.size + 1 < w1.heap.size := by omega
      go_wp2_with fail
      refine (interval_may.calls k _ _ _ false _ (two_read w1 _ a1_0 a1_1 a2_0 a2_1) (Nat.le_refl _) ht.out).mono ?_
      rintro e w2 ⟨rfl, hb2⟩
      have hb3 : Below w1.heap.size w1 w2 := ((Below.refl _ _).alloc (Nat.le_refl _) _).trans (hb2.mono (by simp))
      clear hb2; obtain ⟨hc2, hf2⟩ := bcell hb3; have hz2 : w.heap.size + 1 + 1 < w2.heap.size := by have := hb3.size; omega
      go_wp2_with fail
      refine bodyPost_ret (v := .tuple #[.agg #[.int .u32 0, .int .u32 0], .bool false, .int .i64 2]) (by simp [results, Try.results11, go_sem, hc2, hc1, hz1, hz2]) rfl ⟨rfl, ?_⟩
      exact (((((((Below.refl _ _).alloc (Nat.le_refl _) _).alloc (by simp) _).alloc (by simp; omega) _).trans (hb1.mono (by simp; omega))).trans (hb3.mono (by omega))).setCell (by simp; omega) _).setCell (by simp; omega) _
  rw [if_neg c1] at h
  simp only [Option.some.injEq, Prod.mk.injEq] at h
  obtain ⟨rfl, rfl, rfl, rfl⟩ := h; have hm := am (maker_none a0 · c1)
  clear c1
  go_enter Try.func11, Try.ntmps11
  go_wp2_with fail
  refine (hm.out _).mono ?_
  rintro e w1 ⟨rfl, rfl⟩
  go_wp2_with fail
  refine bodyPost_ret (v := .tuple #[.agg #[.int .u32 0, .int .u32 0], .bool false, .int .i64 2]) (by simp [results, Try.results11, go_sem]) rfl ⟨rfl, ?_⟩
  exact (((Below.refl _ _).alloc (Nat.le_refl _) _).alloc (by simp) _).alloc (by simp; omega) _
theorem sureF.mono {g g' : Int → Int → Int → Int → Option (Int × Int)} (h : ∀ a b c d, LeO (g a b c d) (g' a b c d)) (a b c d : Int) : LeO (sureF g a b c d) (sureF g' a b c d) := LeO.bind (h a b c d) (fun _ => LeO.refl _)
theorem makeF.mono (op a b c d : Int) (k : Nat) : LeO (makeF k op a b c d) (makeF (k + 1) op a b c d) := by
  by_cases h : 1 ≤ op ∧ op ≤ 19
  · have e : op = 1 ∨ op = 2 ∨ op = 3 ∨ op = 4 ∨ op = 5 ∨ op = 6 ∨ op = 7 ∨ op = 8 ∨ op = 9 ∨ op = 10 ∨ op = 11 ∨ op = 12 ∨ op = 13 ∨ op = 14 ∨ op = 15 ∨ op = 16 ∨ op = 17 ∨ op = 18 ∨ op = 19 := by omega
    rcases e with rfl | rfl | rfl | rfl | rfl | rfl | rfl | rfl | rfl | rfl | rfl | rfl | rfl | rfl | rfl | rfl | rfl | rfl | rfl
    all_goals first
      | exact LeO.refl _
      | exact sureF.mono (fun a b c d => interval_eq.mono a b c d k) a b c d
      | exact sureF.mono (fun a b c d => interval_ne.mono a b c d k) a b c d
      | exact sureF.mono (fun a b c d => interval_maker_6.mono a b c d k) a b c d
      | exact sureF.mono (fun a b c d => interval_maker_7.mono a b c d k) a b c d
  have e : makeF k op a b c d = none := by
    unfold makeF
    repeat rw [if_neg (by omega)]
  rw [e]
  exact LeO.none _
theorem interval_Do.mono : ∀ a0 a1 a2 a3 a4 k, LeO (interval_Do.f k a0 a1 a2 a3 a4) (interval_Do.f (k + 1) a0 a1 a2 a3 a4) := by
  intro a0 a1 a2 a3 a4 k
  unfold interval_Do.f
  split
  · exact LeO.bind (interval_may.mono _ _) (fun _ => LeO.ite (LeO.bind (makeF.mono _ _ _ _ _ _) (fun _ => LeO.refl _)) (LeO.refl _))
  exact LeO.refl _


/-! ### interval_steps: function 38 -/
def interval_steps.f  : Option (List Int) := some (([0, 1, 255, 256, 65535, 65536, 2147483647, 2147483648, 4294967295] : List Int))
set_option maxHeartbeats 8000000 in
set_option maxRecDepth 100000 in
theorem interval_steps.calls  (r : List Int) (w : World) (h : interval_steps.f  = some r) :
    Calls Try.prog 38 #[] w fun e w' => ∃ v0_ : Value, e = .returned (v0_) ∧ Kd.R (Kd.int .u32) 22 w' w.heap.size (fun _ => True) v0_ r ∧ Below w.heap.size w w' := by
  have HB := am (Below.refl w.heap.size w)
  have H : (some (([0, 1, 255, 256, 65535, 65536, 2147483647, 2147483648, 4294967295] : List Int))) = some r := h
  clear h; obtain ⟨y243, hy243⟩ : ∃ y_ : List Int, y_ = (([0, 1, 255, 256, 65535, 65536, 2147483647, 2147483648, 4294967295] : List Int)) := ⟨_, rfl⟩
  replace H : (some y243) = some r := by first | (rw [hy243]; with_reducible exact H) | (have H2_ := (Option.bind_some _ _).symm.trans H; rw [hy243]; with_reducible exact H2_) | (have H2_ := (Option.bind_some _ _).symm.trans H; with_reducible exact H2_) | with_reducible exact H | (rw [hy243]; exact H) | exact H
  have Ny243 := am hy243; clear hy243; obtain rfl := Option.some.inj H
  go_enter Try.func38, Try.ntmps38
  go_wp2_with (first | ((with_reducible refine gate_dst (N := 1) rfl ?_); refine Kd.R_lit (Kd.int .u32) _ 22 ?hg (N := 1) ?hd (xs := ([0, 1, 255, 256, 65535, 65536, 2147483647, 2147483648, 4294967295] : List Int)) (inner := [.int .u32 0, .int .u32 1, .int .u32 255, .int .u32 256, .int .u32 65535, .int .u32 65536, .int .u32 2147483647, .int .u32 2147483648, .int .u32 4294967295]) (ok := fun _ => True) (okp := fun _ => True) ?hr ?hp (fun _ hk => hk) trivial (Below.refl _ _) (Nat.le_refl _) (by simp) ?_; (case hd => rfl); (case hg => rfl); (case hr => first | (go_simp; done) | (go_simp; rfl)); (case hp => exact (Reps.one (show Kd.M (Kd.int .u32) _ _ _ 0 [.int .u32 0] from rfl) (Reps.one (show Kd.M (Kd.int .u32) _ _ _ 1 [.int .u32 1] from rfl) (Reps.one (show Kd.M (Kd.int .u32) _ _ _ 255 [.int .u32 255] from rfl) (Reps.one (show Kd.M (Kd.int .u32) _ _ _ 256 [.int .u32 256] from rfl) (Reps.one (show Kd.M (Kd.int .u32) _ _ _ 65535 [.int .u32 65535] from rfl) (Reps.one (show Kd.M (Kd.int .u32) _ _ _ 65536 [.int .u32 65536] from rfl) (Reps.one (show Kd.M (Kd.int .u32) _ _ _ 2147483647 [.int .u32 2147483647] from rfl) (Reps.one (show Kd.M (Kd.int .u32) _ _ _ 2147483648 [.int .u32 2147483648] from rfl) (Reps.one (show Kd.M (Kd.int .u32) _ _ _ 4294967295 [.int .u32 4294967295] from rfl) (Reps.none _ _))))))))))); intro v244 w1 ho2 hb hg_ hnew_; clear hg_ hnew_; (first | rw [← Ny243.out] at ho2 | (simp only [Int.reduceToNat] at ho2; rw [← Ny243.out] at ho2)); have HO245 := am (Kd.R_lower ho2 (below_size (hbA HB))); replace HB := bsA HB hb; clear hb ho2))
  go_ret
  exact ⟨_, by first | rfl | (simp [errW_none, errW_some] <;> rfl) | (simp [*, errW_none, errW_some] <;> rfl), by (with_reducible repeat (first | apply Kd.R_alloc | apply Kd.R_drewN | apply Kd.R_drew)); exact HO245.out, hbA HB⟩

end Go.Proofs.Ytmhmfnjbioplhaa.PIntervalCalls
