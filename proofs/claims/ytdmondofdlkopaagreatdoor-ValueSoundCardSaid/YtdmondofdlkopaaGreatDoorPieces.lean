/- A run told in pieces: where the pieces tell an answer, the call returns it. Conditions: those each theorem names. -/
import Derived.Test.YtdmondofdlkopaaGreatDoorEngine
set_option linter.unusedVariables false
set_option linter.unusedSimpArgs false
namespace Go.Proofs.YtdmondofdlkopaaGreatDoor.X
open Go Go.RowKit
/-! ### A run in pieces: what stands between the pieces is told once -/
def padH (n : Nat) (h : Heap) : Heap := h ++ List.replicate (n - h.length) none
/-- What is kept at a join: temporaries that live on; the heap brought to one length. -/
def St.norm (keep : List Nat) (n : Nat) (s : St) : St := ⟨cutT (fun i => keep.contains i) n 0 s.t, padH n s.h⟩
/-- The first m statements of a row of statements, then J. -/
def xsp {R : Type} (E : Eng) (call : Call R) (keep : Nat → Bool) (L : Nat) : Nat → Code → St → (St → Option R) → (Ex → St → Option R) → Option R
  | 0, _, s, J, _ => J s
  | m + 1, .seq a b, s, J, K => xc E call keep L a s fun e s' => match e with
    | .normal => xsp E call keep L m b s' J K
    | .exit id => K (.exit id) s'
    | .ret => K .ret s'
  | _ + 1, _, _, _, _ => none
def restAt : Nat → Code → Code
  | 0, c => c
  | m + 1, .seq _ b => restAt m b
  | _ + 1, c => c
/-- A row of statements in pieces. -/
def xps {R : Type} (E : Eng) (call : Call R) (keep : Nat → Bool) (L : Nat) : List (Nat × List Nat × Nat) → Code → St → (Ex → St → Option R) → Option R
  | [], c, s, K => xc E call keep L c s K
  | (m, ks, n) :: r, c, s, K => xsp E call keep L m c s (fun s' => xps E call keep L r (restAt m c) (s'.norm ks n) K) K
def runJ {R : Type} (E : Eng) (n : Nat) (ps : List (Nat × List Nat × Nat)) (f : FuncId) (as : List AV) (h : Heap) (K : AV → Heap → Option R) : Option R := match E.P.funcs[f]? with
    | some fn => if entersB E.P f = true ∧ as.all AV.known = true then match fn.body with
      | some c => xps E (run E n) (E.keep f) (E.fuel f) ps c ⟨as ++ List.replicate (fn.ntmps - as.length) (.v undef), h⟩ (kEnd E fn K)
      | none => none else none
    | none => none
section
variable {E : Eng} {N : Nat} {w0 : World}
theorem hat_pad {h : Heap} {n b : Nat} : hat (padH n h) b = hat h b := hat_add
theorem sub_pad {h : Heap} {n : Nat} : Sub h (padH n h) := sub_add
theorem agr_pad {h : Heap} {n : Nat} {φ ψ : Nat → Nat} : Agr φ ψ (padH n h) ↔ Agr φ ψ h := agr_add
theorem cutT_get1 {keep : Nat → Bool} {m : Nat} {t : List AV} {i j : Nat} {x : AV} (h : (cutT keep m j t)[i]? = some x) (hk : x.known = true) : t[i]? = some x := (cutT_get h hk).1
theorem Rel.norm {φ : Nat → Nat} {s : St} {a : Act} {w : World} (r : Rel N w0 φ s a w) (ks : List Nat) (n : Nat) : Rel N w0 φ (s.norm ks n) a w := by
  have z := r.add (n - s.h.length)
  obtain ⟨l, f, d⟩ := z
  refine ⟨l, ⟨by show _ = (cutT _ n 0 s.t).length; rw [cutT_len]; exact f.1, fun ψ ag i x hx hk => ?_⟩, d⟩
  exact f.2 ψ ag i x (cutT_get1 hx hk) hk
theorem xsp_runs {R : Type} {call : Call R} (ok : EngOk E N w0) (cok : CallOk E N w0 call) {keep : Nat → Bool} {L : Nat} : ∀ (m : Nat) (c : Code) (s : St) (J : St → Option R) (K : Ex → St → Option R) (r : R), xsp E call keep L m c s J K = some r →
    (∃ s1, J s1 = some r ∧ Sub s.h s1.h ∧ ∀ ks n e s2, Runs E N w0 (restAt m c) (s1.norm ks n) e s2 → Runs E N w0 c s e s2) ∨ (∃ e s2, K e s2 = some r ∧ Runs E N w0 c s e s2)
  | 0, c, s, J, K, r, H => .inl ⟨s, H, Sub.refl _, fun ks n e s2 h => ⟨sub_pad.trans h.1, fun φ a w rel => wp_mono (h.2 φ a w (rel.norm ks n)) fun x a' w' hx => ⟨hx.1, hx.2.elim fun φ' g => ⟨φ', agr_pad.1 g.1, g.2⟩⟩⟩⟩
  | m + 1, .seq x y, s, J, K, r, H => by
    unfold xsp at H
    obtain ⟨e, s1, hk, sb, run⟩ := xc_runs ok cok x s _ r H
    have glue : ∀ e2 s2, Runs E N w0 y s1 e2 s2 → e = .normal → Runs E N w0 (.seq x y) s e2 s2 := fun e2 s2 h he => by
      subst he
      refine ⟨sb.trans h.1, fun φ a w rel => wp_seq (wp_mono (run φ a w rel) fun x a' w' hx => ?_)⟩
      obtain ⟨rfl, φ', ag, rel'⟩ := hx
      exact wp_mono (h.2 φ' a' w' rel') fun x a2 w2 hx => ⟨hx.1, hx.2.elim fun φ'' h => ⟨φ'', ag.trans h.1 sb, h.2⟩⟩
    cases e with
    | normal =>
      simp only at hk
      rcases xsp_runs ok cok m y s1 J K r hk with ⟨s2, hj, sb2, go⟩ | ⟨e2, s2, hk2, run2⟩
      · exact .inl ⟨s2, hj, sb.trans sb2, fun ks n e s3 h => glue e s3 (go ks n e s3 h) rfl⟩
      · exact .inr ⟨e2, s2, hk2, glue e2 s2 run2 rfl⟩
    | exit id =>
      refine .inr ⟨.exit id, s1, hk, sb, fun φ a w rel => wp_seq (wp_mono (run φ a w rel) fun x a' w' hx => ?_)⟩
      obtain ⟨rfl, φ', ag, rel'⟩ := hx
      exact ⟨rfl, φ', ag, rel'⟩
    | ret =>
      refine .inr ⟨.ret, s1, hk, sb, fun φ a w rel => wp_seq (wp_mono (run φ a w rel) fun x a' w' hx => ?_)⟩
      obtain ⟨rfl, φ', ag, rel'⟩ := hx
      exact ⟨rfl, φ', ag, rel'⟩
  | m + 1, .skip, s, J, K, r, H => by simp [xsp] at H
  | m + 1, .region _ _ _, s, J, K, r, H => by simp [xsp] at H
  | m + 1, .cond _ _ _, s, J, K, r, H => by simp [xsp] at H
  | m + 1, .block _ _, s, J, K, r, H => by simp [xsp] at H
  | m + 1, .loop _, s, J, K, r, H => by simp [xsp] at H
  | m + 1, .exit _, s, J, K, r, H => by simp [xsp] at H
  | m + 1, .label _, s, J, K, r, H => by simp [xsp] at H
  | m + 1, .ret, s, J, K, r, H => by simp [xsp] at H
  | m + 1, .rangeFunc _ _ _ _, s, J, K, r, H => by simp [xsp] at H
  | m + 1, .scope _, s, J, K, r, H => by simp [xsp] at H
  | m + 1, .goto _, s, J, K, r, H => by simp [xsp] at H
  | m + 1, .refuse _, s, J, K, r, H => by simp [xsp] at H
theorem xps_runs {R : Type} {call : Call R} (ok : EngOk E N w0) (cok : CallOk E N w0 call) {keep : Nat → Bool} {L : Nat} : ∀ (l : List (Nat × List Nat × Nat)) (c : Code), BodyOk E N w0 c (xps (R := R) E call keep L l c)
  | [], c => xc_runs ok cok c
  | (m, ks, n) :: l, c => fun s K r H => by
    unfold xps at H
    rcases xsp_runs ok cok m c s _ K r H with ⟨s1, hj, sb, go⟩ | h
    · obtain ⟨e, s2, hk, run⟩ := xps_runs ok cok l (restAt m c) _ K r hj
      exact ⟨e, s2, hk, go ks n e s2 run⟩
    · exact h
/-- A call that is gone into, in pieces. -/
theorem runJ_ok {R : Type} (ok : EngOk E N w0) (n : Nat) (ps : List (Nat × List Nat × Nat)) : CallOk (R := R) E N w0 (runJ E n ps) := fun f as h K r H => by
    unfold runJ at H
    split at H
    · rename_i fn hf
      split at H
      · rename_i en
        split at H
        · rename_i c hc
          obtain ⟨e, s, hk, sb, run⟩ := xps_runs ok (run_ok ok n) ps c _ _ r H
          have fin : xres E fn s K = some r → (e = .normal ∨ e = .ret) → entersB E.P f = true ∧ ∃ v h', K v h' = some r ∧ Ret E N w0 f as h v h' := fun hx he => by
            obtain ⟨v, hv, hr⟩ := xres_run (N := N) (w0 := w0) hx
            refine ⟨en.1, v, s.h, hv, sb, fun φ w l st => ?_⟩
            refine calls_of_wp hf hc ?_
            have rel : Rel N w0 φ ⟨as ++ List.replicate (fn.ntmps - as.length) (.v undef), h⟩ { tmps := (as.map (AV.re φ)).toArray ++ Array.replicate (fn.ntmps - (as.map (AV.re φ)).toArray.size) undef, defers := [] } w := by
              refine ⟨l, ?_, rfl⟩
              have e : (as.map (AV.re φ)).toArray.size = as.length := by simp
              rw [e]
              exact fits_enter st _
            refine wp_mono (run φ _ w rel) fun x a' w' hx => ?_
            obtain ⟨rfl, φ', ag, rel'⟩ := hx
            obtain ⟨q1, q2⟩ := hr φ' a' w' rel'
            rcases he with rfl | rfl
            · exact ⟨rel'.defers, _, q1, φ', ag, rel'.lies, q2, rfl⟩
            · exact ⟨rel'.defers, _, q1, φ', ag, rel'.lies, q2, rfl⟩
          cases e with
          | normal => exact fin hk (.inl rfl)
          | ret => exact fin hk (.inr rfl)
          | exit id => cases hk
        · cases H
      · cases H
    · cases H
theorem EngAll.callsJ {E : Eng} (h : EngAll E) {w : World} (g : Glob E w) {f : FuncId} {vs : List Value} {n : Nat} {ps : List (Nat × List Nat × Nat)} {T : Type} {dec : AV → Option T} {enc : T → Value} (hd : ∀ x t, dec x = some t → x = .v (enc t)) {t : T} (H : runJ E n ps f (vs.map .v) [] (fun x _ => dec x) = some t) :
    Calls E.P f vs.toArray w fun e w' => e = .returned (enc t) ∧ Below w.heap.size w w' := by
  obtain ⟨_, x, h', hk, sb, ret⟩ := runJ_ok (h.at g) n ps f _ _ _ t H
  have l : Lies w.heap.size w id [] w := ⟨Below.refl _ _, Nat.le_refl _, fun b t cs hb => (by cases hb), fun b c hb => (by cases hb)⟩
  have z := ret id w l (fun a ha => by
    obtain ⟨y, _, rfl⟩ := List.mem_map.1 ha
    exact v_stable)
  have e1 : (vs.map AV.v).map (AV.re id) = vs := by
    rw [List.map_map]
    have e : (AV.re id ∘ AV.v) = id := rfl
    rw [e, List.map_id]
  rw [e1] at z
  refine z.mono fun e w' he => ?_
  obtain ⟨φ', _, l', _, rfl⟩ := he
  rw [hd x t hk]
  exact ⟨rfl, l'.below⟩
end
theorem runJ_eq {R : Type} {E : Eng} {n : Nat} {ps : List (Nat × List Nat × Nat)} {f : FuncId} {as : List AV} {h : Heap} {K : AV → Heap → Option R} {fn : Func} {c : Code} (hf : E.P.funcs[f]? = some fn) (he : entersB E.P f = true) (ha : as.all AV.known = true) (hc : fn.body = some c) :
    runJ E n ps f as h K = xps E (run E n) (E.keep f) (E.fuel f) ps c ⟨as ++ List.replicate (fn.ntmps - as.length) (.v undef), h⟩ (kEnd E fn K) := by
  unfold runJ
  simp only [hf, hc]
  rw [if_pos ⟨he, ha⟩]
theorem xps_cut {R : Type} {E : Eng} {call : Call R} {keep : Nat → Bool} {L m n : Nat} {ks : List Nat} {r : List (Nat × List Nat × Nat)} {c : Code} {s : St} {K : Ex → St → Option R} : xps E call keep L ((m, ks, n) :: r) c s K = xsp E call keep L m c s (fun s' => (fun z => xps E call keep L r (restAt m c) z K) (s'.norm ks n)) K := rfl
end Go.Proofs.YtdmondofdlkopaaGreatDoor.X
