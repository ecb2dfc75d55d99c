/- A function that hands back an array of its own: the array stays an object. No condition. -/
import Derived.Test.YtdhdhhgdeokiiaaBi
set_option linter.unusedVariables false
namespace Go.Bi
open Go

section
variable {P : Program} {n nb : Nat} {M : Mem} {G : Gh} {os : List AO} {w : World} {ρ : Rho} {a : Act}
def retOI (Q : AV → List AO → Prop) (rs : List RV) (ρ : Rho) (os : List AO) : Prop := resI ρ os rs fun l => match l with
  | [v] => Q v os
  | _ => False
def retO (Q : AV → List AO → Prop) (rs : List RV) (L : Sl) (os : List AO) : Prop := xRes L os rs fun l => match l with
  | [v] => Q v os
  | _ => False
theorem retO_ok {Q : AV → List AO → Prop} {rs : List RV} {L : Sl} {os : List AO} (h : retO Q rs L os) : retOI Q rs (ofL L) os := xRes_ok h
theorem own_ok {c : Ctx} (hR : Rel n nb c M G os w ρ a) {fn : Func} {rs : List RV} (hrs : fn.results.toList.mapM (cRV P) = some rs) {Q : AV → List AO → Prop} (h : retOI Q rs ρ os) :
    ∃ v, (results fn a.tmps).run P w = .ok v w ∧ ∃ M' G' r os', Env M' G' os' w ∧ Since c.M c.G c.os c.w M' G' os' w ∧ VA M' G' os' r v ∧ Q r os' := by
  obtain ⟨l, vs, h1, h2, h3, h4⟩ := resI_run hR.env hR.tmps _ rs hrs _ h
  match l, h1, h3, h4 with
  | [x], h1, h3, h4 =>
    simp only [List.length_cons, List.length_nil] at h3
    refine ⟨_, run_results h2, M, G, x, os, hR.env, hR.since, ?_, h1⟩
    rw [dif_pos (by omega)]
    exact h4 0 x vs[0] rfl (List.getElem?_eq_getElem (by omega))
theorem fn_own (hm : P.follows .mixedOrders = true) {f : FuncId} {fn : Func} {code : Code} {ic : IC} {rs : List RV} (hf : P.funcs[f]? = some fn) (hname : fn.name ≠ "runtime.NumGoroutine") (hb : fn.body = some code) (hc : cC P fn.ntmps code = some ic)
    (hrs : fn.results.toList.mapM (cRV P) = some rs) {args : List AV} {bs : List AO} (hargs : args.length ≤ fn.ntmps) {Q : AV → List AO → Prop}
    (h : wpI P fn.ntmps bs.length ic { norm := retOI Q rs, exit := fun _ _ _ => False, ret := retOI Q rs } (argsRho args) bs) : CallSpec P f args bs Q := by
  refine ⟨⟨fn, hf, by rw [hb]; rfl, hname⟩, fun M G w vs he hl hv => ?_⟩
  refine calls_of_wp hf hb (wp_mono (wpI_tri hm code ic hc _ _ _ h ⟨M, G, bs, w⟩ M G w { tmps := vs ++ Array.replicate (fn.ntmps - vs.size) undef, defers := [] } ?_) fun e a' w' hp => ?_)
  · exact {
      env := he, since := Since.refl .., size := by simp; omega, defers := rfl, base := rfl
      tmps := fun t => by
        unfold argsRho
        by_cases ht : t < args.length
        · have h1 : (vs ++ Array.replicate (fn.ntmps - vs.size) undef).getD t undef = vs[t] := by
            simp [Array.getElem?_append_left (show t < vs.size by omega), show t < vs.size by omega]
          have h2 : args.getD t .junk = args[t] := by simp [ht]
          show VA M G bs (args.getD t .junk) ((vs ++ Array.replicate (fn.ntmps - vs.size) undef).getD t undef)
          rw [h1, h2]
          have := hv t args[t] vs[t] (List.getElem?_eq_getElem ht) (Array.getElem?_eq_getElem (by omega))
          generalize args[t] = c at this
          cases c with
          | tup cs => exact this.elim
          | junk => trivial
          | _ => exact this
        · have : args.getD t .junk = .junk := by simp [List.getD_eq_getElem?_getD, List.getElem?_eq_none (Nat.le_of_not_lt ht)]
          rw [this]
          trivial }
  · have fin : Fits fn.ntmps bs.length ⟨M, G, bs, w⟩ (retOI Q rs) a' w' → a'.defers = [] ∧ ∃ v, (results fn a'.tmps).run P w' = .ok v w' ∧ ∃ v', Ending.returned v = .returned v' ∧ ∃ M' G' r os', Env M' G' os' w' ∧ Since M G bs w M' G' os' w' ∧ VA M' G' os' r v' ∧ Q r os' := by
      rintro ⟨M', G', os', ρ', hR, hk⟩
      obtain ⟨v, h1, h2⟩ := own_ok hR hrs hk
      exact ⟨hR.defers, v, h1, v, rfl, h2⟩
    cases e with
    | normal => exact fin hp
    | ret => exact fin hp
    | exit id => obtain ⟨_, _, _, _, _, hk⟩ := hp; exact hk.elim
    | _ => exact hp.elim
end

theorem IsFn.goO {P : Program} (hm : P.follows .mixedOrders = true) {f n : Nat} {ic : IC} {rs : List RV} (h : IsFn P f n ic rs) {args : List AV} {bs : List AO} (hargs : Nat.ble args.length n = true) {Q : AV → List AO → Prop}
    (hw : Go (xI P n bs.length ic (retO Q rs) (fun _ _ _ => False) (retO Q rs) (argsL 0 args) bs)) : CallSpec P f args bs Q := by
  obtain ⟨fn, h1, h2, h3, h4, h5⟩ := h
  obtain ⟨code, hb, hc⟩ := Option.bind_eq_some_iff.1 h4
  subst h2
  refine fn_own hm h1 (by simpa using h3) hb hc h5 (Nat.le_of_ble_eq_true hargs) ?_
  rw [ofL_args]
  exact xI_ok (K := ⟨retO Q rs, fun _ _ _ => False, retO Q rs⟩) ⟨fun L os h => retO_ok h, fun _ _ _ h => h, fun L os h => retO_ok h⟩ hw
/-- A contract of a function that is handed data, among any objects. -/
theorem CallSpec.alone {P : Program} {g : FuncId} {args : List AV} {Q : AV → List AO → Prop} (h : CallSpec P g args [] Q) (hd : ∀ a ∈ args, ∃ x, a = .d x) (os : List AO) :
    CallSpec P g args os (fun r os' => ∃ r0 os0, Q r0 os0 ∧ r = mA (rn [] os.length) r0 ∧ os' = os ++ os0.map (mO (rn [] os.length))) := by
  have := CallSpec.frame (K := fun r os' => ∃ r0 os0, Q r0 os0 ∧ r = mA (rn [] os.length) r0 ∧ os' = os ++ os0.map (mO (rn [] os.length))) h [] os rfl (by simp) (fun i x hx => by simp at hx)
    (fun a ha => by obtain ⟨x, rfl⟩ := hd a ha; trivial) (fun x hx => by simp at hx) (fun r bs' hq => ⟨r, bs', hq, rfl, rfl⟩)
  have e : args.map (mG (rn [] os.length)) = args := by
    rw [List.map_congr_left (g := id) (fun a ha => by obtain ⟨x, rfl⟩ := hd a ha; rfl), List.map_id]
  rwa [e] at this
end Go.Bi
