/- Texts of this claim, joined. No condition. -/
import Derived.Test.YtdhdhhgdeokiiaaGreatBi
import Derived.Test.YtdhdhhgdeokiiaaGreatIc0
import Derived.Test.YtdhdhhgdeokiiaaGreatIc1
import Derived.Lib.Strings
import Derived.Lib.Slices
import Derived.Lib.Walk
import Derived.Lib.Bytealg
section
/- A function that hands back an array of its own: the array stays an object. No condition. -/
set_option linter.unusedVariables false
namespace Go.Bi
open Go

section
variable {P : Program} {n nb : Nat} {M : Mem} {G : Gh} {os : List AO} {w : World} {ρ : Rho} {a : Act}
def retOI (Q : AV → List AO → Prop) (rs : List RV) (ρ : Rho) (os : List AO) : Prop := resI ρ os rs fun l => match l with
  | [v] => Q v os
  | _ => False
def retO (Q : AV → List AO → Prop) (rs : List RV) (L : Sl) (os : List AO) : Prop := xRes L os rs fun l => match l with
  | [v] => Q v os
  | _ => False
theorem retO_ok {Q : AV → List AO → Prop} {rs : List RV} {L : Sl} {os : List AO} (h : retO Q rs L os) : retOI Q rs (ofL L) os := xRes_ok h
theorem own_ok {c : Ctx} (hR : Rel n nb c M G os w ρ a) {fn : Func} {rs : List RV} (hrs : fn.results.toList.mapM (cRV P) = some rs) {Q : AV → List AO → Prop} (h : retOI Q rs ρ os) :
    ∃ v, (results fn a.tmps).run P w = .ok v w ∧ ∃ M' G' r os', Env M' G' os' w ∧ Since c.M c.G c.os c.w M' G' os' w ∧ VA M' G' os' r v ∧ Q r os' := by
  obtain ⟨l, vs, h1, h2, h3, h4⟩ := resI_run hR.env hR.tmps _ rs hrs _ h
  match l, h1, h3, h4 with
  | [x], h1, h3, h4 =>
    simp only [List.length_cons, List.length_nil] at h3
    refine ⟨_, run_results h2, M, G, x, os, hR.env, hR.since, ?_, h1⟩
    rw [dif_pos (by omega)]
    exact h4 0 x vs[0] rfl (List.getElem?_eq_getElem (by omega))
theorem fn_own (hm : P.follows .mixedOrders = true) {f : FuncId} {fn : Func} {code : Code} {ic : IC} {rs : List RV} (hf : P.funcs[f]? = some fn) (hname : fn.name ≠ "runtime.NumGoroutine") (hb : fn.body = some code) (hc : cC P fn.ntmps code = some ic)
    (hrs : fn.results.toList.mapM (cRV P) = some rs) {args : List AV} {bs : List AO} (hargs : args.length ≤ fn.ntmps) {Q : AV → List AO → Prop}
    (h : wpI P fn.ntmps bs.length ic { norm := retOI Q rs, exit := fun _ _ _ => False, ret := retOI Q rs } (argsRho args) bs) : CallSpec P f args bs Q := by
  refine ⟨⟨fn, hf, by rw [hb]; rfl, hname⟩, fun M G w vs he hl hv => ?_⟩
  refine calls_of_wp hf hb (wp_mono (wpI_tri hm code ic hc _ _ _ h ⟨M, G, bs, w⟩ M G w { tmps := vs ++ Array.replicate (fn.ntmps - vs.size) undef, defers := [] } ?_) fun e a' w' hp => ?_)
  · exact {
      env := he, since := Since.refl .., size := by simp; omega, defers := rfl, base := rfl
      tmps := fun t => by
        unfold argsRho
        by_cases ht : t < args.length
        · have h1 : (vs ++ Array.replicate (fn.ntmps - vs.size) undef).getD t undef = vs[t] := by
            simp [Array.getElem?_append_left (show t < vs.size by omega), show t < vs.size by omega]
          have h2 : args.getD t .junk = args[t] := by simp [ht]
          show VA M G bs (args.getD t .junk) ((vs ++ Array.replicate (fn.ntmps - vs.size) undef).getD t undef)
          rw [h1, h2]
          have := hv t args[t] vs[t] (List.getElem?_eq_getElem ht) (Array.getElem?_eq_getElem (by omega))
          generalize args[t] = c at this
          cases c with
          | tup cs => exact this.elim
          | junk => trivial
          | _ => exact this
        · have : args.getD t .junk = .junk := by simp [List.getD_eq_getElem?_getD, List.getElem?_eq_none (Nat.le_of_not_lt ht)]
          rw [this]
          trivial }
  · have fin : Fits fn.ntmps bs.length ⟨M, G, bs, w⟩ (retOI Q rs) a' w' → a'.defers = [] ∧ ∃ v, (results fn a'.tmps).run P w' = .ok v w' ∧ ∃ v', Ending.returned v = .returned v' ∧ ∃ M' G' r os', Env M' G' os' w' ∧ Since M G bs w M' G' os' w' ∧ VA M' G' os' r v' ∧ Q r os' := by
      rintro ⟨M', G', os', ρ', hR, hk⟩
      obtain ⟨v, h1, h2⟩ := own_ok hR hrs hk
      exact ⟨hR.defers, v, h1, v, rfl, h2⟩
    cases e with
    | normal => exact fin hp
    | ret => exact fin hp
    | exit id => obtain ⟨_, _, _, _, _, hk⟩ := hp; exact hk.elim
    | _ => exact hp.elim
end

theorem IsFn.goO {P : Program} (hm : P.follows .mixedOrders = true) {f n : Nat} {ic : IC} {rs : List RV} (h : IsFn P f n ic rs) {args : List AV} {bs : List AO} (hargs : Nat.ble args.length n = true) {Q : AV → List AO → Prop}
    (hw : Go (xI P n bs.length ic (retO Q rs) (fun _ _ _ => False) (retO Q rs) (argsL 0 args) bs)) : CallSpec P f args bs Q := by
  obtain ⟨fn, h1, h2, h3, h4, h5⟩ := h
  obtain ⟨code, hb, hc⟩ := Option.bind_eq_some_iff.1 h4
  subst h2
  refine fn_own hm h1 (by simpa using h3) hb hc h5 (Nat.le_of_ble_eq_true hargs) ?_
  rw [ofL_args]
  exact xI_ok (K := ⟨retO Q rs, fun _ _ _ => False, retO Q rs⟩) ⟨fun L os h => retO_ok h, fun _ _ _ h => h, fun L os h => retO_ok h⟩ hw
/-- A contract of a function that is handed data, among any objects. -/
theorem CallSpec.alone {P : Program} {g : FuncId} {args : List AV} {Q : AV → List AO → Prop} (h : CallSpec P g args [] Q) (hd : ∀ a ∈ args, ∃ x, a = .d x) (os : List AO) :
    CallSpec P g args os (fun r os' => ∃ r0 os0, Q r0 os0 ∧ r = mA (rn [] os.length) r0 ∧ os' = os ++ os0.map (mO (rn [] os.length))) := by
  have := CallSpec.frame (K := fun r os' => ∃ r0 os0, Q r0 os0 ∧ r = mA (rn [] os.length) r0 ∧ os' = os ++ os0.map (mO (rn [] os.length))) h [] os rfl (by simp) (fun i x hx => by simp at hx)
    (fun a ha => by obtain ⟨x, rfl⟩ := hd a ha; trivial) (fun x hx => by simp at hx) (fun r bs' hq => ⟨r, bs', hq, rfl, rfl⟩)
  have e : args.map (mG (rn [] os.length)) = args := by
    rw [List.map_congr_left (g := id) (fun a ha => by obtain ⟨x, rfl⟩ := hd a ha; rfl), List.map_id]
  rwa [e] at this
end Go.Bi
end
section
/- Periods and their relations. No condition. -/
set_option linter.unusedSimpArgs false
set_option linter.unusedVariables false
set_option maxRecDepth 10000
set_option maxHeartbeats 4000000
namespace Go.Proofs
open Go.Bi

abbrev eI (n : Int) : D := .int .i64 n
abbrev eP (a b : Int) : AV := .agg [.d (eI a), .d (eI b)]
def eIs (l : List Int) : List (List D) := l.map fun r => [eI r]
theorem eIs_get {l : List Int} {i : Nat} {r : Int} (h : l[i]? = some r) : (eIs l)[i]? = some [eI r] := by simp [eIs, h]
theorem eIs_len (l : List Int) : (eIs l).length = l.length := by simp [eIs]
theorem eIs_mem (l : List Int) : ∀ e ∈ eIs l, e.length = 1 := by
  intro e he
  obtain ⟨x, _, rfl⟩ := List.mem_map.1 he
  rfl
theorem nsl_cnd {es : List (List D)} {nl : Bool} (h : nl = es.isEmpty) : CnD nl .nil (.sl es) = nsl es := by
  subst h
  cases es <;> rfl
theorem all_take_succ {α : Type} {f : α → Bool} {l : List α} {i : Nat} {x : α} (h : l[i]? = some x) : (l.take (i + 1)).all f = ((l.take i).all f && f x) := by
  simp only [List.take_add_one, h, List.all_append, Option.toList, List.all_cons, List.all_nil, Bool.and_true]
theorem all_none {α : Type} {f : α → Bool} {l : List α} {i : Nat} {x : α} (h : l[i]? = some x) (hx : f x = false) : l.all f = false := by
  rw [Bool.eq_false_iff]
  intro ha
  rw [List.all_eq_true.1 ha x (List.mem_of_getElem? h)] at hx
  cases hx
def valid (a b : Int) : Bool := decide (0 ≤ a ∧ a < b ∧ b ≤ 1099511627776)
theorem C.period_Valid (a b : Int) : Pure Tryz.prog N.period_Valid [eP a b] (.d (.bool (valid a b))) := by
  refine F.period_Valid.go mixed rfl ?_
  repeat' first
    | refine st ?_
    | ((with_reducible apply go_i); (conv => whnf))
    | (with_reducible apply k_d <;> intro _)
    | (with_reducible apply k_b <;> intro _)
  all_goals (simp_all [valid] <;> omega)
def rel (a b c d : Int) : Int × Bool :=
  if valid a b && valid c d then
    (if b < c then 0 else if b = c then 1 else if d < a then 12 else if d = a then 11 else if a = c ∧ b = d then 6
    else if a = c ∧ b < d then 3 else if a = c then 9 else if b = d ∧ a > c then 5 else if b = d then 7 else if a < c ∧ d < b then 8 else if c < a ∧ b < d then 4 else if a < c then 2 else 10, true)
  else (0, false)
theorem C.allen_Relation (a b c d : Int) : Pure Tryz.prog N.allen_Relation [eP a b, eP c d] (.tup [.d (.int .i64 (rel a b c d).1), .d (.bool (rel a b c d).2)]) := by
  refine F.allen_Relation.go mixed rfl ?_
  repeat' first
    | refine st ?_
    | ((with_reducible apply go_i); (conv => whnf))
    | ((with_reducible apply k_pn); (· exact C.period_Valid _ _))
    | ((with_reducible apply k_pc); (· exact C.period_Valid _ _))
    | (with_reducible apply k_d <;> intro _)
    | (with_reducible apply k_b <;> intro _)
  all_goals simp_all [rel]
  all_goals (repeat' split) <;> omega
theorem rel_range (a b c d : Int) : 0 ≤ (rel a b c d).1 ∧ (rel a b c d).1 < 13 := by
  by_cases h : (valid a b && valid c d) = true
  · rw [rel, if_pos h]
    dsimp only
    repeat' split
    all_goals omega
  · rw [rel, if_neg h]
    exact ⟨by decide, by decide⟩
theorem C.ref_Valid1 (a b : Int) : Pure Tryz.prog N.bt_ref01_Valid [eP a b] (.d (.bool (valid a b))) := by
  refine F.bt_ref01_Valid.go mixed rfl ?_
  repeat' first
    | refine st ?_
    | ((with_reducible apply go_i); (conv => whnf))
    | (with_reducible apply k_d <;> intro _)
    | (with_reducible apply k_b <;> intro _)
  all_goals (simp_all [valid] <;> omega)
def isR (r a b c d : Int) : Bool :=
  if r = 0 then decide (b < c) else if r = 1 then decide (b = c) else if r = 2 then decide (a < c ∧ c < b ∧ b < d) else if r = 3 then decide (a = c ∧ b < d) else if r = 4 then decide (c < a ∧ b < d)
  else if r = 5 then decide (b = d ∧ c < a) else if r = 6 then decide (a = c ∧ b = d) else if r = 7 then decide (b = d ∧ a < c) else if r = 8 then decide (a < c ∧ d < b) else if r = 9 then decide (a = c ∧ d < b)
  else if r = 10 then decide (c < a ∧ a < d ∧ d < b) else if r = 11 then decide (d = a) else if r = 12 then decide (d < a) else false
theorem C.ref_Is (r a b c d : Int) : Pure Tryz.prog N.bt_ref02_Is [.d (eI r), eP a b, eP c d] (.d (.bool (isR r a b c d))) := by
  refine F.bt_ref02_Is.go mixed rfl ?_
  repeat' first
    | refine st ?_
    | ((with_reducible apply go_i); (conv => whnf))
    | (with_reducible apply k_d <;> intro _)
    | (with_reducible apply k_b <;> intro _)
  all_goals simp_all [isR]
  all_goals (intros; omega)
theorem isR_at (a b c d : Int) (h1 : valid a b = true) (h2 : valid c d = true) : isR (rel a b c d).1 a b c d = true := by
  simp only [valid, decide_eq_true_eq] at h1 h2
  have h : (valid a b && valid c d) = true := by simp [valid, h1, h2]
  rw [rel, if_pos h]
  dsimp only
  repeat' split
  all_goals (simp [isR]; try omega)
theorem isR_of (r a b c d : Int) (h1 : valid a b = true) (h2 : valid c d = true) (h3 : isR r a b c d = true) : (rel a b c d).1 = r := by
  simp only [valid, decide_eq_true_eq] at h1 h2
  have h : (valid a b && valid c d) = true := by simp [valid, h1, h2]
  have hr : 0 ≤ r ∧ r < 13 := by
    by_cases hr : 0 ≤ r ∧ r < 13
    · exact hr
    · unfold isR at h3
      rw [if_neg (by omega), if_neg (by omega), if_neg (by omega), if_neg (by omega), if_neg (by omega), if_neg (by omega), if_neg (by omega), if_neg (by omega), if_neg (by omega), if_neg (by omega), if_neg (by omega), if_neg (by omega), if_neg (by omega)] at h3
      cases h3
  rw [rel, if_pos h]
  dsimp only
  rcases (show r = 0 ∨ r = 1 ∨ r = 2 ∨ r = 3 ∨ r = 4 ∨ r = 5 ∨ r = 6 ∨ r = 7 ∨ r = 8 ∨ r = 9 ∨ r = 10 ∨ r = 11 ∨ r = 12 by omega) with rfl | rfl | rfl | rfl | rfl | rfl | rfl | rfl | rfl | rfl | rfl | rfl | rfl
  · have hh := h3; simp only [isR, decide_eq_true_eq] at hh; simp at hh
    rw [if_pos (by omega)]
  · have hh := h3; simp only [isR, decide_eq_true_eq] at hh; simp at hh
    rw [if_neg (by omega), if_pos (by omega)]
  · have hh := h3; simp only [isR, decide_eq_true_eq] at hh; simp at hh
    rw [if_neg (by omega), if_neg (by omega), if_neg (by omega), if_neg (by omega), if_neg (by omega), if_neg (by omega), if_neg (by omega), if_neg (by omega), if_neg (by omega), if_neg (by omega), if_neg (by omega), if_pos (by omega)]
  · have hh := h3; simp only [isR, decide_eq_true_eq] at hh; simp at hh
    rw [if_neg (by omega), if_neg (by omega), if_neg (by omega), if_neg (by omega), if_neg (by omega), if_pos (by omega)]
  · have hh := h3; simp only [isR, decide_eq_true_eq] at hh; simp at hh
    rw [if_neg (by omega), if_neg (by omega), if_neg (by omega), if_neg (by omega), if_neg (by omega), if_neg (by omega), if_neg (by omega), if_neg (by omega), if_neg (by omega), if_neg (by omega), if_pos (by omega)]
  · have hh := h3; simp only [isR, decide_eq_true_eq] at hh; simp at hh
    rw [if_neg (by omega), if_neg (by omega), if_neg (by omega), if_neg (by omega), if_neg (by omega), if_neg (by omega), if_neg (by omega), if_pos (by omega)]
  · have hh := h3; simp only [isR, decide_eq_true_eq] at hh; simp at hh
    rw [if_neg (by omega), if_neg (by omega), if_neg (by omega), if_neg (by omega), if_pos (by omega)]
  · have hh := h3; simp only [isR, decide_eq_true_eq] at hh; simp at hh
    rw [if_neg (by omega), if_neg (by omega), if_neg (by omega), if_neg (by omega), if_neg (by omega), if_neg (by omega), if_neg (by omega), if_neg (by omega), if_pos (by omega)]
  · have hh := h3; simp only [isR, decide_eq_true_eq] at hh; simp at hh
    rw [if_neg (by omega), if_neg (by omega), if_neg (by omega), if_neg (by omega), if_neg (by omega), if_neg (by omega), if_neg (by omega), if_neg (by omega), if_neg (by omega), if_pos (by omega)]
  · have hh := h3; simp only [isR, decide_eq_true_eq] at hh; simp at hh
    rw [if_neg (by omega), if_neg (by omega), if_neg (by omega), if_neg (by omega), if_neg (by omega), if_neg (by omega), if_pos (by omega)]
  · have hh := h3; simp only [isR, decide_eq_true_eq] at hh; simp at hh
    rw [if_neg (by omega), if_neg (by omega), if_neg (by omega), if_neg (by omega), if_neg (by omega), if_neg (by omega), if_neg (by omega), if_neg (by omega), if_neg (by omega), if_neg (by omega), if_neg (by omega), if_neg (by omega)]
  · have hh := h3; simp only [isR, decide_eq_true_eq] at hh; simp at hh
    rw [if_neg (by omega), if_neg (by omega), if_neg (by omega), if_pos (by omega)]
  · have hh := h3; simp only [isR, decide_eq_true_eq] at hh; simp at hh
    rw [if_neg (by omega), if_neg (by omega), if_pos (by omega)]
theorem isR_eq (r a b c d : Int) (h1 : valid a b = true) (h2 : valid c d = true) : isR r a b c d = decide ((rel a b c d).1 = r) := by
  rw [Bool.eq_iff_iff, decide_eq_true_eq]
  exact ⟨isR_of r a b c d h1 h2, fun e => by rw [← e]; exact isR_at a b c d h1 h2⟩
theorem rel_is (a b c d : Int) : (rel a b c d).2 = (valid a b && valid c d) := by
  by_cases h : (valid a b && valid c d) = true
  · rw [rel, if_pos h, h]
  · rw [rel, if_neg h, Bool.eq_false_iff.2 h]
theorem rel_no {a b c d : Int} (h : (valid a b && valid c d) = false) : rel a b c d = (0, false) := by
  unfold rel; rw [h]; rfl
theorem C.ref_Holds (r a b c d : Int) : Pure Tryz.prog N.bt_ref02_Holds [.d (eI r), eP a b, eP c d] (.d (.bool ((rel a b c d).2 && decide ((rel a b c d).1 = r)))) := by
  refine F.bt_ref02_Holds.go mixed rfl ?_
  rw [rel_is]
  repeat' first
    | refine st ?_
    | ((with_reducible apply go_i); (conv => whnf))
    | ((with_reducible apply k_pn); (· first | exact C.ref_Valid1 _ _ | exact C.ref_Is _ _ _ _ _))
    | ((with_reducible apply k_pc); (· first | exact C.ref_Valid1 _ _ | exact C.ref_Is _ _ _ _ _))
    | (with_reducible apply k_d <;> intro _)
    | (with_reducible apply k_b <;> intro _)
  · rename_i h1 h2
    rw [isR_eq _ _ _ _ _ h1 h2, h1, h2]; rfl
  · rename_i h1 h2
    rw [h1, h2]; rfl
  · rename_i h1
    rw [h1]; rfl
theorem C.ref_Relation (a b c d : Int) : Pure Tryz.prog N.bt_ref02_Relation [eP a b, eP c d] (.tup [.d (.int .i64 (rel a b c d).1), .d (.bool (rel a b c d).2)]) := by
  refine F.bt_ref02_Relation.go mixed rfl ?_
  repeat' first
    | refine st ?_
    | ((with_reducible apply go_i); (conv => whnf))
    | (with_reducible apply k_d <;> intro _)
    | (with_reducible apply k_b <;> intro _)
  refine x_loop1 mixed Lt.bt_ref02_Relation_l0 Lk.bt_ref02_Relation_l0 (fun (i : Nat) => [.d (eI i)]) (fun i => [.cells [.d (eI a), .d (eI b)], .cells [.d (eI c), .d (eI d)]]) (fun i => i ≤ 13 ∧ ∀ j : Nat, j < i → ((rel a b c d).2 && decide ((rel a b c d).1 = j)) = false) (fun i => 13 - i) 0 rfl rfl rfl rfl (fun _ _ => ⟨rfl, rfl⟩) rfl ⟨by omega, by omega⟩ ?_
  repeat' first
    | refine st ?_
    | ((with_reducible apply go_i); (conv => whnf))
    | (with_reducible apply k_d <;> intro _)
    | (with_reducible apply k_b <;> intro _)
  intro i ⟨h1, h2⟩
  repeat' first
    | refine st ?_
    | ((with_reducible apply go_i); (conv => whnf))
    | ((with_reducible apply k_pn); (· exact C.ref_Holds _ _ _ _ _))
    | ((with_reducible apply k_pc); (· exact C.ref_Holds _ _ _ _ _))
    | (with_reducible apply k_d <;> intro _)
    | (with_reducible apply k_b <;> intro _)
  · rename_i h3 h4
    simp [h3, h4]
  · rename_i h3 h4
    refine ⟨i + 1, rfl, rfl, rfl, by omega, by omega, fun j hj => ?_⟩
    rcases Nat.lt_succ_iff_lt_or_eq.1 hj with h | rfl
    · exact h2 j h
    · rw [h3, decide_eq_false h4]; rfl
  · rename_i h3
    refine ⟨i + 1, rfl, rfl, rfl, by omega, by omega, fun j hj => ?_⟩
    rw [h3]; rfl
  · have : (rel a b c d).2 = false := by
      rw [Bool.eq_false_iff]
      intro h
      have hr := rel_range a b c d
      have := h2 (rel a b c d).1.toNat (by omega)
      rw [h] at this
      simp at this
      omega
    rw [rel_is] at this
    rw [rel_no this]
end Go.Proofs
end
section
/- Values, truth values, and their contracts: the program's and the reference's alike. No condition. -/
set_option linter.unusedSimpArgs false
set_option linter.unusedVariables false
set_option maxRecDepth 10000
set_option maxHeartbeats 4000000
namespace Go.Proofs
open Go.Bi

theorem enters_of {P : Program} {f n : Nat} {ic : IC} {rs : List RV} (h : IsFn P f n ic rs) : Enters P f := by
  obtain ⟨fn, h1, h2, h3, h4, h5⟩ := h
  obtain ⟨code, hb, hc⟩ := Option.bind_eq_some_iff.1 h4
  exact ⟨fn, h1, by rw [hb]; rfl, by simpa using h3⟩

set_option maxRecDepth 100000 in
theorem calls_CompareString (a b : ByteArray) (w : World) :
    Calls Tryz.prog 84 #[.string a, .string b] w fun e w' => e = .returned (.int .i64 (Lib.compareBytes a.data.toList b.data.toList)) ∧ w' = w := by
  go_enter Tryz.func84, Tryz.ntmps84
  go_wp2
  rw [run_callFunc_extern Tryz.func101 (by kernel_rfl) (by kernel_rfl) (by kernel_rfl) (e := Extern.BytealgCompare.compare) (by kernel_rfl), Lib.run_compareString]
  simp only [Result.andThen]
  rw [Oper.upon_value]
  go_wp2
  go_ret
  exact ⟨rfl, rfl⟩

abbrev cmpB (a b : List UInt8) : Int := Lib.compareBytes a b
theorem C.CompareString (a b : List UInt8) : Pure Tryz.prog N.internal_bytealg_CompareString [.d (.str a), .d (.str b)] (.d (eI (cmpB a b))) := by
  refine ⟨enters_of F.internal_bytealg_CompareString, fun M G w vs he hl hv => ?_⟩
  have h1 : vs = #[.string ⟨⟨a⟩⟩, .string ⟨⟨b⟩⟩] := by
    match vs, hl with
    | ⟨[x, y]⟩, _ =>
      have e1 := va_str (M := M) (G := G) (os := []) (hv 0 _ x rfl rfl)
      have e2 := va_str (M := M) (G := G) (os := []) (hv 1 _ y rfl rfl)
      rw [e1, e2]
  subst h1
  refine (calls_CompareString ⟨⟨a⟩⟩ ⟨⟨b⟩⟩ w).mono ?_
  rintro e w' ⟨rfl, rfl⟩
  exact ⟨_, rfl, M, G, _, [], he, Since.refl .., Rd.int' .., rfl, rfl⟩
theorem C.strings_Compare (a b : List UInt8) : Pure Tryz.prog N.strings_Compare [.d (.str a), .d (.str b)] (.d (eI (cmpB a b))) := by
  refine F.strings_Compare.go mixed rfl ?_
  repeat' first
    | refine st ?_
    | ((with_reducible apply go_i); (conv => whnf))
    | ((with_reducible apply k_pn); (· exact C.CompareString _ _))
    | ((with_reducible apply k_pc); (· exact C.CompareString _ _))
    | (with_reducible apply k_d <;> intro _)
    | (with_reducible apply k_b <;> intro _)
def cmpI (a b : Int) : Int := if a < b then -1 else if b < a then 1 else 0
theorem C.cmp_isNaN (a : Int) : Pure Tryz.prog N.cmp_isNaN_int [.d (eI a)] (.d (.bool false)) := by
  refine F.cmp_isNaN_int.go mixed rfl ?_
  repeat' first
    | refine st ?_
    | ((with_reducible apply go_i); (conv => whnf))
    | (with_reducible apply k_d <;> intro _)
    | (with_reducible apply k_b <;> intro _)
  all_goals simp
theorem C.cmp_Compare (a b : Int) : Pure Tryz.prog N.cmp_Compare_int [.d (eI a), .d (eI b)] (.d (eI (cmpI a b))) := by
  refine F.cmp_Compare_int.go mixed rfl ?_
  repeat' first
    | refine st ?_
    | ((with_reducible apply go_i); (conv => whnf))
    | ((with_reducible apply k_pn); (· exact C.cmp_isNaN _))
    | ((with_reducible apply k_pc); (· exact C.cmp_isNaN _))
    | (with_reducible apply k_d <;> intro _)
    | (with_reducible apply k_b <;> intro _)
  · rename_i h; rw [cmpI, if_pos h]
  · rename_i h h2; rw [cmpI, if_neg h, if_pos h2]
  · rename_i h h2; rw [cmpI, if_neg h, if_neg h2]
def or3 (a b c : Int) : Int := if a ≠ 0 then a else if b ≠ 0 then b else c
theorem C.cmp_Or (a b c : Int) : Pure Tryz.prog N.cmp_Or_int [.d (.sl [[eI a], [eI b], [eI c]])] (.d (eI (or3 a b c))) := by
  refine F.cmp_Or_int.go mixed rfl ?_
  repeat' first
    | refine st ?_
    | ((with_reducible apply go_i); (conv => whnf))
    | (with_reducible apply k_d <;> intro _)
    | (with_reducible apply k_b <;> intro _)
  refine x_loop1 mixed Lt.cmp_Or_int_l0 Lk.cmp_Or_int_l0 (fun (i : Nat) => [.d (eI i)]) (fun i => []) (fun i => i ≤ 3 ∧ (0 < i → a = 0) ∧ (1 < i → b = 0) ∧ (2 < i → c = 0)) (fun i => 3 - i) 0 rfl rfl rfl rfl (fun _ _ => ⟨rfl, rfl⟩) rfl ⟨by omega, by omega, by omega, by omega⟩ ?_
  repeat' first
    | refine st ?_
    | ((with_reducible apply go_i); (conv => whnf))
    | (with_reducible apply k_d <;> intro _)
    | (with_reducible apply k_b <;> intro _)
  intro i ⟨h1, h2, h3, h4⟩
  have hl3 : ([[eI a], [eI b], [eI c]] : List (List D)).length = 3 := rfl
  have hm : ∀ e ∈ ([[eI a], [eI b], [eI c]] : List (List D)), e.length = 1 := by intro e he; simp at he; rcases he with rfl | rfl | rfl <;> rfl
  rcases (show i = 0 ∨ i = 1 ∨ i = 2 ∨ i = 3 by omega) with rfl | rfl | rfl | rfl
  · have hg : ([[eI a], [eI b], [eI c]] : List (List D))[((0 : Nat) : Int).toNat]? = some [eI a] := rfl
    repeat' first
      | refine st ?_
      | ((with_reducible apply go_i); (conv => whnf))
      | (with_reducible apply k_d <;> intro _)
      | (with_reducible apply k_b <;> intro _)
    rotate_left
    · rename_i h; rw [or3, if_pos h]
    · rename_i h; exact ⟨1, rfl, rfl, rfl, by omega, by omega, by omega, by omega, by omega⟩
  · have hg : ([[eI a], [eI b], [eI c]] : List (List D))[((1 : Nat) : Int).toNat]? = some [eI b] := rfl
    have e1 := h2 (by omega)
    repeat' first
      | refine st ?_
      | ((with_reducible apply go_i); (conv => whnf))
      | (with_reducible apply k_d <;> intro _)
      | (with_reducible apply k_b <;> intro _)
    rotate_left
    · rename_i h; rw [or3, if_neg (by omega), if_pos h]
    · rename_i h; exact ⟨2, rfl, rfl, rfl, by omega, by omega, by omega, by omega, by omega⟩
  · have hg : ([[eI a], [eI b], [eI c]] : List (List D))[((2 : Nat) : Int).toNat]? = some [eI c] := rfl
    have e1 := h2 (by omega)
    have e2 := h3 (by omega)
    repeat' first
      | refine st ?_
      | ((with_reducible apply go_i); (conv => whnf))
      | (with_reducible apply k_d <;> intro _)
      | (with_reducible apply k_b <;> intro _)
    rotate_left
    · rename_i h; rw [or3, if_neg (by omega), if_neg (by omega)]
    · rename_i h; exact ⟨3, rfl, rfl, rfl, by omega, by omega, by omega, by omega, by omega⟩
  · have e1 := h2 (by omega)
    have e2 := h3 (by omega)
    have e3 := h4 (by omega)
    repeat' first
      | refine st ?_
      | ((with_reducible apply go_i); (conv => whnf))
      | (with_reducible apply k_d <;> intro _)
      | (with_reducible apply k_b <;> intro _)
    rw [or3, if_neg (by omega), if_neg (by omega), e3]

/-! ### Values -/
structure Vl where
  k : Int
  n : Int
  s : List UInt8
  deriving DecidableEq
abbrev Vl.ds (v : Vl) : List D := [eI v.k, eI v.n, .str v.s]
abbrev eV (v : Vl) : AV := .agg [.d (eI v.k), .d (eI v.n), .d (.str v.s)]
def vNull : Vl := ⟨0, 0, []⟩
def prC (c : UInt8) : Bool := decide (32 ≤ c.toNat ∧ c.toNat ≤ 126)
def prB (s : List UInt8) : Bool := s.all prC
def vValid (v : Vl) : Bool :=
  if v.k = 0 then decide (v.n = 0 ∧ v.s = [])
  else if v.k = 1 then decide (v.s = [] ∧ -1125899906842624 ≤ v.n ∧ v.n ≤ 1125899906842624)
  else if v.k = 2 then decide (v.n = 0 ∧ v.s.length ≤ 200) && prB v.s
  else if v.k = 3 then decide (v.s = [] ∧ (v.n = 0 ∨ v.n = 1)) else false
theorem C.value_printable (s : List UInt8) (hs : s.length ≤ 4611686018427387904) : Pure Tryz.prog N.value_printable [.d (.str s)] (.d (.bool (prB s))) := by
  refine F.value_printable.go mixed rfl ?_
  repeat' first
    | refine st ?_
    | ((with_reducible apply go_i); (conv => whnf))
    | (with_reducible apply k_d <;> intro _)
    | (with_reducible apply k_b <;> intro _)
  refine x_loop1 mixed Lt.value_printable_l0 Lk.value_printable_l0 (fun (i : Nat) => [.d (eI i)]) (fun i => []) (fun i => i ≤ s.length ∧ (s.take i).all prC = true) (fun i => s.length - i) 0 rfl rfl rfl rfl (fun _ _ => ⟨rfl, rfl⟩) rfl ⟨by omega, rfl⟩ ?_
  repeat' first
    | refine st ?_
    | ((with_reducible apply go_i); (conv => whnf))
    | (with_reducible apply k_d <;> intro _)
    | (with_reducible apply k_b <;> intro _)
  intro i ⟨h1, h2⟩
  cases hx : s[i]? with
  | some c =>
    have hlt := (List.getElem?_eq_some_iff.1 hx).1
    have hg : s.getD ((i : Int)).toNat 0 = c := by simp [List.getD_eq_getElem?_getD, hx]
    repeat' first
      | refine st ?_
      | ((with_reducible apply go_i); (conv => whnf))
      | (with_reducible apply k_d <;> intro _)
      | (with_reducible apply k_b <;> intro _)
    · rename_i h
      rw [hg] at h
      rw [prB, all_none hx (decide_eq_false (by omega))]
    · rename_i h h'
      rw [hg] at h h'
      rw [prB, all_none hx (decide_eq_false (by omega))]
    · rename_i h h'
      rw [hg] at h h'
      refine ⟨i + 1, rfl, rfl, rfl, by omega, by omega, ?_⟩
      rw [all_take_succ hx, h2, prC, decide_eq_true (by omega)]; rfl
  | none =>
    have hge := List.getElem?_eq_none_iff.1 hx
    rw [List.take_of_length_le hge] at h2
    repeat' first
      | refine st ?_
      | ((with_reducible apply go_i); (conv => whnf))
      | (with_reducible apply k_d <;> intro _)
      | (with_reducible apply k_b <;> intro _)
    rw [prB, h2]
theorem C.r7_Printable (s : List UInt8) (hs : s.length ≤ 4611686018427387904) : Pure Tryz.prog N.bt_ref07_Printable [.d (.str s)] (.d (.bool (prB s))) := by
  refine F.bt_ref07_Printable.go mixed rfl ?_
  repeat' first
    | refine st ?_
    | ((with_reducible apply go_i); (conv => whnf))
    | (with_reducible apply k_d <;> intro _)
    | (with_reducible apply k_b <;> intro _)
  refine x_loop1 mixed Lt.bt_ref07_Printable_l0 Lk.bt_ref07_Printable_l0 (fun (i : Nat) => [.d (eI i)]) (fun i => []) (fun i => i ≤ s.length ∧ (s.take i).all prC = true) (fun i => s.length - i) 0 rfl rfl rfl rfl (fun _ _ => ⟨rfl, rfl⟩) rfl ⟨by omega, rfl⟩ ?_
  repeat' first
    | refine st ?_
    | ((with_reducible apply go_i); (conv => whnf))
    | (with_reducible apply k_d <;> intro _)
    | (with_reducible apply k_b <;> intro _)
  intro i ⟨h1, h2⟩
  cases hx : s[i]? with
  | some c =>
    have hlt := (List.getElem?_eq_some_iff.1 hx).1
    have hg : s.getD ((i : Int)).toNat 0 = c := by simp [List.getD_eq_getElem?_getD, hx]
    repeat' first
      | refine st ?_
      | ((with_reducible apply go_i); (conv => whnf))
      | (with_reducible apply k_d <;> intro _)
      | (with_reducible apply k_b <;> intro _)
    · rename_i h
      rw [hg] at h
      rw [prB, all_none hx (decide_eq_false (by omega))]
    · rename_i h h'
      rw [hg] at h h'
      rw [prB, all_none hx (decide_eq_false (by omega))]
    · rename_i h h'
      rw [hg] at h h'
      refine ⟨i + 1, rfl, rfl, rfl, by omega, by omega, ?_⟩
      rw [all_take_succ hx, h2, prC, decide_eq_true (by omega)]; rfl
  | none =>
    have hge := List.getElem?_eq_none_iff.1 hx
    rw [List.take_of_length_le hge] at h2
    repeat' first
      | refine st ?_
      | ((with_reducible apply go_i); (conv => whnf))
      | (with_reducible apply k_d <;> intro _)
      | (with_reducible apply k_b <;> intro _)
    rw [prB, h2]
theorem C.value_Valid (v : Vl) (hs : v.s.length ≤ 4611686018427387904) : Pure Tryz.prog N.value_Valid [eV v] (.d (.bool (vValid v))) := by
  refine F.value_Valid.go mixed rfl ?_
  have hP := C.value_printable v.s hs
  repeat' first
    | refine st ?_
    | ((with_reducible apply go_i); (conv => whnf))
    | ((with_reducible apply k_pn); (· exact hP))
    | ((with_reducible apply k_pc); (· exact hP))
    | (with_reducible apply k_d <;> intro _)
    | (with_reducible apply k_b <;> intro _)
  all_goals (simp_all [vValid] <;> omega)
theorem C.r7_Valid (v : Vl) (hs : v.s.length ≤ 4611686018427387904) : Pure Tryz.prog N.bt_ref07_Valid [eV v] (.d (.bool (vValid v))) := by
  refine F.bt_ref07_Valid.go mixed rfl ?_
  have hP := C.r7_Printable v.s hs
  repeat' first
    | refine st ?_
    | ((with_reducible apply go_i); (conv => whnf))
    | ((with_reducible apply k_pn); (· exact hP))
    | ((with_reducible apply k_pc); (· exact hP))
    | (with_reducible apply k_d <;> intro _)
    | (with_reducible apply k_b <;> intro _)
  all_goals (simp_all [vValid] <;> omega)
theorem C.value_Null : Pure Tryz.prog N.value_Null [] (eV vNull) := by
  refine F.value_Null.go mixed rfl ?_
  repeat' first
    | refine st ?_
    | ((with_reducible apply go_i); (conv => whnf))
    | (with_reducible apply k_d <;> intro _)
    | (with_reducible apply k_b <;> intro _)
  all_goals rfl
theorem C.r7_Null : Pure Tryz.prog N.bt_ref07_Null [] (eV vNull) := by
  refine F.bt_ref07_Null.go mixed rfl ?_
  repeat' first
    | refine st ?_
    | ((with_reducible apply go_i); (conv => whnf))
    | (with_reducible apply k_d <;> intro _)
    | (with_reducible apply k_b <;> intro _)
  all_goals rfl
def vBool (b : Bool) : Vl := ⟨3, if b then 1 else 0, []⟩
theorem C.value_Bool (b : Bool) : Pure Tryz.prog N.value_Bool [.d (.bool b)] (eV (vBool b)) := by
  refine F.value_Bool.go mixed rfl ?_
  repeat' first
    | refine st ?_
    | ((with_reducible apply go_i); (conv => whnf))
    | (with_reducible apply k_d <;> intro _)
    | (with_reducible apply k_b <;> intro _)
  all_goals simp_all [vBool]
theorem C.r7_Bool (b : Bool) : Pure Tryz.prog N.bt_ref07_Bool [.d (.bool b)] (eV (vBool b)) := by
  refine F.bt_ref07_Bool.go mixed rfl ?_
  repeat' first
    | refine st ?_
    | ((with_reducible apply go_i); (conv => whnf))
    | (with_reducible apply k_d <;> intro _)
    | (with_reducible apply k_b <;> intro _)
  all_goals simp_all [vBool]
def vOrN (v : Vl) : Vl := if vValid v then v else vNull
theorem C.value_orNull (v : Vl) (hs : v.s.length ≤ 4611686018427387904) : Pure Tryz.prog N.value_orNull [eV v] (eV (vOrN v)) := by
  refine F.value_orNull.go mixed rfl ?_
  have hV := C.value_Valid v hs
  repeat' first
    | refine st ?_
    | ((with_reducible apply go_i); (conv => whnf))
    | ((with_reducible apply k_pn); (· first | exact hV | exact C.value_Null))
    | ((with_reducible apply k_pc); (· first | exact hV | exact C.value_Null))
    | (with_reducible apply k_d <;> intro _)
    | (with_reducible apply k_b <;> intro _)
  all_goals simp_all [vOrN]
theorem C.r7_valid (v : Vl) (hs : v.s.length ≤ 4611686018427387904) : Pure Tryz.prog N.bt_ref07_valid [eV v] (eV (vOrN v)) := by
  refine F.bt_ref07_valid.go mixed rfl ?_
  have hV := C.r7_Valid v hs
  repeat' first
    | refine st ?_
    | ((with_reducible apply go_i); (conv => whnf))
    | ((with_reducible apply k_pn); (· first | exact hV | exact C.r7_Null))
    | ((with_reducible apply k_pc); (· first | exact hV | exact C.r7_Null))
    | (with_reducible apply k_d <;> intro _)
    | (with_reducible apply k_b <;> intro _)
  all_goals simp_all [vOrN]
def vInt (n : Int) : Vl := vOrN ⟨1, n, []⟩
def vText (s : List UInt8) : Vl := vOrN ⟨2, 0, s⟩
theorem C.value_Int (n : Int) : Pure Tryz.prog N.value_Int [.d (eI n)] (eV (vInt n)) := by
  refine F.value_Int.go mixed rfl ?_
  have hV := C.value_orNull ⟨1, n, []⟩ (by simp)
  repeat' first
    | refine st ?_
    | ((with_reducible apply go_i); (conv => whnf))
    | ((with_reducible apply k_pn); (· exact hV))
    | ((with_reducible apply k_pc); (· exact hV))
    | (with_reducible apply k_d <;> intro _)
    | (with_reducible apply k_b <;> intro _)
  all_goals rfl
theorem C.r7_Int (n : Int) : Pure Tryz.prog N.bt_ref07_Int [.d (eI n)] (eV (vInt n)) := by
  refine F.bt_ref07_Int.go mixed rfl ?_
  have hV := C.r7_valid ⟨1, n, []⟩ (by simp)
  repeat' first
    | refine st ?_
    | ((with_reducible apply go_i); (conv => whnf))
    | ((with_reducible apply k_pn); (· exact hV))
    | ((with_reducible apply k_pc); (· exact hV))
    | (with_reducible apply k_d <;> intro _)
    | (with_reducible apply k_b <;> intro _)
  all_goals rfl
theorem C.value_Text (s : List UInt8) (hs : s.length ≤ 4611686018427387904) : Pure Tryz.prog N.value_Text [.d (.str s)] (eV (vText s)) := by
  refine F.value_Text.go mixed rfl ?_
  have hV := C.value_orNull ⟨2, 0, s⟩ hs
  repeat' first
    | refine st ?_
    | ((with_reducible apply go_i); (conv => whnf))
    | ((with_reducible apply k_pn); (· exact hV))
    | ((with_reducible apply k_pc); (· exact hV))
    | (with_reducible apply k_d <;> intro _)
    | (with_reducible apply k_b <;> intro _)
  all_goals rfl
theorem C.r7_Text (s : List UInt8) (hs : s.length ≤ 4611686018427387904) : Pure Tryz.prog N.bt_ref07_Text [.d (.str s)] (eV (vText s)) := by
  refine F.bt_ref07_Text.go mixed rfl ?_
  have hV := C.r7_valid ⟨2, 0, s⟩ hs
  repeat' first
    | refine st ?_
    | ((with_reducible apply go_i); (conv => whnf))
    | ((with_reducible apply k_pn); (· exact hV))
    | ((with_reducible apply k_pc); (· exact hV))
    | (with_reducible apply k_d <;> intro _)
    | (with_reducible apply k_b <;> intro _)
  all_goals rfl
end Go.Proofs
end
section
/- Comparisons of values and truth values: the program's and the reference's alike. No condition. -/
set_option linter.unusedSimpArgs false
set_option linter.unusedVariables false
set_option maxRecDepth 10000
set_option maxHeartbeats 4000000
namespace Go.Proofs
open Go.Bi

theorem cmpI_eq {a b : Int} : cmpI a b = 0 ↔ a = b := by unfold cmpI; split <;> (try split) <;> omega
theorem cmpB_less : ∀ (a b : List UInt8), Op.bytesLess a b = decide (cmpB a b < 0) ∧ Op.bytesLess b a = decide (0 < cmpB a b) ∧ (cmpB a b = 0 ↔ a = b) ∧ (cmpB a b = -1 ∨ cmpB a b = 0 ∨ cmpB a b = 1)
  | [], [] => by simp [Op.bytesLess, cmpB, Lib.compareBytes]
  | [], _ :: _ => by simp [Op.bytesLess, cmpB, Lib.compareBytes]
  | _ :: _, [] => by simp [Op.bytesLess, cmpB, Lib.compareBytes]
  | x :: a, y :: b => by
    obtain ⟨h1, h2, h3, h4⟩ := cmpB_less a b
    simp only [Op.bytesLess, cmpB, Lib.compareBytes] at *
    by_cases hxy : x < y
    · have h5 : ¬ y < x := by intro h; exact absurd (UInt8.lt_trans hxy h) (UInt8.lt_irrefl x)
      have h6 : x ≠ y := by intro h; rw [h] at hxy; exact UInt8.lt_irrefl y hxy
      simp [hxy, h5, h6, Ne.symm h6]
    · by_cases hyx : y < x
      · have h6 : x ≠ y := by intro h; rw [h] at hyx; exact UInt8.lt_irrefl y hyx
        simp [hxy, hyx, h6, Ne.symm h6]
      · have h6 : x = y := UInt8.le_antisymm (UInt8.not_lt.1 hyx) (UInt8.not_lt.1 hxy)
        subst h6
        simp only [UInt8.lt_irrefl, decide_false, Bool.false_or, beq_self_eq_true, Bool.true_and, if_false, h1, h2, List.cons.injEq, true_and]
        exact ⟨h3, h4⟩
def vCmp (a b : Vl) : Int := or3 (cmpI a.k b.k) (cmpI a.n b.n) (cmpB a.s b.s)
theorem C.value_Compare (a b : Vl) : Pure Tryz.prog N.value_Compare [eV a, eV b] (.d (eI (vCmp a b))) := by
  refine F.value_Compare.go mixed rfl ?_
  repeat' first
    | refine st ?_
    | ((with_reducible apply go_i); (conv => whnf))
    | ((with_reducible apply k_pn); (· first | exact C.cmp_Compare _ _ | exact C.strings_Compare _ _ | exact C.cmp_Or _ _ _))
    | ((with_reducible apply k_pc); (· first | exact C.cmp_Compare _ _ | exact C.strings_Compare _ _ | exact C.cmp_Or _ _ _))
    | (with_reducible apply k_d <;> intro _)
    | (with_reducible apply k_b <;> intro _)
  all_goals rfl
def sgn (l g : Bool) : Int := if l then -1 else if g then 1 else 0
theorem C.r7_sign (l g : Bool) : Pure Tryz.prog N.bt_ref07_sign [.d (.bool l), .d (.bool g)] (.d (eI (sgn l g))) := by
  refine F.bt_ref07_sign.go mixed rfl ?_
  repeat' first
    | refine st ?_
    | ((with_reducible apply go_i); (conv => whnf))
    | (with_reducible apply k_d <;> intro _)
    | (with_reducible apply k_b <;> intro _)
  all_goals simp_all [sgn]
theorem C.r7_Compare (a b : Vl) : Pure Tryz.prog N.bt_ref07_Compare [eV a, eV b] (.d (eI (vCmp a b))) := by
  refine F.bt_ref07_Compare.go mixed rfl ?_
  repeat' first
    | refine st ?_
    | ((with_reducible apply go_i); (conv => whnf))
    | ((with_reducible apply k_pn); (· exact C.r7_sign _ _))
    | ((with_reducible apply k_pc); (· exact C.r7_sign _ _))
    | (with_reducible apply k_d <;> intro _)
    | (with_reducible apply k_b <;> intro _)
  · rename_i h1 h2
    have e1 := cmpI_eq.2 h1
    have e2 := cmpI_eq.2 h2
    obtain ⟨h3, h4, h5, h6⟩ := cmpB_less a.s b.s
    rw [vCmp, or3, e1, e2]
    simp only [h3, h4, sgn, decide_eq_true_eq]
    congr 2
    rcases h6 with h | h | h
    · rw [h]; rfl
    · rw [h, decide_eq_true (h5.1 h)]; rfl
    · have hne : decide (a.s = b.s) = false := decide_eq_false (fun e => by rw [h5.2 e] at h; cases h)
      rw [h, hne]; rfl
  · rename_i h1 h2
    have e1 := cmpI_eq.2 h1
    rw [vCmp, or3, e1, if_neg (by simp), if_pos (fun e => h2 (cmpI_eq.1 e)), sgn, cmpI]
    simp
  · rename_i h1
    rw [vCmp, or3, if_pos (fun e => h1 (cmpI_eq.1 e)), sgn, cmpI]
    simp
def vDec (a b : Vl) (is : Bool) : Int := if a.k = 0 ∨ a.k ≠ b.k then 1 else if is then 2 else 0
theorem C.value_decide (a b : Vl) (is : Bool) : Pure Tryz.prog N.value_decide [eV a, eV b, .d (.bool is)] (.d (eI (vDec a b is))) := by
  refine F.value_decide.go mixed rfl ?_
  repeat' first
    | refine st ?_
    | ((with_reducible apply go_i); (conv => whnf))
    | (with_reducible apply k_d <;> intro _)
    | (with_reducible apply k_b <;> intro _)
  all_goals simp_all [vDec]
theorem C.r7_truth (a b : Vl) (is : Bool) : Pure Tryz.prog N.bt_ref07_truth [eV a, eV b, .d (.bool is)] (.d (eI (vDec a b is))) := by
  refine F.bt_ref07_truth.go mixed rfl ?_
  repeat' first
    | refine st ?_
    | ((with_reducible apply go_i); (conv => whnf))
    | (with_reducible apply k_d <;> intro _)
    | (with_reducible apply k_b <;> intro _)
  all_goals simp_all [vDec]
def vEq (a b : Vl) : Int := vDec a b (decide (vCmp a b = 0))
def vLess (a b : Vl) : Int := vDec a b (decide (vCmp a b < 0))
theorem C.value_Equal (a b : Vl) : Pure Tryz.prog N.value_Equal [eV a, eV b] (.d (eI (vEq a b))) := by
  refine F.value_Equal.go mixed rfl ?_
  repeat' first
    | refine st ?_
    | ((with_reducible apply go_i); (conv => whnf))
    | ((with_reducible apply k_pn); (· first | exact C.value_Compare _ _ | exact C.value_decide _ _ _))
    | ((with_reducible apply k_pc); (· first | exact C.value_Compare _ _ | exact C.value_decide _ _ _))
    | (with_reducible apply k_d <;> intro _)
    | (with_reducible apply k_b <;> intro _)
  all_goals rfl
theorem C.r7_Equal (a b : Vl) : Pure Tryz.prog N.bt_ref07_Equal [eV a, eV b] (.d (eI (vEq a b))) := by
  refine F.bt_ref07_Equal.go mixed rfl ?_
  repeat' first
    | refine st ?_
    | ((with_reducible apply go_i); (conv => whnf))
    | ((with_reducible apply k_pn); (· first | exact C.r7_Compare _ _ | exact C.r7_truth _ _ _))
    | ((with_reducible apply k_pc); (· first | exact C.r7_Compare _ _ | exact C.r7_truth _ _ _))
    | (with_reducible apply k_d <;> intro _)
    | (with_reducible apply k_b <;> intro _)
  all_goals rfl
theorem C.value_Less (a b : Vl) : Pure Tryz.prog N.value_Less [eV a, eV b] (.d (eI (vLess a b))) := by
  refine F.value_Less.go mixed rfl ?_
  repeat' first
    | refine st ?_
    | ((with_reducible apply go_i); (conv => whnf))
    | ((with_reducible apply k_pn); (· first | exact C.value_Compare _ _ | exact C.value_decide _ _ _))
    | ((with_reducible apply k_pc); (· first | exact C.value_Compare _ _ | exact C.value_decide _ _ _))
    | (with_reducible apply k_d <;> intro _)
    | (with_reducible apply k_b <;> intro _)
  all_goals rfl
theorem C.r7_Less (a b : Vl) : Pure Tryz.prog N.bt_ref07_Less [eV a, eV b] (.d (eI (vLess a b))) := by
  refine F.bt_ref07_Less.go mixed rfl ?_
  repeat' first
    | refine st ?_
    | ((with_reducible apply go_i); (conv => whnf))
    | ((with_reducible apply k_pn); (· first | exact C.r7_Compare _ _ | exact C.r7_truth _ _ _))
    | ((with_reducible apply k_pc); (· first | exact C.r7_Compare _ _ | exact C.r7_truth _ _ _))
    | (with_reducible apply k_d <;> intro _)
    | (with_reducible apply k_b <;> intro _)
  all_goals rfl

/-! ### Truth values -/
def tNorm (t : Int) : Int := if t = 0 ∨ t = 2 then t else 1
theorem tNorm_is (t : Int) : tNorm t = 0 ∨ tNorm t = 1 ∨ tNorm t = 2 := by unfold tNorm; split <;> omega
theorem C.value_normal (t : Int) : Pure Tryz.prog N.value_normal [.d (eI t)] (.d (eI (tNorm t))) := by
  refine F.value_normal.go mixed rfl ?_
  repeat' first
    | refine st ?_
    | ((with_reducible apply go_i); (conv => whnf))
    | (with_reducible apply k_d <;> intro _)
    | (with_reducible apply k_b <;> intro _)
  all_goals simp_all [tNorm]
def tNot (t : Int) : Int := 2 - tNorm t
theorem C.value_Not (t : Int) : Pure Tryz.prog N.value_Not [.d (eI t)] (.d (eI (tNot t))) := by
  refine F.value_Not.go mixed rfl ?_
  have := tNorm_is t
  repeat' first
    | refine st ?_
    | ((with_reducible apply go_i); (conv => whnf))
    | ((with_reducible apply k_pn); (· exact C.value_normal _))
    | ((with_reducible apply k_pc); (· exact C.value_normal _))
    | (with_reducible apply k_d <;> intro _)
    | (with_reducible apply k_b <;> intro _)
  all_goals rfl
theorem C.r7_Not (t : Int) : Pure Tryz.prog N.bt_ref07_Not [.d (eI t)] (.d (eI (tNot t))) := by
  refine F.bt_ref07_Not.go mixed rfl ?_
  repeat' first
    | refine st ?_
    | ((with_reducible apply go_i); (conv => whnf))
    | (with_reducible apply k_d <;> intro _)
    | (with_reducible apply k_b <;> intro _)
  all_goals simp_all [tNot, tNorm]
def tAnd (a b : Int) : Int := min (min 2 (tNorm a)) (tNorm b)
def tOr (a b : Int) : Int := tNot (tAnd (tNot a) (tNot b))
theorem C.value_least (a b : Int) : Pure Tryz.prog N.value_least [.d (.sl [[eI a], [eI b]])] (.d (eI (tAnd a b))) := by
  refine F.value_least.go mixed rfl ?_
  repeat' first
    | refine st ?_
    | ((with_reducible apply go_i); (conv => whnf))
    | (with_reducible apply k_d <;> intro _)
    | (with_reducible apply k_b <;> intro _)
  refine x_loop2 mixed Lt.value_least_l0 Lk.value_least_l0 (fun (i : Nat) (t : Int) => [.d (eI t), .d (eI i)]) (fun i t => []) (fun i t => (i = 0 ∧ t = 2) ∨ (i = 1 ∧ t = min 2 (tNorm a)) ∨ (i = 2 ∧ t = tAnd a b)) (fun i _ => 2 - i) 0 2 rfl rfl rfl rfl (fun _ _ _ => ⟨rfl, rfl⟩) rfl (.inl ⟨rfl, rfl⟩) ?_
  repeat' first
    | refine st ?_
    | ((with_reducible apply go_i); (conv => whnf))
    | (with_reducible apply k_d <;> intro _)
    | (with_reducible apply k_b <;> intro _)
  intro i t h1
  have hl3 : ([[eI a], [eI b]] : List (List D)).length = 2 := rfl
  have hm : ∀ e ∈ ([[eI a], [eI b]] : List (List D)), e.length = 1 := by intro e he; simp at he; rcases he with rfl | rfl <;> rfl
  rcases h1 with ⟨rfl, rfl⟩ | ⟨rfl, rfl⟩ | ⟨rfl, rfl⟩
  · have hg : ([[eI a], [eI b]] : List (List D))[((0 : Nat) : Int).toNat]? = some [eI a] := rfl
    repeat' first
      | refine st ?_
      | ((with_reducible apply go_i); (conv => whnf))
      | ((with_reducible apply k_pn); (· exact C.value_normal _))
      | ((with_reducible apply k_pc); (· exact C.value_normal _))
      | (with_reducible apply k_d <;> intro _)
      | (with_reducible apply k_b <;> intro _)
    exact ⟨1, _, rfl, rfl, rfl, by omega, .inr (.inl ⟨rfl, rfl⟩)⟩
  · have hg : ([[eI a], [eI b]] : List (List D))[((1 : Nat) : Int).toNat]? = some [eI b] := rfl
    repeat' first
      | refine st ?_
      | ((with_reducible apply go_i); (conv => whnf))
      | ((with_reducible apply k_pn); (· exact C.value_normal _))
      | ((with_reducible apply k_pc); (· exact C.value_normal _))
      | (with_reducible apply k_d <;> intro _)
      | (with_reducible apply k_b <;> intro _)
    exact ⟨2, _, rfl, rfl, rfl, by omega, .inr (.inr ⟨rfl, rfl⟩)⟩
  · repeat' first
      | refine st ?_
      | ((with_reducible apply go_i); (conv => whnf))
      | (with_reducible apply k_d <;> intro _)
      | (with_reducible apply k_b <;> intro _)
theorem C.value_And (a b : Int) : Pure Tryz.prog N.value_And [.d (eI a), .d (eI b)] (.d (eI (tAnd a b))) := by
  refine F.value_And.go mixed rfl ?_
  repeat' first
    | refine st ?_
    | ((with_reducible apply go_i); (conv => whnf))
    | ((with_reducible apply k_pn); (· exact C.value_least _ _))
    | ((with_reducible apply k_pc); (· exact C.value_least _ _))
    | (with_reducible apply k_d <;> intro _)
    | (with_reducible apply k_b <;> intro _)
theorem C.value_Or (a b : Int) : Pure Tryz.prog N.value_Or [.d (eI a), .d (eI b)] (.d (eI (tOr a b))) := by
  refine F.value_Or.go mixed rfl ?_
  repeat' first
    | refine st ?_
    | ((with_reducible apply go_i); (conv => whnf))
    | ((with_reducible apply k_pn); (· first | exact C.value_Not _ | exact C.value_least _ _))
    | ((with_reducible apply k_pc); (· first | exact C.value_Not _ | exact C.value_least _ _))
    | (with_reducible apply k_d <;> intro _)
    | (with_reducible apply k_b <;> intro _)
  all_goals rfl
theorem C.r7_And (a b : Int) : Pure Tryz.prog N.bt_ref07_And [.d (eI a), .d (eI b)] (.d (eI (tAnd a b))) := by
  refine F.bt_ref07_And.go mixed rfl ?_
  repeat' first
    | refine st ?_
    | ((with_reducible apply go_i); (conv => whnf))
    | (with_reducible apply k_d <;> intro _)
    | (with_reducible apply k_b <;> intro _)
  all_goals (simp only [tAnd, tNorm, AV.d.injEq, D.int.injEq, true_and]; split <;> split <;> omega)
theorem C.r7_Or (a b : Int) : Pure Tryz.prog N.bt_ref07_Or [.d (eI a), .d (eI b)] (.d (eI (tOr a b))) := by
  refine F.bt_ref07_Or.go mixed rfl ?_
  have key : ∀ x y : Int, tOr x y = if x = 2 ∨ y = 2 then 2 else if x = 0 ∧ y = 0 then 0 else 1 := by
    intro x y
    by_cases x0 : x = 0 <;> by_cases x2 : x = 2 <;> by_cases y0 : y = 0 <;> by_cases y2 : y = 2 <;> simp [tOr, tAnd, tNot, tNorm, x0, x2, y0, y2] <;> omega
  rw [key]
  repeat' first
    | refine st ?_
    | ((with_reducible apply go_i); (conv => whnf))
    | (with_reducible apply k_d <;> intro _)
    | (with_reducible apply k_b <;> intro _)
  all_goals (simp only [AV.d.injEq, D.int.injEq, true_and]; (repeat' split) <;> omega)
def vTruth (v : Vl) : Int := if v = vBool true then 2 else if v = vBool false then 0 else 1
theorem vl_eq {v w : Vl} : v = w ↔ (v.k = w.k ∧ v.n = w.n ∧ v.s = w.s) := by cases v; cases w; simp
theorem vTruth_is (v : Vl) : vTruth v = if v.k = 3 ∧ v.n = 1 ∧ v.s = [] then 2 else if v.k = 3 ∧ v.n = 0 ∧ v.s = [] then 0 else 1 := by
  simp only [vTruth, vl_eq, vBool, if_true, Bool.false_eq_true, if_false]
theorem C.value_Truth (v : Vl) : Pure Tryz.prog N.value_Truth [eV v] (.d (eI (vTruth v))) := by
  refine F.value_Truth.go mixed rfl ?_
  rw [vTruth_is]
  repeat' first
    | refine st ?_
    | ((with_reducible apply go_i); (conv => whnf))
    | ((with_reducible apply k_pn); (· exact C.value_Bool _))
    | ((with_reducible apply k_pc); (· exact C.value_Bool _))
    | (with_reducible apply k_d <;> intro _)
    | (with_reducible apply k_b <;> intro _)
  all_goals (simp_all [vBool])
theorem C.r7_Truth (v : Vl) : Pure Tryz.prog N.bt_ref07_Truth [eV v] (.d (eI (vTruth v))) := by
  refine F.bt_ref07_Truth.go mixed rfl ?_
  rw [vTruth_is]
  repeat' first
    | refine st ?_
    | ((with_reducible apply go_i); (conv => whnf))
    | ((with_reducible apply k_pn); (· exact C.r7_Bool _))
    | ((with_reducible apply k_pc); (· exact C.r7_Bool _))
    | (with_reducible apply k_d <;> intro _)
    | (with_reducible apply k_b <;> intro _)
  all_goals (simp_all [vBool])
def vOf (t : Int) : Vl := if t = 2 then vBool true else if t = 0 then vBool false else vNull
theorem C.value_Of (t : Int) : Pure Tryz.prog N.value_Of [.d (eI t)] (eV (vOf t)) := by
  refine F.value_Of.go mixed rfl ?_
  repeat' first
    | refine st ?_
    | ((with_reducible apply go_i); (conv => whnf))
    | ((with_reducible apply k_pn); (· first | exact C.value_normal _ | exact C.value_Null | exact C.value_Bool _))
    | ((with_reducible apply k_pc); (· first | exact C.value_normal _ | exact C.value_Null | exact C.value_Bool _))
    | (with_reducible apply k_d <;> intro _)
    | (with_reducible apply k_b <;> intro _)
  all_goals (by_cases h0 : t = 0 <;> by_cases h2 : t = 2 <;> simp_all [tNorm, vOf, vNull, vBool])
theorem C.r7_Of (t : Int) : Pure Tryz.prog N.bt_ref07_Of [.d (eI t)] (eV (vOf t)) := by
  refine F.bt_ref07_Of.go mixed rfl ?_
  repeat' first
    | refine st ?_
    | ((with_reducible apply go_i); (conv => whnf))
    | ((with_reducible apply k_pn); (· first | exact C.r7_Null | exact C.r7_Bool _))
    | ((with_reducible apply k_pc); (· first | exact C.r7_Null | exact C.r7_Bool _))
    | (with_reducible apply k_d <;> intro _)
    | (with_reducible apply k_b <;> intro _)
  all_goals simp_all [vOf, vNull, vBool]

/-! ### Rows -/
def eVs (l : List Vl) : List (List D) := l.map Vl.ds
theorem eVs_len (l : List Vl) : (eVs l).length = l.length := by simp [eVs]
theorem eVs_get {l : List Vl} {i : Nat} {v : Vl} (h : l[i]? = some v) : (eVs l)[i]? = some v.ds := by simp [eVs, h]
theorem eVs_mem (l : List Vl) : ∀ e ∈ eVs l, e.length = 3 := by
  intro e he
  obtain ⟨x, _, rfl⟩ := List.mem_map.1 he
  rfl
def vAt (l : List Vl) (i : Int) : Vl := if i < 0 ∨ (l.length : Int) ≤ i then vNull else l.getD i.toNat vNull
theorem vAt_get {l : List Vl} {i : Int} (h : ¬ i < 0) (h2 : ¬ (l.length : Int) ≤ i) : l[i.toNat]? = some (vAt l i) := by
  rw [vAt, if_neg (by omega), List.getD_eq_getElem?_getD, List.getElem?_eq_getElem (by omega)]; rfl
theorem C.r8_At (l : List Vl) (hl : l.length ≤ 4611686018427387904) (d : D) (hd : SlD d (eVs l)) (i : Int) : Pure Tryz.prog N.bt_ref08_At [.d d, .d (eI i)] (eV (vAt l i)) := by
  refine F.bt_ref08_At.go mixed rfl ?_
  have h1 := eVs_len l
  have hm := eVs_mem l
  by_cases hi : i < 0
  · have e : vAt l i = vNull := if_pos (.inl hi)
    rw [e]
    repeat' first
      | refine st ?_
      | ((with_reducible apply go_i); (conv => whnf))
      | ((with_reducible apply k_pn); (· exact C.r7_Null))
      | ((with_reducible apply k_pc); (· exact C.r7_Null))
      | (with_reducible apply k_d <;> intro _)
      | (with_reducible apply k_b <;> intro _)
  · by_cases hi2 : (l.length : Int) ≤ i
    · have e : vAt l i = vNull := if_pos (.inr hi2)
      rw [e]
      repeat' first
        | refine st ?_
        | ((with_reducible apply go_i); (conv => whnf))
        | ((with_reducible apply k_pn); (· exact C.r7_Null))
        | ((with_reducible apply k_pc); (· exact C.r7_Null))
        | (with_reducible apply k_d <;> intro _)
        | (with_reducible apply k_b <;> intro _)
    · have hg := eVs_get (vAt_get hi hi2)
      repeat' first
        | refine st ?_
        | ((with_reducible apply go_i); (conv => whnf))
        | (with_reducible apply k_d <;> intro _)
        | (with_reducible apply k_b <;> intro _)
theorem C.tuple_at (l : List Vl) (hl : l.length ≤ 4611686018427387904) (d : D) (hd : SlD d (eVs l)) (i : Int) : Pure Tryz.prog N.tuple_at [.d d, .d (eI i)] (eV (vAt l i)) := by
  refine F.tuple_at.go mixed rfl ?_
  have h1 := eVs_len l
  have hm := eVs_mem l
  by_cases hi : i < 0
  · have e : vAt l i = vNull := if_pos (.inl hi)
    rw [e]
    repeat' first
      | refine st ?_
      | ((with_reducible apply go_i); (conv => whnf))
      | ((with_reducible apply k_pn); (· exact C.value_Null))
      | ((with_reducible apply k_pc); (· exact C.value_Null))
      | (with_reducible apply k_d <;> intro _)
      | (with_reducible apply k_b <;> intro _)
  · by_cases hi2 : (l.length : Int) ≤ i
    · have e : vAt l i = vNull := if_pos (.inr hi2)
      rw [e]
      repeat' first
        | refine st ?_
        | ((with_reducible apply go_i); (conv => whnf))
        | ((with_reducible apply k_pn); (· exact C.value_Null))
        | ((with_reducible apply k_pc); (· exact C.value_Null))
        | (with_reducible apply k_d <;> intro _)
        | (with_reducible apply k_b <;> intro _)
    · have hg := eVs_get (vAt_get hi hi2)
      repeat' first
        | refine st ?_
        | ((with_reducible apply go_i); (conv => whnf))
        | (with_reducible apply k_d <;> intro _)
        | (with_reducible apply k_b <;> intro _)
theorem C.tuple_Pick1 (l : List Vl) (hl : l.length ≤ 4611686018427387904) (d : D) (hd : SlD d (eVs l)) (i : Int) : Pure Tryz.prog N.tuple_Pick [.d d, .d (.sl [[eI i]])] (.d (.sl [(vAt l i).ds])) := by
  refine F.tuple_Pick.go mixed rfl ?_
  have hA := C.tuple_at l hl d hd i
  repeat' first
    | refine st ?_
    | ((with_reducible apply go_i); (conv => whnf))
    | (with_reducible apply k_d <;> intro _)
    | (with_reducible apply k_b <;> intro _)
  refine x_loop2 mixed Lt.tuple_Pick_l0 Lk.tuple_Pick_l0 (fun (i : Nat) (es : List (List D)) => [.arr 0 es.length, .d (eI i)]) (fun i es => [.arr es 3 0 false]) (fun k es => (k = 0 ∧ es = []) ∨ (k = 1 ∧ es = [(vAt l i).ds])) (fun i _ => 1 - i) 0 [] rfl rfl rfl rfl (fun _ _ _ => ⟨rfl, rfl⟩) rfl (.inl ⟨rfl, rfl⟩) ?_
  repeat' first
    | refine st ?_
    | ((with_reducible apply go_i); (conv => whnf))
    | (with_reducible apply k_d <;> intro _)
    | (with_reducible apply k_b <;> intro _)
  intro k es h1
  have hl3 : ([[eI i]] : List (List D)).length = 1 := rfl
  have hm : ∀ e ∈ ([[eI i]] : List (List D)), e.length = 1 := by intro e he; simp at he; rcases he with rfl; rfl
  rcases h1 with ⟨rfl, rfl⟩ | ⟨rfl, rfl⟩
  · have hg : ([[eI i]] : List (List D))[((0 : Nat) : Int).toNat]? = some [eI i] := rfl
    repeat' first
      | refine st ?_
      | ((with_reducible apply go_i); (conv => whnf))
      | ((with_reducible apply k_pn); (· exact hA))
      | ((with_reducible apply k_pc); (· exact hA))
      | (with_reducible apply k_d <;> intro _)
      | (with_reducible apply k_b <;> intro _)
    exact ⟨1, _, rfl, rfl, rfl, by omega, .inr ⟨rfl, rfl⟩⟩
  · repeat' first
      | refine st ?_
      | ((with_reducible apply go_i); (conv => whnf))
      | (with_reducible apply k_d <;> intro _)
      | (with_reducible apply k_b <;> intro _)
    rfl
end Go.Proofs
end
section
/- Expressions; what is well-formed: the program's and the reference's alike. No condition. -/
set_option linter.unusedSimpArgs false
set_option linter.unusedVariables false
set_option maxRecDepth 10000
set_option maxHeartbeats 4000000
namespace Go.Proofs
open Go.Bi

/-- An expression; `nl`: an empty list of arguments is nil. -/
inductive Ex where
  | mk (op n : Int) (v : Vl) (name : List UInt8) (nl : Bool) (args : List Ex)
theorem Ex.ind {p : Ex → Prop} (h : ∀ op n v name nl args, (∀ a ∈ args, p a) → p (.mk op n v name nl args)) : ∀ e, p e
  | .mk op n v name nl args => h _ _ _ _ _ _ fun a ha => Ex.ind h a
termination_by e => SizeOf.sizeOf e
decreasing_by
  have := List.sizeOf_lt_of_mem ha
  simp only [Ex.mk.sizeOf_spec]
  omega
def ng (nl : Bool) (l : List (List D)) : D := if nl && l.isEmpty then .nil else .sl l
theorem sld_ng {nl : Bool} {l : List (List D)} : SlD (ng nl l) l := by
  unfold ng
  split
  · rename_i h
    simp only [Bool.and_eq_true, List.isEmpty_iff] at h
    exact .inl ⟨rfl, h.2⟩
  · exact .inr rfl
abbrev xds (op n : Int) (v : Vl) (name : List UInt8) (d : D) : List D := [eI op, eI n, eI v.k, eI v.n, .str v.s, .str name, d]
abbrev eX (op n : Int) (v : Vl) (name : List UInt8) (d : D) : AV := .agg [.d (eI op), .d (eI n), .d (eI v.k), .d (eI v.n), .d (.str v.s), .d (.str name), .d d]
mutual
def Ex.ds : Ex → List D
  | .mk op n v name nl args => xds op n v name (ng nl (Ex.dss args))
def Ex.dss : List Ex → List (List D)
  | [] => []
  | e :: es => e.ds :: Ex.dss es
end
theorem Ex.dss_eq : ∀ l, Ex.dss l = l.map Ex.ds
  | [] => by simp [Ex.dss]
  | e :: es => by simp [Ex.dss, Ex.dss_eq es]
def xL (l : List Ex) : List (List D) := l.map Ex.ds
theorem Ex.ds_mk (op n : Int) (v : Vl) (name : List UInt8) (nl : Bool) (args : List Ex) : (Ex.mk op n v name nl args).ds = xds op n v name (ng nl (xL args)) := by
  rw [Ex.ds, Ex.dss_eq]; rfl
def Ex.av (e : Ex) : AV := .agg (e.ds.map .d)
theorem Ex.av_mk (op n : Int) (v : Vl) (name : List UInt8) (nl : Bool) (args : List Ex) : (Ex.mk op n v name nl args).av = eX op n v name (ng nl (xL args)) := by
  rw [Ex.av, Ex.ds_mk]; rfl
theorem xL_len (l : List Ex) : (xL l).length = l.length := by simp [xL]
theorem xL_mem (l : List Ex) : ∀ e ∈ xL l, e.length = 7 := by
  intro e he
  obtain ⟨⟨op, n, v, name, nl, args⟩, _, rfl⟩ := List.mem_map.1 he
  rw [Ex.ds_mk]; rfl
theorem xL_get {l : List Ex} {i : Nat} {e : Ex} (h : l[i]? = some e) : (xL l)[i]? = some e.ds := by simp [xL, h]
/-- How much an expression holds. -/
def Ex.bk (e : Ex) : Nat := bulkL e.ds
theorem bulkLL_mem {l : List (List D)} {x : List D} (h : x ∈ l) : bulkL x ≤ bulkLL l := by
  induction l with
  | nil => cases h
  | cons y l ih =>
    simp only [bulkLL]
    rcases List.mem_cons.1 h with rfl | h
    · omega
    · have := ih h; omega
theorem bulkLL_len {l : List (List D)} (h : ∀ x ∈ l, 1 ≤ bulkL x) : l.length ≤ bulkLL l := by
  induction l with
  | nil => exact Nat.zero_le _
  | cons y l ih =>
    have h1 := h y (by simp)
    have h2 := ih fun x hx => h x (by simp [hx])
    simp only [bulkLL, List.length_cons]
    omega
theorem Ex.bk_mk (op n : Int) (v : Vl) (name : List UInt8) (nl : Bool) (args : List Ex) : bulkLL (xL args) + v.s.length + name.length + 6 ≤ (Ex.mk op n v name nl args).bk := by
  rw [Ex.bk, Ex.ds_mk]
  simp only [bulkL, bulkD]
  unfold ng
  split
  · rename_i h
    simp only [Bool.and_eq_true, List.isEmpty_iff] at h
    rw [h.2]
    simp only [bulkD, bulkLL]
    omega
  · simp only [bulkD]; omega
theorem Ex.bk_pos (e : Ex) : 6 ≤ e.bk := by
  obtain ⟨op, n, v, name, nl, args⟩ := e
  have := Ex.bk_mk op n v name nl args
  omega
theorem xL_bulk_len (l : List Ex) : l.length ≤ bulkLL (xL l) := by
  rw [← xL_len l]
  refine bulkLL_len fun x hx => ?_
  obtain ⟨e, _, rfl⟩ := List.mem_map.1 hx
  have := e.bk_pos
  unfold Ex.bk at this
  omega
theorem Ex.bk_arg {op n : Int} {v : Vl} {name : List UInt8} {nl : Bool} {args : List Ex} {a : Ex} (h : a ∈ args) : a.bk < (Ex.mk op n v name nl args).bk := by
  have h1 := Ex.bk_mk op n v name nl args
  have h2 : bulkL a.ds ≤ bulkLL (xL args) := bulkLL_mem (List.mem_map.2 ⟨a, h, rfl⟩)
  unfold Ex.bk at *
  omega
theorem Ex.bk_bounds {op n : Int} {v : Vl} {name : List UInt8} {nl : Bool} {args : List Ex} {B : Nat} (h : (Ex.mk op n v name nl args).bk ≤ B) : args.length ≤ B ∧ v.s.length ≤ B ∧ name.length ≤ B ∧ ∀ a ∈ args, a.bk ≤ B := by
  have h1 := Ex.bk_mk op n v name nl args
  have h2 := xL_bulk_len args
  exact ⟨by omega, by omega, by omega, fun a ha => by have := Ex.bk_arg (op := op) (n := n) (v := v) (name := name) (nl := nl) ha; omega⟩

end Go.Proofs
end
section
/- The operators and their numbers of arguments. No condition. -/
set_option linter.unusedSimpArgs false
set_option linter.unusedVariables false
set_option maxRecDepth 10000
set_option maxHeartbeats 4000000
namespace Go.Proofs
open Go.Bi

/-! ### Operators -/
def cnt (op n : Int) : Bool × Bool :=
  if op = 1 ∨ op = 2 then (decide (n = 0), true)
  else if op = 4 ∨ op = 18 ∨ op = 20 ∨ op = 21 then (decide (n = 1), true)
  else if op = 7 ∨ op = 8 ∨ op = 9 ∨ op = 10 ∨ op = 11 ∨ op = 12 ∨ op = 13 ∨ op = 14 ∨ op = 15 ∨ op = 16 ∨ op = 17 ∨ op = 19 then (decide (n = 2), true)
  else if op = 5 ∨ op = 6 then (decide (2 ≤ n), true)
  else if op = 22 then (decide (n = 3), true)
  else if op = 23 then (decide (1 ≤ n), true)
  else if op = 24 then (decide (n = 4), true) else (false, false)
theorem C.expr_counts (op n : Int) : Pure Tryz.prog N.expr_counts [.d (eI op), .d (eI n)] (.tup [.d (.bool (cnt op n).1), .d (.bool (cnt op n).2)]) := by
  refine F.expr_counts.go mixed rfl ?_
  repeat' first
    | refine st ?_
    | ((with_reducible apply go_i); (conv => whnf))
    | (with_reducible apply k_d <;> intro _)
    | (with_reducible apply k_b <;> intro _)
  all_goals first
    | (subst_vars; rfl)
    | (simp only [cnt]; rw [if_neg (by omega), if_neg (by omega), if_neg (by omega), if_neg (by omega), if_neg (by omega), if_neg (by omega), if_neg (by omega)])
def ary (op : Int) : Int × Int :=
  if op = 1 ∨ op = 2 then (0, 0)
  else if op = 4 ∨ op = 18 ∨ op = 20 ∨ op = 21 then (1, 1)
  else if op = 7 ∨ op = 8 ∨ op = 9 ∨ op = 10 ∨ op = 11 ∨ op = 12 ∨ op = 13 ∨ op = 14 ∨ op = 15 ∨ op = 16 ∨ op = 17 ∨ op = 19 then (2, 2)
  else if op = 5 ∨ op = 6 then (2, 1099511627776)
  else if op = 22 then (3, 3)
  else if op = 23 then (1, 1099511627776)
  else if op = 24 then (4, 4) else (-1, 0)
theorem C.r11_Arity (op : Int) : Pure Tryz.prog N.bt_ref11_Arity [.d (eI op)] (.tup [.d (eI (ary op).1), .d (eI (ary op).2)]) := by
  refine F.bt_ref11_Arity.go mixed rfl ?_
  repeat' first
    | refine st ?_
    | ((with_reducible apply go_i); (conv => whnf))
    | (with_reducible apply k_d <;> intro _)
    | (with_reducible apply k_b <;> intro _)
  all_goals first
    | (subst_vars; rfl)
    | (simp only [ary]; rw [if_neg (by omega), if_neg (by omega), if_neg (by omega), if_neg (by omega), if_neg (by omega), if_neg (by omega), if_neg (by omega)])
theorem ary_cnt (op : Int) (k : Nat) (hk : k ≤ 1048576) : (cnt op k).1 = decide (¬ ((ary op).1 < 0 ∨ (k : Int) < (ary op).1 ∨ (ary op).2 < (k : Int))) ∧ (cnt op k).2 = decide (¬ (ary op).1 < 0) := by
  unfold cnt ary
  repeat' split
  all_goals (constructor <;> (rw [Bool.eq_iff_iff]; simp; try omega))
end Go.Proofs
end
section
/- What is well-formed. No condition. -/
set_option linter.unusedSimpArgs false
set_option linter.unusedVariables false
set_option maxRecDepth 10000
set_option maxHeartbeats 4000000
namespace Go.Proofs
open Go.Bi

def fmd (op n : Int) (v : Vl) (name : List UInt8) (k : Nat) : Bool :=
  (cnt op k).1 && decide (name = []) && (if op = 1 then decide (n = 0) && vValid v else if op = 24 then decide (0 ≤ n ∧ n < 13) && decide (v = vNull) else if op = 2 then decide (v = vNull) else decide (n = 0) && decide (v = vNull))
theorem vNull_is (v : Vl) : decide (v = vNull) = (decide (v.k = 0) && (decide (v.n = 0) && decide (v.s = []))) := by
  rw [Bool.eq_iff_iff]
  simp only [decide_eq_true_eq, Bool.and_eq_true, vl_eq]
  exact Iff.rfl
theorem fmd_1 (n : Int) (v : Vl) (k : Nat) (h : (cnt 1 k).1 = true) : fmd 1 n v [] k = (decide (n = 0) && vValid v) := by unfold fmd; rw [h]; rfl
theorem fmd_24 (n : Int) (v : Vl) (k : Nat) (h : (cnt 24 k).1 = true) : fmd 24 n v [] k = (decide (0 ≤ n ∧ n < 13) && decide (v = vNull)) := by unfold fmd; rw [h]; rfl
theorem fmd_2 (n : Int) (v : Vl) (k : Nat) (h : (cnt 2 k).1 = true) : fmd 2 n v [] k = decide (v = vNull) := by unfold fmd; rw [h]; rfl
theorem fmd_o (op n : Int) (v : Vl) (k : Nat) (h : (cnt op k).1 = true) (h1 : op ≠ 1) (h2 : op ≠ 24) (h3 : op ≠ 2) : fmd op n v [] k = (decide (n = 0) && decide (v = vNull)) := by unfold fmd; rw [h, if_neg h1, if_neg h2, if_neg h3]; rfl
theorem C.expr_formed (op n : Int) (v : Vl) (name : List UInt8) (d : D) (es : List (List D)) (hd : SlD d es) (hs : v.s.length ≤ 1048576) (hl : es.length ≤ 1048576) : Pure Tryz.prog N.expr_formed [eX op n v name d] (.d (.bool (fmd op n v name es.length))) := by
  refine F.expr_formed.go mixed rfl ?_
  have hV := C.value_Valid v (by omega)
  have hC := C.expr_counts op es.length
  cases hc : (cnt op es.length).1 with
  | false =>
    have hr : fmd op n v name es.length = false := by unfold fmd; rw [hc]; rfl
    rw [hr]
    rw [hc] at hC
    repeat' first
      | refine st ?_
      | ((with_reducible apply go_i); (conv => whnf))
      | ((with_reducible apply k_pn); (· exact hC))
      | ((with_reducible apply k_pc); (· exact hC))
      | (with_reducible apply k_d <;> intro _)
      | (with_reducible apply k_b <;> intro _)
  | true =>
  rw [hc] at hC
  by_cases hn : name = []
  rotate_left
  · have hr : fmd op n v name es.length = false := by unfold fmd; rw [decide_eq_false hn, Bool.and_false]; rfl
    rw [hr]
    repeat' first
      | refine st ?_
      | ((with_reducible apply go_i); (conv => whnf))
      | ((with_reducible apply k_pn); (· exact hC))
      | ((with_reducible apply k_pc); (· exact hC))
      | (with_reducible apply k_d <;> intro _)
      | (with_reducible apply k_b <;> intro _)
    all_goals rfl
  subst hn
  by_cases h1 : op = 1
  · subst h1
    obtain ⟨r, hr⟩ : ∃ r, r = fmd 1 n v [] es.length := ⟨_, rfl⟩
    rw [← hr]
    rw [fmd_1 _ _ _ hc] at hr
    by_cases hn : n = 0
    · rw [decide_eq_true hn] at hr
      repeat' first
        | refine st ?_
        | ((with_reducible apply go_i); (conv => whnf))
        | ((with_reducible apply k_pn); (· first | exact hC | exact hV))
        | ((with_reducible apply k_pc); (· first | exact hC | exact hV))
        | (with_reducible apply k_d <;> intro _)
        | (with_reducible apply k_b <;> intro _)
      all_goals (rw [hr]; try rfl)
    · rw [decide_eq_false hn] at hr
      repeat' first
        | refine st ?_
        | ((with_reducible apply go_i); (conv => whnf))
        | ((with_reducible apply k_pn); (· first | exact hC | exact hV))
        | ((with_reducible apply k_pc); (· first | exact hC | exact hV))
        | (with_reducible apply k_d <;> intro _)
        | (with_reducible apply k_b <;> intro _)
      all_goals (rw [hr]; try rfl)
  by_cases h2 : op = 24
  · subst h2
    obtain ⟨r, hr⟩ : ∃ r, r = fmd 24 n v [] es.length := ⟨_, rfl⟩
    rw [← hr]
    rw [fmd_24 _ _ _ hc, vNull_is] at hr
    by_cases hn : 0 ≤ n ∧ n < 13
    · rw [decide_eq_true hn] at hr
      obtain ⟨n1, n2⟩ := hn
      have n3 : ¬ n < 0 := by omega
      have n4 : ¬ 13 ≤ n := by omega
      repeat' first
        | refine st ?_
        | ((with_reducible apply go_i); (conv => whnf))
        | ((with_reducible apply k_pn); (· first | exact hC | exact hV))
        | ((with_reducible apply k_pc); (· first | exact hC | exact hV))
        | (with_reducible apply k_d <;> intro _)
        | (with_reducible apply k_b <;> intro _)
      all_goals (rw [hr]; try (clear hr; simp_all [vNull]; try omega))
    · rw [decide_eq_false hn] at hr
      repeat' first
        | refine st ?_
        | ((with_reducible apply go_i); (conv => whnf))
        | ((with_reducible apply k_pn); (· first | exact hC | exact hV))
        | ((with_reducible apply k_pc); (· first | exact hC | exact hV))
        | (with_reducible apply k_d <;> intro _)
        | (with_reducible apply k_b <;> intro _)
      all_goals (rw [hr]; try (clear hr; simp_all [vNull]; try omega))
  by_cases h3 : op = 2
  · subst h3
    obtain ⟨r, hr⟩ : ∃ r, r = fmd 2 n v [] es.length := ⟨_, rfl⟩
    rw [← hr]
    rw [fmd_2 _ _ _ hc, vNull_is] at hr
    repeat' first
      | refine st ?_
      | ((with_reducible apply go_i); (conv => whnf))
      | ((with_reducible apply k_pn); (· first | exact hC | exact hV))
      | ((with_reducible apply k_pc); (· first | exact hC | exact hV))
      | (with_reducible apply k_d <;> intro _)
      | (with_reducible apply k_b <;> intro _)
    all_goals (rw [hr]; try rfl)
  obtain ⟨r, hr⟩ : ∃ r, r = fmd op n v [] es.length := ⟨_, rfl⟩
  rw [← hr]
  rw [fmd_o _ _ _ _ hc h1 h2 h3, vNull_is] at hr
  by_cases hn : n = 0
  · rw [decide_eq_true hn] at hr
    repeat' first
      | refine st ?_
      | ((with_reducible apply go_i); (conv => whnf))
      | ((with_reducible apply k_pn); (· first | exact hC | exact hV))
      | ((with_reducible apply k_pc); (· first | exact hC | exact hV))
      | (with_reducible apply k_d <;> intro _)
      | (with_reducible apply k_b <;> intro _)
    all_goals (rw [hr]; try rfl)
  · rw [decide_eq_false hn] at hr
    repeat' first
      | refine st ?_
      | ((with_reducible apply go_i); (conv => whnf))
      | ((with_reducible apply k_pn); (· first | exact hC | exact hV))
      | ((with_reducible apply k_pc); (· first | exact hC | exact hV))
      | (with_reducible apply k_d <;> intro _)
      | (with_reducible apply k_b <;> intro _)
    all_goals (rw [hr]; try rfl)
theorem C.r11_Formed (op n : Int) (v : Vl) (name : List UInt8) (d : D) (es : List (List D)) (hd : SlD d es) (hs : v.s.length ≤ 1048576) (hl : es.length ≤ 1048576) : Pure Tryz.prog N.bt_ref11_Formed [eX op n v name d] (.d (.bool (fmd op n v name es.length))) := by
  refine F.bt_ref11_Formed.go mixed rfl ?_
  have hV := C.r7_Valid v (by omega)
  have hC := C.r11_Arity op
  have hac := (ary_cnt op es.length hl).1
  cases hc : (cnt op es.length).1 with
  | false =>
    have hr : fmd op n v name es.length = false := by unfold fmd; rw [hc]; rfl
    rw [hr]
    rw [hc] at hac
    have hac : (ary op).1 < 0 ∨ (es.length : Int) < (ary op).1 ∨ (ary op).2 < (es.length : Int) := by
      have := of_decide_eq_false hac.symm
      omega
    repeat' first
      | refine st ?_
      | ((with_reducible apply go_i); (conv => whnf))
      | ((with_reducible apply k_pn); (· exact hC))
      | ((with_reducible apply k_pc); (· exact hC))
      | (with_reducible apply k_d <;> intro _)
      | (with_reducible apply k_b <;> intro _)
    all_goals first | rfl | (exfalso; omega)
  | true =>
  rw [hc] at hac
  have hac := of_decide_eq_true hac.symm
  have a1 : ¬ (ary op).1 < 0 := by omega
  have a2 : ¬ (es.length : Int) < (ary op).1 := by omega
  have a3 : ¬ (ary op).2 < (es.length : Int) := by omega
  clear hac
  by_cases hn : name = []
  rotate_left
  · have hr : fmd op n v name es.length = false := by unfold fmd; rw [decide_eq_false hn, Bool.and_false]; rfl
    rw [hr]
    repeat' first
      | refine st ?_
      | ((with_reducible apply go_i); (conv => whnf))
      | ((with_reducible apply k_pn); (· exact hC))
      | ((with_reducible apply k_pc); (· exact hC))
      | (with_reducible apply k_d <;> intro _)
      | (with_reducible apply k_b <;> intro _)
    all_goals rfl
  subst hn
  by_cases h1 : op = 1
  · subst h1
    obtain ⟨r, hr⟩ : ∃ r, r = fmd 1 n v [] es.length := ⟨_, rfl⟩
    rw [← hr]
    rw [fmd_1 _ _ _ hc] at hr
    by_cases hn : n = 0
    · rw [decide_eq_true hn] at hr
      repeat' first
        | refine st ?_
        | ((with_reducible apply go_i); (conv => whnf))
        | ((with_reducible apply k_pn); (· first | exact hC | exact hV | exact C.r7_Null))
        | ((with_reducible apply k_pc); (· first | exact hC | exact hV | exact C.r7_Null))
        | (with_reducible apply k_d <;> intro _)
        | (with_reducible apply k_b <;> intro _)
      all_goals (rw [hr]; try rfl)
    · rw [decide_eq_false hn] at hr
      repeat' first
        | refine st ?_
        | ((with_reducible apply go_i); (conv => whnf))
        | ((with_reducible apply k_pn); (· first | exact hC | exact hV | exact C.r7_Null))
        | ((with_reducible apply k_pc); (· first | exact hC | exact hV | exact C.r7_Null))
        | (with_reducible apply k_d <;> intro _)
        | (with_reducible apply k_b <;> intro _)
      all_goals (rw [hr]; try rfl)
  by_cases h2 : op = 24
  · subst h2
    obtain ⟨r, hr⟩ : ∃ r, r = fmd 24 n v [] es.length := ⟨_, rfl⟩
    rw [← hr]
    rw [fmd_24 _ _ _ hc, vNull_is] at hr
    by_cases hn : 0 ≤ n ∧ n < 13
    · rw [decide_eq_true hn] at hr
      obtain ⟨n1, n2⟩ := hn
      have n3 : ¬ n < 0 := by omega
      have n4 : ¬ 13 ≤ n := by omega
      repeat' first
        | refine st ?_
        | ((with_reducible apply go_i); (conv => whnf))
        | ((with_reducible apply k_pn); (· first | exact hC | exact hV | exact C.r7_Null))
        | ((with_reducible apply k_pc); (· first | exact hC | exact hV | exact C.r7_Null))
        | (with_reducible apply k_d <;> intro _)
        | (with_reducible apply k_b <;> intro _)
      all_goals (rw [hr]; try (clear hr; simp_all [vNull]; try omega))
    · rw [decide_eq_false hn] at hr
      repeat' first
        | refine st ?_
        | ((with_reducible apply go_i); (conv => whnf))
        | ((with_reducible apply k_pn); (· first | exact hC | exact hV | exact C.r7_Null))
        | ((with_reducible apply k_pc); (· first | exact hC | exact hV | exact C.r7_Null))
        | (with_reducible apply k_d <;> intro _)
        | (with_reducible apply k_b <;> intro _)
      all_goals (rw [hr]; try (clear hr; simp_all [vNull]; try omega))
  by_cases h3 : op = 2
  · subst h3
    obtain ⟨r, hr⟩ : ∃ r, r = fmd 2 n v [] es.length := ⟨_, rfl⟩
    rw [← hr]
    rw [fmd_2 _ _ _ hc, vNull_is] at hr
    repeat' first
      | refine st ?_
      | ((with_reducible apply go_i); (conv => whnf))
      | ((with_reducible apply k_pn); (· first | exact hC | exact hV | exact C.r7_Null))
      | ((with_reducible apply k_pc); (· first | exact hC | exact hV | exact C.r7_Null))
      | (with_reducible apply k_d <;> intro _)
      | (with_reducible apply k_b <;> intro _)
    all_goals (rw [hr]; try rfl)
  obtain ⟨r, hr⟩ : ∃ r, r = fmd op n v [] es.length := ⟨_, rfl⟩
  rw [← hr]
  rw [fmd_o _ _ _ _ hc h1 h2 h3, vNull_is] at hr
  by_cases hn : n = 0
  · rw [decide_eq_true hn] at hr
    repeat' first
      | refine st ?_
      | ((with_reducible apply go_i); (conv => whnf))
      | ((with_reducible apply k_pn); (· first | exact hC | exact hV | exact C.r7_Null))
      | ((with_reducible apply k_pc); (· first | exact hC | exact hV | exact C.r7_Null))
      | (with_reducible apply k_d <;> intro _)
      | (with_reducible apply k_b <;> intro _)
    all_goals (rw [hr]; try rfl)
  · rw [decide_eq_false hn] at hr
    repeat' first
      | refine st ?_
      | ((with_reducible apply go_i); (conv => whnf))
      | ((with_reducible apply k_pn); (· first | exact hC | exact hV | exact C.r7_Null))
      | ((with_reducible apply k_pc); (· first | exact hC | exact hV | exact C.r7_Null))
      | (with_reducible apply k_d <;> intro _)
      | (with_reducible apply k_b <;> intro _)
    all_goals (rw [hr]; try rfl)
end Go.Proofs
end
section
/- Operators on values: the program's and the reference's alike. No condition. -/
set_option linter.unusedSimpArgs false
set_option linter.unusedVariables false
set_option maxRecDepth 10000
set_option maxHeartbeats 4000000
namespace Go.Proofs
open Go.Bi

def w64 (n : Int) : Int := IntKind.i64.wrap n
def nSm (n : Int) : Prop := -1125899906842624 ≤ n ∧ n ≤ 1125899906842624
theorem valid_n {v : Vl} (h : vValid v = true) : nSm v.n := by
  unfold vValid at h
  unfold nSm
  repeat' split at h
  all_goals simp at h
  all_goals omega
theorem valid_s {v : Vl} (h : vValid v = true) : v.s.length ≤ 200 := by
  unfold vValid at h
  repeat' split at h
  all_goals simp at h
  · rw [h.2]; simp
  · rw [h.1]; simp
  · exact h.1.2
  · rw [h.1]; simp
def vCol (l : List Vl) (i : Int) : Vl := vOrN (vAt l i)
theorem C.expr_column (l : List Vl) (hl : l.length ≤ 1048576) (hs : ∀ v ∈ l, v.s.length ≤ 1048576) (d : D) (hd : SlD d (eVs l)) (i : Int) : Pure Tryz.prog N.expr_column [.d d, .d (eI i)] (eV (vCol l i)) := by
  refine F.expr_column.go mixed rfl ?_
  have hP := C.tuple_Pick1 l (by omega) d hd i
  have hV := C.value_Valid (vAt l i) (by
    unfold vAt
    split
    · simp [vNull]
    · rw [List.getD_eq_getElem?_getD]
      cases h : l[i.toNat]? with
      | none => simp [vNull]
      | some v => have := hs v (List.mem_of_getElem? h); simp; omega)
  unfold vCol vOrN
  have hg : ([(vAt l i).ds] : List (List D))[(0 : Nat)]? = some (vAt l i).ds := rfl
  cases hv : vValid (vAt l i) with
  | true =>
    rw [hv] at hV
    repeat' first
      | refine st ?_
      | ((with_reducible apply go_i); (conv => whnf))
      | ((with_reducible apply k_pn); (· first | exact hP | exact hV))
      | ((with_reducible apply k_pc); (· first | exact hP | exact hV))
      | (with_reducible apply k_d <;> intro _)
      | (with_reducible apply k_b <;> intro _)
    all_goals rfl
  | false =>
    rw [hv] at hV
    repeat' first
      | refine st ?_
      | ((with_reducible apply go_i); (conv => whnf))
      | ((with_reducible apply k_pn); (· first | exact hP | exact hV | exact C.value_Null))
      | ((with_reducible apply k_pc); (· first | exact hP | exact hV | exact C.value_Null))
      | (with_reducible apply k_d <;> intro _)
      | (with_reducible apply k_b <;> intro _)
    all_goals rfl
theorem vAt_s {l : List Vl} (hs : ∀ v ∈ l, v.s.length ≤ 1048576) (i : Int) : (vAt l i).s.length ≤ 1048576 := by
  unfold vAt
  split
  · simp [vNull]
  · rw [List.getD_eq_getElem?_getD]
    cases h : l[i.toNat]? with
    | none => simp [vNull]
    | some v => exact hs v (List.mem_of_getElem? h)
def vLf (op n : Int) (v : Vl) (l : List Vl) : Vl := vOrN (if op = 2 then vAt l n else v)
theorem C.r11_leaf (op n : Int) (v : Vl) (name : List UInt8) (da : D) (hvs : v.s.length ≤ 1048576) (l : List Vl) (hl : l.length ≤ 1048576) (hs : ∀ v ∈ l, v.s.length ≤ 1048576) (d : D) (hd : SlD d (eVs l)) : Pure Tryz.prog N.bt_ref11_leaf [eX op n v name da, .d d] (eV (vLf op n v l)) := by
  refine F.bt_ref11_leaf.go mixed rfl ?_
  have hA := C.r8_At l (by omega) d hd n
  by_cases h : op = 2
  · have hV := C.r7_Valid (vAt l n) (by have := vAt_s hs n; omega)
    unfold vLf
    rw [if_pos h]
    unfold vOrN
    cases hv : vValid (vAt l n) with
    | true =>
      rw [hv] at hV
      repeat' first
        | refine st ?_
        | ((with_reducible apply go_i); (conv => whnf))
        | ((with_reducible apply k_pn); (· first | exact hA | exact hV))
        | ((with_reducible apply k_pc); (· first | exact hA | exact hV))
        | (with_reducible apply k_d <;> intro _)
        | (with_reducible apply k_b <;> intro _)
      all_goals rfl
    | false =>
      rw [hv] at hV
      repeat' first
        | refine st ?_
        | ((with_reducible apply go_i); (conv => whnf))
        | ((with_reducible apply k_pn); (· first | exact hA | exact hV | exact C.r7_Null))
        | ((with_reducible apply k_pc); (· first | exact hA | exact hV | exact C.r7_Null))
        | (with_reducible apply k_d <;> intro _)
        | (with_reducible apply k_b <;> intro _)
      all_goals rfl
  · have hV := C.r7_Valid v (by omega)
    unfold vLf
    rw [if_neg h]
    unfold vOrN
    cases hv : vValid v with
    | true =>
      rw [hv] at hV
      repeat' first
        | refine st ?_
        | ((with_reducible apply go_i); (conv => whnf))
        | ((with_reducible apply k_pn); (· first | exact hA | exact hV))
        | ((with_reducible apply k_pc); (· first | exact hA | exact hV))
        | (with_reducible apply k_d <;> intro _)
        | (with_reducible apply k_b <;> intro _)
      all_goals rfl
    | false =>
      rw [hv] at hV
      repeat' first
        | refine st ?_
        | ((with_reducible apply go_i); (conv => whnf))
        | ((with_reducible apply k_pn); (· first | exact hA | exact hV | exact C.r7_Null))
        | ((with_reducible apply k_pc); (· first | exact hA | exact hV | exact C.r7_Null))
        | (with_reducible apply k_d <;> intro _)
        | (with_reducible apply k_b <;> intro _)
      all_goals rfl
def vCp (op : Int) (a b : Vl) : Int := if op = 7 then vEq a b else if op = 8 then tNot (vEq a b) else if op = 9 then vLess a b else if op = 11 then vLess b a else if op = 10 then tNot (vLess b a) else tNot (vLess a b)
theorem C.expr_comparison (op : Int) (a b : Vl) : Pure Tryz.prog N.expr_comparison [.d (eI op), eV a, eV b] (.d (eI (vCp op a b))) := by
  refine F.expr_comparison.go mixed rfl ?_
  repeat' first
    | refine st ?_
    | ((with_reducible apply go_i); (conv => whnf))
    | ((with_reducible apply k_pn); (· first | exact C.value_Equal _ _ | exact C.value_Not _ | exact C.value_Less _ _))
    | ((with_reducible apply k_pc); (· first | exact C.value_Equal _ _ | exact C.value_Not _ | exact C.value_Less _ _))
    | (with_reducible apply k_d <;> intro _)
    | (with_reducible apply k_b <;> intro _)
  all_goals simp [vCp, *]
theorem C.r11_compared (op : Int) (a b : Vl) : Pure Tryz.prog N.bt_ref11_compared [.d (eI op), eV a, eV b] (.d (eI (vCp op a b))) := by
  refine F.bt_ref11_compared.go mixed rfl ?_
  repeat' first
    | refine st ?_
    | ((with_reducible apply go_i); (conv => whnf))
    | ((with_reducible apply k_pn); (· first | exact C.r7_Equal _ _ | exact C.r7_Not _ | exact C.r7_Less _ _))
    | ((with_reducible apply k_pc); (· first | exact C.r7_Equal _ _ | exact C.r7_Not _ | exact C.r7_Less _ _))
    | (with_reducible apply k_d <;> intro _)
    | (with_reducible apply k_b <;> intro _)
  all_goals simp [vCp, *]
def isK (l : List Vl) (k : Int) : Bool := l.all fun v => decide (v.k = k)
theorem C.r11_are (l : List Vl) (hl : l.length ≤ 1048576) (d : D) (hd : SlD d (eVs l)) (k : Int) : Pure Tryz.prog N.bt_ref11_are [.d d, .d (eI k)] (.d (.bool (isK l k))) := by
  refine F.bt_ref11_are.go mixed rfl ?_
  have h1 := eVs_len l
  have hm := eVs_mem l
  repeat' first
    | refine st ?_
    | ((with_reducible apply go_i); (conv => whnf))
    | (with_reducible apply k_d <;> intro _)
    | (with_reducible apply k_b <;> intro _)
  refine x_loop1 mixed Lt.bt_ref11_are_l0 Lk.bt_ref11_are_l0 (fun (i : Nat) => [.d (eI i)]) (fun i => []) (fun i => i ≤ l.length ∧ (l.take i).all (fun v => decide (v.k = k)) = true) (fun i => l.length - i) 0 rfl rfl rfl rfl (fun _ _ => ⟨rfl, rfl⟩) rfl ⟨by omega, rfl⟩ ?_
  repeat' first
    | refine st ?_
    | ((with_reducible apply go_i); (conv => whnf))
    | (with_reducible apply k_d <;> intro _)
    | (with_reducible apply k_b <;> intro _)
  intro i ⟨h2, h3⟩
  cases hx : l[i]? with
  | some v =>
    have hlt := (List.getElem?_eq_some_iff.1 hx).1
    have hg := eVs_get hx
    by_cases hk : v.k = k
    · repeat' first
        | refine st ?_
        | ((with_reducible apply go_i); (conv => whnf))
        | (with_reducible apply k_d <;> intro _)
        | (with_reducible apply k_b <;> intro _)
      refine ⟨i + 1, rfl, rfl, rfl, by omega, by omega, ?_⟩
      rw [all_take_succ hx, h3, decide_eq_true hk]; rfl
    · repeat' first
        | refine st ?_
        | ((with_reducible apply go_i); (conv => whnf))
        | (with_reducible apply k_d <;> intro _)
        | (with_reducible apply k_b <;> intro _)
      rw [isK, all_none hx (decide_eq_false hk)]
  | none =>
    have hge := List.getElem?_eq_none_iff.1 hx
    rw [List.take_of_length_le hge] at h3
    repeat' first
      | refine st ?_
      | ((with_reducible apply go_i); (conv => whnf))
      | (with_reducible apply k_d <;> intro _)
      | (with_reducible apply k_b <;> intro _)
    rw [isK, h3]
def vPr (a b : Int) : Vl := if a ≠ 0 ∧ w64 (Int.tdiv 1125899906842624 (max a (0 - a))) < max b (0 - b) then vNull else vInt (w64 (a * b))
theorem C.expr_product (a b : Int) (ha : nSm a) (hb : nSm b) : Pure Tryz.prog N.expr_product [.d (eI a), .d (eI b)] (eV (vPr a b)) := by
  refine F.expr_product.go mixed rfl ?_
  obtain ⟨a1, a2⟩ := ha
  obtain ⟨b1, b2⟩ := hb
  unfold vPr
  by_cases h0 : a = 0
  · rw [if_neg (by omega)]
    repeat' first
      | refine st ?_
      | ((with_reducible apply go_i); (conv => whnf))
      | ((with_reducible apply k_pn); (· first | exact C.value_Null | exact C.value_Int _))
      | ((with_reducible apply k_pc); (· first | exact C.value_Null | exact C.value_Int _))
      | (with_reducible apply k_d <;> intro _)
      | (with_reducible apply k_b <;> intro _)
    all_goals rfl
  · have hne : max a (0 - a) ≠ 0 := by omega
    by_cases h1 : w64 (Int.tdiv 1125899906842624 (max a (0 - a))) < max b (0 - b)
    · rw [if_pos ⟨h0, h1⟩]
      repeat' first
        | refine st ?_
        | ((with_reducible apply go_i); (conv => whnf))
        | ((with_reducible apply k_pn); (· first | exact C.value_Null | exact C.value_Int _))
        | ((with_reducible apply k_pc); (· first | exact C.value_Null | exact C.value_Int _))
        | (with_reducible apply k_d <;> intro _)
        | (with_reducible apply k_b <;> intro _)
      all_goals rfl
    · rw [if_neg (fun h => h1 h.2)]
      repeat' first
        | refine st ?_
        | ((with_reducible apply go_i); (conv => whnf))
        | ((with_reducible apply k_pn); (· first | exact C.value_Null | exact C.value_Int _))
        | ((with_reducible apply k_pc); (· first | exact C.value_Null | exact C.value_Int _))
        | (with_reducible apply k_d <;> intro _)
        | (with_reducible apply k_b <;> intro _)
      all_goals rfl
def vBin (op a b : Int) : Vl := if op = 13 then vInt (a + b) else if op = 14 then vInt (a - b) else if op = 15 then vPr a b else if b = 0 then vNull else if op = 16 then vInt (w64 (a.tdiv b)) else vInt (a.tmod b)
theorem C.r11_abs (a : Int) (ha : nSm a) : Pure Tryz.prog N.bt_ref11_abs [.d (eI a)] (.d (eI (max a (0 - a)))) := by
  refine F.bt_ref11_abs.go mixed rfl ?_
  obtain ⟨a1, a2⟩ := ha
  repeat' first
    | refine st ?_
    | ((with_reducible apply go_i); (conv => whnf))
    | (with_reducible apply k_d <;> intro _)
    | (with_reducible apply k_b <;> intro _)
theorem C.r11_computed (op a b : Int) (ha : nSm a) (hb : nSm b) : Pure Tryz.prog N.bt_ref11_computed [.d (eI op), .d (eI a), .d (eI b)] (eV (vBin op a b)) := by
  refine F.bt_ref11_computed.go mixed rfl ?_
  have hA := C.r11_abs a ha
  have hB := C.r11_abs b hb
  obtain ⟨a1, a2⟩ := ha
  obtain ⟨b1, b2⟩ := hb
  by_cases h13 : op = 13
  · subst h13
    repeat' first
      | refine st ?_
      | ((with_reducible apply go_i); (conv => whnf))
      | ((with_reducible apply k_pn); (· exact C.r7_Int _))
      | ((with_reducible apply k_pc); (· exact C.r7_Int _))
      | (with_reducible apply k_d <;> intro _)
      | (with_reducible apply k_b <;> intro _)
    all_goals rfl
  by_cases h14 : op = 14
  · subst h14
    repeat' first
      | refine st ?_
      | ((with_reducible apply go_i); (conv => whnf))
      | ((with_reducible apply k_pn); (· exact C.r7_Int _))
      | ((with_reducible apply k_pc); (· exact C.r7_Int _))
      | (with_reducible apply k_d <;> intro _)
      | (with_reducible apply k_b <;> intro _)
    all_goals rfl
  by_cases h15 : op = 15
  · subst h15
    show Go _
    have e : vBin 15 a b = vPr a b := rfl
    rw [e]
    unfold vPr
    by_cases h0 : a = 0
    · rw [if_neg (by omega)]
      repeat' first
        | refine st ?_
        | ((with_reducible apply go_i); (conv => whnf))
        | ((with_reducible apply k_pn); (· first | exact C.r7_Null | exact C.r7_Int _))
        | ((with_reducible apply k_pc); (· first | exact C.r7_Null | exact C.r7_Int _))
        | (with_reducible apply k_d <;> intro _)
        | (with_reducible apply k_b <;> intro _)
      all_goals rfl
    · have hne : max a (0 - a) ≠ 0 := by omega
      by_cases h1 : w64 (Int.tdiv 1125899906842624 (max a (0 - a))) < max b (0 - b)
      · rw [if_pos ⟨h0, h1⟩]
        repeat' first
          | refine st ?_
          | ((with_reducible apply go_i); (conv => whnf))
          | ((with_reducible apply k_pn); (· first | exact hA | exact hB | exact C.r7_Null | exact C.r7_Int _))
          | ((with_reducible apply k_pc); (· first | exact hA | exact hB | exact C.r7_Null | exact C.r7_Int _))
          | (with_reducible apply k_d <;> intro _)
          | (with_reducible apply k_b <;> intro _)
        all_goals rfl
      · rw [if_neg (fun h => h1 h.2)]
        repeat' first
          | refine st ?_
          | ((with_reducible apply go_i); (conv => whnf))
          | ((with_reducible apply k_pn); (· first | exact hA | exact hB | exact C.r7_Null | exact C.r7_Int _))
          | ((with_reducible apply k_pc); (· first | exact hA | exact hB | exact C.r7_Null | exact C.r7_Int _))
          | (with_reducible apply k_d <;> intro _)
          | (with_reducible apply k_b <;> intro _)
        all_goals rfl
  unfold vBin
  rw [if_neg h13, if_neg h14, if_neg h15]
  by_cases h0 : b = 0
  · rw [if_pos h0]
    repeat' first
      | refine st ?_
      | ((with_reducible apply go_i); (conv => whnf))
      | ((with_reducible apply k_pn); (· first | exact C.r7_Null | exact C.r7_Int _))
      | ((with_reducible apply k_pc); (· first | exact C.r7_Null | exact C.r7_Int _))
      | (with_reducible apply k_d <;> intro _)
      | (with_reducible apply k_b <;> intro _)
    all_goals rfl
  rw [if_neg h0]
  by_cases h16 : op = 16
  · rw [if_pos h16]
    repeat' first
      | refine st ?_
      | ((with_reducible apply go_i); (conv => whnf))
      | ((with_reducible apply k_pn); (· first | exact C.r7_Null | exact C.r7_Int _))
      | ((with_reducible apply k_pc); (· first | exact C.r7_Null | exact C.r7_Int _))
      | (with_reducible apply k_d <;> intro _)
      | (with_reducible apply k_b <;> intro _)
    all_goals rfl
  · rw [if_neg h16]
    repeat' first
      | refine st ?_
      | ((with_reducible apply go_i); (conv => whnf))
      | ((with_reducible apply k_pn); (· first | exact C.r7_Null | exact C.r7_Int _))
      | ((with_reducible apply k_pc); (· first | exact C.r7_Null | exact C.r7_Int _))
      | (with_reducible apply k_d <;> intro _)
      | (with_reducible apply k_b <;> intro _)
    all_goals rfl
end Go.Proofs
end
section
/- Operators on lists of values. No condition. -/
set_option linter.unusedSimpArgs false
set_option linter.unusedVariables false
set_option maxRecDepth 10000
set_option maxHeartbeats 4000000
namespace Go.Proofs
open Go.Bi

/-! ### Conjunctions and disjunctions -/
def lgS (op t : Int) (v : Vl) : Int := if op = 5 then tAnd t (vTruth v) else tOr t (vTruth v)
def lgF (op : Int) (a : Vl) (r : List Vl) : Int := r.foldl (lgS op) (vTruth a)
theorem foldl_take_succ {α β : Type} (f : β → α → β) (b : β) (l : List α) (i : Nat) (x : α) (h : l[i]? = some x) : (l.take (i + 1)).foldl f b = f ((l.take i).foldl f b) x := by
  rw [List.take_add_one, h]; simp
theorem C.r11_logic (op : Int) (a : Vl) (r : List Vl) (hl : r.length ≤ 1048576) : Pure Tryz.prog N.bt_ref11_logic [.d (eI op), .d (.sl (eVs (a :: r)))] (eV (vOf (lgF op a r))) := by
  refine F.bt_ref11_logic.go mixed rfl ?_
  have h1 : (eVs (a :: r)).length = r.length + 1 := by rw [eVs_len]; rfl
  have hm := eVs_mem (a :: r)
  have hg0 : (eVs (a :: r))[(0 : Nat)]? = some a.ds := rfl
  obtain ⟨es, hes⟩ : ∃ es, es = eVs (a :: r) := ⟨_, rfl⟩
  rw [← hes] at h1 hm hg0 ⊢
  repeat' first
    | refine st ?_
    | ((with_reducible apply go_i); (conv => whnf))
    | ((with_reducible apply k_pn); (· exact C.r7_Truth _))
    | ((with_reducible apply k_pc); (· exact C.r7_Truth _))
    | (with_reducible apply k_d <;> intro _)
    | (with_reducible apply k_b <;> intro _)
  refine x_loop2 mixed Lt.bt_ref11_logic_l0 Lk.bt_ref11_logic_l0 (fun (i : Nat) (t : Int) => [.d (eI t), .d (eI (i + 1))]) (fun i t => [.cells [.d (eI 0), .d (eI 0), .d (.str [])]]) (fun i t => i ≤ r.length ∧ t = (r.take i).foldl (lgS op) (vTruth a)) (fun i _ => r.length - i) 0 (vTruth a) rfl rfl rfl rfl (fun _ _ _ => ⟨rfl, rfl⟩) rfl ⟨by omega, rfl⟩ ?_
  repeat' first
    | refine st ?_
    | ((with_reducible apply go_i); (conv => whnf))
    | (with_reducible apply k_d <;> intro _)
    | (with_reducible apply k_b <;> intro _)
  intro i t ⟨h2, h3⟩
  cases hx : r[i]? with
  | some v =>
    have hlt := (List.getElem?_eq_some_iff.1 hx).1
    have hg : es[((i : Int) + 1).toNat]? = some v.ds := by
      rw [hes, show ((i : Int) + 1).toNat = i + 1 by omega]
      exact eVs_get (l := a :: r) (by simpa using hx)
    by_cases h5 : op = 5
    · repeat' first
        | refine st ?_
        | ((with_reducible apply go_i); (conv => whnf))
        | ((with_reducible apply k_pn); (· first | exact C.r7_Truth _ | exact C.r7_And _ _))
        | ((with_reducible apply k_pc); (· first | exact C.r7_Truth _ | exact C.r7_And _ _))
        | (with_reducible apply k_d <;> intro _)
        | (with_reducible apply k_b <;> intro _)
      refine ⟨i + 1, _, rfl, rfl, rfl, by omega, by omega, ?_⟩
      rw [foldl_take_succ _ _ _ _ _ hx, ← h3, lgS, if_pos h5]
    · repeat' first
        | refine st ?_
        | ((with_reducible apply go_i); (conv => whnf))
        | ((with_reducible apply k_pn); (· first | exact C.r7_Truth _ | exact C.r7_Or _ _))
        | ((with_reducible apply k_pc); (· first | exact C.r7_Truth _ | exact C.r7_Or _ _))
        | (with_reducible apply k_d <;> intro _)
        | (with_reducible apply k_b <;> intro _)
      refine ⟨i + 1, _, rfl, rfl, rfl, by omega, by omega, ?_⟩
      rw [foldl_take_succ _ _ _ _ _ hx, ← h3, lgS, if_neg h5]
  | none =>
    have hge := List.getElem?_eq_none_iff.1 hx
    rw [List.take_of_length_le hge] at h3
    subst h3
    repeat' first
      | refine st ?_
      | ((with_reducible apply go_i); (conv => whnf))
      | ((with_reducible apply k_pn); (· exact C.r7_Of _))
      | ((with_reducible apply k_pc); (· exact C.r7_Of _))
      | (with_reducible apply k_d <;> intro _)
      | (with_reducible apply k_b <;> intro _)
    rfl
theorem C.expr_logic4 (a : Vl) (r : List Vl) (hl : r.length ≤ 1048576) : Pure Tryz.prog N.expr_logic [.d (eI 4), .d (.sl (eVs (a :: r)))] (eV (vOf (tNot (vTruth a)))) := by
  refine F.expr_logic.go mixed rfl ?_
  have h1 : (eVs (a :: r)).length = r.length + 1 := by rw [eVs_len]; rfl
  have hm := eVs_mem (a :: r)
  have hg0 : (eVs (a :: r))[(0 : Nat)]? = some a.ds := rfl
  obtain ⟨es, hes⟩ : ∃ es, es = eVs (a :: r) := ⟨_, rfl⟩
  rw [← hes] at h1 hm hg0 ⊢
  repeat' first
    | refine st ?_
    | ((with_reducible apply go_i); (conv => whnf))
    | ((with_reducible apply k_pn); (· first | exact C.value_Truth _ | exact C.value_Not _ | exact C.value_Of _))
    | ((with_reducible apply k_pc); (· first | exact C.value_Truth _ | exact C.value_Not _ | exact C.value_Of _))
    | (with_reducible apply k_d <;> intro _)
    | (with_reducible apply k_b <;> intro _)
theorem C.expr_logic (op : Int) (h56 : op = 5 ∨ op = 6) (a : Vl) (r : List Vl) (hl : r.length ≤ 1048576) : Pure Tryz.prog N.expr_logic [.d (eI op), .d (.sl (eVs (a :: r)))] (eV (vOf (lgF op a r))) := by
  refine F.expr_logic.go mixed rfl ?_
  have h1 : (eVs (a :: r)).length = r.length + 1 := by rw [eVs_len]; rfl
  have hm := eVs_mem (a :: r)
  have hg0 : (eVs (a :: r))[(0 : Nat)]? = some a.ds := rfl
  have hcut : ((eVs (a :: r)).drop (1 : Int).toNat).take (((eVs (a :: r)).length : Int).toNat - (1 : Int).toNat) = eVs r := by
    rw [h1, show (1 : Int).toNat = 1 from rfl, show (((r.length + 1 : Nat) : Int)).toNat - 1 = r.length by omega]
    show ((eVs (a :: r)).drop 1).take r.length = _
    have : (eVs (a :: r)).drop 1 = eVs r := rfl
    rw [this, List.take_of_length_le (by rw [eVs_len]; omega)]
  obtain ⟨es, hes⟩ : ∃ es, es = eVs (a :: r) := ⟨_, rfl⟩
  rw [← hes] at h1 hm hg0 hcut ⊢
  obtain ⟨es2, hes2⟩ : ∃ es2, es2 = (es.drop (1 : Int).toNat).take ((es.length : Int).toNat - (1 : Int).toNat) := ⟨_, rfl⟩
  rw [← hes2] at hcut
  have h12 : es2.length = r.length := by rw [hcut, eVs_len]
  have hm2 : ∀ e ∈ es2, e.length = 3 := by rw [hcut]; exact eVs_mem r
  rcases h56 with rfl | rfl
  · repeat' first
      | refine st ?_
      | ((with_reducible apply go_i); (conv => whnf))
      | ((with_reducible apply k_pn); (· exact C.value_Truth _))
      | ((with_reducible apply k_pc); (· exact C.value_Truth _))
      | (with_reducible apply k_d <;> intro _)
      | (with_reducible apply k_b <;> intro _)
    all_goals (rw [← hes2])
    repeat' first
      | refine st ?_
      | ((with_reducible apply go_i); (conv => whnf))
      | ((with_reducible apply k_pn); (· exact C.value_Truth _))
      | ((with_reducible apply k_pc); (· exact C.value_Truth _))
      | (with_reducible apply k_d <;> intro _)
      | (with_reducible apply k_b <;> intro _)
    refine x_loop2 mixed Lt.expr_logic_l0 Lk.expr_logic_l0 (fun (i : Nat) (t : Int) => [.d (eI t), .d (eI i)]) (fun i t => [.cells [.d (eI 0), .d (eI 0), .d (.str [])]]) (fun i t => i ≤ r.length ∧ t = (r.take i).foldl (lgS 5) (vTruth a)) (fun i _ => r.length - i) 0 (vTruth a) rfl rfl rfl rfl (fun _ _ _ => ⟨rfl, rfl⟩) rfl ⟨by omega, rfl⟩ ?_
    repeat' first
      | refine st ?_
      | ((with_reducible apply go_i); (conv => whnf))
      | (with_reducible apply k_d <;> intro _)
      | (with_reducible apply k_b <;> intro _)
    intro i t ⟨h2, h3⟩
    cases hx : r[i]? with
    | some v =>
      have hlt := (List.getElem?_eq_some_iff.1 hx).1
      have hg : es2[(i : Int).toNat]? = some v.ds := by rw [hcut]; exact eVs_get (l := r) hx
      repeat' first
        | refine st ?_
        | ((with_reducible apply go_i); (conv => whnf))
        | ((with_reducible apply k_pn); (· first | exact C.value_Truth _ | exact C.value_And _ _))
        | ((with_reducible apply k_pc); (· first | exact C.value_Truth _ | exact C.value_And _ _))
        | (with_reducible apply k_d <;> intro _)
        | (with_reducible apply k_b <;> intro _)
      refine ⟨i + 1, _, rfl, rfl, rfl, by omega, by omega, ?_⟩
      rw [foldl_take_succ _ _ _ _ _ hx, ← h3]; rfl
    | none =>
      have hge := List.getElem?_eq_none_iff.1 hx
      rw [List.take_of_length_le hge] at h3
      subst h3
      repeat' first
        | refine st ?_
        | ((with_reducible apply go_i); (conv => whnf))
        | ((with_reducible apply k_pn); (· exact C.value_Of _))
        | ((with_reducible apply k_pc); (· exact C.value_Of _))
        | (with_reducible apply k_d <;> intro _)
        | (with_reducible apply k_b <;> intro _)
      rfl
  · repeat' first
      | refine st ?_
      | ((with_reducible apply go_i); (conv => whnf))
      | ((with_reducible apply k_pn); (· exact C.value_Truth _))
      | ((with_reducible apply k_pc); (· exact C.value_Truth _))
      | (with_reducible apply k_d <;> intro _)
      | (with_reducible apply k_b <;> intro _)
    all_goals (rw [← hes2])
    repeat' first
      | refine st ?_
      | ((with_reducible apply go_i); (conv => whnf))
      | ((with_reducible apply k_pn); (· exact C.value_Truth _))
      | ((with_reducible apply k_pc); (· exact C.value_Truth _))
      | (with_reducible apply k_d <;> intro _)
      | (with_reducible apply k_b <;> intro _)
    refine x_loop2 mixed Lt.expr_logic_l1 Lk.expr_logic_l1 (fun (i : Nat) (t : Int) => [.d (eI t), .d (eI i)]) (fun i t => [.cells [.d (eI 0), .d (eI 0), .d (.str [])]]) (fun i t => i ≤ r.length ∧ t = (r.take i).foldl (lgS 6) (vTruth a)) (fun i _ => r.length - i) 0 (vTruth a) rfl rfl rfl rfl (fun _ _ _ => ⟨rfl, rfl⟩) rfl ⟨by omega, rfl⟩ ?_
    repeat' first
      | refine st ?_
      | ((with_reducible apply go_i); (conv => whnf))
      | (with_reducible apply k_d <;> intro _)
      | (with_reducible apply k_b <;> intro _)
    intro i t ⟨h2, h3⟩
    cases hx : r[i]? with
    | some v =>
      have hlt := (List.getElem?_eq_some_iff.1 hx).1
      have hg : es2[(i : Int).toNat]? = some v.ds := by rw [hcut]; exact eVs_get (l := r) hx
      repeat' first
        | refine st ?_
        | ((with_reducible apply go_i); (conv => whnf))
        | ((with_reducible apply k_pn); (· first | exact C.value_Truth _ | exact C.value_Or _ _))
        | ((with_reducible apply k_pc); (· first | exact C.value_Truth _ | exact C.value_Or _ _))
        | (with_reducible apply k_d <;> intro _)
        | (with_reducible apply k_b <;> intro _)
      refine ⟨i + 1, _, rfl, rfl, rfl, by omega, by omega, ?_⟩
      rw [foldl_take_succ _ _ _ _ _ hx, ← h3]; rfl
    | none =>
      have hge := List.getElem?_eq_none_iff.1 hx
      rw [List.take_of_length_le hge] at h3
      subst h3
      repeat' first
        | refine st ?_
        | ((with_reducible apply go_i); (conv => whnf))
        | ((with_reducible apply k_pn); (· exact C.value_Of _))
        | ((with_reducible apply k_pc); (· exact C.value_Of _))
        | (with_reducible apply k_d <;> intro _)
        | (with_reducible apply k_b <;> intro _)
      rfl
end Go.Proofs
end
