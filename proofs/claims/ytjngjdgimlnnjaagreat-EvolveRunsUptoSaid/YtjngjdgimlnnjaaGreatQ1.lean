/- Texts of this claim, joined. No condition. -/
import Derived.Test.YtjngjdgimlnnjaaGreatBi
import Derived.Test.YtjngjdgimlnnjaaGreatIc0
import Derived.Test.YtjngjdgimlnnjaaGreatIc1
import Derived.Lib.Strings
import Derived.Lib.Slices
import Derived.Lib.Walk
import Derived.Lib.Bytealg
set_option linter.unusedSimpArgs false
set_option linter.unusedVariables false
set_option maxRecDepth 10000
set_option maxHeartbeats 4000000
section
namespace Go.Bi
open Go
section
variable {P : Program} {n nb : Nat} {M : Mem} {G : Gh} {os : List AO} {w : World} {ρ : Rho} {a : Act}
def retOI (Q : AV → List AO → Prop) (rs : List RV) (ρ : Rho) (os : List AO) : Prop := resI ρ os rs fun l => match l with
 | [v] => Q v os
 | _ => False
def retO (Q : AV → List AO → Prop) (rs : List RV) (L : Sl) (os : List AO) : Prop := xRes L os rs fun l => match l with
 | [v] => Q v os
 | _ => False
theorem retO_ok {Q : AV → List AO → Prop} {rs : List RV} {L : Sl} {os : List AO} (h : retO Q rs L os) : retOI Q rs (ofL L) os := xRes_ok h
theorem own_ok {c : Ctx} (hR : Rel n nb c M G os w ρ a) {fn : Func} {rs : List RV} (hrs : fn.results.toList.mapM (cRV P) = some rs) {Q : AV → List AO → Prop} (h : retOI Q rs ρ os) :
  ∃ v, (results fn a.tmps).run P w = .ok v w ∧ ∃ M' G' r os', Env M' G' os' w ∧ Since c.M c.G c.os c.w M' G' os' w ∧ VA M' G' os' r v ∧ Q r os' := by
 obtain ⟨l, vs, h1, h2, h3, h4⟩ := resI_run hR.env hR.tmps _ rs hrs _ h
 match l, h1, h3, h4 with
 | [x], h1, h3, h4 =>
  simp only [List.length_cons, List.length_nil] at h3
  refine ⟨_, run_results h2, M, G, x, os, hR.env, hR.since, ?_, h1⟩
  rw [dif_pos (by omega)]
  exact h4 0 x vs[0] rfl (List.getElem?_eq_getElem (by omega))
theorem fn_own (hm : P.follows .mixedOrders = true) {f : FuncId} {fn : Func} {code : Code} {ic : IC} {rs : List RV} (hf : P.funcs[f]? = some fn) (hname : fn.name ≠ "runtime.NumGoroutine") (hb : fn.body = some code) (hc : cC P fn.ntmps code = some ic)
  (hrs : fn.results.toList.mapM (cRV P) = some rs) {args : List AV} {bs : List AO} (hargs : args.length ≤ fn.ntmps) {Q : AV → List AO → Prop}
  (h : wpI P fn.ntmps bs.length ic { norm := retOI Q rs, exit := fun _ _ _ => False, ret := retOI Q rs } (argsRho args) bs) : CallSpec P f args bs Q := by
 refine ⟨⟨fn, hf, by rw [hb]; rfl, hname⟩, fun M G w vs he hl hv => ?_⟩
 refine calls_of_wp hf hb (wp_mono (wpI_tri hm code ic hc _ _ _ h ⟨M, G, bs, w⟩ M G w { tmps := vs ++ Array.replicate (fn.ntmps - vs.size) undef, defers := [] } ?_) fun e a' w' hp => ?_)
 ·exact {
   env := he, since := Since.refl .., size := by simp; omega, defers := rfl, base := rfl
   tmps := fun t => by
    unfold argsRho
    by_cases ht : t < args.length
    ·have h1 : (vs ++ Array.replicate (fn.ntmps - vs.size) undef).getD t undef = vs[t] := by
      simp [Array.getElem?_append_left (show t < vs.size by omega), show t < vs.size by omega]
     have h2 : args.getD t .junk = args[t] := by simp [ht]
     show VA M G bs (args.getD t .junk) ((vs ++ Array.replicate (fn.ntmps - vs.size) undef).getD t undef)
     rw [h1, h2]
     have := hv t args[t] vs[t] (List.getElem?_eq_getElem ht) (Array.getElem?_eq_getElem (by omega))
     generalize args[t] = c at this
     cases c with
     | tup cs => exact this.elim
     | junk => trivial
     | _ => exact this
    ·have : args.getD t .junk = .junk := by simp [List.getD_eq_getElem?_getD, List.getElem?_eq_none (Nat.le_of_not_lt ht)]
     rw [this]
     trivial }
 ·have fin : Fits fn.ntmps bs.length ⟨M, G, bs, w⟩ (retOI Q rs) a' w' → a'.defers = [] ∧ ∃ v, (results fn a'.tmps).run P w' = .ok v w' ∧ ∃ v', Ending.returned v = .returned v' ∧ ∃ M' G' r os', Env M' G' os' w' ∧ Since M G bs w M' G' os' w' ∧ VA M' G' os' r v' ∧ Q r os' := by
   rintro ⟨M', G', os', ρ', hR, hk⟩
   obtain ⟨v, h1, h2⟩ := own_ok hR hrs hk
   exact ⟨hR.defers, v, h1, v, rfl, h2⟩
  cases e with
  | normal => exact fin hp
  | ret => exact fin hp
  | exit id => obtain ⟨_, _, _, _, _, hk⟩ := hp; exact hk.elim
  | _ => exact hp.elim
end
theorem IsFn.goO {P : Program} (hm : P.follows .mixedOrders = true) {f n : Nat} {ic : IC} {rs : List RV} (h : IsFn P f n ic rs) {args : List AV} {bs : List AO} (hargs : Nat.ble args.length n = true) {Q : AV → List AO → Prop}
  (hw : Go (xI P n bs.length ic (retO Q rs) (fun _ _ _ => False) (retO Q rs) (argsL 0 args) bs)) : CallSpec P f args bs Q := by
 obtain ⟨fn, h1, h2, h3, h4, h5⟩ := h
 obtain ⟨code, hb, hc⟩ := Option.bind_eq_some_iff.1 h4
 subst h2
 refine fn_own hm h1 (by simpa using h3) hb hc h5 (Nat.le_of_ble_eq_true hargs) ?_
 rw [ofL_args]
 exact xI_ok (K := ⟨retO Q rs, fun _ _ _ => False, retO Q rs⟩) ⟨fun L os h => retO_ok h, fun _ _ _ h => h, fun L os h => retO_ok h⟩ hw
theorem CallSpec.alone {P : Program} {g : FuncId} {args : List AV} {Q : AV → List AO → Prop} (h : CallSpec P g args [] Q) (hd : ∀ a ∈ args, ∃ x, a = .d x) (os : List AO) :
  CallSpec P g args os (fun r os' => ∃ r0 os0, Q r0 os0 ∧ r = mA (rn [] os.length) r0 ∧ os' = os ++ os0.map (mO (rn [] os.length))) := by
 have := CallSpec.frame (K := fun r os' => ∃ r0 os0, Q r0 os0 ∧ r = mA (rn [] os.length) r0 ∧ os' = os ++ os0.map (mO (rn [] os.length))) h [] os rfl (by simp) (fun i x hx => by simp at hx)
  (fun a ha => by obtain ⟨x, rfl⟩ := hd a ha; trivial) (fun x hx => by simp at hx) (fun r bs' hq => ⟨r, bs', hq, rfl, rfl⟩)
 have e : args.map (mG (rn [] os.length)) = args := by
  rw [List.map_congr_left (g := id) (fun a ha => by obtain ⟨x, rfl⟩ := hd a ha; rfl), List.map_id]
 rwa [e] at this
end Go.Bi
end
section
namespace Go.Proofs
open Go.Bi
abbrev eI (n : Int) : D := .int .i64 n
def eIs (l : List Int) : List (List D) := l.map fun r => [eI r]
theorem eIs_get {l : List Int} {i : Nat} {r : Int} (h : l[i]? = some r) : (eIs l)[i]? = some [eI r] := by simp [eIs, h]
theorem eIs_len (l : List Int) : (eIs l).length = l.length := by simp [eIs]
theorem eIs_mem (l : List Int) : ∀ e ∈ eIs l, e.length = 1 := by
 intro e he
 obtain ⟨x, _, rfl⟩ := List.mem_map.1 he
 rfl
theorem all_take_succ {α : Type} {f : α → Bool} {l : List α} {i : Nat} {x : α} (h : l[i]? = some x) : (l.take (i + 1)).all f = ((l.take i).all f && f x) := by
 simp only [List.take_add_one, h, List.all_append, Option.toList, List.all_cons, List.all_nil, Bool.and_true]
theorem all_none {α : Type} {f : α → Bool} {l : List α} {i : Nat} {x : α} (h : l[i]? = some x) (hx : f x = false) : l.all f = false := by
 rw [Bool.eq_false_iff]
 intro ha
 rw [List.all_eq_true.1 ha x (List.mem_of_getElem? h)] at hx
 cases hx
def valid (a b : Int) : Bool := decide (0 ≤ a ∧ a < b ∧ b ≤ 1099511627776)
end Go.Proofs
end
section
namespace Go.Proofs
open Go.Bi
structure Vl where
 k : Int
 n : Int
 s : List UInt8
 deriving DecidableEq
abbrev Vl.ds (v : Vl) : List D := [eI v.k, eI v.n, .str v.s]
abbrev eV (v : Vl) : AV := .agg [.d (eI v.k), .d (eI v.n), .d (.str v.s)]
def vNull : Vl := ⟨0, 0, []⟩
def prC (c : UInt8) : Bool := decide (32 ≤ c.toNat ∧ c.toNat ≤ 126)
def prB (s : List UInt8) : Bool := s.all prC
def vValid (v : Vl) : Bool :=
 if v.k = 0 then decide (v.n = 0 ∧ v.s = [])
 else if v.k = 1 then decide (v.s = [] ∧ -1125899906842624 ≤ v.n ∧ v.n ≤ 1125899906842624)
 else if v.k = 2 then decide (v.n = 0 ∧ v.s.length ≤ 200) && prB v.s
 else if v.k = 3 then decide (v.s = [] ∧ (v.n = 0 ∨ v.n = 1)) else false
theorem C.value_printable (s : List UInt8) (hs : s.length ≤ 4611686018427387904) : Pure Tryz.prog N.value_printable [.d (.str s)] (.d (.bool (prB s))) := by
 refine F.value_printable.go mixed rfl ?_
 repeat' first|refine st ?_|((with_reducible apply go_i);conv=>whnf)|(with_reducible first|apply k_d|apply k_b)<;>intro _
 refine x_loop1 mixed Lt.value_printable_l0 Lk.value_printable_l0 (fun (i : Nat) => [.d (eI i)]) (fun i => []) (fun i => i ≤ s.length ∧ (s.take i).all prC = true) (fun i => s.length - i) 0 rfl rfl rfl rfl (fun _ _ => ⟨rfl, rfl⟩) rfl ⟨by omega, rfl⟩ ?_
 repeat' first|refine st ?_|((with_reducible apply go_i);conv=>whnf)|(with_reducible first|apply k_d|apply k_b)<;>intro _
 intro i ⟨h1, h2⟩
 cases hx : s[i]? with
 | some c =>
  have hlt := (List.getElem?_eq_some_iff.1 hx).1
  have hg : s.getD ((i : Int)).toNat 0 = c := by simp [List.getD_eq_getElem?_getD, hx]
  repeat' first|refine st ?_|((with_reducible apply go_i);conv=>whnf)|(with_reducible first|apply k_d|apply k_b)<;>intro _
  ·rename_i h
   rw [hg] at h
   rw [prB, all_none hx (decide_eq_false (by omega))]
  ·rename_i h h'
   rw [hg] at h h'
   rw [prB, all_none hx (decide_eq_false (by omega))]
  ·rename_i h h'
   rw [hg] at h h'
   refine ⟨i + 1, rfl, rfl, rfl, by omega, by omega, ?_⟩
   rw [all_take_succ hx, h2, prC, decide_eq_true (by omega)]; rfl
 | none =>
  have hge := List.getElem?_eq_none_iff.1 hx
  rw [List.take_of_length_le hge] at h2
  repeat' first|refine st ?_|((with_reducible apply go_i);conv=>whnf)|(with_reducible first|apply k_d|apply k_b)<;>intro _
  rw [prB, h2]
theorem C.r7_Printable (s : List UInt8) (hs : s.length ≤ 4611686018427387904) : Pure Tryz.prog N.bt_ref07_Printable [.d (.str s)] (.d (.bool (prB s))) := by
 refine F.bt_ref07_Printable.go mixed rfl ?_
 repeat' first|refine st ?_|((with_reducible apply go_i);conv=>whnf)|(with_reducible first|apply k_d|apply k_b)<;>intro _
 refine x_loop1 mixed Lt.bt_ref07_Printable_l0 Lk.bt_ref07_Printable_l0 (fun (i : Nat) => [.d (eI i)]) (fun i => []) (fun i => i ≤ s.length ∧ (s.take i).all prC = true) (fun i => s.length - i) 0 rfl rfl rfl rfl (fun _ _ => ⟨rfl, rfl⟩) rfl ⟨by omega, rfl⟩ ?_
 repeat' first|refine st ?_|((with_reducible apply go_i);conv=>whnf)|(with_reducible first|apply k_d|apply k_b)<;>intro _
 intro i ⟨h1, h2⟩
 cases hx : s[i]? with
 | some c =>
  have hlt := (List.getElem?_eq_some_iff.1 hx).1
  have hg : s.getD ((i : Int)).toNat 0 = c := by simp [List.getD_eq_getElem?_getD, hx]
  repeat' first|refine st ?_|((with_reducible apply go_i);conv=>whnf)|(with_reducible first|apply k_d|apply k_b)<;>intro _
  ·rename_i h
   rw [hg] at h
   rw [prB, all_none hx (decide_eq_false (by omega))]
  ·rename_i h h'
   rw [hg] at h h'
   rw [prB, all_none hx (decide_eq_false (by omega))]
  ·rename_i h h'
   rw [hg] at h h'
   refine ⟨i + 1, rfl, rfl, rfl, by omega, by omega, ?_⟩
   rw [all_take_succ hx, h2, prC, decide_eq_true (by omega)]; rfl
 | none =>
  have hge := List.getElem?_eq_none_iff.1 hx
  rw [List.take_of_length_le hge] at h2
  repeat' first|refine st ?_|((with_reducible apply go_i);conv=>whnf)|(with_reducible first|apply k_d|apply k_b)<;>intro _
  rw [prB, h2]
theorem C.value_Valid (v : Vl) (hs : v.s.length ≤ 4611686018427387904) : Pure Tryz.prog N.value_Valid [eV v] (.d (.bool (vValid v))) := by
 refine F.value_Valid.go mixed rfl ?_
 have hP := C.value_printable v.s hs
 repeat' first|refine st ?_|((with_reducible apply go_i);conv=>whnf)|((with_reducible first|apply k_pn|apply k_pc);(·exact hP))|(with_reducible first|apply k_d|apply k_b)<;>intro _
 all_goals (simp_all [vValid] <;> omega)
theorem C.r7_Valid (v : Vl) (hs : v.s.length ≤ 4611686018427387904) : Pure Tryz.prog N.bt_ref07_Valid [eV v] (.d (.bool (vValid v))) := by
 refine F.bt_ref07_Valid.go mixed rfl ?_
 have hP := C.r7_Printable v.s hs
 repeat' first|refine st ?_|((with_reducible apply go_i);conv=>whnf)|((with_reducible first|apply k_pn|apply k_pc);(·exact hP))|(with_reducible first|apply k_d|apply k_b)<;>intro _
 all_goals (simp_all [vValid] <;> omega)
theorem C.r7_Null : Pure Tryz.prog N.bt_ref07_Null [] (eV vNull) := by
 refine F.bt_ref07_Null.go mixed rfl ?_
 repeat' first|refine st ?_|((with_reducible apply go_i);conv=>whnf)|(with_reducible first|apply k_d|apply k_b)<;>intro _
 all_goals rfl
def vOrN (v : Vl) : Vl := if vValid v then v else vNull
theorem C.r7_valid (v : Vl) (hs : v.s.length ≤ 4611686018427387904) : Pure Tryz.prog N.bt_ref07_valid [eV v] (eV (vOrN v)) := by
 refine F.bt_ref07_valid.go mixed rfl ?_
 have hV := C.r7_Valid v hs
 repeat' first|refine st ?_|((with_reducible apply go_i);conv=>whnf)|((with_reducible first|apply k_pn|apply k_pc);(·first|exact hV|exact C.r7_Null))|(with_reducible first|apply k_d|apply k_b)<;>intro _
 all_goals simp_all [vOrN]
def vInt (n : Int) : Vl := vOrN ⟨1, n, []⟩
theorem C.r7_Int (n : Int) : Pure Tryz.prog N.bt_ref07_Int [.d (eI n)] (eV (vInt n)) := by
 refine F.bt_ref07_Int.go mixed rfl ?_
 have hV := C.r7_valid ⟨1, n, []⟩ (by simp)
 repeat' first|refine st ?_|((with_reducible apply go_i);conv=>whnf)|((with_reducible first|apply k_pn|apply k_pc);(·exact hV))|(with_reducible first|apply k_d|apply k_b)<;>intro _
 all_goals rfl
end Go.Proofs
end
section
set_option maxRecDepth 100000
set_option maxHeartbeats 8000000
namespace Go.Proofs
open Go.Bi
def words : List (List UInt8) := [[97, 100, 100], [97, 102, 116, 101, 114], [97, 108, 108], [97, 108, 116, 101, 114], [97, 110, 100], [97, 115], [98, 101, 102, 111, 114, 101], [98, 101, 103, 105, 110], [98, 101, 116, 119, 101, 101, 110], [98, 111, 111, 108], [98, 121], [99, 104, 101, 99, 107], [99, 111, 97, 108, 101, 115, 99, 101], [99, 111, 109, 109, 105, 116], [99, 111, 110, 116, 97, 105, 110, 115], [99, 111, 117, 110, 116], [99, 114, 101, 97, 116, 101], [100, 101, 102, 97, 117, 108, 116], [100, 101, 108, 101, 116, 101], [100, 101, 115, 99], [100, 105, 115, 116, 105, 110, 99, 116], [100, 114, 111, 112], [100, 117, 114, 105, 110, 103], [101, 113, 117, 97, 108, 115], [101, 120, 99, 101, 112, 116], [102, 97, 108, 115, 101], [102, 105, 110, 105, 115, 104, 101, 100, 98, 121], [102, 105, 110, 105, 115, 104, 101, 115], [102, 111, 114, 101, 105, 103, 110], [102, 111, 114, 101, 118, 101, 114], [102, 114, 111, 109], [103, 114, 111, 117, 112], [104, 111, 108, 100], [105, 102], [105, 110, 115, 101, 114, 116], [105, 110, 116], [105, 110, 116, 101, 114, 115, 101, 99, 116], [105, 110, 116, 111], [105, 115], [106, 111, 105, 110], [107, 101, 121], [108, 101, 102, 116], [108, 101, 110, 103, 116, 104], [108, 105, 109, 105, 116], [109, 97, 120], [109, 101, 101, 116, 115], [109, 101, 116, 98, 121], [109, 105, 110], [110, 111, 110, 115, 101, 113, 117, 101, 110, 99, 101, 100], [110, 111, 116], [110, 111, 119], [110, 117, 108, 108], [111, 102], [111, 110], [111, 114], [111, 114, 100, 101, 114], [111, 118, 101, 114, 108, 97, 112, 112, 101, 100, 98, 121], [111, 118, 101, 114, 108, 97, 112, 115], [112, 114, 105, 109, 97, 114, 121], [112, 114, 117, 110, 101], [114, 101, 102, 101, 114, 101, 110, 99, 101, 115], [114, 101, 108, 101, 97, 115, 101], [114, 101, 110, 97, 109, 101], [114, 101, 116, 97, 105, 110], [114, 111, 108, 108, 98, 97, 99, 107], [115, 101, 108, 101, 99, 116], [115, 101, 113, 117, 101, 110, 99, 101, 100], [115, 101, 116], [115, 116, 97, 114, 116, 101, 100, 98, 121], [115, 116, 97, 114, 116, 115], [115, 117, 109], [115, 121, 115, 116, 101, 109], [115, 121, 115, 116, 101, 109, 102, 114, 111, 109], [115, 121, 115, 116, 101, 109, 116, 111], [116, 97, 98, 108, 101], [116, 101, 120, 116], [116, 111], [116, 114, 117, 101], [116, 120], [117, 110, 100, 101, 114], [117, 110, 105, 111, 110], [117, 112, 100, 97, 116, 101], [118, 97, 108, 105, 100], [118, 97, 108, 105, 100, 102, 114, 111, 109], [118, 97, 108, 105, 100, 116, 111], [118, 97, 108, 117, 101, 115], [119, 104, 101, 114, 101]]
def eSs (l : List (List UInt8)) : List (List D) := l.map fun s => [.str s]
theorem eSs_len (l : List (List UInt8)) : (eSs l).length = l.length := by simp [eSs]
theorem eSs_get {l : List (List UInt8)} {i : Nat} {s : List UInt8} (h : l[i]? = some s) : (eSs l)[i]? = some [.str s] := by simp [eSs, h]
theorem eSs_mem (l : List (List UInt8)) : ∀ e ∈ eSs l, e.length = 1 := by
 intro e he
 obtain ⟨x, _, rfl⟩ := List.mem_map.1 he
 rfl
theorem C.schema_reserved (s : List UInt8) : Pure Tryz.prog N.schema_reserved [.d (.str s)] (.d (.bool (decide (s ∈ words)))) := by
 refine F.schema_reserved.go mixed rfl ?_
 obtain ⟨b, hb⟩ : ∃ b, b = decide (s ∈ words) := ⟨_, rfl⟩
 rw [← hb]
 repeat' first|refine st ?_|(with_reducible first|apply k_d|apply k_b)<;>intro _
 all_goals first
  | (subst_vars; rfl)
  | (rw [hb, decide_eq_false]; simp [words, *])
theorem C.r13_Words : Pure Tryz.prog N.bt_ref13_Words [] (.d (.sl (eSs words))) := by
 refine F.bt_ref13_Words.go mixed rfl ?_
 repeat' first|refine st ?_|(with_reducible first|apply k_d|apply k_b)<;>intro _
 all_goals rfl
theorem C.r13_in (l : List (List UInt8)) (hl : l.length ≤ 1048576) (d : D) (hd : SlD d (eSs l)) (s : List UInt8) : Pure Tryz.prog N.bt_ref13_in [.d d, .d (.str s)] (.d (.bool (decide (s ∈ l)))) := by
 refine F.bt_ref13_in.go mixed rfl ?_
 have h1 := eSs_len l
 have hm := eSs_mem l
 obtain ⟨b, hb⟩ : ∃ b, b = decide (s ∈ l) := ⟨_, rfl⟩
 rw [← hb]
 repeat' first|refine st ?_|(with_reducible first|apply k_d|apply k_b)<;>intro _
 refine x_loop1 mixed Lt.bt_ref13_in_l0 Lk.bt_ref13_in_l0 (fun (i : Nat) => [.d (eI i)]) (fun i => []) (fun i => i ≤ l.length ∧ ¬ s ∈ l.take i) (fun i => l.length - i) 0 rfl rfl rfl rfl (fun _ _ => ⟨rfl, rfl⟩) rfl ⟨by omega, by simp⟩ ?_
 repeat' first|refine st ?_|(with_reducible first|apply k_d|apply k_b)<;>intro _
 intro i ⟨h2, h3⟩
 cases hx : l[i]? with
 | some x =>
  have hlt := (List.getElem?_eq_some_iff.1 hx).1
  have hg := eSs_get hx
  by_cases h : x = s
  ·rw [hb, decide_eq_true (h ▸ List.mem_of_getElem? hx)]
   repeat' first|refine st ?_|(with_reducible first|apply k_d|apply k_b)<;>intro _
   all_goals rfl
  ·repeat' first|refine st ?_|(with_reducible first|apply k_d|apply k_b)<;>intro _
   refine ⟨i + 1, rfl, rfl, rfl, by omega, by omega, ?_⟩
   rw [List.take_add_one, hx]
   intro hmem
   rcases List.mem_append.1 hmem with hm2 | hm2
   ·exact h3 hm2
   ·simp at hm2; exact h hm2.symm
 | none =>
  have hge := List.getElem?_eq_none_iff.1 hx
  rw [List.take_of_length_le hge] at h3
  rw [hb, decide_eq_false h3]
  repeat' first|refine st ?_|(with_reducible first|apply k_d|apply k_b)<;>intro _
  all_goals rfl
def okC (p : UInt8 × Nat) : Bool := decide (97 ≤ p.1.toNat ∧ p.1.toNat ≤ 122) || decide (p.1.toNat = 95) || (decide (48 ≤ p.1.toNat ∧ p.1.toNat ≤ 57) && decide (p.2 ≠ 0))
def okS (s : List UInt8) : Bool := s.zipIdx.all okC
def nameB (s : List UInt8) : Bool := okS s && decide (1 ≤ s.length ∧ s.length ≤ 24) && !decide (s ∈ words)
theorem zip_get {s : List UInt8} {i : Nat} {c : UInt8} (h : s[i]? = some c) : s.zipIdx[i]? = some (c, i) := by
 rw [List.getElem?_zipIdx, h]; simp
theorem dec_lo {s : List UInt8} {p : Nat} {c : UInt8} (h : s[p]? = some c) (hc : c.toNat < 128) : Utf8.decode ⟨⟨s⟩⟩ p = (c.toNat, 1) := by
 have e : (ByteArray.mk ⟨s⟩).get! (p + 0) = c := by
  obtain ⟨hlt, he⟩ := List.getElem?_eq_some_iff.1 h
  show (⟨s⟩ : Array UInt8)[p]! = c
  rw [getElem!_pos (⟨s⟩ : Array UInt8) p hlt]
  exact he
 unfold Utf8.decode
 simp only [e]
 rw [if_pos hc]
theorem dec_hi {s : List UInt8} {p : Nat} {c : UInt8} (h : s[p]? = some c) (hc : ¬ c.toNat < 128) : 128 ≤ (Utf8.decode ⟨⟨s⟩⟩ p).1 ∧ (Utf8.decode ⟨⟨s⟩⟩ p).1 ≤ 1114111 := by
 have e : (ByteArray.mk ⟨s⟩).get! (p + 0) = c := by
  obtain ⟨hlt, he⟩ := List.getElem?_eq_some_iff.1 h
  show (⟨s⟩ : Array UInt8)[p]! = c
  rw [getElem!_pos (⟨s⟩ : Array UInt8) p hlt]
  exact he
 unfold Utf8.decode
 simp only [e]
 rw [if_neg hc]
 have hv : ∀ n : Nat, Utf8.valid n = true → n ≤ 1114111 := fun n h => by
  simp only [Utf8.valid, Bool.or_eq_true, Bool.and_eq_true, decide_eq_true_eq] at h
  omega
 repeat' split
 all_goals simp only [Utf8.runeError]
 all_goals first | omega | (rename_i h1; simp only [Bool.and_eq_true, decide_eq_true_eq] at h1; exact ⟨by omega, hv _ h1.2⟩) | skip
end Go.Proofs
end
section
namespace Go.Proofs
open Go.Bi
attribute [local irreducible] Go.Utf8.decode
theorem okC_iff (c : UInt8) (p : Nat) : okC (c, p) = true ↔ (97 ≤ c.toNat ∧ c.toNat ≤ 122) ∨ c.toNat = 95 ∨ (48 ≤ c.toNat ∧ c.toNat ≤ 57 ∧ p ≠ 0) := by
 simp only [okC, Bool.or_eq_true, Bool.and_eq_true, decide_eq_true_eq]
 omega
theorem okS_no {s : List UInt8} {p : Nat} {c : UInt8} (h : s[p]? = some c) (hk : okC (c, p) = false) : nameB s = false := by
 have : okS s = false := all_none (zip_get h) hk
 rw [nameB, this]; rfl
theorem C.schema_Name (s : List UInt8) (hs : s.length ≤ 1048576) : Pure Tryz.prog N.schema_Name [.d (.str s)] (.d (.bool (nameB s))) := by
 refine F.schema_Name.go mixed rfl ?_
 have hR := C.schema_reserved s
 obtain ⟨b, hb⟩ : ∃ b, b = nameB s := ⟨_, rfl⟩
 rw [← hb]
 obtain ⟨r, hr⟩ : ∃ r, r = decide (s ∈ words) := ⟨_, rfl⟩
 rw [← hr] at hR
 repeat' first|refine st ?_|(with_reducible first|apply k_d|apply k_b)<;>intro _
 refine x_loop1 mixed Lt.schema_Name_l0 Lk.schema_Name_l0 (fun (p : Nat) => []) (fun p => [.iter s p]) (fun p => p ≤ s.length ∧ (s.zipIdx.take p).all okC = true) (fun p => s.length - p) 0 rfl rfl rfl rfl (fun _ _ => ⟨rfl, rfl⟩) rfl ⟨by omega, by simp⟩ ?_
 repeat' first|refine st ?_|(with_reducible first|apply k_d|apply k_b)<;>intro _
 intro p ⟨h1, h2⟩
 cases hx : s[p]? with
 | some c =>
  have hlt := (List.getElem?_eq_some_iff.1 hx).1
  have hz := zip_get hx
  by_cases hc : c.toNat < 128
  ·have e := dec_lo hx hc
   have e1 : (Utf8.decode ⟨⟨s⟩⟩ p).1 = c.toNat := by rw [e]
   have e2 : (Utf8.decode ⟨⟨s⟩⟩ p).2 = 1 := by rw [e]
   cases hk : okC (c, p) with
   | true =>
    have hs2 := all_take_succ (f := okC) hz
    rw [h2, hk] at hs2
    have hk2 := (okC_iff c p).1 hk
    have hfin : ∀ q, q = p + (Utf8.decode ⟨⟨s⟩⟩ p).2 → q ≤ s.length ∧ (s.zipIdx.take q).all okC = true ∧ s.length - q < s.length - p := fun q hq => by
     rw [e2] at hq
     subst hq
     exact ⟨by omega, hs2, by omega⟩
    clear hs2 hz e hk
    rcases hk2 with ⟨k1, k2⟩ | k1 | ⟨k1, k2, k3⟩
    ·repeat' first|refine st ?_|(with_reducible first|apply k_d|apply k_b)<;>intro _
     obtain ⟨f1, f2, f3⟩ := hfin _ rfl
     exact ⟨_, rfl, rfl, rfl, f3, f1, f2⟩
    ·repeat' first|refine st ?_|(with_reducible first|apply k_d|apply k_b)<;>intro _
     obtain ⟨f1, f2, f3⟩ := hfin _ rfl
     exact ⟨_, rfl, rfl, rfl, f3, f1, f2⟩
    ·repeat' first|refine st ?_|(with_reducible first|apply k_d|apply k_b)<;>intro _
     obtain ⟨f1, f2, f3⟩ := hfin _ rfl
     exact ⟨_, rfl, rfl, rfl, f3, f1, f2⟩
   | false =>
    have hbf : b = false := hb.trans (okS_no hx hk)
    have hk2 : ¬ _ := fun h => Bool.false_ne_true (hk ▸ (okC_iff c p).2 h)
    rw [hbf]
    clear hz e hk
    repeat' first|refine st ?_|(with_reducible first|apply k_d|apply k_b)<;>intro _
    all_goals first | rfl | (exfalso; omega)
  ·have e := dec_hi hx hc
   have hk : okC (c, p) = false := by
    rw [Bool.eq_false_iff]
    intro h
    have := (okC_iff c p).1 h
    omega
   have hbf : b = false := hb.trans (okS_no hx hk)
   rw [hbf]
   repeat' first|refine st ?_|(with_reducible first|apply k_d|apply k_b)<;>intro _
   all_goals first | rfl | (exfalso; omega)
 | none =>
  have hge := List.getElem?_eq_none_iff.1 hx
  rw [List.take_of_length_le (by simpa using hge)] at h2
  have hb2 : b = (decide (1 ≤ s.length ∧ s.length ≤ 24) && !r) := by rw [hb, nameB, okS, h2, hr]; simp
  clear hb hr
  by_cases h : 1 ≤ s.length ∧ s.length ≤ 24
  ·rw [decide_eq_true h] at hb2
   obtain ⟨g1, g2⟩ := h
   rw [hb2]
   repeat' first|refine st ?_|((with_reducible first|apply k_pn|apply k_pc);(·exact hR))|(with_reducible first|apply k_d|apply k_b)<;>intro _
   all_goals first | rfl | (exfalso; omega)
  ·rw [decide_eq_false h] at hb2
   rw [hb2]
   repeat' first|refine st ?_|((with_reducible first|apply k_pn|apply k_pc);(·exact hR))|(with_reducible first|apply k_d|apply k_b)<;>intro _
   all_goals first | rfl | (exfalso; omega)
theorem C.r13_Name (s : List UInt8) (hs : s.length ≤ 1048576) : Pure Tryz.prog N.bt_ref13_Name [.d (.str s)] (.d (.bool (nameB s))) := by
 refine F.bt_ref13_Name.go mixed rfl ?_
 have hR := C.r13_in words (by decide) (.sl (eSs words)) sld_sl s
 have hW := C.r13_Words
 obtain ⟨ew, hew⟩ : ∃ ew, ew = eSs words := ⟨_, rfl⟩
 rw [← hew] at hR hW
 obtain ⟨b, hb⟩ : ∃ b, b = nameB s := ⟨_, rfl⟩
 rw [← hb]
 obtain ⟨r, hr⟩ : ∃ r, r = decide (s ∈ words) := ⟨_, rfl⟩
 rw [← hr] at hR
 by_cases hlen : 1 ≤ s.length ∧ s.length ≤ 24
 rotate_left
 ·have hbf : b = false := by rw [hb, nameB, decide_eq_false hlen]; simp
  rw [hbf]
  by_cases h0 : s = []
  ·subst h0
   repeat' first|refine st ?_|(with_reducible first|apply k_d|apply k_b)<;>intro _
   all_goals rfl
  ·have h1 : ¬ s.length = 0 := fun h => h0 (List.length_eq_zero_iff.1 h)
   have h24 : 24 < s.length := by omega
   repeat' first|refine st ?_|(with_reducible first|apply k_d|apply k_b)<;>intro _
   all_goals rfl
 obtain ⟨g1, g2⟩ := hlen
 have g0 : ¬ s = [] := fun h => by subst h; simp at g1
 obtain ⟨c0, hc0⟩ : ∃ c, s[0]? = some c := ⟨_, List.getElem?_eq_getElem (by omega)⟩
 have hg0 : s.getD (0 : Int).toNat 0 = c0 := by simp [List.getD_eq_getElem?_getD, hc0]
 by_cases hd : 48 ≤ c0.toNat ∧ c0.toNat ≤ 57
 ·have hk : okC (c0, 0) = false := by
   rw [Bool.eq_false_iff]
   intro h
   have := (okC_iff c0 0).1 h
   omega
  have hbf : b = false := hb.trans (okS_no hc0 hk)
  rw [hbf]
  rw [← hg0] at hd
  obtain ⟨d1, d2⟩ := hd
  repeat' first|refine st ?_|(with_reducible first|apply k_d|apply k_b)<;>intro _
  all_goals first | rfl | (exfalso; omega)
 rcases (show c0.toNat < 48 ∨ 57 < c0.toNat by omega) with hd' | hd'
 all_goals rw [← hg0] at hd'
 ·repeat' first|refine st ?_|(with_reducible first|apply k_d|apply k_b)<;>intro _
  refine x_loop1 mixed Lt.bt_ref13_Name_l0 Lk.bt_ref13_Name_l0 (fun (p : Nat) => [.d (eI p)]) (fun p => []) (fun p => p ≤ s.length ∧ (s.zipIdx.take p).all okC = true) (fun p => s.length - p) 0 rfl rfl rfl rfl (fun _ _ => ⟨rfl, rfl⟩) rfl ⟨by omega, by simp⟩ ?_
  repeat' first|refine st ?_|(with_reducible first|apply k_d|apply k_b)<;>intro _
  intro p ⟨h1, h2⟩
  cases hx : s[p]? with
  | some c =>
   have hlt := (List.getElem?_eq_some_iff.1 hx).1
   have hg : s.getD ((p : Nat) : Int).toNat 0 = c := by simp [List.getD_eq_getElem?_getD, hx]
   have hz := zip_get hx
   have h0 : p = 0 → c = c0 := fun h => by
    subst h
    rw [hx] at hc0
    exact Option.some.inj hc0
   have h0 : p = 0 → c.toNat = c0.toNat := fun h => by rw [h0 h]
   cases hk : okC (c, p) with
   | true =>
    have hs2 := all_take_succ (f := okC) hz
    rw [h2, hk] at hs2
    have hk2 := (okC_iff c p).1 hk
    rw [← hg] at hk2
    clear hz hk
    rcases hk2 with ⟨k1, k2⟩ | k1 | ⟨k1, k2, k3⟩
    ·repeat' first|refine st ?_|(with_reducible first|apply k_d|apply k_b)<;>intro _
     exact ⟨p + 1, rfl, rfl, rfl, by omega, by omega, hs2⟩
    ·repeat' first|refine st ?_|(with_reducible first|apply k_d|apply k_b)<;>intro _
     exact ⟨p + 1, rfl, rfl, rfl, by omega, by omega, hs2⟩
    ·repeat' first|refine st ?_|(with_reducible first|apply k_d|apply k_b)<;>intro _
     exact ⟨p + 1, rfl, rfl, rfl, by omega, by omega, hs2⟩
   | false =>
    have hbf : b = false := hb.trans (okS_no hx hk)
    have hk2 : ¬ _ := fun h => Bool.false_ne_true (hk ▸ (okC_iff c p).2 h)
    rw [hbf]
    rw [← hg] at hk2 h0
    rw [← hg0] at h0
    clear hz hk
    repeat' first|refine st ?_|(with_reducible first|apply k_d|apply k_b)<;>intro _
    all_goals first | rfl | (exfalso; omega)
  | none =>
   have hge := List.getElem?_eq_none_iff.1 hx
   rw [List.take_of_length_le (by simpa using hge)] at h2
   have hb2 : b = !r := by rw [hb, nameB, okS, h2, hr, decide_eq_true (show 1 ≤ s.length ∧ s.length ≤ 24 from ⟨g1, g2⟩)]; simp
   rw [hb2]
   repeat' first|refine st ?_|((with_reducible first|apply k_pn|apply k_pc);(·first|exact hW|exact hR))|(with_reducible first|apply k_d|apply k_b)<;>intro _
   all_goals first | rfl | (exfalso; omega)
 ·repeat' first|refine st ?_|(with_reducible first|apply k_d|apply k_b)<;>intro _
  refine x_loop1 mixed Lt.bt_ref13_Name_l0 Lk.bt_ref13_Name_l0 (fun (p : Nat) => [.d (eI p)]) (fun p => []) (fun p => p ≤ s.length ∧ (s.zipIdx.take p).all okC = true) (fun p => s.length - p) 0 rfl rfl rfl rfl (fun _ _ => ⟨rfl, rfl⟩) rfl ⟨by omega, by simp⟩ ?_
  repeat' first|refine st ?_|(with_reducible first|apply k_d|apply k_b)<;>intro _
  intro p ⟨h1, h2⟩
  cases hx : s[p]? with
  | some c =>
   have hlt := (List.getElem?_eq_some_iff.1 hx).1
   have hg : s.getD ((p : Nat) : Int).toNat 0 = c := by simp [List.getD_eq_getElem?_getD, hx]
   have hz := zip_get hx
   have h0 : p = 0 → c = c0 := fun h => by
    subst h
    rw [hx] at hc0
    exact Option.some.inj hc0
   have h0 : p = 0 → c.toNat = c0.toNat := fun h => by rw [h0 h]
   cases hk : okC (c, p) with
   | true =>
    have hs2 := all_take_succ (f := okC) hz
    rw [h2, hk] at hs2
    have hk2 := (okC_iff c p).1 hk
    rw [← hg] at hk2
    clear hz hk
    rcases hk2 with ⟨k1, k2⟩ | k1 | ⟨k1, k2, k3⟩
    ·repeat' first|refine st ?_|(with_reducible first|apply k_d|apply k_b)<;>intro _
     exact ⟨p + 1, rfl, rfl, rfl, by omega, by omega, hs2⟩
    ·repeat' first|refine st ?_|(with_reducible first|apply k_d|apply k_b)<;>intro _
     exact ⟨p + 1, rfl, rfl, rfl, by omega, by omega, hs2⟩
    ·repeat' first|refine st ?_|(with_reducible first|apply k_d|apply k_b)<;>intro _
     exact ⟨p + 1, rfl, rfl, rfl, by omega, by omega, hs2⟩
   | false =>
    have hbf : b = false := hb.trans (okS_no hx hk)
    have hk2 : ¬ _ := fun h => Bool.false_ne_true (hk ▸ (okC_iff c p).2 h)
    rw [hbf]
    rw [← hg] at hk2 h0
    rw [← hg0] at h0
    clear hz hk
    repeat' first|refine st ?_|(with_reducible first|apply k_d|apply k_b)<;>intro _
    all_goals first | rfl | (exfalso; omega)
  | none =>
   have hge := List.getElem?_eq_none_iff.1 hx
   rw [List.take_of_length_le (by simpa using hge)] at h2
   have hb2 : b = !r := by rw [hb, nameB, okS, h2, hr, decide_eq_true (show 1 ≤ s.length ∧ s.length ≤ 24 from ⟨g1, g2⟩)]; simp
   rw [hb2]
   repeat' first|refine st ?_|((with_reducible first|apply k_pn|apply k_pc);(·first|exact hW|exact hR))|(with_reducible first|apply k_d|apply k_b)<;>intro _
   all_goals first | rfl | (exfalso; omega)
end Go.Proofs
end
section
namespace Go.Proofs
open Go.Bi
theorem vl_eq {v w : Vl} : v = w ↔ (v.k = w.k ∧ v.n = w.n ∧ v.s = w.s) := by cases v; cases w; simp
def vAt (l : List Vl) (i : Int) : Vl := if i < 0 ∨ (l.length : Int) ≤ i then vNull else l.getD i.toNat vNull
end Go.Proofs
end
section
namespace Go.Proofs
open Go.Bi
structure Co where
 nm : List UInt8
 k : Int
 nl : Bool
abbrev Co.ds (c : Co) : List D := [.str c.nm, eI c.k, .bool c.nl]
def eCs (l : List Co) : List (List D) := l.map Co.ds
theorem eCs_len (l : List Co) : (eCs l).length = l.length := by simp [eCs]
theorem eCs_get {l : List Co} {i : Nat} {c : Co} (h : l[i]? = some c) : (eCs l)[i]? = some c.ds := by simp [eCs, h]
theorem eCs_mem (l : List Co) : ∀ e ∈ eCs l, e.length = 3 := by
 intro e he
 obtain ⟨x, _, rfl⟩ := List.mem_map.1 he
 rfl
abbrev eT (n : List UInt8) (dc dk df dx : D) : AV := .agg [.d (.str n), .d dc, .d dk, .d df, .d dx]
def kd (l : List Co) : List Int := l.map Co.k
theorem kd_len (l : List Co) : (kd l).length = l.length := by simp [kd]
def Kt (l : List Co) (i : Nat) : List (List D) := eIs (kd (l.take i))
theorem Kt_len (l : List Co) (i : Nat) (h : i ≤ l.length) : (Kt l i).length = i := by
 unfold Kt
 rw [eIs_len, kd_len, List.length_take]
 omega
theorem Kt_succ {l : List Co} {i : Nat} {c : Co} (h : l[i]? = some c) : Kt l i ++ [[eI c.k]] = Kt l (i + 1) := by
 unfold Kt kd
 rw [List.take_add_one, h]
 simp [eIs]
theorem Kt_end {l : List Co} {i : Nat} (h : l.length ≤ i) : Kt l i = eIs (kd l) := by
 unfold Kt
 rw [List.take_of_length_le h]
def kdD (l : List Co) : D := if (eIs (kd l)).isEmpty then .nil else .sl (eIs (kd l))
theorem kdD_sl (l : List Co) : SlD (kdD l) (eIs (kd l)) := by
 unfold kdD
 split
 ·rename_i h; exact .inl ⟨rfl, by simpa using h⟩
 ·exact .inr rfl
theorem C.schema_Kinds (n : List UInt8) (l : List Co) (hl : l.length ≤ 1048576) (dc dk df dx : D) (hc : SlD dc (eCs l)) : Pure Tryz.prog N.schema_Kinds [eT n dc dk df dx] (.d (kdD l)) := by
 refine F.schema_Kinds.go mixed rfl ?_
 have h1 := eCs_len l
 have hm := eCs_mem l
 repeat' first|refine st ?_|(with_reducible first|apply k_d|apply k_b)<;>intro _
 refine x_nil 3 1 rfl rfl ?_
 repeat' first|refine st ?_|(with_reducible first|apply k_d|apply k_b)<;>intro _
 refine x_loop2 mixed Lt.schema_Kinds_l0 Lk.schema_Kinds_l0 (fun (i : Nat) (w : List (List D) × Bool) => [.arr 1 w.1.length, .d (eI i)]) (fun i w => [.cells [.d (.str n), .d dc, .d dk, .d df, .d dx], .arr w.1 1 0 w.2]) (fun i w => i ≤ l.length ∧ w.1 = Kt l i ∧ w.2 = w.1.isEmpty) (fun i _ => l.length - i) 0 ([], true) rfl rfl rfl rfl (fun _ _ _ => ⟨rfl, rfl⟩) rfl ⟨by omega, rfl, rfl⟩ ?_
 repeat' first|refine st ?_|(with_reducible first|apply k_d|apply k_b)<;>intro _
 intro i w ⟨h4, h5, h6⟩
 obtain ⟨A, b⟩ := w
 dsimp only at h5 h6 ⊢
 have hAl : A.length = i := by rw [h5]; exact Kt_len l i (by omega)
 have hAm : ∀ e ∈ A, e.length = 1 := by rw [h5]; exact eIs_mem _
 cases hx : l[i]? with
 | some x =>
  have hlt := (List.getElem?_eq_some_iff.1 hx).1
  have hs := Kt_succ hx
  have hg := eCs_get hx
  rw [← h5] at hs
  repeat' first|refine st ?_|(with_reducible first|apply k_d|apply k_b)<;>intro _
  exact ⟨i + 1, (A ++ [[eI x.k]], false), rfl, rfl, rfl, by omega, by omega, hs, by simp⟩
 | none =>
  have hge := List.getElem?_eq_none_iff.1 hx
  rw [Kt_end hge] at h5
  unfold kdD
  rw [← h5, ← h6]
  cases b with
  | true =>
   repeat' first|refine st ?_|(with_reducible first|apply k_d|apply k_b)<;>intro _
   all_goals rfl
  | false =>
   repeat' first|refine st ?_|(with_reducible first|apply k_d|apply k_b)<;>intro _
   all_goals rfl
theorem C.r13_Kinds (n : List UInt8) (l : List Co) (hl : l.length ≤ 1048576) (dc dk df dx : D) (hc : SlD dc (eCs l)) : Pure Tryz.prog N.bt_ref13_Kinds [eT n dc dk df dx] (.d (.sl (eIs (kd l)))) := by
 refine F.bt_ref13_Kinds.go mixed rfl ?_
 have h1 := eCs_len l
 have hm := eCs_mem l
 repeat' first|refine st ?_|(with_reducible first|apply k_d|apply k_b)<;>intro _
 refine x_loop2 mixed Lt.bt_ref13_Kinds_l0 Lk.bt_ref13_Kinds_l0 (fun (i : Nat) (A : List (List D)) => [.arr 1 A.length, .d (eI i)]) (fun i A => [.cells [.d (.str n), .d dc, .d dk, .d df, .d dx], .arr A 1 0 false]) (fun i A => i ≤ l.length ∧ A = Kt l i) (fun i _ => l.length - i) 0 [] rfl rfl rfl rfl (fun _ _ _ => ⟨rfl, rfl⟩) rfl ⟨by omega, rfl⟩ ?_
 repeat' first|refine st ?_|(with_reducible first|apply k_d|apply k_b)<;>intro _
 intro i A ⟨h4, h5⟩
 have hAl : A.length = i := by rw [h5]; exact Kt_len l i (by omega)
 have hAm : ∀ e ∈ A, e.length = 1 := by rw [h5]; exact eIs_mem _
 cases hx : l[i]? with
 | some x =>
  have hlt := (List.getElem?_eq_some_iff.1 hx).1
  have hs := Kt_succ hx
  have hg := eCs_get hx
  rw [← h5] at hs
  repeat' first|refine st ?_|(with_reducible first|apply k_d|apply k_b)<;>intro _
  exact ⟨i + 1, A ++ [[eI x.k]], rfl, rfl, rfl, by omega, by omega, hs⟩
 | none =>
  have hge := List.getElem?_eq_none_iff.1 hx
  rw [Kt_end hge] at h5
  rw [← h5]
  repeat' first|refine st ?_|(with_reducible first|apply k_d|apply k_b)<;>intro _
  all_goals rfl
def findF (nm : List UInt8) : Nat → List Co → Int
 | _, [] => -1
 | i, c :: l => if c.nm = nm then i else findF nm (i + 1) l
def findC (nm : List UInt8) (l : List Co) : Int := findF nm 0 l
theorem findF_drop {nm : List UInt8} {l : List Co} {i : Nat} {c : Co} (h : l[i]? = some c) : findF nm i (l.drop i) = if c.nm = nm then (i : Int) else findF nm (i + 1) (l.drop (i + 1)) := by
 obtain ⟨hlt, he⟩ := List.getElem?_eq_some_iff.1 h
 rw [List.drop_eq_getElem_cons hlt, he]; rfl
theorem C.r13_Find (n : List UInt8) (l : List Co) (hl : l.length ≤ 1048576) (dc dk df dx : D) (hc : SlD dc (eCs l)) (nm : List UInt8) : Pure Tryz.prog N.bt_ref13_Find [eT n dc dk df dx, .d (.str nm)] (.d (eI (findC nm l))) := by
 refine F.bt_ref13_Find.go mixed rfl ?_
 have h1 := eCs_len l
 have hm := eCs_mem l
 repeat' first|refine st ?_|(with_reducible first|apply k_d|apply k_b)<;>intro _
 refine x_loop1 mixed Lt.bt_ref13_Find_l0 Lk.bt_ref13_Find_l0 (fun (i : Nat) => [.d (eI i)]) (fun i => [.cells [.d (.str n), .d dc, .d dk, .d df, .d dx]]) (fun i => i ≤ l.length ∧ findC nm l = findF nm i (l.drop i)) (fun i => l.length - i) 0 rfl rfl rfl rfl (fun _ _ => ⟨rfl, rfl⟩) rfl ⟨by omega, rfl⟩ ?_
 repeat' first|refine st ?_|(with_reducible first|apply k_d|apply k_b)<;>intro _
 intro i ⟨h4, h5⟩
 cases hx : l[i]? with
 | some x =>
  have hlt := (List.getElem?_eq_some_iff.1 hx).1
  have hg := eCs_get hx
  rw [findF_drop hx] at h5
  by_cases h : x.nm = nm
  ·rw [if_pos h] at h5
   rw [h5]
   repeat' first|refine st ?_|(with_reducible first|apply k_d|apply k_b)<;>intro _
   all_goals rfl
  ·rw [if_neg h] at h5
   repeat' first|refine st ?_|(with_reducible first|apply k_d|apply k_b)<;>intro _
   exact ⟨i + 1, rfl, rfl, rfl, by omega, by omega, h5⟩
 | none =>
  have hge := List.getElem?_eq_none_iff.1 hx
  rw [List.drop_eq_nil_of_le hge] at h5
  rw [h5]
  repeat' first|refine st ?_|(with_reducible first|apply k_d|apply k_b)<;>intro _
  all_goals rfl
theorem C.schema_Find_c1 (c : Co) (nm : List UInt8) : CallSpec Tryz.prog N.schema_Find_c1 [.agg [.d (.str c.nm), .d (eI c.k), .d (.bool c.nl)], .ptr 0 0] [.cells [.d (.str nm)]] (fun r os => r = .d (.bool (decide (c.nm = nm))) ∧ os = [.cells [.d (.str nm)]]) := by
 refine F.schema_Find_c1.goX mixed rfl ?_
 repeat' first|refine st ?_|(with_reducible first|apply k_d|apply k_b)<;>intro _
 all_goals exact ⟨rfl, rfl⟩
theorem C.indexFunc (l : List Co) (hl : l.length ≤ 1048576) (dc : D) (hc : SlD dc (eCs l)) (nm : List UInt8) : CallSpec Tryz.prog N.slices_IndexFunc__api_Column_api_Column [.d dc, .clo N.schema_Find_c1 [0]] [.cells [.d (.str nm)]] (fun r os => r = .d (eI (findC nm l)) ∧ os = [.cells [.d (.str nm)]]) := by
 refine F.slices_IndexFunc__api_Column_api_Column.goX mixed rfl ?_
 have h1 := eCs_len l
 have hm := eCs_mem l
 repeat' first|refine st ?_|(with_reducible first|apply k_d|apply k_b)<;>intro _
 refine x_loop1 mixed Lt.slices_IndexFunc__api_Column_api_Column_l0 Lk.slices_IndexFunc__api_Column_api_Column_l0 (fun (i : Nat) => [.d (eI i)]) (fun i => [.cells [.d (.str nm)]]) (fun i => i ≤ l.length ∧ findC nm l = findF nm i (l.drop i)) (fun i => l.length - i) 0 rfl rfl rfl rfl (fun _ _ => ⟨rfl, rfl⟩) rfl ⟨by omega, rfl⟩ ?_
 repeat' first|refine st ?_|(with_reducible first|apply k_d|apply k_b)<;>intro _
 intro i ⟨h4, h5⟩
 cases hx : l[i]? with
 | some x =>
  have hlt := (List.getElem?_eq_some_iff.1 hx).1
  have hg := eCs_get hx
  have hC := C.schema_Find_c1 x nm
  rw [findF_drop hx] at h5
  by_cases h : x.nm = nm
  ·rw [if_pos h] at h5
   rw [h5]
   rw [decide_eq_true h] at hC
   repeat' first|refine st ?_|((with_reducible first|apply k_nc|apply k_cs);(·exact hC);(try rintro _ _ ⟨rfl, rfl⟩))|((with_reducible apply k_pr);(·exact hC))|((with_reducible apply k_cal);refine st ?_;(with_reducible apply k_chk);(·exact rfl);refine st ?_;(with_reducible apply k_cs);(·exact hC);(try rintro _ _ ⟨rfl, rfl⟩))|(with_reducible first|apply k_d|apply k_b)<;>intro _
   all_goals exact ⟨rfl, rfl⟩
  ·rw [if_neg h] at h5
   rw [decide_eq_false h] at hC
   repeat' first|refine st ?_|((with_reducible first|apply k_nc|apply k_cs);(·exact hC);(try rintro _ _ ⟨rfl, rfl⟩))|((with_reducible apply k_pr);(·exact hC))|((with_reducible apply k_cal);refine st ?_;(with_reducible apply k_chk);(·exact rfl);refine st ?_;(with_reducible apply k_cs);(·exact hC);(try rintro _ _ ⟨rfl, rfl⟩))|(with_reducible first|apply k_d|apply k_b)<;>intro _
   exact ⟨i + 1, rfl, rfl, rfl, by omega, by omega, h5⟩
 | none =>
  have hge := List.getElem?_eq_none_iff.1 hx
  rw [List.drop_eq_nil_of_le hge] at h5
  rw [h5]
  repeat' first|refine st ?_|(with_reducible first|apply k_d|apply k_b)<;>intro _
  all_goals exact ⟨rfl, rfl⟩
theorem C.schema_Find (n : List UInt8) (l : List Co) (hl : l.length ≤ 1048576) (dc dk df dx : D) (hc : SlD dc (eCs l)) (nm : List UInt8) : Pure Tryz.prog N.schema_Find [eT n dc dk df dx, .d (.str nm)] (.d (eI (findC nm l))) := by
 refine F.schema_Find.go mixed rfl ?_
 have hF : CallSpec Tryz.prog N.slices_IndexFunc__api_Column_api_Column [.d dc, .clo N.schema_Find_c1 [1]] [.cells [.d (.str n), .d dc, .d dk, .d df, .d dx], .cells [.d (.str nm)]] (fun r os => r = .d (eI (findC nm l)) ∧ os = [.cells [.d (.str n), .d dc, .d dk, .d df, .d dx], .cells [.d (.str nm)]]) :=
  CallSpec.frame (C.indexFunc l hl dc hc nm) [1] [.cells [.d (.str n), .d dc, .d dk, .d df, .d dx], .cells [.d (.str nm)]] rfl (by decide)
   (fun i o h => by
    match i, h with
    | 0, h => cases h; rfl
    | i + 1, h => simp at h)
   (fun a ha => by simp at ha; rcases ha with rfl | rfl <;> simp [AV.bnd2, AV.bnd1])
   (fun o ho => by simp at ho; subst ho; simp [AO.bnd, AV.bnd1])
   (fun r bs' h => by obtain ⟨rfl, rfl⟩ := h; exact ⟨rfl, rfl⟩)
 repeat' first|refine st ?_|((with_reducible first|apply k_nc|apply k_cs);(·exact hF);(try rintro _ _ ⟨rfl, rfl⟩))|((with_reducible apply k_pr);(·exact hF))|((with_reducible apply k_cal);refine st ?_;(with_reducible apply k_chk);(·exact rfl);refine st ?_;(with_reducible apply k_cs);(·exact hF);(try rintro _ _ ⟨rfl, rfl⟩))|(with_reducible first|apply k_d|apply k_b)<;>intro _
 all_goals rfl
end Go.Proofs
end
section
namespace Go.Proofs
open Go.Bi
def keyF (l : List Co) : Option Int → List Int → Int
 | _, [] => 0
 | p, k :: ks => if 0 ≤ k ∧ k < l.length then (match p with
  | some q => if k ≤ q then 25 else if (l.getD k.toNat ⟨[], 0, false⟩).nl then 12 else keyF l (some k) ks
  | none => if (l.getD k.toNat ⟨[], 0, false⟩).nl then 12 else keyF l (some k) ks) else 25
def keyE (l : List Co) (ks : List Int) : Int := if ks.length = 0 then 25 else keyF l none ks
def prv (ks : List Int) (i : Nat) : Option Int := if i = 0 then none else ks[i - 1]?
theorem keyF_drop {l : List Co} {ks : List Int} {i : Nat} {k : Int} (h : ks[i]? = some k) : keyF l (prv ks i) (ks.drop i) = if 0 ≤ k ∧ k < l.length then (match prv ks i with
  | some q => if k ≤ q then 25 else if (l.getD k.toNat ⟨[], 0, false⟩).nl then 12 else keyF l (prv ks (i + 1)) (ks.drop (i + 1))
  | none => if (l.getD k.toNat ⟨[], 0, false⟩).nl then 12 else keyF l (prv ks (i + 1)) (ks.drop (i + 1))) else 25 := by
 obtain ⟨hlt, he⟩ := List.getElem?_eq_some_iff.1 h
 have hp : prv ks (i + 1) = some k := by rw [prv, if_neg (by omega)]; exact h
 rw [List.drop_eq_getElem_cons hlt, he, hp]
 cases prv ks i <;> rfl
theorem C.schema_has (n : List UInt8) (l : List Co) (hl : l.length ≤ 1048576) (dc dk df dx : D) (hc : SlD dc (eCs l)) (k : Int) : Pure Tryz.prog N.schema_has [eT n dc dk df dx, .d (eI k)] (.d (.bool (decide (0 ≤ k ∧ k < l.length)))) := by
 refine F.schema_has.go mixed rfl ?_
 have h1 := eCs_len l
 repeat' first|refine st ?_|(with_reducible first|apply k_d|apply k_b)<;>intro _
 all_goals (simp_all <;> (intros; omega))
theorem C.r13_exists (n : List UInt8) (l : List Co) (hl : l.length ≤ 1048576) (dc dk df dx : D) (hc : SlD dc (eCs l)) (k : Int) : Pure Tryz.prog N.bt_ref13_exists [eT n dc dk df dx, .d (eI k)] (.d (.bool (decide (0 ≤ k ∧ k < l.length)))) := by
 refine F.bt_ref13_exists.go mixed rfl ?_
 have h1 := eCs_len l
 repeat' first|refine st ?_|(with_reducible first|apply k_d|apply k_b)<;>intro _
 all_goals (simp_all <;> (intros; omega))
theorem C.schema_checkKey (n : List UInt8) (l : List Co) (hl : l.length ≤ 1048576) (dc dk df dx : D) (hc : SlD dc (eCs l)) (ks : List Int) (hk : ks.length ≤ 1048576) (hdk : SlD dk (eIs ks)) : Pure Tryz.prog N.schema_checkKey [eT n dc dk df dx] (.d (eI (keyE l ks))) := by
 refine F.schema_checkKey.go mixed rfl ?_
 have h1 := eCs_len l
 have hm := eCs_mem l
 have h2 := eIs_len ks
 have hm2 := eIs_mem ks
 unfold keyE
 by_cases h0 : ks.length = 0
 ·rw [if_pos h0]
  repeat' first|refine st ?_|(with_reducible first|apply k_d|apply k_b)<;>intro _
  all_goals first | rfl | (exfalso; omega)
 rw [if_neg h0]
 obtain ⟨q, hq⟩ : ∃ q, q = keyF l none ks := ⟨_, rfl⟩
 rw [← hq]
 repeat' first|refine st ?_|(with_reducible first|apply k_d|apply k_b)<;>intro _
 refine x_loop1 mixed Lt.schema_checkKey_l0 Lk.schema_checkKey_l0 (fun (i : Nat) => [.d (eI i)]) (fun i => [.cells [.d (.str n), .d dc, .d dk, .d df, .d dx]]) (fun i => i ≤ ks.length ∧ q = keyF l (prv ks i) (ks.drop i)) (fun i => ks.length - i) 0 rfl rfl rfl rfl (fun _ _ => ⟨rfl, rfl⟩) rfl ⟨by omega, hq⟩ ?_
 repeat' first|refine st ?_|(with_reducible first|apply k_d|apply k_b)<;>intro _
 intro i ⟨h4, h5⟩
 cases hx : ks[i]? with
 | some k =>
  have hlt := (List.getElem?_eq_some_iff.1 hx).1
  have hg := eIs_get hx
  have hH := C.schema_has n l hl dc dk df dx hc k
  rw [keyF_drop hx] at h5
  by_cases hin : 0 ≤ k ∧ k < l.length
  rotate_left
  ·rw [if_neg hin] at h5
   rw [decide_eq_false hin] at hH
   rw [h5]
   repeat' first|refine st ?_|((with_reducible first|apply k_pn|apply k_pc);(·exact hH))|(with_reducible first|apply k_d|apply k_b)<;>intro _
   all_goals rfl
  rw [if_pos hin] at h5
  rw [decide_eq_true hin] at hH
  obtain ⟨i1, i2⟩ := hin
  obtain ⟨c, hcx⟩ : ∃ c, l[k.toNat]? = some c := ⟨_, List.getElem?_eq_getElem (by omega)⟩
  have hgc := eCs_get hcx
  have hb2 : k < (eCs l).length := by omega
  rw [show l.getD k.toNat ⟨[], 0, false⟩ = c by rw [List.getD_eq_getElem?_getD, hcx]; rfl] at h5
  obtain ⟨cn, ck, cl⟩ := c
  dsimp only at h5 hgc
  by_cases hi : i = 0
  ·subst hi
   rw [show prv ks 0 = none from rfl] at h5
   dsimp only at h5
   cases cl with
   | true =>
    rw [if_pos rfl] at h5
    rw [h5]
    repeat' first|refine st ?_|((with_reducible first|apply k_pn|apply k_pc);(·exact hH))|(with_reducible first|apply k_d|apply k_b)<;>intro _
    all_goals rfl
   | false =>
    rw [if_neg (by simp)] at h5
    repeat' first|refine st ?_|((with_reducible first|apply k_pn|apply k_pc);(·exact hH))|(with_reducible first|apply k_d|apply k_b)<;>intro _
    exact ⟨1, rfl, rfl, rfl, by omega, by omega, h5⟩
  ·obtain ⟨k', hk'⟩ : ∃ k', ks[i - 1]? = some k' := ⟨_, List.getElem?_eq_getElem (by omega)⟩
   have hg' : (eIs ks)[((i : Int) - 1).toNat]? = some [eI k'] := by
    rw [show ((i : Int) - 1).toNat = i - 1 by omega]
    exact eIs_get hk'
   have hw : (0 : Int) < i := by omega
   rw [show prv ks i = some k' by rw [prv, if_neg hi, hk']] at h5
   dsimp only at h5
   by_cases hle : k ≤ k'
   ·rw [if_pos hle] at h5
    rw [h5]
    repeat' first|refine st ?_|((with_reducible first|apply k_pn|apply k_pc);(·exact hH))|(with_reducible first|apply k_d|apply k_b)<;>intro _
    all_goals rfl
   ·rw [if_neg hle] at h5
    cases cl with
    | true =>
     rw [if_pos rfl] at h5
     rw [h5]
     repeat' first|refine st ?_|((with_reducible first|apply k_pn|apply k_pc);(·exact hH))|(with_reducible first|apply k_d|apply k_b)<;>intro _
     all_goals rfl
    | false =>
     rw [if_neg (by simp)] at h5
     repeat' first|refine st ?_|((with_reducible first|apply k_pn|apply k_pc);(·exact hH))|(with_reducible first|apply k_d|apply k_b)<;>intro _
     exact ⟨i + 1, rfl, rfl, rfl, by omega, by omega, h5⟩
 | none =>
  have hge := List.getElem?_eq_none_iff.1 hx
  rw [List.drop_eq_nil_of_le hge] at h5
  rw [h5]
  repeat' first|refine st ?_|(with_reducible first|apply k_d|apply k_b)<;>intro _
  all_goals first | rfl | (unfold keyF; rfl)
theorem C.r13_key (n : List UInt8) (l : List Co) (hl : l.length ≤ 1048576) (dc dk df dx : D) (hc : SlD dc (eCs l)) (ks : List Int) (hk : ks.length ≤ 1048576) (hdk : SlD dk (eIs ks)) : Pure Tryz.prog N.bt_ref13_key [eT n dc dk df dx] (.d (eI (keyE l ks))) := by
 refine F.bt_ref13_key.go mixed rfl ?_
 have h1 := eCs_len l
 have hm := eCs_mem l
 have h2 := eIs_len ks
 have hm2 := eIs_mem ks
 unfold keyE
 by_cases h0 : ks.length = 0
 ·rw [if_pos h0]
  repeat' first|refine st ?_|(with_reducible first|apply k_d|apply k_b)<;>intro _
  all_goals first | rfl | (exfalso; omega)
 rw [if_neg h0]
 obtain ⟨q, hq⟩ : ∃ q, q = keyF l none ks := ⟨_, rfl⟩
 rw [← hq]
 repeat' first|refine st ?_|(with_reducible first|apply k_d|apply k_b)<;>intro _
 refine x_loop1 mixed Lt.bt_ref13_key_l0 Lk.bt_ref13_key_l0 (fun (i : Nat) => [.d (eI i)]) (fun i => [.cells [.d (.str n), .d dc, .d dk, .d df, .d dx]]) (fun i => i ≤ ks.length ∧ q = keyF l (prv ks i) (ks.drop i)) (fun i => ks.length - i) 0 rfl rfl rfl rfl (fun _ _ => ⟨rfl, rfl⟩) rfl ⟨by omega, hq⟩ ?_
 repeat' first|refine st ?_|(with_reducible first|apply k_d|apply k_b)<;>intro _
 intro i ⟨h4, h5⟩
 cases hx : ks[i]? with
 | some k =>
  have hlt := (List.getElem?_eq_some_iff.1 hx).1
  have hg := eIs_get hx
  have hH := C.r13_exists n l hl dc dk df dx hc k
  rw [keyF_drop hx] at h5
  by_cases hin : 0 ≤ k ∧ k < l.length
  rotate_left
  ·rw [if_neg hin] at h5
   rw [decide_eq_false hin] at hH
   rw [h5]
   repeat' first|refine st ?_|((with_reducible first|apply k_pn|apply k_pc);(·exact hH))|(with_reducible first|apply k_d|apply k_b)<;>intro _
   all_goals rfl
  rw [if_pos hin] at h5
  rw [decide_eq_true hin] at hH
  obtain ⟨i1, i2⟩ := hin
  obtain ⟨c, hcx⟩ : ∃ c, l[k.toNat]? = some c := ⟨_, List.getElem?_eq_getElem (by omega)⟩
  have hgc := eCs_get hcx
  have hb2 : k < (eCs l).length := by omega
  rw [show l.getD k.toNat ⟨[], 0, false⟩ = c by rw [List.getD_eq_getElem?_getD, hcx]; rfl] at h5
  obtain ⟨cn, ck, cl⟩ := c
  dsimp only at h5 hgc
  by_cases hi : i = 0
  ·subst hi
   rw [show prv ks 0 = none from rfl] at h5
   dsimp only at h5
   cases cl with
   | true =>
    rw [if_pos rfl] at h5
    rw [h5]
    repeat' first|refine st ?_|((with_reducible first|apply k_pn|apply k_pc);(·exact hH))|(with_reducible first|apply k_d|apply k_b)<;>intro _
    all_goals rfl
   | false =>
    rw [if_neg (by simp)] at h5
    repeat' first|refine st ?_|((with_reducible first|apply k_pn|apply k_pc);(·exact hH))|(with_reducible first|apply k_d|apply k_b)<;>intro _
    exact ⟨1, rfl, rfl, rfl, by omega, by omega, h5⟩
  ·obtain ⟨k', hk'⟩ : ∃ k', ks[i - 1]? = some k' := ⟨_, List.getElem?_eq_getElem (by omega)⟩
   have hg' : (eIs ks)[((i : Int) - 1).toNat]? = some [eI k'] := by
    rw [show ((i : Int) - 1).toNat = i - 1 by omega]
    exact eIs_get hk'
   have hw : (0 : Int) < i := by omega
   rw [show prv ks i = some k' by rw [prv, if_neg hi, hk']] at h5
   dsimp only at h5
   by_cases hle : k ≤ k'
   ·rw [if_pos hle] at h5
    rw [h5]
    repeat' first|refine st ?_|((with_reducible first|apply k_pn|apply k_pc);(·exact hH))|(with_reducible first|apply k_d|apply k_b)<;>intro _
    all_goals rfl
   ·rw [if_neg hle] at h5
    cases cl with
    | true =>
     rw [if_pos rfl] at h5
     rw [h5]
     repeat' first|refine st ?_|((with_reducible first|apply k_pn|apply k_pc);(·exact hH))|(with_reducible first|apply k_d|apply k_b)<;>intro _
     all_goals rfl
    | false =>
     rw [if_neg (by simp)] at h5
     repeat' first|refine st ?_|((with_reducible first|apply k_pn|apply k_pc);(·exact hH))|(with_reducible first|apply k_d|apply k_b)<;>intro _
     exact ⟨i + 1, rfl, rfl, rfl, by omega, by omega, h5⟩
 | none =>
  have hge := List.getElem?_eq_none_iff.1 hx
  rw [List.drop_eq_nil_of_le hge] at h5
  rw [h5]
  repeat' first|refine st ?_|(with_reducible first|apply k_d|apply k_b)<;>intro _
  all_goals first | rfl | (unfold keyF; rfl)
end Go.Proofs
end
section
namespace Go.Proofs
open Go.Bi
def colF (seen : List (List UInt8)) : List Co → Int
 | [] => 0
 | c :: r => if nameB c.nm then (if 1 ≤ c.k ∧ c.k ≤ 3 then (if c.nm ∈ seen then 10 else colF (seen ++ [c.nm]) r) else 7) else 1
def colE (l : List Co) : Int := if 1 ≤ l.length ∧ l.length ≤ 12 then colF [] l else 13
def nms (l : List Co) (i : Nat) : List (List UInt8) := (l.take i).map Co.nm
theorem nms_succ {l : List Co} {i : Nat} {c : Co} (h : l[i]? = some c) : nms l i ++ [c.nm] = nms l (i + 1) := by
 unfold nms
 rw [List.take_add_one, h]
 simp
theorem colF_drop {l : List Co} {i : Nat} {c : Co} (h : l[i]? = some c) : colF (nms l i) (l.drop i) = if nameB c.nm then (if 1 ≤ c.k ∧ c.k ≤ 3 then (if c.nm ∈ nms l i then 10 else colF (nms l (i + 1)) (l.drop (i + 1))) else 7) else 1 := by
 obtain ⟨hlt, he⟩ := List.getElem?_eq_some_iff.1 h
 rw [List.drop_eq_getElem_cons hlt, he, ← nms_succ h, colF]
def mp1 (ns : List (List UInt8)) : List (D × AV) := ns.map fun s => (.str s, .d (eI 1))
theorem eqD_s (a b : List UInt8) : eqD .s (.str a) (.str b) = some (decide (a = b)) := by
 unfold eqD
 rw [Option.some.injEq, Bool.eq_iff_iff]
 simp
theorem mok_s (s : List UInt8) (kvs : List (D × AV)) (h : ∀ p ∈ kvs, ∃ t, p.1 = .str t) : mok .s (.str s) kvs := by
 refine ⟨fun p hp => ?_, by rw [eqD_s]; simp⟩
 obtain ⟨t, ht⟩ := h p hp
 rw [ht, eqD_s]; simp
theorem mp1_str (ns : List (List UInt8)) : ∀ p ∈ mp1 ns, ∃ t, p.1 = .str t := by
 intro p hp
 obtain ⟨s, _, rfl⟩ := List.mem_map.1 hp
 exact ⟨s, rfl⟩
theorem mget_in {s : List UInt8} : ∀ {ns : List (List UInt8)}, s ∈ ns → mget .s (.str s) (mp1 ns) = some (.d (eI 1))
 | [], h => by cases h
 | t :: ns, h => by
  unfold mp1
  rw [List.map_cons, mget, eqD_s]
  by_cases e : s = t
  ·rw [if_pos (by rw [decide_eq_true e])]
  ·rw [if_neg (by simp [e])]
   exact mget_in (by rcases List.mem_cons.1 h with h | h; exact absurd h e; exact h)
theorem mget_out {s : List UInt8} : ∀ {ns : List (List UInt8)}, ¬ s ∈ ns → mget .s (.str s) (mp1 ns) = none
 | [], h => rfl
 | t :: ns, h => by
  unfold mp1
  rw [List.map_cons, mget, eqD_s]
  rw [if_neg (by simp; intro e; exact h (by simp [e]))]
  exact mget_out fun h' => h (by simp [h'])
theorem mput_out {s : List UInt8} {v : AV} : ∀ {ns : List (List UInt8)}, ¬ s ∈ ns → mput .s (.str s) v (mp1 ns) = mp1 ns ++ [(.str s, v)]
 | [], h => rfl
 | t :: ns, h => by
  unfold mp1
  rw [List.map_cons, mput, eqD_s]
  rw [if_neg (by simp; intro e; exact h (by simp [e]))]
  have e : mput .s (.str s) v (mp1 ns) = mp1 ns ++ [(.str s, v)] := mput_out (fun h' : s ∈ ns => h (List.mem_cons_of_mem _ h'))
  unfold mp1 at e
  rw [e]; rfl
theorem mput_str {s : List UInt8} {v : AV} : ∀ {kvs : List (D × AV)}, (∀ p ∈ kvs, ∃ t, p.1 = .str t) → ∀ p ∈ mput .s (.str s) v kvs, ∃ t, p.1 = .str t
 | [], h, p, hp => by simp [mput] at hp; subst hp; exact ⟨s, rfl⟩
 | q :: kvs, h, p, hp => by
  unfold mput at hp
  split at hp
  ·rcases List.mem_cons.1 hp with rfl | hp
   ·exact ⟨s, rfl⟩
   ·exact h p (by simp [hp])
  ·rcases List.mem_cons.1 hp with rfl | hp
   ·exact h _ (by simp)
   ·exact mput_str (fun p hp => h p (by simp [hp])) p hp
theorem mget_mput {s : List UInt8} {v : AV} : ∀ {kvs : List (D × AV)}, mget .s (.str s) (mput .s (.str s) v kvs) = some v
 | [] => by simp [mput, mget, eqD_s]
 | q :: kvs => by
  unfold mput
  split
  ·simp [mget, eqD_s]
  ·rename_i h
   rw [mget, if_neg h]
   exact mget_mput
theorem findF_lt {nm : List UInt8} : ∀ {l : List Co} {i j : Nat} {c : Co}, l[j]? = some c → c.nm = nm → findF nm i l = (i + j : Nat) ∧ ¬ nm ∈ (l.take j).map Co.nm ∨ (i : Int) ≤ findF nm i l ∧ findF nm i l < (i + j : Nat) ∧ nm ∈ (l.take j).map Co.nm
 | [], i, j, c, h, _ => by simp at h
 | d :: l, i, 0, c, h, e => by
  simp only [List.getElem?_cons_zero, Option.some.injEq] at h
  subst h
  left
  unfold findF
  rw [if_pos e]
  exact ⟨by simp, by simp⟩
 | d :: l, i, j + 1, c, h, e => by
  rw [List.getElem?_cons_succ] at h
  unfold findF
  by_cases hd : d.nm = nm
  ·right
   rw [if_pos hd]
   exact ⟨Int.le_refl _, by omega, by simp [hd]⟩
  ·rw [if_neg hd]
   rcases findF_lt (i := i + 1) h e with ⟨h1, h2⟩ | ⟨h1, h2, h3⟩
   ·left
    refine ⟨by omega, ?_⟩
    simp only [List.take_succ_cons, List.map_cons, List.mem_cons, not_or]
    exact ⟨fun h => hd h.symm, h2⟩
   ·right
    refine ⟨by omega, by omega, ?_⟩
    simp only [List.take_succ_cons, List.map_cons, List.mem_cons]
    exact .inr h3
theorem C.r13_columns (n : List UInt8) (l : List Co) (hl : l.length ≤ 1048576) (hls : ∀ c ∈ l, c.nm.length ≤ 1048576) (dc dk df dx : D) (hc : SlD dc (eCs l)) : Pure Tryz.prog N.bt_ref13_columns [eT n dc dk df dx] (.d (eI (colE l))) := by
 refine F.bt_ref13_columns.go mixed rfl ?_
 have h1 := eCs_len l
 have hm := eCs_mem l
 unfold colE
 by_cases h0 : 1 ≤ l.length ∧ l.length ≤ 12
 rotate_left
 ·rw [if_neg h0]
  repeat' first|refine st ?_|(with_reducible first|apply k_d|apply k_b)<;>intro _
  all_goals first | rfl | (exfalso; omega)
 rw [if_pos h0]
 obtain ⟨g1, g2⟩ := h0
 obtain ⟨q, hq⟩ : ∃ q, q = colF [] l := ⟨_, rfl⟩
 rw [← hq]
 repeat' first|refine st ?_|(with_reducible first|apply k_d|apply k_b)<;>intro _
 refine x_loop1 mixed Lt.bt_ref13_columns_l0 Lk.bt_ref13_columns_l0 (fun (i : Nat) => [.d (eI i)]) (fun i => [.cells [.d (.str n), .d dc, .d dk, .d df, .d dx]]) (fun i => i ≤ l.length ∧ q = colF (nms l i) (l.drop i)) (fun i => l.length - i) 0 rfl rfl rfl rfl (fun _ _ => ⟨rfl, rfl⟩) rfl ⟨by omega, hq⟩ ?_
 repeat' first|refine st ?_|(with_reducible first|apply k_d|apply k_b)<;>intro _
 intro i ⟨h4, h5⟩
 cases hx : l[i]? with
 | some x =>
  have hlt := (List.getElem?_eq_some_iff.1 hx).1
  have hg := eCs_get hx
  have hN := C.r13_Name x.nm (hls x (List.mem_of_getElem? hx))
  have hF := C.r13_Find n l hl dc dk df dx hc x.nm
  have hff := findF_lt (i := 0) hx rfl
  rw [colF_drop hx] at h5
  cases hv : nameB x.nm with
  | false =>
   rw [hv, if_neg (by simp)] at h5
   rw [hv] at hN
   rw [h5]
   repeat' first|refine st ?_|((with_reducible first|apply k_pn|apply k_pc);(·exact hN))|(with_reducible first|apply k_d|apply k_b)<;>intro _
   all_goals rfl
  | true =>
   rw [hv, if_pos rfl] at h5
   rw [hv] at hN
   by_cases hk : 1 ≤ x.k ∧ x.k ≤ 3
   rotate_left
   ·rw [if_neg hk] at h5
    rw [h5]
    repeat' first|refine st ?_|((with_reducible first|apply k_pn|apply k_pc);(·exact hN))|(with_reducible first|apply k_d|apply k_b)<;>intro _
    all_goals first | rfl | (exfalso; omega)
   rw [if_pos hk] at h5
   obtain ⟨k1, k2⟩ := hk
   by_cases hin : x.nm ∈ nms l i
   ·rw [if_pos hin] at h5
    have hlti : findC x.nm l < i := by
     rcases hff with ⟨_, h⟩ | ⟨_, h, _⟩
     ·exact absurd hin h
     ·rw [findC]; omega
    rw [h5]
    repeat' first|refine st ?_|((with_reducible first|apply k_pn|apply k_pc);(·first|exact hN|exact hF))|(with_reducible first|apply k_d|apply k_b)<;>intro _
    all_goals rfl
   ·rw [if_neg hin] at h5
    have hge : ¬ findC x.nm l < i := by
     rcases hff with ⟨h, _⟩ | ⟨_, _, h⟩
     ·rw [findC]; omega
     ·exact absurd h hin
    repeat' first|refine st ?_|((with_reducible first|apply k_pn|apply k_pc);(·first|exact hN|exact hF))|(with_reducible first|apply k_d|apply k_b)<;>intro _
    exact ⟨i + 1, rfl, rfl, rfl, by omega, by omega, h5⟩
 | none =>
  have hge := List.getElem?_eq_none_iff.1 hx
  rw [List.drop_eq_nil_of_le hge] at h5
  rw [h5]
  repeat' first|refine st ?_|(with_reducible first|apply k_d|apply k_b)<;>intro _
  all_goals rfl
end Go.Proofs
end
section
namespace Go.Proofs
open Go.Bi
theorem C.schema_kindOK (k : Int) : Pure Tryz.prog N.schema_kindOK [.d (eI k)] (.d (.bool (decide (1 ≤ k ∧ k ≤ 3)))) := by
 refine F.schema_kindOK.go mixed rfl ?_
 repeat' first|refine st ?_|(with_reducible first|apply k_d|apply k_b)<;>intro _
 all_goals (simp_all <;> (intros; omega))
theorem mp1_app (ns : List (List UInt8)) (s : List UInt8) : mp1 ns ++ [(.str s, .d (eI 1))] = mp1 (ns ++ [s]) := by simp [mp1]
theorem C.schema_checkColumns (n : List UInt8) (l : List Co) (hl : l.length ≤ 1048576) (hls : ∀ c ∈ l, c.nm.length ≤ 1048576) (dc dk df dx : D) (hc : SlD dc (eCs l)) : Pure Tryz.prog N.schema_checkColumns [eT n dc dk df dx] (.d (eI (colE l))) := by
 refine F.schema_checkColumns.go mixed rfl ?_
 have h1 := eCs_len l
 have hm := eCs_mem l
 unfold colE
 by_cases h0 : 1 ≤ l.length ∧ l.length ≤ 12
 rotate_left
 ·rw [if_neg h0]
  repeat' first|refine st ?_|(with_reducible first|apply k_d|apply k_b)<;>intro _
  all_goals first | rfl | (exfalso; omega)
 rw [if_pos h0]
 obtain ⟨g1, g2⟩ := h0
 obtain ⟨q, hq⟩ : ∃ q, q = colF [] l := ⟨_, rfl⟩
 rw [← hq]
 repeat' first|refine st ?_|(with_reducible first|apply k_d|apply k_b)<;>intro _
 refine x_loop1 mixed Lt.schema_checkColumns_l0 Lk.schema_checkColumns_l0 (fun (i : Nat) => [.d (eI i)]) (fun i => [.cells [.d (.str n), .d dc, .d dk, .d df, .d dx], .map (mp1 (nms l i))]) (fun i => i ≤ l.length ∧ q = colF (nms l i) (l.drop i)) (fun i => l.length - i) 0 rfl rfl rfl rfl (fun _ _ => ⟨rfl, (by simp [List.all_cons, AO.bndB, mp1, AV.bnd2B, AV.bnd1B])⟩) rfl ⟨by omega, hq⟩ ?_
 repeat' first|refine st ?_|(with_reducible first|apply k_d|apply k_b)<;>intro _
 intro i ⟨h4, h5⟩
 cases hx : l[i]? with
 | some x =>
  have hlt := (List.getElem?_eq_some_iff.1 hx).1
  have hg := eCs_get hx
  have hN := C.schema_Name x.nm (hls x (List.mem_of_getElem? hx))
  have hK := C.schema_kindOK x.k
  have hs := nms_succ hx
  rw [colF_drop hx] at h5
  obtain ⟨kvs, hkv⟩ : ∃ kvs, kvs = mp1 (nms l i) := ⟨_, rfl⟩
  have m1 : mok .s (.str x.nm) kvs := by rw [hkv]; exact mok_s _ _ (mp1_str _)
  by_cases hin : x.nm ∈ nms l i
  ·rw [if_pos hin] at h5
   have e1 : lkR false (zv false [.int .i64 0]) (mget .s (.str x.nm) kvs) = .d (eI 1) := by rw [hkv, mget_in hin]; rfl
   obtain ⟨kv2, e2⟩ : ∃ kv2, mput .s (.str x.nm) (.d (eI 2)) kvs = kv2 := ⟨_, rfl⟩
   have m2 : mok .s (.str x.nm) kv2 := by rw [← e2, hkv]; exact mok_s _ _ (mput_str (mp1_str _))
   have e3 : lkR false (zv false [.int .i64 0]) (mget .s (.str x.nm) kv2) = .d (eI 2) := by rw [← e2, mget_mput]; rfl
   rw [← hkv]
   cases hv : nameB x.nm with
   | false =>
    rw [hv, if_neg (by simp)] at h5
    rw [hv] at hN
    rw [h5]
    repeat' first|refine st ?_|((with_reducible first|apply k_pn|apply k_pc);(·exact hN))|(with_reducible first|apply k_d|apply k_b)<;>intro _
    all_goals rfl
   | true =>
    rw [hv, if_pos rfl] at h5
    rw [hv] at hN
    by_cases hk : 1 ≤ x.k ∧ x.k ≤ 3
    ·rw [if_pos hk] at h5
     rw [decide_eq_true hk] at hK
     rw [h5]
     repeat' first|refine st ?_|((with_reducible first|apply k_pn|apply k_pc);(·first|exact hN|exact hK))|(with_reducible first|apply k_d|apply k_b)<;>intro _
     all_goals rfl
    ·rw [if_neg hk] at h5
     rw [decide_eq_false hk] at hK
     rw [h5]
     repeat' first|refine st ?_|((with_reducible first|apply k_pn|apply k_pc);(·first|exact hN|exact hK))|(with_reducible first|apply k_d|apply k_b)<;>intro _
     all_goals rfl
  ·rw [if_neg hin] at h5
   have e1 : lkR false (zv false [.int .i64 0]) (mget .s (.str x.nm) kvs) = .d (eI 0) := by rw [hkv, mget_out hin]; rfl
   have e2 : mput .s (.str x.nm) (.d (eI 1)) kvs = mp1 (nms l (i + 1)) := by rw [hkv, mput_out hin, mp1_app, hs]
   have m2 : mok .s (.str x.nm) (mp1 (nms l (i + 1))) := mok_s _ _ (mp1_str _)
   have e3 : lkR false (zv false [.int .i64 0]) (mget .s (.str x.nm) (mp1 (nms l (i + 1)))) = .d (eI 1) := by rw [mget_in (by rw [← hs]; simp)]; rfl
   rw [← hkv]
   cases hv : nameB x.nm with
   | false =>
    rw [hv, if_neg (by simp)] at h5
    rw [hv] at hN
    rw [h5]
    repeat' first|refine st ?_|((with_reducible first|apply k_pn|apply k_pc);(·exact hN))|(with_reducible first|apply k_d|apply k_b)<;>intro _
    all_goals rfl
   | true =>
    rw [hv, if_pos rfl] at h5
    rw [hv] at hN
    by_cases hk : 1 ≤ x.k ∧ x.k ≤ 3
    ·rw [if_pos hk] at h5
     rw [decide_eq_true hk] at hK
     repeat' first|refine st ?_|((with_reducible first|apply k_pn|apply k_pc);(·first|exact hN|exact hK))|(with_reducible first|apply k_d|apply k_b)<;>intro _
     exact ⟨i + 1, rfl, rfl, rfl, by omega, by omega, h5⟩
    ·rw [if_neg hk] at h5
     rw [decide_eq_false hk] at hK
     rw [h5]
     repeat' first|refine st ?_|((with_reducible first|apply k_pn|apply k_pc);(·first|exact hN|exact hK))|(with_reducible first|apply k_d|apply k_b)<;>intro _
     all_goals rfl
 | none =>
  have hge := List.getElem?_eq_none_iff.1 hx
  rw [List.drop_eq_nil_of_le hge] at h5
  rw [h5]
  repeat' first|refine st ?_|(with_reducible first|apply k_d|apply k_b)<;>intro _
  all_goals rfl
end Go.Proofs
end
section
namespace Go.Proofs
open Go.Bi
inductive Ex where
 | mk (op n : Int) (v : Vl) (name : List UInt8) (nl : Bool) (args : List Ex)
theorem Ex.ind {p : Ex → Prop} (h : ∀ op n v name nl args, (∀ a ∈ args, p a) → p (.mk op n v name nl args)) : ∀ e, p e
 | .mk op n v name nl args => h _ _ _ _ _ _ fun a ha => Ex.ind h a
termination_by e => SizeOf.sizeOf e
decreasing_by
 have := List.sizeOf_lt_of_mem ha
 simp only [Ex.mk.sizeOf_spec]
 omega
def ng (nl : Bool) (l : List (List D)) : D := if nl && l.isEmpty then .nil else .sl l
theorem sld_ng {nl : Bool} {l : List (List D)} : SlD (ng nl l) l := by
 unfold ng
 split
 ·rename_i h
  simp only [Bool.and_eq_true, List.isEmpty_iff] at h
  exact .inl ⟨rfl, h.2⟩
 ·exact .inr rfl
abbrev xds (op n : Int) (v : Vl) (name : List UInt8) (d : D) : List D := [eI op, eI n, eI v.k, eI v.n, .str v.s, .str name, d]
abbrev eX (op n : Int) (v : Vl) (name : List UInt8) (d : D) : AV := .agg [.d (eI op), .d (eI n), .d (eI v.k), .d (eI v.n), .d (.str v.s), .d (.str name), .d d]
mutual
def Ex.ds : Ex → List D
 | .mk op n v name nl args => xds op n v name (ng nl (Ex.dss args))
def Ex.dss : List Ex → List (List D)
 | [] => []
 | e :: es => e.ds :: Ex.dss es
end
theorem Ex.dss_eq : ∀ l, Ex.dss l = l.map Ex.ds
 | [] => by simp [Ex.dss]
 | e :: es => by simp [Ex.dss, Ex.dss_eq es]
def xL (l : List Ex) : List (List D) := l.map Ex.ds
theorem Ex.ds_mk (op n : Int) (v : Vl) (name : List UInt8) (nl : Bool) (args : List Ex) : (Ex.mk op n v name nl args).ds = xds op n v name (ng nl (xL args)) := by
 rw [Ex.ds, Ex.dss_eq]; rfl
def Ex.av (e : Ex) : AV := .agg (e.ds.map .d)
theorem Ex.av_mk (op n : Int) (v : Vl) (name : List UInt8) (nl : Bool) (args : List Ex) : (Ex.mk op n v name nl args).av = eX op n v name (ng nl (xL args)) := by
 rw [Ex.av, Ex.ds_mk]; rfl
theorem xL_len (l : List Ex) : (xL l).length = l.length := by simp [xL]
theorem xL_mem (l : List Ex) : ∀ e ∈ xL l, e.length = 7 := by
 intro e he
 obtain ⟨⟨op, n, v, name, nl, args⟩, _, rfl⟩ := List.mem_map.1 he
 rw [Ex.ds_mk]; rfl
theorem xL_get {l : List Ex} {i : Nat} {e : Ex} (h : l[i]? = some e) : (xL l)[i]? = some e.ds := by simp [xL, h]
def Ex.bk (e : Ex) : Nat := bulkL e.ds
theorem bulkLL_mem {l : List (List D)} {x : List D} (h : x ∈ l) : bulkL x ≤ bulkLL l := by
 induction l with
 | nil => cases h
 | cons y l ih =>
  simp only [bulkLL]
  rcases List.mem_cons.1 h with rfl | h
  ·omega
  ·have := ih h; omega
theorem bulkLL_len {l : List (List D)} (h : ∀ x ∈ l, 1 ≤ bulkL x) : l.length ≤ bulkLL l := by
 induction l with
 | nil => exact Nat.zero_le _
 | cons y l ih =>
  have h1 := h y (by simp)
  have h2 := ih fun x hx => h x (by simp [hx])
  simp only [bulkLL, List.length_cons]
  omega
theorem Ex.bk_mk (op n : Int) (v : Vl) (name : List UInt8) (nl : Bool) (args : List Ex) : bulkLL (xL args) + v.s.length + name.length + 6 ≤ (Ex.mk op n v name nl args).bk := by
 rw [Ex.bk, Ex.ds_mk]
 simp only [bulkL, bulkD]
 unfold ng
 split
 ·rename_i h
  simp only [Bool.and_eq_true, List.isEmpty_iff] at h
  rw [h.2]
  simp only [bulkD, bulkLL]
  omega
 ·simp only [bulkD]; omega
theorem Ex.bk_pos (e : Ex) : 6 ≤ e.bk := by
 obtain ⟨op, n, v, name, nl, args⟩ := e
 have := Ex.bk_mk op n v name nl args
 omega
theorem xL_bulk_len (l : List Ex) : l.length ≤ bulkLL (xL l) := by
 rw [← xL_len l]
 refine bulkLL_len fun x hx => ?_
 obtain ⟨e, _, rfl⟩ := List.mem_map.1 hx
 have := e.bk_pos
 unfold Ex.bk at this
 omega
theorem Ex.bk_arg {op n : Int} {v : Vl} {name : List UInt8} {nl : Bool} {args : List Ex} {a : Ex} (h : a ∈ args) : a.bk < (Ex.mk op n v name nl args).bk := by
 have h1 := Ex.bk_mk op n v name nl args
 have h2 : bulkL a.ds ≤ bulkLL (xL args) := bulkLL_mem (List.mem_map.2 ⟨a, h, rfl⟩)
 unfold Ex.bk at *
 omega
theorem Ex.bk_bounds {op n : Int} {v : Vl} {name : List UInt8} {nl : Bool} {args : List Ex} {B : Nat} (h : (Ex.mk op n v name nl args).bk ≤ B) : args.length ≤ B ∧ v.s.length ≤ B ∧ name.length ≤ B ∧ ∀ a ∈ args, a.bk ≤ B := by
 have h1 := Ex.bk_mk op n v name nl args
 have h2 := xL_bulk_len args
 exact ⟨by omega, by omega, by omega, fun a ha => by have := Ex.bk_arg (op := op) (n := n) (v := v) (name := name) (nl := nl) ha; omega⟩
end Go.Proofs
end
section
namespace Go.Proofs
open Go.Bi
structure Fo where
 nl : Bool
 cs : List Int
 tb : List UInt8
def Fo.d (f : Fo) : D := ng f.nl (eIs f.cs)
abbrev Fo.ds (f : Fo) : List D := [f.d, .str f.tb]
theorem Fo.sld (f : Fo) : SlD f.d (eIs f.cs) := sld_ng
def eFs (l : List Fo) : List (List D) := l.map Fo.ds
theorem eFs_len (l : List Fo) : (eFs l).length = l.length := by simp [eFs]
theorem eFs_get {l : List Fo} {i : Nat} {f : Fo} (h : l[i]? = some f) : (eFs l)[i]? = some f.ds := by simp [eFs, h]
theorem eFs_mem (l : List Fo) : ∀ e ∈ eFs l, e.length = 2 := by
 intro e he
 obtain ⟨x, _, rfl⟩ := List.mem_map.1 he
 rfl
def fcF (n : Nat) (seen : List Int) : List Int → Int
 | [] => 0
 | c :: r => if (0 ≤ c ∧ c < n) ∧ ¬ c ∈ seen then fcF n (seen ++ [c]) r else 25
def forE (n : Nat) (f : Fo) : Int := if nameB f.tb then (if f.cs.length = 0 then 25 else fcF n [] f.cs) else 1
theorem fcF_drop {n : Nat} {l : List Int} {i : Nat} {c : Int} (h : l[i]? = some c) : fcF n (l.take i) (l.drop i) = if (0 ≤ c ∧ c < n) ∧ ¬ c ∈ l.take i then fcF n (l.take (i + 1)) (l.drop (i + 1)) else 25 := by
 obtain ⟨hlt, he⟩ := List.getElem?_eq_some_iff.1 h
 rw [List.drop_eq_getElem_cons hlt, he, fcF, List.take_add_one, h]
 rfl
end Go.Proofs
end
section
namespace Go.Proofs
open Go.Bi
theorem C.r13_foreign (n : List UInt8) (l : List Co) (hl : l.length ≤ 1048576) (dc dk df dx : D) (hc : SlD dc (eCs l)) (f : Fo) (hf : f.cs.length ≤ 1048576) (hft : f.tb.length ≤ 1048576) : Pure Tryz.prog N.bt_ref13_foreign [eT n dc dk df dx, .agg [.d f.d, .d (.str f.tb)]] (.d (eI (forE l.length f))) := by
 refine F.bt_ref13_foreign.go mixed rfl ?_
 have h1 := eIs_len f.cs
 have hm := eIs_mem f.cs
 have hsd := f.sld
 have hN := C.r13_Name f.tb hft
 obtain ⟨nl, cs, tb⟩ := f
 obtain ⟨fd, hfd⟩ : ∃ fd, fd = Fo.d ⟨nl, cs, tb⟩ := ⟨_, rfl⟩
 rw [← hfd] at hsd ⊢
 dsimp only at h1 hm hsd hN hf ⊢
 unfold forE
 dsimp only
 cases hv : nameB tb with
 | false =>
  rw [hv] at hN
  rw [if_neg (by simp)]
  repeat' first|refine st ?_|((with_reducible first|apply k_pn|apply k_pc);(·exact hN))|(with_reducible first|apply k_d|apply k_b)<;>intro _
  all_goals rfl
 | true =>
 rw [hv] at hN
 rw [if_pos rfl]
 by_cases h0 : cs.length = 0
 ·rw [if_pos h0]
  repeat' first|refine st ?_|((with_reducible first|apply k_pn|apply k_pc);(·exact hN))|(with_reducible first|apply k_d|apply k_b)<;>intro _
  all_goals first | rfl | (exfalso; omega)
 rw [if_neg h0]
 obtain ⟨q, hq⟩ : ∃ q, q = fcF l.length [] cs := ⟨_, rfl⟩
 rw [← hq]
 repeat' first|refine st ?_|((with_reducible first|apply k_pn|apply k_pc);(·exact hN))|(with_reducible first|apply k_d|apply k_b)<;>intro _
 refine x_loop1 mixed Lt.bt_ref13_foreign_l1 Lk.bt_ref13_foreign_l1 (fun (i : Nat) => [.d (eI i)]) (fun i => [.cells [.d (.str n), .d dc, .d dk, .d df, .d dx], .cells [.d fd, .d (.str tb)]]) (fun i => i ≤ cs.length ∧ q = fcF l.length (cs.take i) (cs.drop i)) (fun i => cs.length - i) 0 rfl rfl rfl rfl (fun _ _ => ⟨rfl, rfl⟩) rfl ⟨by omega, hq⟩ ?_
 repeat' first|refine st ?_|(with_reducible first|apply k_d|apply k_b)<;>intro _
 intro i ⟨h4, h5⟩
 cases hx : cs[i]? with
 | some c =>
  have hlt := (List.getElem?_eq_some_iff.1 hx).1
  have hg := eIs_get hx
  have hE := C.r13_exists n l hl dc dk df dx hc c
  rw [fcF_drop hx] at h5
  by_cases hin : 0 ≤ c ∧ c < l.length
  rotate_left
  ·rw [if_neg (fun h => hin h.1)] at h5
   rw [decide_eq_false hin] at hE
   rw [h5]
   repeat' first|refine st ?_|((with_reducible first|apply k_pn|apply k_pc);(·exact hE))|(with_reducible first|apply k_d|apply k_b)<;>intro _
   all_goals rfl
  rw [decide_eq_true hin] at hE
  repeat' first|refine st ?_|((with_reducible first|apply k_pn|apply k_pc);(·exact hE))|(with_reducible first|apply k_d|apply k_b)<;>intro _
  refine x_loop1 mixed Lt.bt_ref13_foreign_l0 Lk.bt_ref13_foreign_l0 (fun (k : Nat) => [.d (eI k)]) (fun k => [.cells [.d (.str n), .d dc, .d dk, .d df, .d dx], .cells [.d fd, .d (.str tb)]]) (fun k => k ≤ i ∧ ¬ c ∈ cs.take k) (fun k => i - k) 0 rfl rfl rfl rfl (fun _ _ => ⟨rfl, rfl⟩) rfl ⟨by omega, by simp⟩ ?_
  repeat' first|refine st ?_|(with_reducible first|apply k_d|apply k_b)<;>intro _
  intro k ⟨h6, h7⟩
  by_cases hk : k < i
  ·obtain ⟨c', hc'⟩ : ∃ c', cs[k]? = some c' := ⟨_, List.getElem?_eq_getElem (by omega)⟩
   have hg' := eIs_get hc'
   by_cases he : c' = c
   ·have hmem : c ∈ cs.take i := by
     rw [← he]
     exact List.mem_of_getElem? (i := k) (by rw [List.getElem?_take_of_lt hk]; exact hc')
    rw [if_neg (fun h => h.2 hmem)] at h5
    rw [h5]
    repeat' first|refine st ?_|(with_reducible first|apply k_d|apply k_b)<;>intro _
    all_goals rfl
   ·repeat' first|refine st ?_|(with_reducible first|apply k_d|apply k_b)<;>intro _
    refine ⟨k + 1, rfl, rfl, rfl, by omega, by omega, ?_⟩
    rw [List.take_add_one, hc']
    intro hmem
    rcases List.mem_append.1 hmem with h | h
    ·exact h7 h
    ·simp at h; exact he h.symm
  ·have : k = i := by omega
   subst this
   rw [if_pos ⟨hin, h7⟩] at h5
   repeat' first|refine st ?_|(with_reducible first|apply k_d|apply k_b)<;>intro _
   exact ⟨k + 1, rfl, rfl, rfl, by omega, by omega, h5⟩
 | none =>
  have hge := List.getElem?_eq_none_iff.1 hx
  rw [List.drop_eq_nil_of_le hge] at h5
  rw [h5]
  repeat' first|refine st ?_|(with_reducible first|apply k_d|apply k_b)<;>intro _
  all_goals rfl
end Go.Proofs
end
section
namespace Go.Proofs
open Go.Bi
def mp1I (ns : List Int) : List (D × AV) := ns.map fun s => (eI s, .d (eI 1))
theorem eqD_sI (a b : Int) : eqD .i (eI a) (eI b) = some (decide (a = b)) := by
 show (if IntKind.i64 = IntKind.i64 then some (a == b) else none) = _
 rw [if_pos rfl, Option.some.injEq, Bool.eq_iff_iff]
 simp
theorem mok_sI (s : Int) (kvs : List (D × AV)) (h : ∀ p ∈ kvs, ∃ t, p.1 = eI t) : mok .i (eI s) kvs := by
 refine ⟨fun p hp => ?_, by rw [eqD_sI]; simp⟩
 obtain ⟨t, ht⟩ := h p hp
 rw [ht, eqD_sI]; simp
theorem mp1_strI (ns : List Int) : ∀ p ∈ mp1I ns, ∃ t, p.1 = eI t := by
 intro p hp
 obtain ⟨s, _, rfl⟩ := List.mem_map.1 hp
 exact ⟨s, rfl⟩
theorem mget_inI {s : Int} : ∀ {ns : List Int}, s ∈ ns → mget .i (eI s) (mp1I ns) = some (.d (eI 1))
 | [], h => by cases h
 | t :: ns, h => by
  unfold mp1I
  rw [List.map_cons, mget, eqD_sI]
  by_cases e : s = t
  ·rw [if_pos (by rw [decide_eq_true e])]
  ·rw [if_neg (by simp [e])]
   exact mget_inI (by rcases List.mem_cons.1 h with h | h; exact absurd h e; exact h)
theorem mget_outI {s : Int} : ∀ {ns : List Int}, ¬ s ∈ ns → mget .i (eI s) (mp1I ns) = none
 | [], h => rfl
 | t :: ns, h => by
  unfold mp1I
  rw [List.map_cons, mget, eqD_sI]
  rw [if_neg (by simp; intro e; exact h (by simp [e]))]
  exact mget_outI fun h' => h (by simp [h'])
theorem mput_outI {s : Int} {v : AV} : ∀ {ns : List Int}, ¬ s ∈ ns → mput .i (eI s) v (mp1I ns) = mp1I ns ++ [(eI s, v)]
 | [], h => rfl
 | t :: ns, h => by
  unfold mp1I
  rw [List.map_cons, mput, eqD_sI]
  rw [if_neg (by simp; intro e; exact h (by simp [e]))]
  have e : mput .i (eI s) v (mp1I ns) = mp1I ns ++ [(eI s, v)] := mput_outI (fun h' : s ∈ ns => h (List.mem_cons_of_mem _ h'))
  unfold mp1I at e
  rw [e]; rfl
theorem mput_strI {s : Int} {v : AV} : ∀ {kvs : List (D × AV)}, (∀ p ∈ kvs, ∃ t, p.1 = eI t) → ∀ p ∈ mput .i (eI s) v kvs, ∃ t, p.1 = eI t
 | [], h, p, hp => by simp [mput] at hp; subst hp; exact ⟨s, rfl⟩
 | q :: kvs, h, p, hp => by
  unfold mput at hp
  split at hp
  ·rcases List.mem_cons.1 hp with rfl | hp
   ·exact ⟨s, rfl⟩
   ·exact h p (by simp [hp])
  ·rcases List.mem_cons.1 hp with rfl | hp
   ·exact h _ (by simp)
   ·exact mput_strI (fun p hp => h p (by simp [hp])) p hp
theorem mget_mputI {s : Int} {v : AV} : ∀ {kvs : List (D × AV)}, mget .i (eI s) (mput .i (eI s) v kvs) = some v
 | [] => by simp [mput, mget, eqD_sI]
 | q :: kvs => by
  unfold mput
  split
  ·simp [mget, eqD_sI]
  ·rename_i h
   rw [mget, if_neg h]
   exact mget_mputI
theorem mp1I_app (ns : List Int) (s : Int) : mp1I ns ++ [(eI s, .d (eI 1))] = mp1I (ns ++ [s]) := by simp [mp1I]
theorem mp1I_bnd (ns : List Int) (m : Nat) : (AO.map (mp1I ns)).bndB m = true := by
 refine List.all_eq_true.2 fun p hp => ?_
 obtain ⟨s, _, rfl⟩ := List.mem_map.1 hp
 rfl
def forsF (n : Nat) : List Fo → Int
 | [] => 0
 | f :: r => if forE n f = 0 then forsF n r else forE n f
def forsE (n : Nat) (l : List Fo) : Int := if l.length ≤ 4 then forsF n l else 5
theorem forsF_drop {n : Nat} {l : List Fo} {i : Nat} {f : Fo} (h : l[i]? = some f) : forsF n (l.drop i) = if forE n f = 0 then forsF n (l.drop (i + 1)) else forE n f := by
 obtain ⟨hlt, he⟩ := List.getElem?_eq_some_iff.1 h
 rw [List.drop_eq_getElem_cons hlt, he]; rfl
theorem C.schema_checkForeigns (n : List UInt8) (l : List Co) (hl : l.length ≤ 1048576) (fs : List Fo) (hfl : fs.length ≤ 1048576) (hfc : ∀ f ∈ fs, f.cs.length ≤ 1048576 ∧ f.tb.length ≤ 1048576) (dc dk df dx : D) (hc : SlD dc (eCs l)) (hdf : SlD df (eFs fs)) : Pure Tryz.prog N.schema_checkForeigns [eT n dc dk df dx] (.d (eI (forsE l.length fs))) := by
 refine F.schema_checkForeigns.go mixed rfl ?_
 have h1 := eFs_len fs
 have hm := eFs_mem fs
 unfold forsE
 by_cases h0 : fs.length ≤ 4
 rotate_left
 ·rw [if_neg h0]
  repeat' first|refine st ?_|(with_reducible first|apply k_d|apply k_b)<;>intro _
  all_goals first | rfl | (exfalso; omega)
 rw [if_pos h0]
 obtain ⟨q, hq⟩ : ∃ q, q = forsF l.length fs := ⟨_, rfl⟩
 rw [← hq]
 repeat' first|refine st ?_|(with_reducible first|apply k_d|apply k_b)<;>intro _
 refine x_loop1 mixed Lt.schema_checkForeigns_l1 Lk.schema_checkForeigns_l1 (fun (i : Nat) => [.d (eI i)]) (fun i => [.cells [.d (.str n), .d dc, .d dk, .d df, .d dx]]) (fun i => i ≤ fs.length ∧ q = forsF l.length (fs.drop i)) (fun i => fs.length - i) 0 rfl rfl rfl rfl (fun _ _ => ⟨rfl, rfl⟩) rfl ⟨by omega, hq⟩ ?_
 repeat' first|refine st ?_|(with_reducible first|apply k_d|apply k_b)<;>intro _
 intro i ⟨h4, h5⟩
 cases hx : fs[i]? with
 | some f =>
  have hlt := (List.getElem?_eq_some_iff.1 hx).1
  have hg := eFs_get hx
  obtain ⟨hf, hft⟩ := hfc f (List.mem_of_getElem? hx)
  have hN := C.schema_Name f.tb hft
  rw [forsF_drop hx] at h5
  have k1 := eIs_len f.cs
  have k2 := eIs_mem f.cs
  have hsd := f.sld
  obtain ⟨nl, cs, tb⟩ := f
  have hg : (eFs fs)[i]? = some [Fo.d ⟨nl, cs, tb⟩, .str tb] := hg
  obtain ⟨fd, hfd⟩ : ∃ fd, fd = Fo.d ⟨nl, cs, tb⟩ := ⟨_, rfl⟩
  rw [← hfd] at hsd hg
  dsimp only at k1 k2 hsd hN hf
  obtain ⟨e, he⟩ : ∃ e, e = forE l.length ⟨nl, cs, tb⟩ := ⟨_, rfl⟩
  rw [← he] at h5
  unfold forE at he
  dsimp only at he
  cases hv : nameB tb with
  | false =>
   rw [hv] at hN
   rw [hv, if_neg (by simp)] at he
   rw [he, if_neg (by decide)] at h5
   rw [h5]
   repeat' first|refine st ?_|((with_reducible first|apply k_pn|apply k_pc);(·exact hN))|(with_reducible first|apply k_d|apply k_b)<;>intro _
   all_goals rfl
  | true =>
   rw [hv] at hN
   rw [hv, if_pos rfl] at he
   have hcF : e = 0 → ¬ cs.length = 0 ∧ fcF l.length [] cs = 0 := fun h => by
    by_cases g : cs.length = 0
    ·rw [if_pos g] at he; omega
    ·rw [if_neg g] at he; exact ⟨g, by omega⟩
   have hcF2 : fcF l.length [] cs = 25 → e = 25 := fun h => by
    by_cases g : cs.length = 0
    ·rw [if_pos g] at he; exact he
    ·rw [if_neg g] at he; omega
   repeat' first|refine st ?_|((with_reducible first|apply k_pn|apply k_pc);(·exact hN))|(with_reducible first|apply k_d|apply k_b)<;>intro _
   refine x_loop1 mixed Lt.schema_checkForeigns_l0 Lk.schema_checkForeigns_l0 (fun (k : Nat) => [.d (eI k)]) (fun k => [.cells [.d (.str n), .d dc, .d dk, .d df, .d dx], .cells [.d fd, .d (.str tb)], .map (mp1I (cs.take k))]) (fun k => k ≤ cs.length ∧ fcF l.length [] cs = fcF l.length (cs.take k) (cs.drop k)) (fun k => cs.length - k) 0 rfl rfl rfl rfl (fun _ _ => ⟨rfl, (by rw [List.all_cons, List.all_cons, List.all_cons, mp1I_bnd]; rfl)⟩) rfl ⟨by omega, rfl⟩ ?_
   repeat' first|refine st ?_|(with_reducible first|apply k_d|apply k_b)<;>intro _
   intro k ⟨h6, h7⟩
   cases hy : cs[k]? with
   | some c =>
    have hlt2 := (List.getElem?_eq_some_iff.1 hy).1
    have hg2 := eIs_get hy
    have hH := C.schema_has n l hl dc dk df dx hc c
    rw [fcF_drop hy] at h7
    obtain ⟨kvs, hkv⟩ : ∃ kvs, kvs = mp1I (cs.take k) := ⟨_, rfl⟩
    have m1 : mok .i (eI c) kvs := by rw [hkv]; exact mok_sI _ _ (mp1_strI _)
    have hts : cs.take k ++ [c] = cs.take (k + 1) := by rw [List.take_add_one, hy]; rfl
    by_cases hin : c ∈ cs.take k
    ·rw [if_neg (fun h => h.2 hin)] at h7
     have e25 := hcF2 h7
     rw [e25, if_neg (by decide)] at h5
     have e1 : lkR false (zv false [.int .i64 0]) (mget .i (eI c) kvs) = .d (eI 1) := by rw [hkv, mget_inI hin]; rfl
     obtain ⟨kv2, e2⟩ : ∃ kv2, mput .i (eI c) (.d (eI 2)) kvs = kv2 := ⟨_, rfl⟩
     have m2 : mok .i (eI c) kv2 := by rw [← e2, hkv]; exact mok_sI _ _ (mput_strI (mp1_strI _))
     have e3 : lkR false (zv false [.int .i64 0]) (mget .i (eI c) kv2) = .d (eI 2) := by rw [← e2, mget_mputI]; rfl
     rw [← hkv]
     rw [h5]
     by_cases hh : 0 ≤ c ∧ c < l.length
     ·rw [decide_eq_true hh] at hH
      repeat' first|refine st ?_|((with_reducible first|apply k_pn|apply k_pc);(·exact hH))|(with_reducible first|apply k_d|apply k_b)<;>intro _
      all_goals rfl
     ·rw [decide_eq_false hh] at hH
      repeat' first|refine st ?_|((with_reducible first|apply k_pn|apply k_pc);(·exact hH))|(with_reducible first|apply k_d|apply k_b)<;>intro _
      all_goals rfl
    ·have e1 : lkR false (zv false [.int .i64 0]) (mget .i (eI c) kvs) = .d (eI 0) := by rw [hkv, mget_outI hin]; rfl
     have e2 : mput .i (eI c) (.d (eI 1)) kvs = mp1I (cs.take (k + 1)) := by rw [hkv, mput_outI hin, mp1I_app, hts]
     have m2 : mok .i (eI c) (mp1I (cs.take (k + 1))) := mok_sI _ _ (mp1_strI _)
     have e3 : lkR false (zv false [.int .i64 0]) (mget .i (eI c) (mp1I (cs.take (k + 1)))) = .d (eI 1) := by rw [mget_inI (by rw [← hts]; simp)]; rfl
     rw [← hkv]
     by_cases hh : 0 ≤ c ∧ c < l.length
     ·rw [decide_eq_true hh] at hH
      rw [if_pos ⟨hh, hin⟩] at h7
      repeat' first|refine st ?_|((with_reducible first|apply k_pn|apply k_pc);(·exact hH))|(with_reducible first|apply k_d|apply k_b)<;>intro _
      exact ⟨k + 1, rfl, rfl, rfl, by omega, by omega, h7⟩
     ·rw [decide_eq_false hh] at hH
      rw [if_neg (fun h => hh h.1)] at h7
      have e25 := hcF2 h7
      rw [e25, if_neg (by decide)] at h5
      rw [h5]
      repeat' first|refine st ?_|((with_reducible first|apply k_pn|apply k_pc);(·exact hH))|(with_reducible first|apply k_d|apply k_b)<;>intro _
      all_goals rfl
   | none =>
    have hge2 := List.getElem?_eq_none_iff.1 hy
    rw [List.drop_eq_nil_of_le hge2] at h7
    have h7 : fcF l.length [] cs = 0 := h7
    by_cases g : cs.length = 0
    ·rw [if_pos g] at he
     rw [he, if_neg (by decide)] at h5
     rw [h5]
     repeat' first|refine st ?_|(with_reducible first|apply k_d|apply k_b)<;>intro _
     all_goals first | rfl | (exfalso; omega)
    ·rw [if_neg g, h7] at he
     rw [if_pos he] at h5
     repeat' first|refine st ?_|(with_reducible first|apply k_d|apply k_b)<;>intro _
     exact ⟨i + 1, rfl, rfl, rfl, by omega, by omega, h5⟩
 | none =>
  have hge := List.getElem?_eq_none_iff.1 hx
  rw [List.drop_eq_nil_of_le hge] at h5
  rw [h5]
  repeat' first|refine st ?_|(with_reducible first|apply k_d|apply k_b)<;>intro _
  all_goals rfl
end Go.Proofs
end
