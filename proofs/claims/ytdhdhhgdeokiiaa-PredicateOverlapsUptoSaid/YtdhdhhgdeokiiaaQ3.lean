/- Texts of this claim, joined. No condition. -/
import Derived.Test.YtdhdhhgdeokiiaaQ2
section
/- Conditions: what a conjunct states. No condition. -/
set_option linter.unusedSimpArgs false
set_option linter.unusedVariables false
set_option maxRecDepth 10000
set_option maxHeartbeats 4000000
namespace Go.Proofs
open Go.Bi

structure Cd where
  op : Int
  col : Int
  v : Vl
abbrev Cd.ds (c : Cd) : List D := [eI c.op, eI c.col, eI c.v.k, eI c.v.n, .str c.v.s]
abbrev Cd.av (c : Cd) : AV := .agg [.d (eI c.op), .d (eI c.col), .d (eI c.v.k), .d (eI c.v.n), .d (.str c.v.s)]
def eDs (l : List Cd) : List (List D) := l.map Cd.ds
theorem eDs_len (l : List Cd) : (eDs l).length = l.length := by simp [eDs]
theorem eDs_get {l : List Cd} {i : Nat} {c : Cd} (h : l[i]? = some c) : (eDs l)[i]? = some c.ds := by simp [eDs, h]
theorem eDs_mem (l : List Cd) : ∀ e ∈ eDs l, e.length = 5 := by
  intro e he
  obtain ⟨x, _, rfl⟩ := List.mem_map.1 he
  rfl
theorem eDs_app (l : List Cd) (c : Cd) : eDs l ++ [c.ds] = eDs (l ++ [c]) := by simp [eDs]
def cd0 : Cd := ⟨0, 0, vNull⟩
def mir (op : Int) : Int := if op = 9 then 11 else if op = 11 then 9 else if op = 10 then 12 else if op = 12 then 10 else op
def cmpOp (op : Int) : Bool := decide (op = 7 ∨ op = 9 ∨ op = 10 ∨ op = 11 ∨ op = 12)
def condP (op aop an : Int) (av : Vl) (bop bn : Int) (bv : Vl) : Option Cd :=
  if aop = 1 then (if bop = 2 ∧ av.k ≠ 0 ∧ vValid av = true then some ⟨mir op, bn, av⟩ else none)
  else if aop = 2 ∧ bop = 1 ∧ bv.k ≠ 0 ∧ vValid bv = true then some ⟨op, an, bv⟩ else none
def cond : Ex → Option Cd
  | .mk op _ _ _ _ [.mk aop an av _ _ _, .mk bop bn bv _ _ _] => if cmpOp op then condP op aop an av bop bn bv else none
  | _ => none
theorem cond_len {op n : Int} {v : Vl} {nm : List UInt8} {nl : Bool} {args : List Ex} (h : args.length ≠ 2) : cond (.mk op n v nm nl args) = none := by
  match args with
  | [] => rfl
  | [a] => cases a; rfl
  | [a, b] => exact absurd rfl h
  | a :: b :: c :: l => cases a; cases b; rfl
theorem cond_op {op n : Int} {v : Vl} {nm : List UInt8} {nl : Bool} {args : List Ex} (h : cmpOp op = false) : cond (.mk op n v nm nl args) = none := by
  match args with
  | [] => rfl
  | [a] => cases a; rfl
  | [.mk aop an av _ _ _, .mk bop bn bv _ _ _] => rw [cond, h]; rfl
  | a :: b :: c :: l => cases a; cases b; rfl
/-- What 'condition' returns. -/
def cdO (o : Option Cd) : AV := .tup [(o.getD cd0).av, .d (.bool o.isSome)]
theorem cond_ok {e : Ex} {c : Cd} (h : cond e = some c) : cmpOp c.op = true ∧ c.v.k ≠ 0 ∧ vValid c.v = true := by
  obtain ⟨op, n, v, nm, nl, args⟩ := e
  match args with
  | [] => cases h
  | [a] => cases a; cases h
  | a :: b :: c :: l => cases a; cases b; cases h
  | [.mk aop an av _ _ _, .mk bop bn bv _ _ _] =>
    rw [cond] at h
    cases hc : cmpOp op with
    | false => rw [hc] at h; cases h
    | true =>
      rw [hc, if_pos rfl] at h
      unfold condP at h
      have hm : cmpOp (mir op) = true := by
        unfold cmpOp at hc ⊢
        unfold mir
        have := of_decide_eq_true hc
        rcases this with rfl | rfl | rfl | rfl | rfl <;> decide
      split at h
      · split at h
        · rename_i h1; cases h; exact ⟨hm, h1.2.1, h1.2.2⟩
        · cases h
      · split at h
        · rename_i h1; cases h; exact ⟨hc, h1.2.2.1, h1.2.2.2⟩
        · cases h
theorem C.predicate_mirrored (op : Int) : Pure Try.prog N.predicate_mirrored [.d (eI op)] (.d (eI (mir op))) := by
  refine F.predicate_mirrored.go mixed rfl ?_
  obtain ⟨q, hq⟩ : ∃ q, q = mir op := ⟨_, rfl⟩
  rw [← hq]
  unfold mir at hq
  repeat' first
    | refine st ?_
    | ((with_reducible apply go_i); (conv => whnf))
    | (with_reducible apply k_d <;> intro _)
    | (with_reducible apply k_b <;> intro _)
  all_goals (simp_all)
theorem C.r12_mirrored (op : Int) : Pure Try.prog N.bt_ref12_mirrored [.d (eI op)] (.d (eI (mir op))) := by
  refine F.bt_ref12_mirrored.go mixed rfl ?_
  obtain ⟨q, hq⟩ : ∃ q, q = mir op := ⟨_, rfl⟩
  rw [← hq]
  unfold mir at hq
  repeat' first
    | refine st ?_
    | ((with_reducible apply go_i); (conv => whnf))
    | (with_reducible apply k_d <;> intro _)
    | (with_reducible apply k_b <;> intro _)
  all_goals (simp_all)
theorem C.predicate_condition (e : Ex) (he : e.bk ≤ 1048576) : Pure Try.prog N.predicate_condition [e.av] (cdO (cond e)) := by
  obtain ⟨op, n, v, nm, nl, args⟩ := e
  obtain ⟨b1, b2, b3, b4⟩ := Ex.bk_bounds he
  rw [Ex.av_mk]
  have h1 := xL_len args
  have hm := xL_mem args
  obtain ⟨da, hda⟩ : ∃ d, d = ng nl (xL args) := ⟨_, rfl⟩
  have hsd : SlD da (xL args) := by rw [hda]; exact sld_ng
  rw [← hda]
  refine F.predicate_condition.go mixed rfl ?_
  cases hc : cmpOp op with
  | false =>
    rw [cond_op hc]
    unfold cmpOp at hc
    have hc := of_decide_eq_false hc
    repeat' first
      | refine st ?_
      | ((with_reducible apply go_i); (conv => whnf))
      | (with_reducible apply k_d <;> intro _)
      | (with_reducible apply k_b <;> intro _)
    all_goals first | rfl | (exfalso; omega)
  | true =>
    by_cases h2 : args.length = 2
    rotate_left
    · rw [cond_len h2]
      unfold cmpOp at hc
      have hc := of_decide_eq_true hc
      repeat' first
        | refine st ?_
        | ((with_reducible apply go_i); (conv => whnf))
        | (with_reducible apply k_d <;> intro _)
        | (with_reducible apply k_b <;> intro _)
      all_goals first | rfl | (exfalso; omega)
    match args, h2 with
    | [a, b], _ =>
      obtain ⟨aop, an, av, am, al, aa⟩ := a
      obtain ⟨bop, bn, bv, bm, bl, ba⟩ := b
      have ba' := b4 _ (List.mem_cons_self ..)
      have bb' := b4 _ (List.mem_cons_of_mem _ (List.mem_cons_self ..))
      have ca := Ex.bk_bounds ba'
      have cb := Ex.bk_bounds bb'
      rw [cond, hc, if_pos rfl]
      unfold cmpOp at hc
      have hc := of_decide_eq_true hc
      obtain ⟨es, hes⟩ : ∃ es, es = xL [.mk aop an av am al aa, .mk bop bn bv bm bl ba] := ⟨_, rfl⟩
      have g0 : es[0]? = some (xds aop an av am (ng al (xL aa))) := by rw [hes, ← Ex.ds_mk]; rfl
      have g1 : es[1]? = some (xds bop bn bv bm (ng bl (xL ba))) := by rw [hes, ← Ex.ds_mk]; rfl
      rw [← hes] at hsd h1 hm
      obtain ⟨d1, hd1⟩ : ∃ d, d = ng al (xL aa) := ⟨_, rfl⟩
      obtain ⟨d2, hd2⟩ : ∃ d, d = ng bl (xL ba) := ⟨_, rfl⟩
      rw [← hd1] at g0
      rw [← hd2] at g1
      have h1 : es.length = 2 := h1
      have q0 : av.s = av.s := rfl
      have q1 : bv.s = bv.s := rfl
      have hM := C.predicate_mirrored op
      have hVa := C.value_Valid av (by omega)
      have hVb := C.value_Valid bv (by omega)
      obtain ⟨o, ho⟩ : ∃ o, o = condP op aop an av bop bn bv := ⟨_, rfl⟩
      rw [← ho]
      unfold condP at ho
      by_cases a1 : aop = 1
      · rw [if_pos a1] at ho
        cases hv : vValid av with
        | false =>
          rw [hv] at hVa
          rw [if_neg (by rw [hv]; simp)] at ho
          subst ho
          repeat' first
            | refine st ?_
            | ((with_reducible apply go_i); (conv => whnf))
            | ((with_reducible apply k_pn); (· first | exact hM | exact hVa))
            | ((with_reducible apply k_pc); (· first | exact hM | exact hVa))
            | (with_reducible apply k_d <;> intro _)
            | (with_reducible apply k_b <;> intro _)
          all_goals first | rfl | (exfalso; omega)
        | true =>
          rw [hv] at hVa
          by_cases z : bop = 2 ∧ av.k ≠ 0
          · obtain ⟨z1, z2⟩ := z
            rw [if_pos ⟨z1, z2, hv⟩] at ho
            subst ho
            repeat' first
              | refine st ?_
              | ((with_reducible apply go_i); (conv => whnf))
              | ((with_reducible apply k_pn); (· first | exact hM | exact hVa))
              | ((with_reducible apply k_pc); (· first | exact hM | exact hVa))
              | (with_reducible apply k_d <;> intro _)
              | (with_reducible apply k_b <;> intro _)
            all_goals first | rfl | (exfalso; omega)
          · rw [if_neg (fun h => z ⟨h.1, h.2.1⟩)] at ho
            subst ho
            repeat' first
              | refine st ?_
              | ((with_reducible apply go_i); (conv => whnf))
              | ((with_reducible apply k_pn); (· first | exact hM | exact hVa))
              | ((with_reducible apply k_pc); (· first | exact hM | exact hVa))
              | (with_reducible apply k_d <;> intro _)
              | (with_reducible apply k_b <;> intro _)
            all_goals first | rfl | (exfalso; omega) | (exfalso; simp_all; done)
      · rw [if_neg a1] at ho
        cases hv : vValid bv with
        | false =>
          rw [hv] at hVb
          rw [if_neg (by rw [hv]; simp)] at ho
          subst ho
          repeat' first
            | refine st ?_
            | ((with_reducible apply go_i); (conv => whnf))
            | ((with_reducible apply k_pn); (· first | exact hM | exact hVb))
            | ((with_reducible apply k_pc); (· first | exact hM | exact hVb))
            | (with_reducible apply k_d <;> intro _)
            | (with_reducible apply k_b <;> intro _)
          all_goals first | rfl | (exfalso; omega)
        | true =>
          rw [hv] at hVb
          by_cases z : aop = 2 ∧ bop = 1 ∧ bv.k ≠ 0
          · obtain ⟨z0, z1, z2⟩ := z
            rw [if_pos ⟨z0, z1, z2, hv⟩] at ho
            subst ho
            repeat' first
              | refine st ?_
              | ((with_reducible apply go_i); (conv => whnf))
              | ((with_reducible apply k_pn); (· first | exact hM | exact hVb))
              | ((with_reducible apply k_pc); (· first | exact hM | exact hVb))
              | (with_reducible apply k_d <;> intro _)
              | (with_reducible apply k_b <;> intro _)
            all_goals first | rfl | (exfalso; omega)
          · rw [if_neg (fun h => z ⟨h.1, h.2.1, h.2.2.1⟩)] at ho
            subst ho
            repeat' first
              | refine st ?_
              | ((with_reducible apply go_i); (conv => whnf))
              | ((with_reducible apply k_pn); (· first | exact hM | exact hVb))
              | ((with_reducible apply k_pc); (· first | exact hM | exact hVb))
              | (with_reducible apply k_d <;> intro _)
              | (with_reducible apply k_b <;> intro _)
            all_goals first | rfl | (exfalso; omega) | (exfalso; simp_all; done)
def plainX (op : Int) (v : Vl) : Bool := decide (op = 1) && (vValid v && !decide (v.k = 0))
theorem C.r12_plain (op n : Int) (v : Vl) (nm : List UInt8) (d : D) (hs : v.s.length ≤ 1048576) : Pure Try.prog N.bt_ref12_plain [eX op n v nm d] (.d (.bool (plainX op v))) := by
  refine F.bt_ref12_plain.go mixed rfl ?_
  have hV := C.r7_Valid v (by omega)
  obtain ⟨q, hq⟩ : ∃ q, q = plainX op v := ⟨_, rfl⟩
  rw [← hq]
  unfold plainX at hq
  cases hv : vValid v with
  | false =>
    rw [hv] at hV hq
    repeat' first
      | refine st ?_
      | ((with_reducible apply go_i); (conv => whnf))
      | ((with_reducible apply k_pn); (· exact hV))
      | ((with_reducible apply k_pc); (· exact hV))
      | (with_reducible apply k_d <;> intro _)
      | (with_reducible apply k_b <;> intro _)
    all_goals simp_all
  | true =>
    rw [hv] at hV hq
    repeat' first
      | refine st ?_
      | ((with_reducible apply go_i); (conv => whnf))
      | ((with_reducible apply k_pn); (· exact hV))
      | ((with_reducible apply k_pc); (· exact hV))
      | (with_reducible apply k_d <;> intro _)
      | (with_reducible apply k_b <;> intro _)
    all_goals simp_all
theorem C.r12_condition (e : Ex) (he : e.bk ≤ 1048576) : Pure Try.prog N.bt_ref12_condition [e.av] (cdO (cond e)) := by
  obtain ⟨op, n, v, nm, nl, args⟩ := e
  obtain ⟨b1, b2, b3, b4⟩ := Ex.bk_bounds he
  rw [Ex.av_mk]
  have h1 := xL_len args
  have hm := xL_mem args
  obtain ⟨da, hda⟩ : ∃ d, d = ng nl (xL args) := ⟨_, rfl⟩
  have hsd : SlD da (xL args) := by rw [hda]; exact sld_ng
  rw [← hda]
  refine F.bt_ref12_condition.go mixed rfl ?_
  cases hc : cmpOp op with
  | false =>
    rw [cond_op hc]
    unfold cmpOp at hc
    have hc := of_decide_eq_false hc
    repeat' first
      | refine st ?_
      | ((with_reducible apply go_i); (conv => whnf))
      | (with_reducible apply k_d <;> intro _)
      | (with_reducible apply k_b <;> intro _)
    all_goals first | rfl | (exfalso; omega)
  | true =>
    by_cases h2 : args.length = 2
    rotate_left
    · rw [cond_len h2]
      unfold cmpOp at hc
      have hc := of_decide_eq_true hc
      repeat' first
        | refine st ?_
        | ((with_reducible apply go_i); (conv => whnf))
        | (with_reducible apply k_d <;> intro _)
        | (with_reducible apply k_b <;> intro _)
      all_goals first | rfl | (exfalso; omega)
    match args, h2 with
    | [a, b], _ =>
      obtain ⟨aop, an, av, am, al, aa⟩ := a
      obtain ⟨bop, bn, bv, bm, bl, ba⟩ := b
      have ba' := b4 _ (List.mem_cons_self ..)
      have bb' := b4 _ (List.mem_cons_of_mem _ (List.mem_cons_self ..))
      have ca := Ex.bk_bounds ba'
      have cb := Ex.bk_bounds bb'
      rw [cond, hc, if_pos rfl]
      unfold cmpOp at hc
      have hc := of_decide_eq_true hc
      obtain ⟨es, hes⟩ : ∃ es, es = xL [.mk aop an av am al aa, .mk bop bn bv bm bl ba] := ⟨_, rfl⟩
      have g0 : es[0]? = some (xds aop an av am (ng al (xL aa))) := by rw [hes, ← Ex.ds_mk]; rfl
      have g1 : es[1]? = some (xds bop bn bv bm (ng bl (xL ba))) := by rw [hes, ← Ex.ds_mk]; rfl
      rw [← hes] at hsd h1 hm
      obtain ⟨d1, hd1⟩ : ∃ d, d = ng al (xL aa) := ⟨_, rfl⟩
      obtain ⟨d2, hd2⟩ : ∃ d, d = ng bl (xL ba) := ⟨_, rfl⟩
      rw [← hd1] at g0
      rw [← hd2] at g1
      have h1 : es.length = 2 := h1
      have q0 : av.s = av.s := rfl
      have q1 : bv.s = bv.s := rfl
      have hM := C.r12_mirrored op
      have hPa := C.r12_plain aop an av am d1 (by omega)
      have hPb := C.r12_plain bop bn bv bm d2 (by omega)
      obtain ⟨o, ho⟩ : ∃ o, o = condP op aop an av bop bn bv := ⟨_, rfl⟩
      rw [← ho]
      unfold condP at ho
      by_cases a1 : aop = 1
      · rw [if_pos a1] at ho
        have hp : plainX aop av = (vValid av && !decide (av.k = 0)) := by unfold plainX; rw [decide_eq_true a1, Bool.true_and]
        by_cases z : bop = 2 ∧ av.k ≠ 0 ∧ vValid av = true
        · rw [if_pos z] at ho
          obtain ⟨z1, z2, z3⟩ := z
          rw [hp, z3, decide_eq_false z2] at hPa
          subst ho
          repeat' first
            | refine st ?_
            | ((with_reducible apply go_i); (conv => whnf))
            | ((with_reducible apply k_pn); (· first | exact hM | exact hPa | exact hPb))
            | ((with_reducible apply k_pc); (· first | exact hM | exact hPa | exact hPb))
            | (with_reducible apply k_d <;> intro _)
            | (with_reducible apply k_b <;> intro _)
          all_goals first | rfl | (exfalso; omega)
        · rw [if_neg z] at ho
          subst ho
          by_cases z1 : bop = 2
          · have : plainX aop av = false := by
              rw [hp, Bool.eq_false_iff]
              intro h
              simp only [Bool.and_eq_true, Bool.not_eq_true', decide_eq_false_iff_not] at h
              exact z ⟨z1, h.2, h.1⟩
            rw [this] at hPa
            repeat' first
              | refine st ?_
              | ((with_reducible apply go_i); (conv => whnf))
              | ((with_reducible apply k_pn); (· first | exact hM | exact hPa | exact hPb))
              | ((with_reducible apply k_pc); (· first | exact hM | exact hPa | exact hPb))
              | (with_reducible apply k_d <;> intro _)
              | (with_reducible apply k_b <;> intro _)
            all_goals first | rfl | (exfalso; omega)
          · repeat' first
              | refine st ?_
              | ((with_reducible apply go_i); (conv => whnf))
              | ((with_reducible apply k_pn); (· first | exact hM | exact hPa | exact hPb))
              | ((with_reducible apply k_pc); (· first | exact hM | exact hPa | exact hPb))
              | (with_reducible apply k_d <;> intro _)
              | (with_reducible apply k_b <;> intro _)
            all_goals first | rfl | (exfalso; omega)
      · rw [if_neg a1] at ho
        have hpa : plainX aop av = false := by unfold plainX; rw [decide_eq_false a1, Bool.false_and]
        rw [hpa] at hPa
        by_cases z : aop = 2 ∧ bop = 1 ∧ bv.k ≠ 0 ∧ vValid bv = true
        · rw [if_pos z] at ho
          obtain ⟨z0, z1, z2, z3⟩ := z
          have : plainX bop bv = true := by unfold plainX; rw [decide_eq_true z1, z3, decide_eq_false z2]; rfl
          rw [this] at hPb
          subst ho
          repeat' first
            | refine st ?_
            | ((with_reducible apply go_i); (conv => whnf))
            | ((with_reducible apply k_pn); (· first | exact hM | exact hPa | exact hPb))
            | ((with_reducible apply k_pc); (· first | exact hM | exact hPa | exact hPb))
            | (with_reducible apply k_d <;> intro _)
            | (with_reducible apply k_b <;> intro _)
          all_goals first | rfl | (exfalso; omega)
        · rw [if_neg z] at ho
          subst ho
          by_cases z0 : aop = 2
          · have : plainX bop bv = false := by
              rw [Bool.eq_false_iff]
              intro h
              unfold plainX at h
              simp only [Bool.and_eq_true, Bool.not_eq_true', decide_eq_false_iff_not, decide_eq_true_eq] at h
              exact z ⟨z0, h.1, h.2.2, h.2.1⟩
            rw [this] at hPb
            repeat' first
              | refine st ?_
              | ((with_reducible apply go_i); (conv => whnf))
              | ((with_reducible apply k_pn); (· first | exact hM | exact hPa | exact hPb))
              | ((with_reducible apply k_pc); (· first | exact hM | exact hPa | exact hPb))
              | (with_reducible apply k_d <;> intro _)
              | (with_reducible apply k_b <;> intro _)
            all_goals first | rfl | (exfalso; omega)
          · repeat' first
              | refine st ?_
              | ((with_reducible apply go_i); (conv => whnf))
              | ((with_reducible apply k_pn); (· first | exact hM | exact hPa | exact hPb))
              | ((with_reducible apply k_pc); (· first | exact hM | exact hPa | exact hPb))
              | (with_reducible apply k_d <;> intro _)
              | (with_reducible apply k_b <;> intro _)
            all_goals first | rfl | (exfalso; omega)
end Go.Proofs
end
section
/- Conditions and conjuncts of whole predicates. No condition. -/
set_option linter.unusedSimpArgs false
set_option linter.unusedVariables false
set_option maxRecDepth 10000
set_option maxHeartbeats 4000000
namespace Go.Proofs
open Go.Bi

def okA (sz : Nat) (k : Nat) (A : List (List D)) : Prop := A.length + k ≤ 2097152 ∧ ∀ e ∈ A, e.length = sz
def addC (A : List (List D)) (x : Ex) : List (List D) := A ++ (cond x).toList.map Cd.ds
theorem addC_fold (l : List Ex) : ∀ A, l.foldl addC A = A ++ eDs (l.filterMap cond) := by
  induction l with
  | nil => intro A; simp [eDs]
  | cons x l ih =>
    intro A
    rw [List.foldl_cons, ih, List.filterMap_cons, addC, List.append_assoc]
    cases cond x <;> simp [eDs]
def conds (e : Ex) : List Cd := (cj e).filterMap cond
theorem conds_len (e : Ex) : (conds e).length ≤ e.bk := Nat.le_trans (List.length_filterMap_le _ _) (cj_len e)
theorem conds_ok {e : Ex} {c : Cd} (h : c ∈ conds e) : cmpOp c.op = true ∧ c.v.k ≠ 0 ∧ vValid c.v = true := by
  obtain ⟨x, _, hx⟩ := List.mem_filterMap.1 h
  exact cond_ok hx
theorem C.Conditions_c1 (x : Ex) (hx : x.bk ≤ 1048576) (k : Nat) (A : List (List D)) (hA : okA 5 (k + 1) A) : okA 5 k (addC A x) ∧ CallSpec Try.prog N.predicate_Conditions_c1 [x.av, .ptr 0 0] [.cells [.arr 1 A.length], .arr A 5 0 A.isEmpty] (fun r os => r = .tup [] ∧ os = [.cells [.arr 1 (addC A x).length], .arr (addC A x) 5 0 (addC A x).isEmpty]) := by
  obtain ⟨k1, k2⟩ := hA
  have hC := C.predicate_condition x hx
  unfold addC
  cases hc : cond x with
  | none =>
    rw [hc] at hC
    simp only [Option.toList_none, List.map_nil, List.append_nil]
    refine ⟨⟨by omega, k2⟩, ?_⟩
    obtain ⟨op, n, v, nm, nl, args⟩ := x
    rw [Ex.av_mk] at hC ⊢
    refine F.predicate_Conditions_c1.goX mixed rfl ?_
    repeat' first
      | refine st ?_
      | ((with_reducible apply go_i); (conv => whnf))
      | ((with_reducible apply k_pn); (· exact hC))
      | ((with_reducible apply k_pc); (· exact hC))
      | (with_reducible apply k_d <;> intro _)
      | (with_reducible apply k_b <;> intro _)
    all_goals exact ⟨rfl, rfl⟩
  | some c =>
    rw [hc] at hC
    simp only [Option.toList_some, List.map_cons, List.map_nil]
    refine ⟨⟨by simp; omega, fun e he => ?_⟩, ?_⟩
    · rcases List.mem_append.1 he with h | h
      · exact k2 e h
      · simp at h; subst h; rfl
    obtain ⟨op, n, v, nm, nl, args⟩ := x
    obtain ⟨cop, col, cv⟩ := c
    rw [Ex.av_mk] at hC ⊢
    refine F.predicate_Conditions_c1.goX mixed rfl ?_
    obtain ⟨b, hb⟩ : ∃ b, b = A.isEmpty := ⟨_, rfl⟩
    rw [← hb]
    have e1 : (A ++ [Cd.ds ⟨cop, col, cv⟩]).isEmpty = false := by simp
    rw [e1]
    repeat' first
      | refine st ?_
      | ((with_reducible apply go_i); (conv => whnf))
      | ((with_reducible apply k_pn); (· exact hC))
      | ((with_reducible apply k_pc); (· exact hC))
      | (with_reducible apply k_d <;> intro _)
      | (with_reducible apply k_b <;> intro _)
    all_goals first | exact ⟨rfl, rfl⟩ | skip
theorem C.predicate_Conditions (e : Ex) (he : e.bk ≤ 1048576) : Pure Try.prog N.predicate_Conditions [e.av] (.d (nsl (eDs (conds e)))) := by
  have hl := cj_len e
  have hE := (C.each_l N.predicate_Conditions_c1 5 addC (okA 5) C.Conditions_c1 e he 0 [] ⟨by simp; omega, by simp⟩).2
  rw [addC_fold, List.nil_append] at hE
  obtain ⟨R, hR⟩ : ∃ R, R = eDs (conds e) := ⟨_, rfl⟩
  rw [show eDs ((cj e).filterMap cond) = R from hR.symm] at hE
  rw [← hR]
  have hB : ∀ (E : List AV), (∀ c ∈ E, ∃ x, c = .d x) → CallSpec Try.prog N.predicate_each [e.av, .clo N.predicate_Conditions_c1 [1]] [.cells E, .cells [.d .nil]] (fun r os => r = .tup [] ∧ os = [.cells E, .cells [.arr 2 R.length], .arr R 5 0 R.isEmpty]) := by
    intro E hEE
    refine CallSpec.nilc 1 0 5 rfl (cs := [.d .nil]) rfl rfl ?_
    have := CallSpec.frame (K := fun r os => r = .tup [] ∧ os = [.cells E, .cells [.arr 2 R.length], .arr R 5 0 R.isEmpty]) hE [1, 2] [.cells E, .cells [.arr 2 0], .arr [] 5 0 true] rfl (by decide) (fun i o h => by
      match i, h with
      | 0, h => cases h; rfl
      | 1, h => cases h; rfl
      | i + 2, h => simp at h) (fun a ha => by
        simp only [List.mem_cons, List.not_mem_nil, or_false] at ha
        rcases ha with rfl | rfl
        · exact bnd_ds _ _
        · simp [AV.bnd2, AV.bnd1]) (fun o ho => by
        simp only [List.mem_cons, List.not_mem_nil, or_false] at ho
        rcases ho with rfl | rfl <;> simp [AO.bnd, AV.bnd1]) (by rintro r bs' ⟨rfl, rfl⟩; exact ⟨rfl, rfl⟩)
    rw [List.map_cons, List.map_cons, List.map_nil, Ex.av, mG_ds] at this
    exact this
  obtain ⟨op, n, v, nm, nl, args⟩ := e
  rw [Ex.av_mk] at hB ⊢
  refine F.predicate_Conditions.go mixed rfl ?_
  have hB' := hB ((xds op n v nm (ng nl (xL args))).map .d) (fun c hc => by
    obtain ⟨y, _, rfl⟩ := List.mem_map.1 hc
    exact ⟨y, rfl⟩)
  obtain ⟨b, hb⟩ : ∃ b, b = R.isEmpty := ⟨_, rfl⟩
  rw [← hb] at hB'
  unfold nsl
  rw [← hb]
  cases b with
  | true =>
    repeat' first
      | refine st ?_
      | ((with_reducible apply go_i); (conv => whnf))
      | ((with_reducible apply k_nc); (· first | exact hB'); (try rintro _ _ ⟨rfl, rfl⟩))
      | ((with_reducible apply k_pr); (· first | exact hB'))
      | ((with_reducible apply k_cs); (· first | exact hB'); (try rintro _ _ ⟨rfl, rfl⟩))
      | ((with_reducible apply k_cal); refine st ?_; (with_reducible apply k_chk); (· exact rfl); refine st ?_; (with_reducible apply k_cs); (· first | exact hB'); (try rintro _ _ ⟨rfl, rfl⟩))
      | (with_reducible apply k_d <;> intro _)
      | (with_reducible apply k_b <;> intro _)
    all_goals rfl
  | false =>
    repeat' first
      | refine st ?_
      | ((with_reducible apply go_i); (conv => whnf))
      | ((with_reducible apply k_nc); (· first | exact hB'); (try rintro _ _ ⟨rfl, rfl⟩))
      | ((with_reducible apply k_pr); (· first | exact hB'))
      | ((with_reducible apply k_cs); (· first | exact hB'); (try rintro _ _ ⟨rfl, rfl⟩))
      | ((with_reducible apply k_cal); refine st ?_; (with_reducible apply k_chk); (· exact rfl); refine st ?_; (with_reducible apply k_cs); (· first | exact hB'); (try rintro _ _ ⟨rfl, rfl⟩))
      | (with_reducible apply k_d <;> intro _)
      | (with_reducible apply k_b <;> intro _)
    all_goals rfl
end Go.Proofs
end
section
/- Conjuncts, conditions of the reference, equations. No condition. -/
set_option linter.unusedSimpArgs false
set_option linter.unusedVariables false
set_option maxRecDepth 10000
set_option maxHeartbeats 4000000
namespace Go.Proofs
open Go.Bi

theorem each_use {g : FuncId} {sz : Nat} (hsz : Nat.blt 0 sz = true) {R : List (List D)} {ds : List D} (hE : CallSpec Try.prog N.predicate_each [.agg (ds.map .d), .clo g [0]] [.cells [.arr 1 0], .arr [] sz 0 true] (fun r os => r = .tup [] ∧ os = [.cells [.arr 1 R.length], .arr R sz 0 R.isEmpty])) (E : List AV) (hEE : ∀ c ∈ E, ∃ x, c = .d x) :
    CallSpec Try.prog N.predicate_each [.agg (ds.map .d), .clo g [1]] [.cells E, .cells [.d .nil]] (fun r os => r = .tup [] ∧ os = [.cells E, .cells [.arr 2 R.length], .arr R sz 0 R.isEmpty]) := by
  refine CallSpec.nilc 1 0 sz hsz (cs := [.d .nil]) rfl rfl ?_
  have := CallSpec.frame (K := fun r os => r = .tup [] ∧ os = [.cells E, .cells [.arr 2 R.length], .arr R sz 0 R.isEmpty]) hE [1, 2] [.cells E, .cells [.arr 2 0], .arr [] sz 0 true] rfl (by decide) (fun i o h => by
    match i, h with
    | 0, h => cases h; rfl
    | 1, h => cases h; rfl
    | i + 2, h => simp at h) (fun a ha => by
      simp only [List.mem_cons, List.not_mem_nil, or_false] at ha
      rcases ha with rfl | rfl
      · exact bnd_ds _ _
      · simp [AV.bnd2, AV.bnd1]) (fun o ho => by
      simp only [List.mem_cons, List.not_mem_nil, or_false] at ho
      rcases ho with rfl | rfl <;> simp [AO.bnd, AV.bnd1]) (by rintro r bs' ⟨rfl, rfl⟩; exact ⟨rfl, rfl⟩)
  rw [List.map_cons, List.map_cons, List.map_nil, mG_ds] at this
  exact this
theorem each_uses {g : FuncId} {sz : Nat} (hsz : Nat.blt 0 sz = true) {R : List (List D)} {ds : List D} {z : D} (hE : CallSpec Try.prog N.predicate_each [.agg (ds.map .d), .clo g [0, 1]] [.cells [.d z], .cells [.arr 2 0], .arr [] sz 0 true] (fun r os => r = .tup [] ∧ os = [.cells [.d z], .cells [.arr 2 R.length], .arr R sz 0 R.isEmpty])) (E : List AV) (hEE : ∀ c ∈ E, ∃ x, c = .d x) :
    CallSpec Try.prog N.predicate_each [.agg (ds.map .d), .clo g [1, 2]] [.cells E, .cells [.d z], .cells [.d .nil]] (fun r os => r = .tup [] ∧ os = [.cells E, .cells [.d z], .cells [.arr 3 R.length], .arr R sz 0 R.isEmpty]) := by
  refine CallSpec.nilc 2 0 sz hsz (cs := [.d .nil]) rfl rfl ?_
  have := CallSpec.frame (K := fun r os => r = .tup [] ∧ os = [.cells E, .cells [.d z], .cells [.arr 3 R.length], .arr R sz 0 R.isEmpty]) hE [1, 2, 3] [.cells E, .cells [.d z], .cells [.arr 3 0], .arr [] sz 0 true] rfl (by decide) (fun i o h => by
    match i, h with
    | 0, h => cases h; rfl
    | 1, h => cases h; rfl
    | 2, h => cases h; rfl
    | i + 3, h => simp at h) (fun a ha => by
      simp only [List.mem_cons, List.not_mem_nil, or_false] at ha
      rcases ha with rfl | rfl
      · exact bnd_ds _ _
      · simp [AV.bnd2, AV.bnd1]) (fun o ho => by
      simp only [List.mem_cons, List.not_mem_nil, or_false] at ho
      rcases ho with rfl | rfl | rfl <;> simp [AO.bnd, AV.bnd1]) (by rintro r bs' ⟨rfl, rfl⟩; exact ⟨rfl, rfl⟩)
  rw [List.map_cons, List.map_cons, List.map_nil, mG_ds] at this
  exact this
theorem all_d (ds : List D) : ∀ c ∈ ds.map AV.d, ∃ x, c = .d x := fun c hc => by
  obtain ⟨y, _, rfl⟩ := List.mem_map.1 hc
  exact ⟨y, rfl⟩

/-! ### Conjuncts -/
def addX (A : List (List D)) (x : Ex) : List (List D) := A ++ [(shf 0 x).ds]
theorem addX_fold (l : List Ex) : ∀ A, l.foldl addX A = A ++ xL (l.map (shf 0)) := by
  induction l with
  | nil => intro A; simp [xL]
  | cons x l ih =>
    intro A
    rw [List.foldl_cons, ih, addX, List.append_assoc]
    simp [xL]
theorem shf_ds_len (k : Int) (x : Ex) : (shf k x).ds.length = 7 := by
  obtain ⟨op, n, v, nm, nl, args⟩ := x
  rw [shf_mk, Ex.ds_mk]; rfl
theorem C.Conjuncts_c1 (x : Ex) (hx : x.bk ≤ 1048576) (k : Nat) (A : List (List D)) (hA : okA 7 (k + 1) A) : okA 7 k (addX A x) ∧ CallSpec Try.prog N.predicate_Conjuncts_c1 [x.av, .ptr 0 0] [.cells [.arr 1 A.length], .arr A 7 0 A.isEmpty] (fun r os => r = .tup [] ∧ os = [.cells [.arr 1 (addX A x).length], .arr (addX A x) 7 0 (addX A x).isEmpty]) := by
  obtain ⟨k1, k2⟩ := hA
  have hC := C.expr_Shift x hx 0
  have h7 := shf_ds_len 0 x
  unfold addX
  refine ⟨⟨by simp; omega, fun e he => ?_⟩, ?_⟩
  · rcases List.mem_append.1 he with h | h
    · exact k2 e h
    · simp at h; subst h; exact h7
  obtain ⟨z, hz⟩ : ∃ z, z = shf 0 x := ⟨_, rfl⟩
  rw [← hz] at hC ⊢
  obtain ⟨op, n, v, nm, nl, args⟩ := x
  obtain ⟨o2, n2, v2, m2, l2, a2⟩ := z
  rw [Ex.av_mk, Ex.av_mk] at hC
  rw [Ex.av_mk, Ex.ds_mk]
  have e1 : (A ++ [xds o2 n2 v2 m2 (ng l2 (xL a2))]).isEmpty = false := by simp
  rw [e1]
  obtain ⟨b, hb⟩ : ∃ b, b = A.isEmpty := ⟨_, rfl⟩
  rw [← hb]
  have g1 : 0 ≤ (A.length : Int) ∧ (A.length : Int) < ((A ++ [[eI 0, eI 0, eI 0, eI 0, .str [], .str [], .nil]]).length : Nat) := by simp; omega
  have g2 : (A ++ [[eI 0, eI 0, eI 0, eI 0, .str [], .str [], .nil]])[(A.length : Int).toNat]? = some [eI 0, eI 0, eI 0, eI 0, .str [], .str [], .nil] := by simp
  have g3 : (A ++ [[eI 0, eI 0, eI 0, eI 0, .str [], .str [], .nil]]).set (A.length : Int).toNat (xds o2 n2 v2 m2 (ng l2 (xL a2))) = A ++ [xds o2 n2 v2 m2 (ng l2 (xL a2))] := by simp
  refine F.predicate_Conjuncts_c1.goX mixed rfl ?_
  repeat' first
    | refine st ?_
    | ((with_reducible apply go_i); (conv => whnf))
    | ((with_reducible apply k_pn); (· exact hC))
    | ((with_reducible apply k_pc); (· exact hC))
    | (with_reducible apply k_d <;> intro _)
    | (with_reducible apply k_b <;> intro _)
  all_goals exact ⟨rfl, by simp⟩
theorem C.predicate_Conjuncts (e : Ex) (he : e.bk ≤ 1048576) : Pure Try.prog N.predicate_Conjuncts [e.av] (.d (nsl (xL ((cj e).map (shf 0))))) := by
  have hl := cj_len e
  have hE := (C.each_l N.predicate_Conjuncts_c1 7 addX (okA 7) C.Conjuncts_c1 e he 0 [] ⟨by simp; omega, by simp⟩).2
  rw [addX_fold, List.nil_append] at hE
  obtain ⟨R, hR⟩ : ∃ R, R = xL ((cj e).map (shf 0)) := ⟨_, rfl⟩
  rw [← hR] at hE ⊢
  obtain ⟨op, n, v, nm, nl, args⟩ := e
  have hB := each_use rfl hE ((xds op n v nm (ng nl (xL args))).map .d) (all_d _)
  rw [Ex.ds_mk] at hB
  rw [Ex.av_mk]
  refine F.predicate_Conjuncts.go mixed rfl ?_
  obtain ⟨b, hb⟩ : ∃ b, b = R.isEmpty := ⟨_, rfl⟩
  rw [← hb] at hB
  unfold nsl
  rw [← hb]
  cases b with
  | true =>
    repeat' first
      | refine st ?_
      | ((with_reducible apply go_i); (conv => whnf))
      | ((with_reducible apply k_nc); (· first | exact hB); (try rintro _ _ ⟨rfl, rfl⟩))
      | ((with_reducible apply k_pr); (· first | exact hB))
      | ((with_reducible apply k_cs); (· first | exact hB); (try rintro _ _ ⟨rfl, rfl⟩))
      | ((with_reducible apply k_cal); refine st ?_; (with_reducible apply k_chk); (· exact rfl); refine st ?_; (with_reducible apply k_cs); (· first | exact hB); (try rintro _ _ ⟨rfl, rfl⟩))
      | (with_reducible apply k_d <;> intro _)
      | (with_reducible apply k_b <;> intro _)
    all_goals rfl
  | false =>
    repeat' first
      | refine st ?_
      | ((with_reducible apply go_i); (conv => whnf))
      | ((with_reducible apply k_nc); (· first | exact hB); (try rintro _ _ ⟨rfl, rfl⟩))
      | ((with_reducible apply k_pr); (· first | exact hB))
      | ((with_reducible apply k_cs); (· first | exact hB); (try rintro _ _ ⟨rfl, rfl⟩))
      | ((with_reducible apply k_cal); refine st ?_; (with_reducible apply k_chk); (· exact rfl); refine st ?_; (with_reducible apply k_cs); (· first | exact hB); (try rintro _ _ ⟨rfl, rfl⟩))
      | (with_reducible apply k_d <;> intro _)
      | (with_reducible apply k_b <;> intro _)
    all_goals rfl
theorem fmd_and {n : Int} {v : Vl} {nm : List UInt8} {k : Nat} : fmd 5 n v nm k = isAnd 5 n v nm k := by
  have hc : (cnt 5 (k : Int)).1 = decide (2 ≤ k) := by
    unfold cnt
    simp
    omega
  unfold fmd isAnd
  rw [hc, Bool.eq_iff_iff]
  simp
  constructor
  · rintro ⟨⟨h1, h2⟩, h3, h4⟩; exact ⟨h1, h3, h2, h4⟩
  · rintro ⟨h1, h3, h2, h4⟩; exact ⟨⟨h1, h2⟩, h3, h4⟩
theorem C.r12_Conjuncts : ∀ e : Ex, e.bk ≤ 1048576 → Pure Try.prog N.bt_ref12_Conjuncts [e.av] (.d (.sl (xL (cj e)))) := by
  refine Ex.ind fun op n v nm nl args ih hb => ?_
  obtain ⟨b1, b2, b3, b4⟩ := Ex.bk_bounds hb
  have h1 := xL_len args
  have hm := xL_mem args
  have hF := C.r11_Formed op n v nm (ng nl (xL args)) (xL args) sld_ng b2 (by omega)
  rw [h1] at hF
  rw [cj_mk, Ex.av_mk]
  obtain ⟨da, hda⟩ : ∃ d, d = ng nl (xL args) := ⟨_, rfl⟩
  have hsd : SlD da (xL args) := by rw [hda]; exact sld_ng
  rw [← hda] at hF ⊢
  have r1 : v.s = v.s := rfl
  have r2 : nm = nm := rfl
  by_cases h5 : op = 5
  rotate_left
  · have : isAnd op n v nm args.length = false := by unfold isAnd; rw [decide_eq_false (fun h => h5 h.1)]
    rw [this, if_neg (by simp)]
    refine F.bt_ref12_Conjuncts.go mixed rfl ?_
    rw [show xL [Ex.mk op n v nm nl args] = [xds op n v nm da] by rw [xL, List.map_cons, List.map_nil, Ex.ds_mk, hda]]
    repeat' first
      | refine st ?_
      | ((with_reducible apply go_i); (conv => whnf))
      | (with_reducible apply k_d <;> intro _)
      | (with_reducible apply k_b <;> intro _)
    all_goals rfl
  subst h5
  rw [fmd_and] at hF
  cases hA : isAnd 5 n v nm args.length with
  | false =>
    rw [hA] at hF
    rw [if_neg (by simp)]
    refine F.bt_ref12_Conjuncts.go mixed rfl ?_
    rw [show xL [Ex.mk 5 n v nm nl args] = [xds 5 n v nm da] by rw [xL, List.map_cons, List.map_nil, Ex.ds_mk, hda]]
    repeat' first
      | refine st ?_
      | ((with_reducible apply go_i); (conv => whnf))
      | ((with_reducible apply k_pn); (· exact hF))
      | ((with_reducible apply k_pc); (· exact hF))
      | (with_reducible apply k_d <;> intro _)
      | (with_reducible apply k_b <;> intro _)
    all_goals rfl
  | true =>
    rw [hA] at hF
    rw [if_pos rfl]
    refine F.bt_ref12_Conjuncts.go mixed rfl ?_
    obtain ⟨R, hR⟩ : ∃ R, R = xL (args.flatMap cj) := ⟨_, rfl⟩
    rw [← hR]
    have hbl := Ex.bk_mk 5 n v nm nl args
    repeat' first
      | refine st ?_
      | ((with_reducible apply go_i); (conv => whnf))
      | ((with_reducible apply k_pn); (· exact hF))
      | ((with_reducible apply k_pc); (· exact hF))
      | (with_reducible apply k_d <;> intro _)
      | (with_reducible apply k_b <;> intro _)
    refine x_loop2 mixed Lt.bt_ref12_Conjuncts_l0 Lk.bt_ref12_Conjuncts_l0 (fun (i : Nat) (A : List (List D)) => [.arr 1 A.length, .d (eI i)]) (fun i A => [.cells [.d (eI 5), .d (eI n), .d (eI v.k), .d (eI v.n), .d (.str v.s), .d (.str nm), .d da], .arr A 7 0 false]) (fun i A => i ≤ args.length ∧ A = xL ((args.take i).flatMap cj)) (fun i _ => args.length - i) 0 [] rfl rfl rfl rfl (fun _ _ _ => ⟨rfl, rfl⟩) rfl ⟨by omega, rfl⟩ ?_
    repeat' first
      | refine st ?_
      | ((with_reducible apply go_i); (conv => whnf))
      | (with_reducible apply k_d <;> intro _)
      | (with_reducible apply k_b <;> intro _)
    intro i A ⟨h4, h5⟩
    have hAl : A.length ≤ 1048576 := by
      rw [h5, xL_len]
      have := cjt_len args i
      omega
    have hAm : ∀ e ∈ A, e.length = 7 := by rw [h5]; exact xL_mem _
    cases hx : args[i]? with
    | some x =>
      have hlt := (List.getElem?_eq_some_iff.1 hx).1
      have hg := xL_get hx
      have hi := ih x (List.mem_of_getElem? hx) (b4 x (List.mem_of_getElem? hx))
      have hcl := cj_len x
      have hbx := b4 x (List.mem_of_getElem? hx)
      have hs : A ++ xL (cj x) = xL ((args.take (i + 1)).flatMap cj) := by rw [cjt_succ hx, h5]; simp [xL]
      obtain ⟨B, hB⟩ : ∃ B, B = xL (cj x) := ⟨_, rfl⟩
      have hBl : B.length ≤ 1048576 := by rw [hB, xL_len]; omega
      have hBm : ∀ e ∈ B, e.length = 7 := by rw [hB]; exact xL_mem _
      rw [← hB] at hi hs
      obtain ⟨o1, n1, v1, m1, l1, a1⟩ := x
      rw [Ex.ds_mk] at hg
      rw [Ex.av_mk] at hi
      repeat' first
        | refine st ?_
        | ((with_reducible apply go_i); (conv => whnf))
        | ((with_reducible apply k_pn); (· exact hi))
        | ((with_reducible apply k_pc); (· exact hi))
        | (with_reducible apply k_d <;> intro _)
        | (with_reducible apply k_b <;> intro _)
      exact ⟨i + 1, A ++ B, rfl, rfl, by cases B <;> rfl, by omega, by omega, hs⟩
    | none =>
      have hge := List.getElem?_eq_none_iff.1 hx
      rw [List.take_of_length_le hge, ← hR] at h5
      rw [← h5]
      repeat' first
        | refine st ?_
        | ((with_reducible apply go_i); (conv => whnf))
        | (with_reducible apply k_d <;> intro _)
        | (with_reducible apply k_b <;> intro _)
      all_goals rfl
theorem condt_succ {l : List Ex} {i : Nat} {x : Ex} (h : l[i]? = some x) : (l.take (i + 1)).filterMap cond = (l.take i).filterMap cond ++ (cond x).toList := by
  rw [List.take_add_one, h, List.filterMap_append]
  congr 1
theorem C.r12_Conditions (e : Ex) (he : e.bk ≤ 1048576) : Pure Try.prog N.bt_ref12_Conditions [e.av] (.d (.sl (eDs (conds e)))) := by
  have hJ := C.r12_Conjuncts e he
  have hjl := cj_len e
  have hjb := cj_bk e
  unfold conds
  obtain ⟨J, hJe⟩ : ∃ J, J = cj e := ⟨_, rfl⟩
  rw [← hJe] at hJ hjl hjb ⊢
  obtain ⟨R, hR⟩ : ∃ R, R = eDs (J.filterMap cond) := ⟨_, rfl⟩
  rw [← hR]
  have h1 := xL_len J
  have hm := xL_mem J
  obtain ⟨op, n, v, nm, nl, args⟩ := e
  rw [Ex.av_mk] at hJ ⊢
  obtain ⟨da, hda⟩ : ∃ d, d = ng nl (xL args) := ⟨_, rfl⟩
  rw [← hda] at hJ ⊢
  refine F.bt_ref12_Conditions.go mixed rfl ?_
  repeat' first
    | refine st ?_
    | ((with_reducible apply go_i); (conv => whnf))
    | ((with_reducible apply k_pn); (· exact hJ))
    | ((with_reducible apply k_pc); (· exact hJ))
    | (with_reducible apply k_d <;> intro _)
    | (with_reducible apply k_b <;> intro _)
  refine x_loop2 mixed Lt.bt_ref12_Conditions_l0 Lk.bt_ref12_Conditions_l0 (fun (i : Nat) (A : List (List D)) => [.arr 1 A.length, .d (eI i)]) (fun i A => [.cells [.d (eI op), .d (eI n), .d (eI v.k), .d (eI v.n), .d (.str v.s), .d (.str nm), .d da], .arr A 5 0 false]) (fun i A => i ≤ J.length ∧ A = eDs ((J.take i).filterMap cond)) (fun i _ => J.length - i) 0 [] rfl rfl rfl rfl (fun _ _ _ => ⟨rfl, rfl⟩) rfl ⟨by omega, rfl⟩ ?_
  repeat' first
    | refine st ?_
    | ((with_reducible apply go_i); (conv => whnf))
    | (with_reducible apply k_d <;> intro _)
    | (with_reducible apply k_b <;> intro _)
  intro i A ⟨h4, h5⟩
  have hAl : A.length ≤ 1048576 := by
    rw [h5, eDs_len]
    have := List.length_filterMap_le cond (J.take i)
    rw [List.length_take] at this
    omega
  have hAm : ∀ e ∈ A, e.length = 5 := by rw [h5]; exact eDs_mem _
  cases hx : J[i]? with
  | some x =>
    have hlt := (List.getElem?_eq_some_iff.1 hx).1
    have hg := xL_get hx
    have hC := C.r12_condition x (by have := hjb x (List.mem_of_getElem? hx); omega)
    have hs := condt_succ hx
    obtain ⟨o1, n1, v1, m1, l1, a1⟩ := x
    rw [Ex.ds_mk] at hg
    rw [Ex.av_mk] at hC
    cases hc : cond (.mk o1 n1 v1 m1 l1 a1) with
    | none =>
      rw [hc, Option.toList_none, List.append_nil] at hs
      rw [hc] at hC
      repeat' first
        | refine st ?_
        | ((with_reducible apply go_i); (conv => whnf))
        | ((with_reducible apply k_pn); (· exact hC))
        | ((with_reducible apply k_pc); (· exact hC))
        | (with_reducible apply k_d <;> intro _)
        | (with_reducible apply k_b <;> intro _)
      exact ⟨i + 1, A, rfl, rfl, rfl, by omega, by omega, by rw [hs]; exact h5⟩
    | some c =>
      rw [hc, Option.toList_some] at hs
      rw [hc] at hC
      repeat' first
        | refine st ?_
        | ((with_reducible apply go_i); (conv => whnf))
        | ((with_reducible apply k_pn); (· exact hC))
        | ((with_reducible apply k_pc); (· exact hC))
        | (with_reducible apply k_d <;> intro _)
        | (with_reducible apply k_b <;> intro _)
      exact ⟨i + 1, A ++ [c.ds], rfl, rfl, rfl, by omega, by omega, by rw [hs, ← eDs_app, h5]⟩
  | none =>
    have hge := List.getElem?_eq_none_iff.1 hx
    rw [List.take_of_length_le hge, ← hR] at h5
    rw [← h5]
    repeat' first
      | refine st ?_
      | ((with_reducible apply go_i); (conv => whnf))
      | (with_reducible apply k_d <;> intro _)
      | (with_reducible apply k_b <;> intro _)
    all_goals rfl
end Go.Proofs
end
section
/- The window: the program's and the reference's. No condition. -/
set_option linter.unusedSimpArgs false
set_option linter.unusedVariables false
set_option maxRecDepth 10000
set_option maxHeartbeats 4000000
namespace Go.Proofs
open Go.Bi

def nar (r : Int × Int) (c : Cd) : Int × Int :=
  if c.op = 7 then (max r.1 c.v.n, min r.2 c.v.n) else if c.op = 9 then (r.1, min r.2 (c.v.n - 1)) else if c.op = 10 then (r.1, min r.2 c.v.n) else if c.op = 11 then (max r.1 (c.v.n + 1), r.2) else (max r.1 c.v.n, r.2)
theorem C.span_meet0 (a b : Int) (c : Cd) (hc : cmpOp c.op = true) (hn : nSm c.v.n) : CallSpec Try.prog N.ppredicate_span_meet [.ptr 0 0, .d (eI c.op), .d (eI c.v.n)] [.cells [.d (eI a), .d (eI b)]] (fun r os => r = .tup [] ∧ os = [.cells [.d (eI (nar (a, b) c).1), .d (eI (nar (a, b) c).2)]]) := by
  obtain ⟨op, col, k, n, s⟩ := c
  dsimp only at hc hn ⊢
  unfold cmpOp at hc
  have hc := of_decide_eq_true hc
  unfold nSm at hn
  obtain ⟨n1, n2⟩ := hn
  refine F.ppredicate_span_meet.goX mixed rfl ?_
  unfold nar
  dsimp only
  rcases hc with rfl | rfl | rfl | rfl | rfl
  · rw [if_pos rfl]
    repeat' first
      | refine st ?_
      | ((with_reducible apply go_i); (conv => whnf))
      | (with_reducible apply k_d <;> intro _)
      | (with_reducible apply k_b <;> intro _)
    all_goals exact ⟨rfl, rfl⟩
  · rw [if_neg (by decide), if_pos rfl]
    repeat' first
      | refine st ?_
      | ((with_reducible apply go_i); (conv => whnf))
      | (with_reducible apply k_d <;> intro _)
      | (with_reducible apply k_b <;> intro _)
    all_goals exact ⟨rfl, rfl⟩
  · rw [if_neg (by decide), if_neg (by decide), if_pos rfl]
    repeat' first
      | refine st ?_
      | ((with_reducible apply go_i); (conv => whnf))
      | (with_reducible apply k_d <;> intro _)
      | (with_reducible apply k_b <;> intro _)
    all_goals exact ⟨rfl, rfl⟩
  · rw [if_neg (by decide), if_neg (by decide), if_neg (by decide), if_pos rfl]
    repeat' first
      | refine st ?_
      | ((with_reducible apply go_i); (conv => whnf))
      | (with_reducible apply k_d <;> intro _)
      | (with_reducible apply k_b <;> intro _)
    all_goals exact ⟨rfl, rfl⟩
  · rw [if_neg (by decide), if_neg (by decide), if_neg (by decide), if_neg (by decide)]
    repeat' first
      | refine st ?_
      | ((with_reducible apply go_i); (conv => whnf))
      | (with_reducible apply k_d <;> intro _)
      | (with_reducible apply k_b <;> intro _)
    all_goals exact ⟨rfl, rfl⟩
theorem C.span_meet (a b : Int) (c : Cd) (hc : cmpOp c.op = true) (hn : nSm c.v.n) {os : List AO} {id : Nat} (ho : os[id]? = some (.cells [.d (eI a), .d (eI b)])) : CallSpec Try.prog N.ppredicate_span_meet [.ptr id 0, .d (eI c.op), .d (eI c.v.n)] os (fun r os' => r = .tup [] ∧ os' = os.set id (.cells [.d (eI (nar (a, b) c).1), .d (eI (nar (a, b) c).2)])) :=
  lift1 (fun id => [.ptr id 0, .d (eI c.op), .d (eI c.v.n)]) (C.span_meet0 a b c hc hn) (fun _ => rfl) (fun _ => rfl) (fun _ => rfl) (fun id n => rfl) (by simp [AV.bnd2, AV.bnd1]) (by simp [AO.bnd, AV.bnd1]) ho
theorem C.span_empty0 (a b : Int) : CallSpec Try.prog N.ppredicate_span_empty [.ptr 0 0] [.cells [.d (eI a), .d (eI b)]] (fun r os => r = .d (.bool (decide (b < a))) ∧ os = [.cells [.d (eI a), .d (eI b)]]) := by
  refine F.ppredicate_span_empty.goX mixed rfl ?_
  repeat' first
    | refine st ?_
    | ((with_reducible apply go_i); (conv => whnf))
    | (with_reducible apply k_d <;> intro _)
    | (with_reducible apply k_b <;> intro _)
  all_goals exact ⟨rfl, rfl⟩
theorem C.span_empty (a b : Int) {os : List AO} {id : Nat} (ho : os[id]? = some (.cells [.d (eI a), .d (eI b)])) : CallSpec Try.prog N.ppredicate_span_empty [.ptr id 0] os (fun r os' => r = .d (.bool (decide (b < a))) ∧ os' = os.set id (.cells [.d (eI a), .d (eI b)])) :=
  lift1 (fun id => [.ptr id 0]) (C.span_empty0 a b) (fun _ => rfl) (fun _ => rfl) (fun _ => rfl) (fun id n => rfl) (by simp [AV.bnd2, AV.bnd1]) (by simp [AO.bnd, AV.bnd1]) ho

def wf (f t : Int) : List Cd → Int × Int → Int × Int → Option ((Int × Int) × (Int × Int))
  | [], a, b => some (a, b)
  | c :: l, a, b => if c.col ≠ f ∧ c.col ≠ t then wf f t l a b else if c.v.k ≠ 1 then none else wf f t l (if c.col = f then nar a c else a) (if c.col = t then nar b c else b)
def bd (col : Int) : List Cd → Int × Int → Option (Int × Int)
  | [], r => some r
  | c :: l, r => if c.col = col then (if c.v.k ≠ 1 then none else bd col l (nar r c)) else bd col l r
theorem wf_bd (f t : Int) : ∀ (l : List Cd) (a b : Int × Int), wf f t l a b = match bd f l a, bd t l b with
    | some a', some b' => some (a', b')
    | _, _ => none
  | [], a, b => rfl
  | c :: l, a, b => by
    unfold wf bd
    by_cases h1 : c.col = f
    · by_cases h2 : c.col = t
      · by_cases h3 : c.v.k = 1
        · simp only [h1, h3, ne_eq, not_true, false_and, if_false, if_true]
          rw [← h1, if_pos h2, if_pos h2]
          exact wf_bd _ t l _ _
        · simp only [h1, h3, ne_eq, not_true, not_false_iff, false_and, if_false, if_true]
      · by_cases h3 : c.v.k = 1
        · simp only [h1, h3, ne_eq, not_true, false_and, if_false, if_true]
          rw [← h1, if_neg h2, if_neg h2]
          exact wf_bd _ t l _ _
        · simp only [h1, h3, ne_eq, not_true, not_false_iff, false_and, if_false, if_true]
    · by_cases h2 : c.col = t
      · by_cases h3 : c.v.k = 1
        · rw [if_neg (fun h => h.2 h2), if_neg (fun h => h h3), if_neg h1, if_neg h1, if_pos h2, if_pos h2, if_neg (fun h => h h3)]
          exact wf_bd f t l _ _
        · rw [if_neg (fun h => h.2 h2), if_pos h3, if_neg h1, if_pos h2, if_pos h3]
          cases bd f l a <;> rfl
      · rw [if_pos ⟨h1, h2⟩, if_neg h1, if_neg h2]
        exact wf_bd f t l _ _
theorem wf_drop {f t : Int} {l : List Cd} {i : Nat} {c : Cd} {a b : Int × Int} (h : l[i]? = some c) : wf f t (l.drop i) a b = if c.col ≠ f ∧ c.col ≠ t then wf f t (l.drop (i + 1)) a b else if c.v.k ≠ 1 then none else wf f t (l.drop (i + 1)) (if c.col = f then nar a c else a) (if c.col = t then nar b c else b) := by
  obtain ⟨hlt, he⟩ := List.getElem?_eq_some_iff.1 h
  rw [List.drop_eq_getElem_cons hlt, he, wf]
def wout : Option ((Int × Int) × (Int × Int)) → (Int × Int) × Bool
  | none => ((0, 0), false)
  | some (a, b) => if a.2 < a.1 ∨ b.2 < b.1 ∨ b.2 ≤ a.1 then ((0, 0), false) else if a.2 < b.1 then ((a.2, b.1), true) else ((a.1, b.2), true)
def win (e : Ex) (f t : Int) : (Int × Int) × Bool := wout (wf f t (conds e) (0, 1099511627775) (1, 1099511627776))
def winA (r : (Int × Int) × Bool) : AV := .tup [.agg [.d (eI r.1.1), .d (eI r.1.2)], .d (.bool r.2)]
theorem C.predicate_Window (e : Ex) (he : e.bk ≤ 1048576) (f t : Int) : Pure Try.prog N.predicate_Window [e.av, .d (eI f), .d (eI t)] (winA (win e f t)) := by
  have hJ := C.predicate_Conditions e he
  have hok : ∀ c ∈ conds e, cmpOp c.op = true ∧ nSm c.v.n := fun c hc => ⟨(conds_ok hc).1, valid_n (conds_ok hc).2.2⟩
  have hcl := conds_len e
  unfold win
  obtain ⟨J, hJe⟩ : ∃ J, J = conds e := ⟨_, rfl⟩
  rw [← hJe] at hJ hok hcl ⊢
  have h1 := eDs_len J
  have hm := eDs_mem J
  have hsl : SlD (nsl (eDs J)) (eDs J) := sld_nsl
  obtain ⟨dj, hdj⟩ : ∃ d, d = nsl (eDs J) := ⟨_, rfl⟩
  rw [← hdj] at hJ hsl
  obtain ⟨q, hq⟩ : ∃ q, q = wf f t J (0, 1099511627775) (1, 1099511627776) := ⟨_, rfl⟩
  rw [← hq]
  obtain ⟨op, n, v, nm, nl, args⟩ := e
  rw [Ex.av_mk] at hJ ⊢
  obtain ⟨da, hda⟩ : ∃ d, d = ng nl (xL args) := ⟨_, rfl⟩
  rw [← hda] at hJ ⊢
  refine F.predicate_Window.go mixed rfl ?_
  repeat' first
    | refine st ?_
    | ((with_reducible apply go_i); (conv => whnf))
    | ((with_reducible apply k_pn); (· exact hJ))
    | ((with_reducible apply k_pc); (· exact hJ))
    | (with_reducible apply k_d <;> intro _)
    | (with_reducible apply k_b <;> intro _)
  refine x_loop3 mixed Lt.predicate_Window_l0 Lk.predicate_Window_l0 (fun (i : Nat) (a b : Int × Int) => [.d (eI i)]) (fun i a b => [.cells [.d (eI op), .d (eI n), .d (eI v.k), .d (eI v.n), .d (.str v.s), .d (.str nm), .d da], .cells [.d (eI 0), .d (eI 0)], .cells [.d (eI a.1), .d (eI a.2)], .cells [.d (eI b.1), .d (eI b.2)]]) (fun i a b => i ≤ J.length ∧ q = wf f t (J.drop i) a b) (fun i _ _ => J.length - i) 0 (0, 1099511627775) (1, 1099511627776) rfl rfl rfl rfl (fun _ _ _ _ => ⟨rfl, rfl⟩) rfl ⟨by omega, hq⟩ ?_
  repeat' first
    | refine st ?_
    | ((with_reducible apply go_i); (conv => whnf))
    | (with_reducible apply k_d <;> intro _)
    | (with_reducible apply k_b <;> intro _)
  intro i a b ⟨h4, h5⟩
  obtain ⟨a1, a2⟩ := a
  obtain ⟨b1, b2⟩ := b
  cases hx : J[i]? with
  | some c =>
    have hlt := (List.getElem?_eq_some_iff.1 hx).1
    have hg := eDs_get hx
    obtain ⟨k1, k2⟩ := hok c (List.mem_of_getElem? hx)
    rw [wf_drop hx] at h5
    have hM1 : ∀ (os : List AO), os[2]? = some (.cells [.d (eI a1), .d (eI a2)]) → CallSpec Try.prog N.ppredicate_span_meet [.ptr 2 0, .d (eI c.op), .d (eI c.v.n)] os (fun r os' => r = .tup [] ∧ os' = os.set 2 (.cells [.d (eI (nar (a1, a2) c).1), .d (eI (nar (a1, a2) c).2)])) := fun os ho => C.span_meet a1 a2 c k1 k2 ho
    have hM2 : ∀ (os : List AO), os[3]? = some (.cells [.d (eI b1), .d (eI b2)]) → CallSpec Try.prog N.ppredicate_span_meet [.ptr 3 0, .d (eI c.op), .d (eI c.v.n)] os (fun r os' => r = .tup [] ∧ os' = os.set 3 (.cells [.d (eI (nar (b1, b2) c).1), .d (eI (nar (b1, b2) c).2)])) := fun os ho => C.span_meet b1 b2 c k1 k2 ho
    obtain ⟨A, hA⟩ : ∃ A, A = nar (a1, a2) c := ⟨_, rfl⟩
    obtain ⟨B, hB⟩ : ∃ B, B = nar (b1, b2) c := ⟨_, rfl⟩
    rw [← hA] at hM1 h5
    rw [← hB] at hM2 h5
    obtain ⟨cop, col, ck, cn, cs⟩ := c
    dsimp only at h5 hM1 hM2
    have r1 : cs = cs := rfl
    by_cases g1 : col = f
    · rw [if_neg (fun h => h.1 g1)] at h5
      by_cases g3 : ck = 1
      · rw [if_neg (fun h => h g3), if_pos g1] at h5
        by_cases g2 : col = t
        · rw [if_pos g2] at h5
          repeat' first
            | refine st ?_
            | ((with_reducible apply go_i); (conv => whnf))
            | ((with_reducible apply k_nc); (· first | exact hM1 _ rfl | exact hM2 _ rfl); (try rintro _ _ ⟨rfl, rfl⟩))
            | ((with_reducible apply k_pr); (· first | exact hM1 _ rfl | exact hM2 _ rfl))
            | ((with_reducible apply k_cs); (· first | exact hM1 _ rfl | exact hM2 _ rfl); (try rintro _ _ ⟨rfl, rfl⟩))
            | ((with_reducible apply k_cal); refine st ?_; (with_reducible apply k_chk); (· exact rfl); refine st ?_; (with_reducible apply k_cs); (· first | exact hM1 _ rfl | exact hM2 _ rfl); (try rintro _ _ ⟨rfl, rfl⟩))
            | (with_reducible apply k_d <;> intro _)
            | (with_reducible apply k_b <;> intro _)
          exact ⟨i + 1, A, B, rfl, rfl, rfl, by omega, by omega, h5⟩
        · rw [if_neg g2] at h5
          repeat' first
            | refine st ?_
            | ((with_reducible apply go_i); (conv => whnf))
            | ((with_reducible apply k_nc); (· first | exact hM1 _ rfl | exact hM2 _ rfl); (try rintro _ _ ⟨rfl, rfl⟩))
            | ((with_reducible apply k_pr); (· first | exact hM1 _ rfl | exact hM2 _ rfl))
            | ((with_reducible apply k_cs); (· first | exact hM1 _ rfl | exact hM2 _ rfl); (try rintro _ _ ⟨rfl, rfl⟩))
            | ((with_reducible apply k_cal); refine st ?_; (with_reducible apply k_chk); (· exact rfl); refine st ?_; (with_reducible apply k_cs); (· first | exact hM1 _ rfl | exact hM2 _ rfl); (try rintro _ _ ⟨rfl, rfl⟩))
            | (with_reducible apply k_d <;> intro _)
            | (with_reducible apply k_b <;> intro _)
          exact ⟨i + 1, A, (b1, b2), rfl, rfl, rfl, by omega, by omega, h5⟩
      · rw [if_pos g3] at h5
        rw [h5]
        repeat' first
          | refine st ?_
          | ((with_reducible apply go_i); (conv => whnf))
          | (with_reducible apply k_d <;> intro _)
          | (with_reducible apply k_b <;> intro _)
        all_goals rfl
    · by_cases g2 : col = t
      · rw [if_neg (fun h => h.2 g2)] at h5
        by_cases g3 : ck = 1
        · rw [if_neg (fun h => h g3), if_neg g1, if_pos g2] at h5
          repeat' first
            | refine st ?_
            | ((with_reducible apply go_i); (conv => whnf))
            | ((with_reducible apply k_nc); (· first | exact hM2 _ rfl); (try rintro _ _ ⟨rfl, rfl⟩))
            | ((with_reducible apply k_pr); (· first | exact hM2 _ rfl))
            | ((with_reducible apply k_cs); (· first | exact hM2 _ rfl); (try rintro _ _ ⟨rfl, rfl⟩))
            | ((with_reducible apply k_cal); refine st ?_; (with_reducible apply k_chk); (· exact rfl); refine st ?_; (with_reducible apply k_cs); (· first | exact hM2 _ rfl); (try rintro _ _ ⟨rfl, rfl⟩))
            | (with_reducible apply k_d <;> intro _)
            | (with_reducible apply k_b <;> intro _)
          exact ⟨i + 1, (a1, a2), B, rfl, rfl, rfl, by omega, by omega, h5⟩
        · rw [if_pos g3] at h5
          rw [h5]
          repeat' first
            | refine st ?_
            | ((with_reducible apply go_i); (conv => whnf))
            | (with_reducible apply k_d <;> intro _)
            | (with_reducible apply k_b <;> intro _)
          all_goals rfl
      · rw [if_pos ⟨g1, g2⟩] at h5
        repeat' first
          | refine st ?_
          | ((with_reducible apply go_i); (conv => whnf))
          | (with_reducible apply k_d <;> intro _)
          | (with_reducible apply k_b <;> intro _)
        exact ⟨i + 1, (a1, a2), (b1, b2), rfl, rfl, rfl, by omega, by omega, h5⟩
  | none =>
    have hge := List.getElem?_eq_none_iff.1 hx
    rw [List.drop_eq_nil_of_le hge] at h5
    have h5 : q = some ((a1, a2), (b1, b2)) := h5
    rw [h5]
    have hE1 : ∀ (os : List AO), os[2]? = some (.cells [.d (eI a1), .d (eI a2)]) → CallSpec Try.prog N.ppredicate_span_empty [.ptr 2 0] os (fun r os' => r = .d (.bool (decide (a2 < a1))) ∧ os' = os.set 2 (.cells [.d (eI a1), .d (eI a2)])) := fun os ho => C.span_empty a1 a2 ho
    have hE2 : ∀ (os : List AO), os[3]? = some (.cells [.d (eI b1), .d (eI b2)]) → CallSpec Try.prog N.ppredicate_span_empty [.ptr 3 0] os (fun r os' => r = .d (.bool (decide (b2 < b1))) ∧ os' = os.set 3 (.cells [.d (eI b1), .d (eI b2)])) := fun os ho => C.span_empty b1 b2 ho
    unfold wout
    dsimp only
    by_cases z : a2 < a1 ∨ b2 < b1 ∨ b2 ≤ a1
    · rw [if_pos z]
      repeat' first
        | refine st ?_
        | ((with_reducible apply go_i); (conv => whnf))
        | ((with_reducible apply k_nc); (· first | exact hE1 _ rfl | exact hE2 _ rfl); (try rintro _ _ ⟨rfl, rfl⟩))
        | ((with_reducible apply k_pr); (· first | exact hE1 _ rfl | exact hE2 _ rfl))
        | ((with_reducible apply k_cs); (· first | exact hE1 _ rfl | exact hE2 _ rfl); (try rintro _ _ ⟨rfl, rfl⟩))
        | ((with_reducible apply k_cal); refine st ?_; (with_reducible apply k_chk); (· exact rfl); refine st ?_; (with_reducible apply k_cs); (· first | exact hE1 _ rfl | exact hE2 _ rfl); (try rintro _ _ ⟨rfl, rfl⟩))
        | (with_reducible apply k_d <;> intro _)
        | (with_reducible apply k_b <;> intro _)
      all_goals first | rfl | (exfalso; omega)
    · rw [if_neg z]
      by_cases z2 : a2 < b1
      · rw [if_pos z2]
        repeat' first
          | refine st ?_
          | ((with_reducible apply go_i); (conv => whnf))
          | ((with_reducible apply k_nc); (· first | exact hE1 _ rfl | exact hE2 _ rfl); (try rintro _ _ ⟨rfl, rfl⟩))
          | ((with_reducible apply k_pr); (· first | exact hE1 _ rfl | exact hE2 _ rfl))
          | ((with_reducible apply k_cs); (· first | exact hE1 _ rfl | exact hE2 _ rfl); (try rintro _ _ ⟨rfl, rfl⟩))
          | ((with_reducible apply k_cal); refine st ?_; (with_reducible apply k_chk); (· exact rfl); refine st ?_; (with_reducible apply k_cs); (· first | exact hE1 _ rfl | exact hE2 _ rfl); (try rintro _ _ ⟨rfl, rfl⟩))
          | (with_reducible apply k_d <;> intro _)
          | (with_reducible apply k_b <;> intro _)
        all_goals first | rfl | (exfalso; omega)
      · rw [if_neg z2]
        repeat' first
          | refine st ?_
          | ((with_reducible apply go_i); (conv => whnf))
          | ((with_reducible apply k_nc); (· first | exact hE1 _ rfl | exact hE2 _ rfl); (try rintro _ _ ⟨rfl, rfl⟩))
          | ((with_reducible apply k_pr); (· first | exact hE1 _ rfl | exact hE2 _ rfl))
          | ((with_reducible apply k_cs); (· first | exact hE1 _ rfl | exact hE2 _ rfl); (try rintro _ _ ⟨rfl, rfl⟩))
          | ((with_reducible apply k_cal); refine st ?_; (with_reducible apply k_chk); (· exact rfl); refine st ?_; (with_reducible apply k_cs); (· first | exact hE1 _ rfl | exact hE2 _ rfl); (try rintro _ _ ⟨rfl, rfl⟩))
          | (with_reducible apply k_d <;> intro _)
          | (with_reducible apply k_b <;> intro _)
        all_goals first | rfl | (exfalso; omega)
end Go.Proofs
end
section
/- A row for which a predicate is true lies in the predicate's window. No condition. -/
set_option linter.unusedSimpArgs false
set_option linter.unusedVariables false
set_option maxRecDepth 10000
set_option maxHeartbeats 4000000
namespace Go.Proofs
open Go.Bi

theorem tAnd_two {a b : Int} (h : tAnd a b = 2) : a = 2 ∧ b = 2 := by
  unfold tAnd tNorm at h
  split at h <;> split at h <;> omega
theorem tNot_two {a : Int} (h : tNot a = 2) : a = 0 := by
  unfold tNot tNorm at h
  split at h <;> omega
theorem lgF_two (l : List Vl) : ∀ t, l.foldl (lgS 5) t = 2 → t = 2 ∧ ∀ v ∈ l, vTruth v = 2 := by
  induction l with
  | nil => intro t h; exact ⟨h, by simp⟩
  | cons x l ih =>
    intro t h
    rw [List.foldl_cons] at h
    obtain ⟨h1, h2⟩ := ih _ h
    rw [lgS, if_pos rfl] at h1
    obtain ⟨h3, h4⟩ := tAnd_two h1
    refine ⟨h3, fun v hv => ?_⟩
    rcases List.mem_cons.1 hv with rfl | hv
    · exact h4
    · exact h2 v hv
theorem vTruth_vOf {t : Int} (h : vTruth (vOf t) = 2) : t = 2 := by
  unfold vOf at h
  split at h
  · assumption
  · split at h
    · exact absurd h (by decide)
    · exact absurd h (by decide)
theorem ev_cj (row : List Vl) : ∀ e : Ex, vTruth (ev row e) = 2 → ∀ x ∈ cj e, vTruth (ev row x) = 2 := by
  refine Ex.ind fun op n v nm nl args ih h x hx => ?_
  rw [cj_mk] at hx
  split at hx
  · rename_i hA
    obtain ⟨a, ha, hxa⟩ := List.mem_flatMap.1 hx
    have h5 : op = 5 := by unfold isAnd at hA; exact (of_decide_eq_true hA).1
    subst h5
    rw [ev_mk, fmd_and, hA, if_pos rfl] at h
    have hE : evOp 5 n v (args.map (ev row)) row = vOf (lgF 5 ((args.map (ev row)).getD 0 vNull) ((args.map (ev row)).drop 1)) := rfl
    rw [hE] at h
    have h2 := lgF_two _ _ (vTruth_vOf h)
    refine ih a ha ?_ x hxa
    match args, ha with
    | a0 :: t, ha =>
      rcases List.mem_cons.1 ha with rfl | ha
      · exact h2.1
      · exact h2.2 _ (List.mem_map.2 ⟨a, ha, rfl⟩)
  · cases List.mem_singleton.1 hx
    exact h
def sat (x op n : Int) : Prop := if op = 7 then x = n else if op = 9 then x < n else if op = 10 then x ≤ n else if op = 11 then n < x else n ≤ x
theorem cmpOp_is {op : Int} (h : cmpOp op = true) : op = 7 ∨ op = 9 ∨ op = 10 ∨ op = 11 ∨ op = 12 := of_decide_eq_true h
theorem sat_mir {a op b : Int} (ho : cmpOp op = true) (h : sat a op b) : sat b (mir op) a := by
  rcases cmpOp_is ho with rfl | rfl | rfl | rfl | rfl
  · exact Eq.symm (show a = b from h)
  · exact (show a < b from h)
  · exact (show a ≤ b from h)
  · exact (show b < a from h)
  · exact (show b ≤ a from h)
theorem vDec_two {a b : Vl} {is : Bool} (h : vDec a b is = 2) : a.k ≠ 0 ∧ a.k = b.k ∧ is = true := by
  unfold vDec at h
  split at h
  · omega
  · split at h
    · rename_i h1 h2; exact ⟨by omega, by omega, h2⟩
    · omega
theorem vDec_zero {a b : Vl} {is : Bool} (h : vDec a b is = 0) : a.k ≠ 0 ∧ a.k = b.k ∧ is = false := by
  unfold vDec at h
  split at h
  · omega
  · split at h
    · omega
    · rename_i h1 h2; exact ⟨by omega, by omega, by simpa using h2⟩
theorem vCmp_int {x y : Vl} (hx : x.k = 1) (hy : y.k = 1) (sx : x.s = []) (sy : y.s = []) : vCmp x y = cmpI x.n y.n := by
  have e1 : cmpI 1 1 = 0 := rfl
  have e2 : cmpB [] [] = 0 := rfl
  unfold vCmp
  rw [hx, hy, sx, sy, e1, e2]
  unfold or3
  rw [if_neg (by decide)]
  split
  · rfl
  · omega
theorem cmpI_lt {a b : Int} : cmpI a b < 0 ↔ a < b := by unfold cmpI; split <;> (try split) <;> omega
theorem vCp_sat {op : Int} {x y : Vl} (ho : cmpOp op = true) (h : vCp op x y = 2) : x.k ≠ 0 ∧ x.k = y.k ∧ (x.k = 1 → x.s = [] → y.s = [] → sat x.n op y.n) := by
  rcases cmpOp_is ho with rfl | rfl | rfl | rfl | rfl
  · obtain ⟨h1, h2, h3⟩ := vDec_two (show vDec x y _ = 2 from h)
    refine ⟨h1, h2, fun k s1 s2 => ?_⟩
    have h4 := of_decide_eq_true h3
    rw [vCmp_int k (by omega) s1 s2] at h4
    exact cmpI_eq.1 h4
  · obtain ⟨h1, h2, h3⟩ := vDec_two (show vDec x y _ = 2 from h)
    refine ⟨h1, h2, fun k s1 s2 => ?_⟩
    have h4 := of_decide_eq_true h3
    rw [vCmp_int k (by omega) s1 s2] at h4
    exact cmpI_lt.1 h4
  · obtain ⟨h1, h2, h3⟩ := vDec_zero (show vDec y x _ = 0 from tNot_two h)
    refine ⟨by omega, by omega, fun k s1 s2 => ?_⟩
    have h4 := of_decide_eq_false h3
    rw [vCmp_int (by omega) k s2 s1, cmpI_lt] at h4
    exact Int.not_lt.1 h4
  · obtain ⟨h1, h2, h3⟩ := vDec_two (show vDec y x _ = 2 from h)
    refine ⟨by omega, by omega, fun k s1 s2 => ?_⟩
    have h4 := of_decide_eq_true h3
    rw [vCmp_int (by omega) k s2 s1] at h4
    exact cmpI_lt.1 h4
  · obtain ⟨h1, h2, h3⟩ := vDec_zero (show vDec x y _ = 0 from tNot_two h)
    refine ⟨h1, h2, fun k s1 s2 => ?_⟩
    have h4 := of_decide_eq_false h3
    rw [vCmp_int k (by omega) s1 s2, cmpI_lt] at h4
    exact Int.not_lt.1 h4
theorem int_s {v : Vl} (hk : v.k = 1) (h : vValid v = true) : v.s = [] := by
  unfold vValid at h
  rw [if_neg (by omega), if_pos hk] at h
  exact (of_decide_eq_true h).1
theorem ev_const (row : List Vl) (n : Int) (v : Vl) (nm : List UInt8) (nl : Bool) (args : List Ex) : ev row (.mk 1 n v nm nl args) = v ∨ ev row (.mk 1 n v nm nl args) = vNull := by
  rw [ev_mk]
  split
  · exact .inl rfl
  · exact .inr rfl
theorem ev_col (row : List Vl) (n : Int) (v : Vl) (nm : List UInt8) (nl : Bool) (args : List Ex) : ev row (.mk 2 n v nm nl args) = vCol row n ∨ ev row (.mk 2 n v nm nl args) = vNull := by
  rw [ev_mk]
  split
  · exact .inl rfl
  · exact .inr rfl
theorem ev_cmp {row : List Vl} {op n : Int} {v : Vl} {nm : List UInt8} {nl : Bool} {a b : Ex} (ho : cmpOp op = true) (h : vTruth (ev row (.mk op n v nm nl [a, b])) = 2) : vCp op (ev row a) (ev row b) = 2 := by
  rw [ev_mk] at h
  split at h
  · rcases cmpOp_is ho with rfl | rfl | rfl | rfl | rfl <;> exact vTruth_vOf h
  · exact absurd h (by decide)
theorem cond_sat {row : List Vl} {e : Ex} {c : Cd} (hc : cond e = some c) (h : vTruth (ev row e) = 2) {a : Vl} (ha : vCol row c.col = a) (hk : a.k = 1) (hv : vValid a = true) : c.v.k = 1 ∧ sat a.n c.op c.v.n := by
  have hok := cond_ok hc
  obtain ⟨op, n, v, nm, nl, args⟩ := e
  match args with
  | [] => cases hc
  | [a] => cases a; cases hc
  | a :: b :: c :: l => cases a; cases b; cases hc
  | [.mk aop an av am al aa, .mk bop bn bv bm bl ba] =>
    rw [cond] at hc
    cases ho : cmpOp op with
    | false => rw [ho] at hc; cases hc
    | true =>
      rw [ho, if_pos rfl] at hc
      have hp := vCp_sat ho (ev_cmp ho h)
      unfold condP at hc
      split at hc
      · rename_i a1
        subst a1
        split at hc
        · rename_i z
          obtain ⟨z1, z2, z3⟩ := z
          subst z1
          cases hc
          dsimp only at ha hok ⊢
          have e0 : vNull.k = 0 := rfl
          rcases ev_const row an av am al aa with q | q
          · rcases ev_col row bn bv bm bl ba with r | r
            · rw [q, r, ha] at hp
              obtain ⟨p1, p2, p3⟩ := hp
              exact ⟨by omega, sat_mir ho (p3 (by omega) (int_s (by omega) z3) (int_s hk hv))⟩
            · rw [q, r, e0] at hp; omega
          · rw [q] at hp; exact absurd e0 hp.1
        · cases hc
      · split at hc
        · rename_i z
          obtain ⟨z0, z1, z2, z3⟩ := z
          subst z0
          subst z1
          cases hc
          dsimp only at ha hok ⊢
          have e0 : vNull.k = 0 := rfl
          rcases ev_col row an av am al aa with q | q
          · rcases ev_const row bn bv bm bl ba with r | r
            · rw [q, r, ha] at hp
              obtain ⟨p1, p2, p3⟩ := hp
              exact ⟨by omega, p3 hk (int_s hk hv) (int_s (by omega) z3)⟩
            · rw [q, r, e0] at hp; omega
          · rw [q] at hp; exact absurd e0 hp.1
        · cases hc
theorem nar_sat {x : Int} {c : Cd} {r : Int × Int} (h : sat x c.op c.v.n) (ho : cmpOp c.op = true) (h1 : r.1 ≤ x) (h2 : x ≤ r.2) : (nar r c).1 ≤ x ∧ x ≤ (nar r c).2 ∧ r.1 ≤ (nar r c).1 ∧ (nar r c).2 ≤ r.2 := by
  unfold sat at h
  unfold nar
  by_cases h7 : c.op = 7
  · simp only [if_pos h7] at h ⊢; omega
  by_cases h9 : c.op = 9
  · simp only [if_neg h7, if_pos h9] at h ⊢; omega
  by_cases h10 : c.op = 10
  · simp only [if_neg h7, if_neg h9, if_pos h10] at h ⊢; omega
  by_cases h11 : c.op = 11
  · simp only [if_neg h7, if_neg h9, if_neg h10, if_pos h11] at h ⊢; omega
  · simp only [if_neg h7, if_neg h9, if_neg h10, if_neg h11] at h ⊢; omega
theorem bd_sat (col x : Int) : ∀ (l : List Cd) (r : Int × Int), (∀ c ∈ l, c.col = col → c.v.k = 1 ∧ sat x c.op c.v.n) → (∀ c ∈ l, cmpOp c.op = true) → r.1 ≤ x → x ≤ r.2 → ∃ r', bd col l r = some r' ∧ r'.1 ≤ x ∧ x ≤ r'.2 ∧ r.1 ≤ r'.1 ∧ r'.2 ≤ r.2
  | [], r, _, _, h1, h2 => ⟨r, rfl, h1, h2, by omega, by omega⟩
  | c :: l, r, h, ho, h1, h2 => by
    unfold bd
    by_cases hc : c.col = col
    · obtain ⟨hk, hs⟩ := h c (by simp) hc
      obtain ⟨n1, n2, n3, n4⟩ := nar_sat hs (ho c (by simp)) h1 h2
      rw [if_pos hc, if_neg (fun e => e hk)]
      obtain ⟨r', e, q1, q2, q3, q4⟩ := bd_sat col x l (nar r c) (fun d hd => h d (by simp [hd])) (fun d hd => ho d (by simp [hd])) n1 n2
      exact ⟨r', e, q1, q2, by omega, by omega⟩
    · rw [if_neg hc]
      exact bd_sat col x l r (fun d hd => h d (by simp [hd])) (fun d hd => ho d (by simp [hd])) h1 h2
theorem col_at {row : List Vl} {i : Int} (h : vValid (vAt row i) = true) : vCol row i = vAt row i := by
  unfold vCol vOrN
  rw [if_pos h]
theorem win_sat {e : Ex} {row : List Vl} {f t : Int} {a b : Vl} (ha : vAt row f = a) (hb : vAt row t = b) (ka : a.k = 1) (kb : b.k = 1) (va : vValid a = true) (vb : vValid b = true) (h0 : 0 ≤ a.n) (h1 : a.n < b.n) (h2 : b.n ≤ 1099511627776) (ht : vTruth (ev row e) = 2) :
    ∃ lo hi, win e f t = ((lo, hi), true) ∧ 0 ≤ lo ∧ lo < hi ∧ hi ≤ 1099511627776 ∧ a.n < hi ∧ lo < b.n := by
  have hca : vCol row f = a := by rw [← ha]; exact col_at (by rw [ha]; exact va)
  have hcb : vCol row t = b := by rw [← hb]; exact col_at (by rw [hb]; exact vb)
  have hs : ∀ c ∈ conds e, ∀ {x : Vl}, vCol row c.col = x → x.k = 1 → vValid x = true → c.v.k = 1 ∧ sat x.n c.op c.v.n := fun c hc x h1 h2 h3 => by
    obtain ⟨y, hy, hcy⟩ := List.mem_filterMap.1 hc
    exact cond_sat hcy (ev_cj row e ht y hy) h1 h2 h3
  obtain ⟨r, e1, r1, r2, r3, r4⟩ := bd_sat f a.n (conds e) (0, 1099511627775) (fun c hc hf => hs c hc (by rw [hf]; exact hca) ka va) (fun c hc => (conds_ok hc).1) h0 (by omega)
  obtain ⟨s, e2, s1, s2, s3, s4⟩ := bd_sat t b.n (conds e) (1, 1099511627776) (fun c hc hf => hs c hc (by rw [hf]; exact hcb) kb vb) (fun c hc => (conds_ok hc).1) (by omega) h2
  dsimp only at r3 r4 s3 s4
  have hw : win e f t = wout (some (r, s)) := by unfold win; rw [wf_bd, e1, e2]
  rw [hw]
  rw [show wout (some (r, s)) = if r.2 < r.1 ∨ s.2 < s.1 ∨ s.2 ≤ r.1 then ((0, 0), false) else if r.2 < s.1 then ((r.2, s.1), true) else ((r.1, s.2), true) from rfl]
  rw [if_neg (by omega)]
  by_cases hz : r.2 < s.1
  · rw [if_pos hz]
    exact ⟨r.2, s.1, rfl, by omega, by omega, by omega, by omega, by omega⟩
  · rw [if_neg hz]
    exact ⟨r.1, s.2, rfl, by omega, by omega, by omega, by omega, by omega⟩
end Go.Proofs
end
section
/- The window: the reference's. No condition. -/
set_option linter.unusedSimpArgs false
set_option linter.unusedVariables false
set_option maxRecDepth 10000
set_option maxHeartbeats 4000000
namespace Go.Proofs
open Go.Bi

def onC (col : Int) (l : List Cd) : List Cd := l.filter fun c => decide (c.col = col)
theorem onC_len (col : Int) (l : List Cd) : (onC col l).length ≤ l.length := List.length_filter_le _ _
theorem onC_succ {col : Int} {l : List Cd} {i : Nat} {c : Cd} (h : l[i]? = some c) : onC col (l.take (i + 1)) = if c.col = col then onC col (l.take i) ++ [c] else onC col (l.take i) := by
  unfold onC
  rw [List.take_add_one, h, List.filter_append]
  by_cases hc : c.col = col
  · rw [if_pos hc]; simp [hc]
  · rw [if_neg hc]; simp [hc]
theorem C.r12_on (l : List Cd) (hl : l.length ≤ 1048576) (d : D) (hd : SlD d (eDs l)) (col : Int) : Pure Try.prog N.bt_ref12_on [.d d, .d (eI col)] (.d (.sl (eDs (onC col l)))) := by
  refine F.bt_ref12_on.go mixed rfl ?_
  have h1 := eDs_len l
  have hm := eDs_mem l
  obtain ⟨R, hR⟩ : ∃ R, R = eDs (onC col l) := ⟨_, rfl⟩
  rw [← hR]
  repeat' first
    | refine st ?_
    | ((with_reducible apply go_i); (conv => whnf))
    | (with_reducible apply k_d <;> intro _)
    | (with_reducible apply k_b <;> intro _)
  refine x_loop2 mixed Lt.bt_ref12_on_l0 Lk.bt_ref12_on_l0 (fun (i : Nat) (A : List (List D)) => [.arr 0 A.length, .d (eI i)]) (fun i A => [.arr A 5 0 false]) (fun i A => i ≤ l.length ∧ A = eDs (onC col (l.take i))) (fun i _ => l.length - i) 0 [] rfl rfl rfl rfl (fun _ _ _ => ⟨rfl, rfl⟩) rfl ⟨by omega, rfl⟩ ?_
  repeat' first
    | refine st ?_
    | ((with_reducible apply go_i); (conv => whnf))
    | (with_reducible apply k_d <;> intro _)
    | (with_reducible apply k_b <;> intro _)
  intro i A ⟨h4, h5⟩
  have hAl : A.length ≤ 1048576 := by
    rw [h5, eDs_len]
    have := onC_len col (l.take i)
    rw [List.length_take] at this
    omega
  have hAm : ∀ e ∈ A, e.length = 5 := by rw [h5]; exact eDs_mem _
  cases hx : l[i]? with
  | some x =>
    have hlt := (List.getElem?_eq_some_iff.1 hx).1
    have hg := eDs_get hx
    have hs := onC_succ (col := col) hx
    by_cases hc : x.col = col
    · rw [if_pos hc] at hs
      have r1 : x.v.s = x.v.s := rfl
      repeat' first
        | refine st ?_
        | ((with_reducible apply go_i); (conv => whnf))
        | (with_reducible apply k_d <;> intro _)
        | (with_reducible apply k_b <;> intro _)
      exact ⟨i + 1, A ++ [x.ds], rfl, rfl, rfl, by omega, by omega, by rw [hs, ← eDs_app, h5]⟩
    · rw [if_neg hc] at hs
      repeat' first
        | refine st ?_
        | ((with_reducible apply go_i); (conv => whnf))
        | (with_reducible apply k_d <;> intro _)
        | (with_reducible apply k_b <;> intro _)
      exact ⟨i + 1, A, rfl, rfl, rfl, by omega, by omega, by rw [hs]; exact h5⟩
  | none =>
    have hge := List.getElem?_eq_none_iff.1 hx
    rw [List.take_of_length_le hge, ← hR] at h5
    rw [← h5]
    repeat' first
      | refine st ?_
      | ((with_reducible apply go_i); (conv => whnf))
      | (with_reducible apply k_d <;> intro _)
      | (with_reducible apply k_b <;> intro _)
    all_goals rfl
theorem C.r12_narrowed (r : Int × Int) (c : Cd) (hc : cmpOp c.op = true) (hn : nSm c.v.n) : Pure Try.prog N.bt_ref12_narrowed [.agg [.d (eI r.1), .d (eI r.2)], c.av] (.agg [.d (eI (nar r c).1), .d (eI (nar r c).2)]) := by
  obtain ⟨a, b⟩ := r
  obtain ⟨op, col, k, n, s⟩ := c
  dsimp only at hc hn ⊢
  unfold cmpOp at hc
  have hc := of_decide_eq_true hc
  unfold nSm at hn
  obtain ⟨n1, n2⟩ := hn
  unfold nar
  dsimp only
  show Pure Try.prog N.bt_ref12_narrowed [.agg [.d (eI a), .d (eI b)], .agg [.d (eI op), .d (eI col), .d (eI k), .d (eI n), .d (.str s)]] _
  refine F.bt_ref12_narrowed.go mixed rfl ?_
  rcases hc with rfl | rfl | rfl | rfl | rfl
  · rw [if_pos rfl]
    repeat' first
      | refine st ?_
      | ((with_reducible apply go_i); (conv => whnf))
      | (with_reducible apply k_d <;> intro _)
      | (with_reducible apply k_b <;> intro _)
    all_goals rfl
  · rw [if_neg (by decide), if_pos rfl]
    repeat' first
      | refine st ?_
      | ((with_reducible apply go_i); (conv => whnf))
      | (with_reducible apply k_d <;> intro _)
      | (with_reducible apply k_b <;> intro _)
    all_goals rfl
  · rw [if_neg (by decide), if_neg (by decide), if_pos rfl]
    repeat' first
      | refine st ?_
      | ((with_reducible apply go_i); (conv => whnf))
      | (with_reducible apply k_d <;> intro _)
      | (with_reducible apply k_b <;> intro _)
    all_goals rfl
  · rw [if_neg (by decide), if_neg (by decide), if_neg (by decide), if_pos rfl]
    repeat' first
      | refine st ?_
      | ((with_reducible apply go_i); (conv => whnf))
      | (with_reducible apply k_d <;> intro _)
      | (with_reducible apply k_b <;> intro _)
    all_goals rfl
  · rw [if_neg (by decide), if_neg (by decide), if_neg (by decide), if_neg (by decide)]
    repeat' first
      | refine st ?_
      | ((with_reducible apply go_i); (conv => whnf))
      | (with_reducible apply k_d <;> intro _)
      | (with_reducible apply k_b <;> intro _)
    all_goals rfl
def bdF : List Cd → Int × Int → (Int × Int) × Bool
  | [], r => (r, true)
  | c :: l, r => if c.v.k ≠ 1 then (r, false) else bdF l (nar r c)
theorem bd_bdF (col : Int) : ∀ (l : List Cd) (r : Int × Int), bd col l r = if (bdF (onC col l) r).2 then some (bdF (onC col l) r).1 else none
  | [], r => rfl
  | c :: l, r => by
    unfold bd
    by_cases h : c.col = col
    · rw [if_pos h, show onC col (c :: l) = c :: onC col l by unfold onC; simp [h], bdF]
      by_cases h2 : c.v.k = 1
      · simp only [h2, ne_eq, not_true, if_false]
        exact bd_bdF col l _
      · simp [h2]
    · rw [if_neg h, show onC col (c :: l) = onC col l by unfold onC; simp [h], bd_bdF col l]
theorem bdF_drop {l : List Cd} {i : Nat} {c : Cd} {r : Int × Int} (h : l[i]? = some c) : bdF (l.drop i) r = if c.v.k ≠ 1 then (r, false) else bdF (l.drop (i + 1)) (nar r c) := by
  obtain ⟨hlt, he⟩ := List.getElem?_eq_some_iff.1 h
  rw [List.drop_eq_getElem_cons hlt, he, bdF]
theorem C.r12_bounds (l : List Cd) (hl : l.length ≤ 1048576) (hok : ∀ c ∈ l, cmpOp c.op = true ∧ nSm c.v.n) (d : D) (hd : SlD d (eDs l)) (col lo hi : Int) : Pure Try.prog N.bt_ref12_bounds [.d d, .d (eI col), .d (eI lo), .d (eI hi)] (winA (bdF (onC col l) (lo, hi))) := by
  have hO := C.r12_on l hl d hd col
  have hl2 := onC_len col l
  have hok2 : ∀ c ∈ onC col l, cmpOp c.op = true ∧ nSm c.v.n := fun c hc => hok c (List.mem_filter.1 hc).1
  obtain ⟨J, hJ⟩ : ∃ J, J = onC col l := ⟨_, rfl⟩
  rw [← hJ] at hO hl2 hok2 ⊢
  have h1 := eDs_len J
  have hm := eDs_mem J
  obtain ⟨q, hq⟩ : ∃ q, q = bdF J (lo, hi) := ⟨_, rfl⟩
  rw [← hq]
  refine F.bt_ref12_bounds.go mixed rfl ?_
  repeat' first
    | refine st ?_
    | ((with_reducible apply go_i); (conv => whnf))
    | ((with_reducible apply k_pn); (· exact hO))
    | ((with_reducible apply k_pc); (· exact hO))
    | (with_reducible apply k_d <;> intro _)
    | (with_reducible apply k_b <;> intro _)
  refine x_loop2 mixed Lt.bt_ref12_bounds_l0 Lk.bt_ref12_bounds_l0 (fun (i : Nat) (r : Int × Int) => [.d (eI i)]) (fun i r => [.cells [.d (eI 0), .d (eI 0)], .cells [.d (eI r.1), .d (eI r.2)]]) (fun i r => i ≤ J.length ∧ q = bdF (J.drop i) r) (fun i _ => J.length - i) 0 (lo, hi) rfl rfl rfl rfl (fun _ _ _ => ⟨rfl, rfl⟩) rfl ⟨by omega, hq⟩ ?_
  repeat' first
    | refine st ?_
    | ((with_reducible apply go_i); (conv => whnf))
    | (with_reducible apply k_d <;> intro _)
    | (with_reducible apply k_b <;> intro _)
  intro i r ⟨h4, h5⟩
  obtain ⟨a, b⟩ := r
  cases hx : J[i]? with
  | some c =>
    have hlt := (List.getElem?_eq_some_iff.1 hx).1
    have hg := eDs_get hx
    obtain ⟨k1, k2⟩ := hok2 c (List.mem_of_getElem? hx)
    have hN := C.r12_narrowed (a, b) c k1 k2
    rw [bdF_drop hx] at h5
    obtain ⟨A, hA⟩ : ∃ A, A = nar (a, b) c := ⟨_, rfl⟩
    rw [← hA] at hN h5
    have r1 : c.v.s = c.v.s := rfl
    by_cases g3 : c.v.k = 1
    · rw [if_neg (fun h => h g3)] at h5
      repeat' first
        | refine st ?_
        | ((with_reducible apply go_i); (conv => whnf))
        | ((with_reducible apply k_pn); (· exact hN))
        | ((with_reducible apply k_pc); (· exact hN))
        | (with_reducible apply k_d <;> intro _)
        | (with_reducible apply k_b <;> intro _)
      exact ⟨i + 1, A, rfl, rfl, rfl, by omega, by omega, h5⟩
    · rw [if_pos g3] at h5
      rw [h5]
      repeat' first
        | refine st ?_
        | ((with_reducible apply go_i); (conv => whnf))
        | (with_reducible apply k_d <;> intro _)
        | (with_reducible apply k_b <;> intro _)
      all_goals rfl
  | none =>
    have hge := List.getElem?_eq_none_iff.1 hx
    rw [List.drop_eq_nil_of_le hge] at h5
    have h5 : q = ((a, b), true) := h5
    rw [h5]
    repeat' first
      | refine st ?_
      | ((with_reducible apply go_i); (conv => whnf))
      | (with_reducible apply k_d <;> intro _)
      | (with_reducible apply k_b <;> intro _)
    all_goals rfl
theorem C.r12_Window (e : Ex) (he : e.bk ≤ 1048576) (f t : Int) : Pure Try.prog N.bt_ref12_Window [e.av, .d (eI f), .d (eI t)] (winA (win e f t)) := by
  have hJ := C.r12_Conditions e he
  have hok : ∀ c ∈ conds e, cmpOp c.op = true ∧ nSm c.v.n := fun c hc => ⟨(conds_ok hc).1, valid_n (conds_ok hc).2.2⟩
  have hcl := conds_len e
  unfold win
  rw [wf_bd, bd_bdF, bd_bdF]
  obtain ⟨J, hJe⟩ : ∃ J, J = conds e := ⟨_, rfl⟩
  rw [← hJe] at hJ hok hcl ⊢
  have hB1 := C.r12_bounds J (by omega) hok (.sl (eDs J)) (.inr rfl) f 0 1099511627775
  have hB2 := C.r12_bounds J (by omega) hok (.sl (eDs J)) (.inr rfl) t 1 1099511627776
  obtain ⟨⟨⟨a1, a2⟩, i1⟩, hA⟩ : ∃ A, A = bdF (onC f J) (0, 1099511627775) := ⟨_, rfl⟩
  obtain ⟨⟨⟨b1, b2⟩, i2⟩, hB⟩ : ∃ A, A = bdF (onC t J) (1, 1099511627776) := ⟨_, rfl⟩
  rw [← hA] at hB1 ⊢
  rw [← hB] at hB2 ⊢
  dsimp only [winA] at hB1 hB2 ⊢
  obtain ⟨op, n, v, nm, nl, args⟩ := e
  rw [Ex.av_mk] at hJ ⊢
  obtain ⟨da, hda⟩ : ∃ d, d = ng nl (xL args) := ⟨_, rfl⟩
  rw [← hda] at hJ ⊢
  refine F.bt_ref12_Window.go mixed rfl ?_
  cases i1 with
  | false =>
    repeat' first
      | refine st ?_
      | ((with_reducible apply go_i); (conv => whnf))
      | ((with_reducible apply k_pn); (· first | exact hJ | exact hB1 | exact hB2))
      | ((with_reducible apply k_pc); (· first | exact hJ | exact hB1 | exact hB2))
      | (with_reducible apply k_d <;> intro _)
      | (with_reducible apply k_b <;> intro _)
    all_goals rfl
  | true =>
    cases i2 with
    | false =>
      repeat' first
        | refine st ?_
        | ((with_reducible apply go_i); (conv => whnf))
        | ((with_reducible apply k_pn); (· first | exact hJ | exact hB1 | exact hB2))
        | ((with_reducible apply k_pc); (· first | exact hJ | exact hB1 | exact hB2))
        | (with_reducible apply k_d <;> intro _)
        | (with_reducible apply k_b <;> intro _)
      all_goals rfl
    | true =>
      rw [if_pos rfl, if_pos rfl]
      dsimp only
      unfold wout
      dsimp only
      by_cases z : a2 < a1 ∨ b2 < b1 ∨ b2 ≤ a1
      · rw [if_pos z]
        repeat' first
          | refine st ?_
          | ((with_reducible apply go_i); (conv => whnf))
          | ((with_reducible apply k_pn); (· first | exact hJ | exact hB1 | exact hB2))
          | ((with_reducible apply k_pc); (· first | exact hJ | exact hB1 | exact hB2))
          | (with_reducible apply k_d <;> intro _)
          | (with_reducible apply k_b <;> intro _)
        all_goals first | rfl | (exfalso; omega)
      · rw [if_neg z]
        by_cases z2 : a2 < b1
        · rw [if_pos z2]
          repeat' first
            | refine st ?_
            | ((with_reducible apply go_i); (conv => whnf))
            | ((with_reducible apply k_pn); (· first | exact hJ | exact hB1 | exact hB2))
            | ((with_reducible apply k_pc); (· first | exact hJ | exact hB1 | exact hB2))
            | (with_reducible apply k_d <;> intro _)
            | (with_reducible apply k_b <;> intro _)
          all_goals first | rfl | (exfalso; omega)
        · rw [if_neg z2]
          repeat' first
            | refine st ?_
            | ((with_reducible apply go_i); (conv => whnf))
            | ((with_reducible apply k_pn); (· first | exact hJ | exact hB1 | exact hB2))
            | ((with_reducible apply k_pc); (· first | exact hJ | exact hB1 | exact hB2))
            | (with_reducible apply k_d <;> intro _)
            | (with_reducible apply k_b <;> intro _)
          all_goals first | rfl | (exfalso; omega)
end Go.Proofs
end
section
/- Conditions on texts. No condition. -/
set_option linter.unusedSimpArgs false
set_option linter.unusedVariables false
set_option maxRecDepth 10000
set_option maxHeartbeats 4000000
namespace Go.Proofs
open Go.Bi

theorem cmpB_anti (a b : List UInt8) : cmpB b a = - cmpB a b := by
  obtain ⟨h1, h2, h3, h4⟩ := cmpB_less a b
  obtain ⟨g1, g2, g3, g4⟩ := cmpB_less b a
  have e1 : (cmpB b a < 0) ↔ (0 < cmpB a b) := by rw [← decide_eq_decide, ← g1, ← h2]
  have e2 : (0 < cmpB b a) ↔ (cmpB a b < 0) := by rw [← decide_eq_decide, ← g2, ← h1]
  omega
theorem cmpB_trans : ∀ {a b c : List UInt8}, cmpB a b < 0 → cmpB b c < 0 → cmpB a c < 0
  | [], [], _, h, _ => by simp [cmpB, Lib.compareBytes] at h
  | [], _ :: _, [], _, h => by simp [cmpB, Lib.compareBytes] at h
  | [], _ :: _, _ :: _, _, _ => by simp [cmpB, Lib.compareBytes]
  | _ :: _, [], _, h, _ => by simp [cmpB, Lib.compareBytes] at h
  | _ :: _, _ :: _, [], _, h => by simp [cmpB, Lib.compareBytes] at h
  | x :: a, y :: b, z :: c, h1, h2 => by
    simp only [cmpB, Lib.compareBytes] at h1 h2 ⊢
    have t : ∀ p q : UInt8, p < q ↔ p.toNat < q.toNat := fun p q => UInt8.lt_iff_toNat_lt
    simp only [t] at h1 h2 ⊢
    split at h1
    · split at h2
      · rw [if_pos (by omega)]; omega
      · split at h2
        · omega
        · rw [if_pos (by omega)]; omega
    · split at h1
      · omega
      · split at h2
        · rw [if_pos (by omega)]; omega
        · split at h2
          · omega
          · rw [if_neg (by omega), if_neg (by omega)]
            exact cmpB_trans h1 h2
theorem cmpB_nil (a : List UInt8) : ¬ cmpB a [] < 0 := by cases a <;> simp [cmpB, Lib.compareBytes]
theorem cmpB_eq {a b : List UInt8} : cmpB a b = 0 ↔ a = b := (cmpB_less a b).2.2.1

structure Lm where
  t : List UInt8
  st : Bool
  is : Bool
def tig (a b : Lm) (s : Int) : Lm := if a.is = false ∨ 0 < s * cmpB b.t a.t ∨ (s * cmpB b.t a.t = 0 ∧ b.st = true) then b else a
def loA (op : Int) : Bool := decide (op = 11 ∨ op = 12 ∨ op = 7)
def hiA (op : Int) : Bool := decide (op = 9 ∨ op = 10 ∨ op = 7)
def stA (op : Int) : Bool := decide (op = 11 ∨ op = 9)
def lmC (c : Cd) : Lm := ⟨c.v.s, stA c.op, true⟩
def txS (p : Lm × Lm) (c : Cd) : Lm × Lm := (if loA c.op then tig p.1 (lmC c) 1 else p.1, if hiA c.op then tig p.2 (lmC c) (-1) else p.2)
def lm0 : Lm := ⟨[], false, false⟩
def txO (p : Lm × Lm) : Bool := if p.2.is = true ∧ p.2.st = true ∧ p.2.t = [] then false else if p.1.is = false ∨ p.2.is = false then true else decide (cmpB p.1.t p.2.t < 0 ∨ (cmpB p.1.t p.2.t = 0 ∧ p.1.st = false ∧ p.2.st = false))
def txP (l : List Cd) : Bool := txO (l.foldl txS (lm0, lm0))
def tx2 (a b : Cd) : Bool := decide (b.op = 9 ∧ b.v.s = []) || (decide (loA a.op = true ∧ hiA b.op = true) && decide (0 < cmpB a.v.s b.v.s ∨ (a.v.s = b.v.s ∧ (a.op = 11 ∨ b.op = 9))))
/-- Below the lower limit. -/
def domL (x lo : Lm) : Prop := cmpB x.t lo.t < 0 ∨ (x.t = lo.t ∧ (x.st = true → lo.st = true))
def domH (x hi : Lm) : Prop := cmpB hi.t x.t < 0 ∨ (x.t = hi.t ∧ (x.st = true → hi.st = true))
theorem domL_trans {x y z : Lm} (h1 : domL x y) (h2 : domL y z) : domL x z := by
  rcases h1 with h1 | ⟨h1, h1'⟩
  · rcases h2 with h2 | ⟨h2, h2'⟩
    · exact .inl (cmpB_trans h1 h2)
    · exact .inl (by rw [← h2]; exact h1)
  · rcases h2 with h2 | ⟨h2, h2'⟩
    · exact .inl (by rw [h1]; exact h2)
    · exact .inr ⟨h1.trans h2, fun h => h2' (h1' h)⟩
theorem domH_trans {x y z : Lm} (h1 : domH x y) (h2 : domH y z) : domH x z := by
  rcases h1 with h1 | ⟨h1, h1'⟩
  · rcases h2 with h2 | ⟨h2, h2'⟩
    · exact .inl (cmpB_trans h2 h1)
    · exact .inl (by rw [← h2]; exact h1)
  · rcases h2 with h2 | ⟨h2, h2'⟩
    · exact .inl (by rw [h1]; exact h2)
    · exact .inr ⟨h1.trans h2, fun h => h2' (h1' h)⟩
theorem tigL {a b : Lm} (ha : a.is = true) : (tig a b 1 = b ∧ domL a b) ∨ (tig a b 1 = a ∧ domL b a) := by
  unfold tig
  have hn := cmpB_anti a.t b.t
  have he := cmpB_eq (a := b.t) (b := a.t)
  split
  · rename_i h
    left
    refine ⟨rfl, ?_⟩
    rcases h with h | h | ⟨h, h'⟩
    · rw [ha] at h; cases h
    · exact .inl (by omega)
    · exact .inr ⟨(he.1 (by omega)).symm, fun _ => h'⟩
  · rename_i h
    right
    refine ⟨rfl, ?_⟩
    simp only [not_or, not_and, Bool.not_eq_true] at h
    obtain ⟨_, h1, h2⟩ := h
    rcases (show cmpB b.t a.t < 0 ∨ 0 ≤ cmpB b.t a.t by omega) with g | g
    · exact .inl g
    · exact .inr ⟨he.1 (by omega), fun h => by rw [h2 (by omega)] at h; cases h⟩
theorem tigH {a b : Lm} (ha : a.is = true) : (tig a b (-1) = b ∧ domH a b) ∨ (tig a b (-1) = a ∧ domH b a) := by
  unfold tig
  have hn := cmpB_anti a.t b.t
  have he := cmpB_eq (a := b.t) (b := a.t)
  split
  · rename_i h
    left
    refine ⟨rfl, ?_⟩
    rcases h with h | h | ⟨h, h'⟩
    · rw [ha] at h; cases h
    · exact .inl (by omega)
    · exact .inr ⟨(he.1 (by omega)).symm, fun _ => h'⟩
  · rename_i h
    right
    refine ⟨rfl, ?_⟩
    simp only [not_or, not_and, Bool.not_eq_true] at h
    obtain ⟨_, h1, h2⟩ := h
    rcases (show cmpB a.t b.t < 0 ∨ 0 ≤ cmpB a.t b.t by omega) with g | g
    · exact .inl g
    · exact .inr ⟨he.1 (by omega), fun h => by rw [h2 (by omega)] at h; cases h⟩
def InvL (l : List Cd) (lo : Lm) : Prop := (lo.is = false ∧ ∀ a ∈ l, loA a.op = false) ∨ (lo.is = true ∧ (∃ a ∈ l, loA a.op = true ∧ lmC a = lo) ∧ ∀ a ∈ l, loA a.op = true → domL (lmC a) lo)
def InvH (l : List Cd) (hi : Lm) : Prop := (hi.is = false ∧ ∀ a ∈ l, hiA a.op = false) ∨ (hi.is = true ∧ (∃ a ∈ l, hiA a.op = true ∧ lmC a = hi) ∧ ∀ a ∈ l, hiA a.op = true → domH (lmC a) hi)
theorem InvL_step {l : List Cd} {lo : Lm} {c : Cd} (h : InvL l lo) : InvL (l ++ [c]) (if loA c.op then tig lo (lmC c) 1 else lo) := by
  cases hc : loA c.op with
  | false =>
    rw [if_neg (by simp)]
    rcases h with ⟨h1, h2⟩ | ⟨h1, ⟨a, ha, hb⟩, h3⟩
    · exact .inl ⟨h1, fun a ha => by rcases List.mem_append.1 ha with h | h; exact h2 a h; simp at h; subst h; exact hc⟩
    · exact .inr ⟨h1, ⟨a, by simp [ha], hb⟩, fun a ha hl => by rcases List.mem_append.1 ha with h | h; exact h3 a h hl; simp at h; subst h; rw [hc] at hl; cases hl⟩
  | true =>
    rw [if_pos rfl]
    rcases h with ⟨h1, h2⟩ | ⟨h1, ⟨a, ha, hb⟩, h3⟩
    · have : tig lo (lmC c) 1 = lmC c := by unfold tig; rw [if_pos (.inl h1)]
      rw [this]
      refine .inr ⟨rfl, ⟨c, by simp, hc, rfl⟩, fun a ha hl => ?_⟩
      rcases List.mem_append.1 ha with h | h
      · rw [h2 a h] at hl; cases hl
      · simp at h; subst h; exact .inr ⟨rfl, id⟩
    · rcases tigL (a := lo) (b := lmC c) h1 with ⟨e, hd⟩ | ⟨e, hd⟩
      · rw [e]
        refine .inr ⟨rfl, ⟨c, by simp, hc, rfl⟩, fun a ha hl => ?_⟩
        rcases List.mem_append.1 ha with h | h
        · exact domL_trans (h3 a h hl) hd
        · simp at h; subst h; exact .inr ⟨rfl, id⟩
      · rw [e]
        refine .inr ⟨h1, ⟨a, by simp [ha], hb⟩, fun a ha hl => ?_⟩
        rcases List.mem_append.1 ha with h | h
        · exact h3 a h hl
        · simp at h; subst h; exact hd
theorem InvH_step {l : List Cd} {hi : Lm} {c : Cd} (h : InvH l hi) : InvH (l ++ [c]) (if hiA c.op then tig hi (lmC c) (-1) else hi) := by
  cases hc : hiA c.op with
  | false =>
    rw [if_neg (by simp)]
    rcases h with ⟨h1, h2⟩ | ⟨h1, ⟨a, ha, hb⟩, h3⟩
    · exact .inl ⟨h1, fun a ha => by rcases List.mem_append.1 ha with h | h; exact h2 a h; simp at h; subst h; exact hc⟩
    · exact .inr ⟨h1, ⟨a, by simp [ha], hb⟩, fun a ha hl => by rcases List.mem_append.1 ha with h | h; exact h3 a h hl; simp at h; subst h; rw [hc] at hl; cases hl⟩
  | true =>
    rw [if_pos rfl]
    rcases h with ⟨h1, h2⟩ | ⟨h1, ⟨a, ha, hb⟩, h3⟩
    · have : tig hi (lmC c) (-1) = lmC c := by unfold tig; rw [if_pos (.inl h1)]
      rw [this]
      refine .inr ⟨rfl, ⟨c, by simp, hc, rfl⟩, fun a ha hl => ?_⟩
      rcases List.mem_append.1 ha with h | h
      · rw [h2 a h] at hl; cases hl
      · simp at h; subst h; exact .inr ⟨rfl, id⟩
    · rcases tigH (a := hi) (b := lmC c) h1 with ⟨e, hd⟩ | ⟨e, hd⟩
      · rw [e]
        refine .inr ⟨rfl, ⟨c, by simp, hc, rfl⟩, fun a ha hl => ?_⟩
        rcases List.mem_append.1 ha with h | h
        · exact domH_trans (h3 a h hl) hd
        · simp at h; subst h; exact .inr ⟨rfl, id⟩
      · rw [e]
        refine .inr ⟨h1, ⟨a, by simp [ha], hb⟩, fun a ha hl => ?_⟩
        rcases List.mem_append.1 ha with h | h
        · exact h3 a h hl
        · simp at h; subst h; exact hd
theorem inv_fold : ∀ (l pre : List Cd) (p : Lm × Lm), InvL pre p.1 → InvH pre p.2 → InvL (pre ++ l) (l.foldl txS p).1 ∧ InvH (pre ++ l) (l.foldl txS p).2
  | [], pre, p, h1, h2 => by simpa using ⟨h1, h2⟩
  | c :: l, pre, p, h1, h2 => by
    have := inv_fold l (pre ++ [c]) (txS p c) (InvL_step h1) (InvH_step h2)
    simpa using this
theorem stA_lo {op : Int} (h : loA op = true) : stA op = true ↔ op = 11 := by
  unfold loA at h; unfold stA
  have := of_decide_eq_true h
  rw [decide_eq_true_eq]
  omega
theorem stA_hi {op : Int} (h : hiA op = true) : stA op = true ↔ op = 9 := by
  unfold hiA at h; unfold stA
  have := of_decide_eq_true h
  rw [decide_eq_true_eq]
  omega
theorem tx2_iff (a b : Cd) : tx2 a b = true ↔ (b.op = 9 ∧ b.v.s = []) ∨ (loA a.op = true ∧ hiA b.op = true ∧ (0 < cmpB a.v.s b.v.s ∨ (a.v.s = b.v.s ∧ (a.op = 11 ∨ b.op = 9)))) := by
  unfold tx2
  rw [Bool.or_eq_true, Bool.and_eq_true, decide_eq_true_eq, decide_eq_true_eq, decide_eq_true_eq]
  constructor
  · rintro (h | ⟨⟨h1, h2⟩, h3⟩)
    · exact .inl h
    · exact .inr ⟨h1, h2, h3⟩
  · rintro (h | ⟨h1, h2, h3⟩)
    · exact .inl h
    · exact .inr ⟨⟨h1, h2⟩, h3⟩
theorem hiA9 : hiA 9 = true := by decide
theorem txP_eq (l : List Cd) : txP l = !(l.any fun a => l.any fun b => tx2 a b) := by
  obtain ⟨hL, hH⟩ := inv_fold l [] (lm0, lm0) (.inl ⟨rfl, by simp⟩) (.inl ⟨rfl, by simp⟩)
  rw [List.nil_append] at hL hH
  unfold txP
  obtain ⟨⟨lo, hi⟩, hp⟩ : ∃ p, p = l.foldl txS (lm0, lm0) := ⟨_, rfl⟩
  rw [← hp] at hL hH ⊢
  dsimp only at hL hH
  rw [Bool.eq_iff_iff]
  have hany : ((!(l.any fun a => l.any fun b => tx2 a b)) = true) ↔ ∀ a ∈ l, ∀ b ∈ l, ¬ tx2 a b = true := by simp
  rw [hany]
  have A : hi.is = true ∧ hi.st = true ∧ hi.t = [] ↔ ∃ b ∈ l, b.op = 9 ∧ b.v.s = [] := by
    constructor
    · rintro ⟨h1, h2, h3⟩
      rcases hH with ⟨g, _⟩ | ⟨_, ⟨b, hb, hb1, hb2⟩, _⟩
      · rw [h1] at g; cases g
      · refine ⟨b, hb, ?_, ?_⟩
        · rw [← hb2] at h2; exact (stA_hi hb1).1 h2
        · rw [← hb2] at h3; exact h3
    · rintro ⟨b, hb, hb1, hb2⟩
      have hA : hiA b.op = true := by rw [hb1]; exact hiA9
      rcases hH with ⟨_, g⟩ | ⟨g1, _, g3⟩
      · rw [g b hb] at hA; cases hA
      · rcases g3 b hb hA with g | ⟨g, g'⟩
        · simp only [lmC] at g
          rw [hb2] at g
          exact absurd g (cmpB_nil _)
        · simp only [lmC] at g g'
          rw [hb2] at g
          exact ⟨g1, g' ((stA_hi hA).2 hb1), g.symm⟩
  unfold txO
  dsimp only
  by_cases hA : hi.is = true ∧ hi.st = true ∧ hi.t = []
  · rw [if_pos hA]
    obtain ⟨b, hb, hb'⟩ := A.1 hA
    simp only [Bool.false_eq_true, false_iff]
    intro h
    exact h b hb b hb ((tx2_iff b b).2 (.inl hb'))
  · rw [if_neg hA]
    have hA' : ∀ b ∈ l, ¬ (b.op = 9 ∧ b.v.s = []) := fun b hb h => hA (A.2 ⟨b, hb, h⟩)
    by_cases hN : lo.is = false ∨ hi.is = false
    · rw [if_pos hN]
      simp only [true_iff]
      intro a ha b hb h
      rcases (tx2_iff a b).1 h with h | ⟨h1, h2, _⟩
      · exact hA' b hb h
      · rcases hN with hN | hN
        · rcases hL with ⟨_, g⟩ | ⟨g, _⟩
          · rw [g a ha] at h1; cases h1
          · rw [hN] at g; cases g
        · rcases hH with ⟨_, g⟩ | ⟨g, _⟩
          · rw [g b hb] at h2; cases h2
          · rw [hN] at g; cases g
    · rw [if_neg hN]
      simp only [not_or, Bool.not_eq_false] at hN
      rcases hL with ⟨g, _⟩ | ⟨_, ⟨a, ha, ha1, ha2⟩, ga⟩
      · rw [hN.1] at g; cases g
      rcases hH with ⟨g, _⟩ | ⟨_, ⟨b, hb, hb1, hb2⟩, gb⟩
      · rw [hN.2] at g; cases g
      rw [decide_eq_true_eq]
      have e1 : lo.t = a.v.s := by rw [← ha2]; rfl
      have e2 : hi.t = b.v.s := by rw [← hb2]; rfl
      have e3 : lo.st = stA a.op := by rw [← ha2]; rfl
      have e4 : hi.st = stA b.op := by rw [← hb2]; rfl
      constructor
      · intro h x hx y hy hxy
        rcases (tx2_iff x y).1 hxy with h' | ⟨x1, y1, h'⟩
        · exact hA' y hy h'
        have dx := ga x hx x1
        have dy := gb y hy y1
        unfold domL at dx
        unfold domH at dy
        simp only [lmC] at dx dy
        have ax := cmpB_anti x.v.s lo.t
        have ay := cmpB_anti hi.t y.v.s
        have axy := cmpB_anti x.v.s y.v.s
        -- x ≤ lo ≤ hi ≤ y
        rcases h with h | ⟨h, s1, s2⟩
        · -- strictly below
          have : cmpB x.v.s y.v.s < 0 := by
            have k1 : cmpB x.v.s hi.t < 0 := by
              rcases dx with dx | ⟨dx, _⟩
              · exact cmpB_trans dx h
              · rw [dx]; exact h
            rcases dy with dy | ⟨dy, _⟩
            · exact cmpB_trans k1 dy
            · rw [dy]; exact k1
          rcases h' with h' | ⟨h', _⟩
          · omega
          · have := cmpB_eq.2 h'; omega
        · have h := cmpB_eq.1 h
          rcases dx with dx | ⟨dx, dx'⟩
          · have k1 : cmpB x.v.s y.v.s < 0 := by
              rw [h] at dx
              rcases dy with dy | ⟨dy, _⟩
              · exact cmpB_trans dx dy
              · rw [dy]; exact dx
            rcases h' with h' | ⟨h', _⟩
            · omega
            · have := cmpB_eq.2 h'; omega
          · rcases dy with dy | ⟨dy, dy'⟩
            · have k1 : cmpB x.v.s y.v.s < 0 := by rw [dx, h]; exact dy
              rcases h' with h' | ⟨h', _⟩
              · omega
              · have := cmpB_eq.2 h'; omega
            · have k0 : x.v.s = y.v.s := by rw [dx, dy, h]
              rcases h' with h' | ⟨_, h'⟩
              · have := cmpB_eq.2 k0; omega
              · rcases h' with h' | h'
                · have := dx' ((stA_lo x1).2 h')
                  rw [s1] at this; cases this
                · have := dy' ((stA_hi y1).2 h')
                  rw [s2] at this; cases this
      · intro h
        have hab := h a ha b hb
        rw [tx2_iff] at hab
        rw [e1, e2, e3, e4]
        rcases (cmpB_less a.v.s b.v.s).2.2.2 with g | g | g
        · left; omega
        · right
          refine ⟨g, ?_, ?_⟩
          · rw [Bool.eq_false_iff]
            intro s
            exact hab (.inr ⟨ha1, hb1, .inr ⟨cmpB_eq.1 g, .inl ((stA_lo ha1).1 s)⟩⟩)
          · rw [Bool.eq_false_iff]
            intro s
            exact hab (.inr ⟨ha1, hb1, .inr ⟨cmpB_eq.1 g, .inr ((stA_hi hb1).1 s)⟩⟩)
        · exact absurd (.inr ⟨ha1, hb1, .inl (by omega)⟩) hab
end Go.Proofs
end
