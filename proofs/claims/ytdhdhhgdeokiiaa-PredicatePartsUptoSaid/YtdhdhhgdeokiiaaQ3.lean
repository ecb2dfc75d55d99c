/- Texts of this claim, joined. No condition. -/
import Derived.Test.YtdhdhhgdeokiiaaQ2
import Derived.Test.YtdhdhhgdeokiiaaRows
section
/- Conditions: what a conjunct states. No condition. -/
set_option linter.unusedSimpArgs false
set_option linter.unusedVariables false
set_option maxRecDepth 10000
set_option maxHeartbeats 4000000
namespace Go.Proofs
open Go.Bi

structure Cd where
  op : Int
  col : Int
  v : Vl
abbrev Cd.ds (c : Cd) : List D := [eI c.op, eI c.col, eI c.v.k, eI c.v.n, .str c.v.s]
abbrev Cd.av (c : Cd) : AV := .agg [.d (eI c.op), .d (eI c.col), .d (eI c.v.k), .d (eI c.v.n), .d (.str c.v.s)]
def eDs (l : List Cd) : List (List D) := l.map Cd.ds
theorem eDs_len (l : List Cd) : (eDs l).length = l.length := by simp [eDs]
theorem eDs_get {l : List Cd} {i : Nat} {c : Cd} (h : l[i]? = some c) : (eDs l)[i]? = some c.ds := by simp [eDs, h]
theorem eDs_mem (l : List Cd) : ∀ e ∈ eDs l, e.length = 5 := by
  intro e he
  obtain ⟨x, _, rfl⟩ := List.mem_map.1 he
  rfl
theorem eDs_app (l : List Cd) (c : Cd) : eDs l ++ [c.ds] = eDs (l ++ [c]) := by simp [eDs]
def cd0 : Cd := ⟨0, 0, vNull⟩
def mir (op : Int) : Int := if op = 9 then 11 else if op = 11 then 9 else if op = 10 then 12 else if op = 12 then 10 else op
def cmpOp (op : Int) : Bool := decide (op = 7 ∨ op = 9 ∨ op = 10 ∨ op = 11 ∨ op = 12)
def condP (op aop an : Int) (av : Vl) (bop bn : Int) (bv : Vl) : Option Cd :=
  if aop = 1 then (if bop = 2 ∧ av.k ≠ 0 ∧ vValid av = true then some ⟨mir op, bn, av⟩ else none)
  else if aop = 2 ∧ bop = 1 ∧ bv.k ≠ 0 ∧ vValid bv = true then some ⟨op, an, bv⟩ else none
def cond : Ex → Option Cd
  | .mk op _ _ _ _ [.mk aop an av _ _ _, .mk bop bn bv _ _ _] => if cmpOp op then condP op aop an av bop bn bv else none
  | _ => none
theorem cond_len {op n : Int} {v : Vl} {nm : List UInt8} {nl : Bool} {args : List Ex} (h : args.length ≠ 2) : cond (.mk op n v nm nl args) = none := by
  match args with
  | [] => rfl
  | [a] => cases a; rfl
  | [a, b] => exact absurd rfl h
  | a :: b :: c :: l => cases a; cases b; rfl
theorem cond_op {op n : Int} {v : Vl} {nm : List UInt8} {nl : Bool} {args : List Ex} (h : cmpOp op = false) : cond (.mk op n v nm nl args) = none := by
  match args with
  | [] => rfl
  | [a] => cases a; rfl
  | [.mk aop an av _ _ _, .mk bop bn bv _ _ _] => rw [cond, h]; rfl
  | a :: b :: c :: l => cases a; cases b; rfl
/-- What 'condition' returns. -/
def cdO (o : Option Cd) : AV := .tup [(o.getD cd0).av, .d (.bool o.isSome)]
theorem cond_ok {e : Ex} {c : Cd} (h : cond e = some c) : cmpOp c.op = true ∧ c.v.k ≠ 0 ∧ vValid c.v = true := by
  obtain ⟨op, n, v, nm, nl, args⟩ := e
  match args with
  | [] => cases h
  | [a] => cases a; cases h
  | a :: b :: c :: l => cases a; cases b; cases h
  | [.mk aop an av _ _ _, .mk bop bn bv _ _ _] =>
    rw [cond] at h
    cases hc : cmpOp op with
    | false => rw [hc] at h; cases h
    | true =>
      rw [hc, if_pos rfl] at h
      unfold condP at h
      have hm : cmpOp (mir op) = true := by
        unfold cmpOp at hc ⊢
        unfold mir
        have := of_decide_eq_true hc
        rcases this with rfl | rfl | rfl | rfl | rfl <;> decide
      split at h
      · split at h
        · rename_i h1; cases h; exact ⟨hm, h1.2.1, h1.2.2⟩
        · cases h
      · split at h
        · rename_i h1; cases h; exact ⟨hc, h1.2.2.1, h1.2.2.2⟩
        · cases h
theorem C.predicate_mirrored (op : Int) : Pure Try.prog N.predicate_mirrored [.d (eI op)] (.d (eI (mir op))) := by
  refine F.predicate_mirrored.go mixed rfl ?_
  obtain ⟨q, hq⟩ : ∃ q, q = mir op := ⟨_, rfl⟩
  rw [← hq]
  unfold mir at hq
  repeat' first
    | refine st ?_
    | ((with_reducible apply go_i); (conv => whnf))
    | (with_reducible apply k_d <;> intro _)
    | (with_reducible apply k_b <;> intro _)
  all_goals (simp_all)
theorem C.r12_mirrored (op : Int) : Pure Try.prog N.bt_ref12_mirrored [.d (eI op)] (.d (eI (mir op))) := by
  refine F.bt_ref12_mirrored.go mixed rfl ?_
  obtain ⟨q, hq⟩ : ∃ q, q = mir op := ⟨_, rfl⟩
  rw [← hq]
  unfold mir at hq
  repeat' first
    | refine st ?_
    | ((with_reducible apply go_i); (conv => whnf))
    | (with_reducible apply k_d <;> intro _)
    | (with_reducible apply k_b <;> intro _)
  all_goals (simp_all)
theorem C.predicate_condition (e : Ex) (he : e.bk ≤ 1048576) : Pure Try.prog N.predicate_condition [e.av] (cdO (cond e)) := by
  obtain ⟨op, n, v, nm, nl, args⟩ := e
  obtain ⟨b1, b2, b3, b4⟩ := Ex.bk_bounds he
  rw [Ex.av_mk]
  have h1 := xL_len args
  have hm := xL_mem args
  obtain ⟨da, hda⟩ : ∃ d, d = ng nl (xL args) := ⟨_, rfl⟩
  have hsd : SlD da (xL args) := by rw [hda]; exact sld_ng
  rw [← hda]
  refine F.predicate_condition.go mixed rfl ?_
  cases hc : cmpOp op with
  | false =>
    rw [cond_op hc]
    unfold cmpOp at hc
    have hc := of_decide_eq_false hc
    repeat' first
      | refine st ?_
      | ((with_reducible apply go_i); (conv => whnf))
      | (with_reducible apply k_d <;> intro _)
      | (with_reducible apply k_b <;> intro _)
    all_goals first | rfl | (exfalso; omega)
  | true =>
    by_cases h2 : args.length = 2
    rotate_left
    · rw [cond_len h2]
      unfold cmpOp at hc
      have hc := of_decide_eq_true hc
      repeat' first
        | refine st ?_
        | ((with_reducible apply go_i); (conv => whnf))
        | (with_reducible apply k_d <;> intro _)
        | (with_reducible apply k_b <;> intro _)
      all_goals first | rfl | (exfalso; omega)
    match args, h2 with
    | [a, b], _ =>
      obtain ⟨aop, an, av, am, al, aa⟩ := a
      obtain ⟨bop, bn, bv, bm, bl, ba⟩ := b
      have ba' := b4 _ (List.mem_cons_self ..)
      have bb' := b4 _ (List.mem_cons_of_mem _ (List.mem_cons_self ..))
      have ca := Ex.bk_bounds ba'
      have cb := Ex.bk_bounds bb'
      rw [cond, hc, if_pos rfl]
      unfold cmpOp at hc
      have hc := of_decide_eq_true hc
      obtain ⟨es, hes⟩ : ∃ es, es = xL [.mk aop an av am al aa, .mk bop bn bv bm bl ba] := ⟨_, rfl⟩
      have g0 : es[0]? = some (xds aop an av am (ng al (xL aa))) := by rw [hes, ← Ex.ds_mk]; rfl
      have g1 : es[1]? = some (xds bop bn bv bm (ng bl (xL ba))) := by rw [hes, ← Ex.ds_mk]; rfl
      rw [← hes] at hsd h1 hm
      obtain ⟨d1, hd1⟩ : ∃ d, d = ng al (xL aa) := ⟨_, rfl⟩
      obtain ⟨d2, hd2⟩ : ∃ d, d = ng bl (xL ba) := ⟨_, rfl⟩
      rw [← hd1] at g0
      rw [← hd2] at g1
      have h1 : es.length = 2 := h1
      have q0 : av.s = av.s := rfl
      have q1 : bv.s = bv.s := rfl
      have hM := C.predicate_mirrored op
      have hVa := C.value_Valid av (by omega)
      have hVb := C.value_Valid bv (by omega)
      obtain ⟨o, ho⟩ : ∃ o, o = condP op aop an av bop bn bv := ⟨_, rfl⟩
      rw [← ho]
      unfold condP at ho
      by_cases a1 : aop = 1
      · rw [if_pos a1] at ho
        cases hv : vValid av with
        | false =>
          rw [hv] at hVa
          rw [if_neg (by rw [hv]; simp)] at ho
          subst ho
          repeat' first
            | refine st ?_
            | ((with_reducible apply go_i); (conv => whnf))
            | ((with_reducible apply k_pn); (· first | exact hM | exact hVa))
            | ((with_reducible apply k_pc); (· first | exact hM | exact hVa))
            | (with_reducible apply k_d <;> intro _)
            | (with_reducible apply k_b <;> intro _)
          all_goals first | rfl | (exfalso; omega)
        | true =>
          rw [hv] at hVa
          by_cases z : bop = 2 ∧ av.k ≠ 0
          · obtain ⟨z1, z2⟩ := z
            rw [if_pos ⟨z1, z2, hv⟩] at ho
            subst ho
            repeat' first
              | refine st ?_
              | ((with_reducible apply go_i); (conv => whnf))
              | ((with_reducible apply k_pn); (· first | exact hM | exact hVa))
              | ((with_reducible apply k_pc); (· first | exact hM | exact hVa))
              | (with_reducible apply k_d <;> intro _)
              | (with_reducible apply k_b <;> intro _)
            all_goals first | rfl | (exfalso; omega)
          · rw [if_neg (fun h => z ⟨h.1, h.2.1⟩)] at ho
            subst ho
            repeat' first
              | refine st ?_
              | ((with_reducible apply go_i); (conv => whnf))
              | ((with_reducible apply k_pn); (· first | exact hM | exact hVa))
              | ((with_reducible apply k_pc); (· first | exact hM | exact hVa))
              | (with_reducible apply k_d <;> intro _)
              | (with_reducible apply k_b <;> intro _)
            all_goals first | rfl | (exfalso; omega) | (exfalso; simp_all; done)
      · rw [if_neg a1] at ho
        cases hv : vValid bv with
        | false =>
          rw [hv] at hVb
          rw [if_neg (by rw [hv]; simp)] at ho
          subst ho
          repeat' first
            | refine st ?_
            | ((with_reducible apply go_i); (conv => whnf))
            | ((with_reducible apply k_pn); (· first | exact hM | exact hVb))
            | ((with_reducible apply k_pc); (· first | exact hM | exact hVb))
            | (with_reducible apply k_d <;> intro _)
            | (with_reducible apply k_b <;> intro _)
          all_goals first | rfl | (exfalso; omega)
        | true =>
          rw [hv] at hVb
          by_cases z : aop = 2 ∧ bop = 1 ∧ bv.k ≠ 0
          · obtain ⟨z0, z1, z2⟩ := z
            rw [if_pos ⟨z0, z1, z2, hv⟩] at ho
            subst ho
            repeat' first
              | refine st ?_
              | ((with_reducible apply go_i); (conv => whnf))
              | ((with_reducible apply k_pn); (· first | exact hM | exact hVb))
              | ((with_reducible apply k_pc); (· first | exact hM | exact hVb))
              | (with_reducible apply k_d <;> intro _)
              | (with_reducible apply k_b <;> intro _)
            all_goals first | rfl | (exfalso; omega)
          · rw [if_neg (fun h => z ⟨h.1, h.2.1, h.2.2.1⟩)] at ho
            subst ho
            repeat' first
              | refine st ?_
              | ((with_reducible apply go_i); (conv => whnf))
              | ((with_reducible apply k_pn); (· first | exact hM | exact hVb))
              | ((with_reducible apply k_pc); (· first | exact hM | exact hVb))
              | (with_reducible apply k_d <;> intro _)
              | (with_reducible apply k_b <;> intro _)
            all_goals first | rfl | (exfalso; omega) | (exfalso; simp_all; done)
def plainX (op : Int) (v : Vl) : Bool := decide (op = 1) && (vValid v && !decide (v.k = 0))
theorem C.r12_plain (op n : Int) (v : Vl) (nm : List UInt8) (d : D) (hs : v.s.length ≤ 1048576) : Pure Try.prog N.bt_ref12_plain [eX op n v nm d] (.d (.bool (plainX op v))) := by
  refine F.bt_ref12_plain.go mixed rfl ?_
  have hV := C.r7_Valid v (by omega)
  obtain ⟨q, hq⟩ : ∃ q, q = plainX op v := ⟨_, rfl⟩
  rw [← hq]
  unfold plainX at hq
  cases hv : vValid v with
  | false =>
    rw [hv] at hV hq
    repeat' first
      | refine st ?_
      | ((with_reducible apply go_i); (conv => whnf))
      | ((with_reducible apply k_pn); (· exact hV))
      | ((with_reducible apply k_pc); (· exact hV))
      | (with_reducible apply k_d <;> intro _)
      | (with_reducible apply k_b <;> intro _)
    all_goals simp_all
  | true =>
    rw [hv] at hV hq
    repeat' first
      | refine st ?_
      | ((with_reducible apply go_i); (conv => whnf))
      | ((with_reducible apply k_pn); (· exact hV))
      | ((with_reducible apply k_pc); (· exact hV))
      | (with_reducible apply k_d <;> intro _)
      | (with_reducible apply k_b <;> intro _)
    all_goals simp_all
theorem C.r12_condition (e : Ex) (he : e.bk ≤ 1048576) : Pure Try.prog N.bt_ref12_condition [e.av] (cdO (cond e)) := by
  obtain ⟨op, n, v, nm, nl, args⟩ := e
  obtain ⟨b1, b2, b3, b4⟩ := Ex.bk_bounds he
  rw [Ex.av_mk]
  have h1 := xL_len args
  have hm := xL_mem args
  obtain ⟨da, hda⟩ : ∃ d, d = ng nl (xL args) := ⟨_, rfl⟩
  have hsd : SlD da (xL args) := by rw [hda]; exact sld_ng
  rw [← hda]
  refine F.bt_ref12_condition.go mixed rfl ?_
  cases hc : cmpOp op with
  | false =>
    rw [cond_op hc]
    unfold cmpOp at hc
    have hc := of_decide_eq_false hc
    repeat' first
      | refine st ?_
      | ((with_reducible apply go_i); (conv => whnf))
      | (with_reducible apply k_d <;> intro _)
      | (with_reducible apply k_b <;> intro _)
    all_goals first | rfl | (exfalso; omega)
  | true =>
    by_cases h2 : args.length = 2
    rotate_left
    · rw [cond_len h2]
      unfold cmpOp at hc
      have hc := of_decide_eq_true hc
      repeat' first
        | refine st ?_
        | ((with_reducible apply go_i); (conv => whnf))
        | (with_reducible apply k_d <;> intro _)
        | (with_reducible apply k_b <;> intro _)
      all_goals first | rfl | (exfalso; omega)
    match args, h2 with
    | [a, b], _ =>
      obtain ⟨aop, an, av, am, al, aa⟩ := a
      obtain ⟨bop, bn, bv, bm, bl, ba⟩ := b
      have ba' := b4 _ (List.mem_cons_self ..)
      have bb' := b4 _ (List.mem_cons_of_mem _ (List.mem_cons_self ..))
      have ca := Ex.bk_bounds ba'
      have cb := Ex.bk_bounds bb'
      rw [cond, hc, if_pos rfl]
      unfold cmpOp at hc
      have hc := of_decide_eq_true hc
      obtain ⟨es, hes⟩ : ∃ es, es = xL [.mk aop an av am al aa, .mk bop bn bv bm bl ba] := ⟨_, rfl⟩
      have g0 : es[0]? = some (xds aop an av am (ng al (xL aa))) := by rw [hes, ← Ex.ds_mk]; rfl
      have g1 : es[1]? = some (xds bop bn bv bm (ng bl (xL ba))) := by rw [hes, ← Ex.ds_mk]; rfl
      rw [← hes] at hsd h1 hm
      obtain ⟨d1, hd1⟩ : ∃ d, d = ng al (xL aa) := ⟨_, rfl⟩
      obtain ⟨d2, hd2⟩ : ∃ d, d = ng bl (xL ba) := ⟨_, rfl⟩
      rw [← hd1] at g0
      rw [← hd2] at g1
      have h1 : es.length = 2 := h1
      have q0 : av.s = av.s := rfl
      have q1 : bv.s = bv.s := rfl
      have hM := C.r12_mirrored op
      have hPa := C.r12_plain aop an av am d1 (by omega)
      have hPb := C.r12_plain bop bn bv bm d2 (by omega)
      obtain ⟨o, ho⟩ : ∃ o, o = condP op aop an av bop bn bv := ⟨_, rfl⟩
      rw [← ho]
      unfold condP at ho
      by_cases a1 : aop = 1
      · rw [if_pos a1] at ho
        have hp : plainX aop av = (vValid av && !decide (av.k = 0)) := by unfold plainX; rw [decide_eq_true a1, Bool.true_and]
        by_cases z : bop = 2 ∧ av.k ≠ 0 ∧ vValid av = true
        · rw [if_pos z] at ho
          obtain ⟨z1, z2, z3⟩ := z
          rw [hp, z3, decide_eq_false z2] at hPa
          subst ho
          repeat' first
            | refine st ?_
            | ((with_reducible apply go_i); (conv => whnf))
            | ((with_reducible apply k_pn); (· first | exact hM | exact hPa | exact hPb))
            | ((with_reducible apply k_pc); (· first | exact hM | exact hPa | exact hPb))
            | (with_reducible apply k_d <;> intro _)
            | (with_reducible apply k_b <;> intro _)
          all_goals first | rfl | (exfalso; omega)
        · rw [if_neg z] at ho
          subst ho
          by_cases z1 : bop = 2
          · have : plainX aop av = false := by
              rw [hp, Bool.eq_false_iff]
              intro h
              simp only [Bool.and_eq_true, Bool.not_eq_true', decide_eq_false_iff_not] at h
              exact z ⟨z1, h.2, h.1⟩
            rw [this] at hPa
            repeat' first
              | refine st ?_
              | ((with_reducible apply go_i); (conv => whnf))
              | ((with_reducible apply k_pn); (· first | exact hM | exact hPa | exact hPb))
              | ((with_reducible apply k_pc); (· first | exact hM | exact hPa | exact hPb))
              | (with_reducible apply k_d <;> intro _)
              | (with_reducible apply k_b <;> intro _)
            all_goals first | rfl | (exfalso; omega)
          · repeat' first
              | refine st ?_
              | ((with_reducible apply go_i); (conv => whnf))
              | ((with_reducible apply k_pn); (· first | exact hM | exact hPa | exact hPb))
              | ((with_reducible apply k_pc); (· first | exact hM | exact hPa | exact hPb))
              | (with_reducible apply k_d <;> intro _)
              | (with_reducible apply k_b <;> intro _)
            all_goals first | rfl | (exfalso; omega)
      · rw [if_neg a1] at ho
        have hpa : plainX aop av = false := by unfold plainX; rw [decide_eq_false a1, Bool.false_and]
        rw [hpa] at hPa
        by_cases z : aop = 2 ∧ bop = 1 ∧ bv.k ≠ 0 ∧ vValid bv = true
        · rw [if_pos z] at ho
          obtain ⟨z0, z1, z2, z3⟩ := z
          have : plainX bop bv = true := by unfold plainX; rw [decide_eq_true z1, z3, decide_eq_false z2]; rfl
          rw [this] at hPb
          subst ho
          repeat' first
            | refine st ?_
            | ((with_reducible apply go_i); (conv => whnf))
            | ((with_reducible apply k_pn); (· first | exact hM | exact hPa | exact hPb))
            | ((with_reducible apply k_pc); (· first | exact hM | exact hPa | exact hPb))
            | (with_reducible apply k_d <;> intro _)
            | (with_reducible apply k_b <;> intro _)
          all_goals first | rfl | (exfalso; omega)
        · rw [if_neg z] at ho
          subst ho
          by_cases z0 : aop = 2
          · have : plainX bop bv = false := by
              rw [Bool.eq_false_iff]
              intro h
              unfold plainX at h
              simp only [Bool.and_eq_true, Bool.not_eq_true', decide_eq_false_iff_not, decide_eq_true_eq] at h
              exact z ⟨z0, h.1, h.2.2, h.2.1⟩
            rw [this] at hPb
            repeat' first
              | refine st ?_
              | ((with_reducible apply go_i); (conv => whnf))
              | ((with_reducible apply k_pn); (· first | exact hM | exact hPa | exact hPb))
              | ((with_reducible apply k_pc); (· first | exact hM | exact hPa | exact hPb))
              | (with_reducible apply k_d <;> intro _)
              | (with_reducible apply k_b <;> intro _)
            all_goals first | rfl | (exfalso; omega)
          · repeat' first
              | refine st ?_
              | ((with_reducible apply go_i); (conv => whnf))
              | ((with_reducible apply k_pn); (· first | exact hM | exact hPa | exact hPb))
              | ((with_reducible apply k_pc); (· first | exact hM | exact hPa | exact hPb))
              | (with_reducible apply k_d <;> intro _)
              | (with_reducible apply k_b <;> intro _)
            all_goals first | rfl | (exfalso; omega)
end Go.Proofs
end
section
/- Conditions and conjuncts of whole predicates. No condition. -/
set_option linter.unusedSimpArgs false
set_option linter.unusedVariables false
set_option maxRecDepth 10000
set_option maxHeartbeats 4000000
namespace Go.Proofs
open Go.Bi

def okA (sz : Nat) (k : Nat) (A : List (List D)) : Prop := A.length + k ≤ 2097152 ∧ ∀ e ∈ A, e.length = sz
def addC (A : List (List D)) (x : Ex) : List (List D) := A ++ (cond x).toList.map Cd.ds
theorem addC_fold (l : List Ex) : ∀ A, l.foldl addC A = A ++ eDs (l.filterMap cond) := by
  induction l with
  | nil => intro A; simp [eDs]
  | cons x l ih =>
    intro A
    rw [List.foldl_cons, ih, List.filterMap_cons, addC, List.append_assoc]
    cases cond x <;> simp [eDs]
def conds (e : Ex) : List Cd := (cj e).filterMap cond
theorem conds_len (e : Ex) : (conds e).length ≤ e.bk := Nat.le_trans (List.length_filterMap_le _ _) (cj_len e)
theorem conds_ok {e : Ex} {c : Cd} (h : c ∈ conds e) : cmpOp c.op = true ∧ c.v.k ≠ 0 ∧ vValid c.v = true := by
  obtain ⟨x, _, hx⟩ := List.mem_filterMap.1 h
  exact cond_ok hx
theorem C.Conditions_c1 (x : Ex) (hx : x.bk ≤ 1048576) (k : Nat) (A : List (List D)) (hA : okA 5 (k + 1) A) : okA 5 k (addC A x) ∧ CallSpec Try.prog N.predicate_Conditions_c1 [x.av, .ptr 0 0] [.cells [.arr 1 A.length], .arr A 5 0 A.isEmpty] (fun r os => r = .tup [] ∧ os = [.cells [.arr 1 (addC A x).length], .arr (addC A x) 5 0 (addC A x).isEmpty]) := by
  obtain ⟨k1, k2⟩ := hA
  have hC := C.predicate_condition x hx
  unfold addC
  cases hc : cond x with
  | none =>
    rw [hc] at hC
    simp only [Option.toList_none, List.map_nil, List.append_nil]
    refine ⟨⟨by omega, k2⟩, ?_⟩
    obtain ⟨op, n, v, nm, nl, args⟩ := x
    rw [Ex.av_mk] at hC ⊢
    refine F.predicate_Conditions_c1.goX mixed rfl ?_
    repeat' first
      | refine st ?_
      | ((with_reducible apply go_i); (conv => whnf))
      | ((with_reducible apply k_pn); (· exact hC))
      | ((with_reducible apply k_pc); (· exact hC))
      | (with_reducible apply k_d <;> intro _)
      | (with_reducible apply k_b <;> intro _)
    all_goals exact ⟨rfl, rfl⟩
  | some c =>
    rw [hc] at hC
    simp only [Option.toList_some, List.map_cons, List.map_nil]
    refine ⟨⟨by simp; omega, fun e he => ?_⟩, ?_⟩
    · rcases List.mem_append.1 he with h | h
      · exact k2 e h
      · simp at h; subst h; rfl
    obtain ⟨op, n, v, nm, nl, args⟩ := x
    obtain ⟨cop, col, cv⟩ := c
    rw [Ex.av_mk] at hC ⊢
    refine F.predicate_Conditions_c1.goX mixed rfl ?_
    obtain ⟨b, hb⟩ : ∃ b, b = A.isEmpty := ⟨_, rfl⟩
    rw [← hb]
    have e1 : (A ++ [Cd.ds ⟨cop, col, cv⟩]).isEmpty = false := by simp
    rw [e1]
    repeat' first
      | refine st ?_
      | ((with_reducible apply go_i); (conv => whnf))
      | ((with_reducible apply k_pn); (· exact hC))
      | ((with_reducible apply k_pc); (· exact hC))
      | (with_reducible apply k_d <;> intro _)
      | (with_reducible apply k_b <;> intro _)
    all_goals first | exact ⟨rfl, rfl⟩ | skip
theorem C.predicate_Conditions (e : Ex) (he : e.bk ≤ 1048576) : Pure Try.prog N.predicate_Conditions [e.av] (.d (nsl (eDs (conds e)))) := by
  have hl := cj_len e
  have hE := (C.each_l N.predicate_Conditions_c1 5 addC (okA 5) C.Conditions_c1 e he 0 [] ⟨by simp; omega, by simp⟩).2
  rw [addC_fold, List.nil_append] at hE
  obtain ⟨R, hR⟩ : ∃ R, R = eDs (conds e) := ⟨_, rfl⟩
  rw [show eDs ((cj e).filterMap cond) = R from hR.symm] at hE
  rw [← hR]
  have hB : ∀ (E : List AV), (∀ c ∈ E, ∃ x, c = .d x) → CallSpec Try.prog N.predicate_each [e.av, .clo N.predicate_Conditions_c1 [1]] [.cells E, .cells [.d .nil]] (fun r os => r = .tup [] ∧ os = [.cells E, .cells [.arr 2 R.length], .arr R 5 0 R.isEmpty]) := by
    intro E hEE
    refine CallSpec.nilc 1 0 5 rfl (cs := [.d .nil]) rfl rfl ?_
    have := CallSpec.frame (K := fun r os => r = .tup [] ∧ os = [.cells E, .cells [.arr 2 R.length], .arr R 5 0 R.isEmpty]) hE [1, 2] [.cells E, .cells [.arr 2 0], .arr [] 5 0 true] rfl (by decide) (fun i o h => by
      match i, h with
      | 0, h => cases h; rfl
      | 1, h => cases h; rfl
      | i + 2, h => simp at h) (fun a ha => by
        simp only [List.mem_cons, List.not_mem_nil, or_false] at ha
        rcases ha with rfl | rfl
        · exact bnd_ds _ _
        · simp [AV.bnd2, AV.bnd1]) (fun o ho => by
        simp only [List.mem_cons, List.not_mem_nil, or_false] at ho
        rcases ho with rfl | rfl <;> simp [AO.bnd, AV.bnd1]) (by rintro r bs' ⟨rfl, rfl⟩; exact ⟨rfl, rfl⟩)
    rw [List.map_cons, List.map_cons, List.map_nil, Ex.av, mG_ds] at this
    exact this
  obtain ⟨op, n, v, nm, nl, args⟩ := e
  rw [Ex.av_mk] at hB ⊢
  refine F.predicate_Conditions.go mixed rfl ?_
  have hB' := hB ((xds op n v nm (ng nl (xL args))).map .d) (fun c hc => by
    obtain ⟨y, _, rfl⟩ := List.mem_map.1 hc
    exact ⟨y, rfl⟩)
  obtain ⟨b, hb⟩ : ∃ b, b = R.isEmpty := ⟨_, rfl⟩
  rw [← hb] at hB'
  unfold nsl
  rw [← hb]
  cases b with
  | true =>
    repeat' first
      | refine st ?_
      | ((with_reducible apply go_i); (conv => whnf))
      | ((with_reducible apply k_nc); (· first | exact hB'); (try rintro _ _ ⟨rfl, rfl⟩))
      | ((with_reducible apply k_pr); (· first | exact hB'))
      | ((with_reducible apply k_cs); (· first | exact hB'); (try rintro _ _ ⟨rfl, rfl⟩))
      | ((with_reducible apply k_cal); refine st ?_; (with_reducible apply k_chk); (· exact rfl); refine st ?_; (with_reducible apply k_cs); (· first | exact hB'); (try rintro _ _ ⟨rfl, rfl⟩))
      | (with_reducible apply k_d <;> intro _)
      | (with_reducible apply k_b <;> intro _)
    all_goals rfl
  | false =>
    repeat' first
      | refine st ?_
      | ((with_reducible apply go_i); (conv => whnf))
      | ((with_reducible apply k_nc); (· first | exact hB'); (try rintro _ _ ⟨rfl, rfl⟩))
      | ((with_reducible apply k_pr); (· first | exact hB'))
      | ((with_reducible apply k_cs); (· first | exact hB'); (try rintro _ _ ⟨rfl, rfl⟩))
      | ((with_reducible apply k_cal); refine st ?_; (with_reducible apply k_chk); (· exact rfl); refine st ?_; (with_reducible apply k_cs); (· first | exact hB'); (try rintro _ _ ⟨rfl, rfl⟩))
      | (with_reducible apply k_d <;> intro _)
      | (with_reducible apply k_b <;> intro _)
    all_goals rfl
end Go.Proofs
end
section
/- Conjuncts, conditions of the reference, equations. No condition. -/
set_option linter.unusedSimpArgs false
set_option linter.unusedVariables false
set_option maxRecDepth 10000
set_option maxHeartbeats 4000000
namespace Go.Proofs
open Go.Bi

theorem each_use {g : FuncId} {sz : Nat} (hsz : Nat.blt 0 sz = true) {R : List (List D)} {ds : List D} (hE : CallSpec Try.prog N.predicate_each [.agg (ds.map .d), .clo g [0]] [.cells [.arr 1 0], .arr [] sz 0 true] (fun r os => r = .tup [] ∧ os = [.cells [.arr 1 R.length], .arr R sz 0 R.isEmpty])) (E : List AV) (hEE : ∀ c ∈ E, ∃ x, c = .d x) :
    CallSpec Try.prog N.predicate_each [.agg (ds.map .d), .clo g [1]] [.cells E, .cells [.d .nil]] (fun r os => r = .tup [] ∧ os = [.cells E, .cells [.arr 2 R.length], .arr R sz 0 R.isEmpty]) := by
  refine CallSpec.nilc 1 0 sz hsz (cs := [.d .nil]) rfl rfl ?_
  have := CallSpec.frame (K := fun r os => r = .tup [] ∧ os = [.cells E, .cells [.arr 2 R.length], .arr R sz 0 R.isEmpty]) hE [1, 2] [.cells E, .cells [.arr 2 0], .arr [] sz 0 true] rfl (by decide) (fun i o h => by
    match i, h with
    | 0, h => cases h; rfl
    | 1, h => cases h; rfl
    | i + 2, h => simp at h) (fun a ha => by
      simp only [List.mem_cons, List.not_mem_nil, or_false] at ha
      rcases ha with rfl | rfl
      · exact bnd_ds _ _
      · simp [AV.bnd2, AV.bnd1]) (fun o ho => by
      simp only [List.mem_cons, List.not_mem_nil, or_false] at ho
      rcases ho with rfl | rfl <;> simp [AO.bnd, AV.bnd1]) (by rintro r bs' ⟨rfl, rfl⟩; exact ⟨rfl, rfl⟩)
  rw [List.map_cons, List.map_cons, List.map_nil, mG_ds] at this
  exact this
theorem each_uses {g : FuncId} {sz : Nat} (hsz : Nat.blt 0 sz = true) {R : List (List D)} {ds : List D} {z : D} (hE : CallSpec Try.prog N.predicate_each [.agg (ds.map .d), .clo g [0, 1]] [.cells [.d z], .cells [.arr 2 0], .arr [] sz 0 true] (fun r os => r = .tup [] ∧ os = [.cells [.d z], .cells [.arr 2 R.length], .arr R sz 0 R.isEmpty])) (E : List AV) (hEE : ∀ c ∈ E, ∃ x, c = .d x) :
    CallSpec Try.prog N.predicate_each [.agg (ds.map .d), .clo g [1, 2]] [.cells E, .cells [.d z], .cells [.d .nil]] (fun r os => r = .tup [] ∧ os = [.cells E, .cells [.d z], .cells [.arr 3 R.length], .arr R sz 0 R.isEmpty]) := by
  refine CallSpec.nilc 2 0 sz hsz (cs := [.d .nil]) rfl rfl ?_
  have := CallSpec.frame (K := fun r os => r = .tup [] ∧ os = [.cells E, .cells [.d z], .cells [.arr 3 R.length], .arr R sz 0 R.isEmpty]) hE [1, 2, 3] [.cells E, .cells [.d z], .cells [.arr 3 0], .arr [] sz 0 true] rfl (by decide) (fun i o h => by
    match i, h with
    | 0, h => cases h; rfl
    | 1, h => cases h; rfl
    | 2, h => cases h; rfl
    | i + 3, h => simp at h) (fun a ha => by
      simp only [List.mem_cons, List.not_mem_nil, or_false] at ha
      rcases ha with rfl | rfl
      · exact bnd_ds _ _
      · simp [AV.bnd2, AV.bnd1]) (fun o ho => by
      simp only [List.mem_cons, List.not_mem_nil, or_false] at ho
      rcases ho with rfl | rfl | rfl <;> simp [AO.bnd, AV.bnd1]) (by rintro r bs' ⟨rfl, rfl⟩; exact ⟨rfl, rfl⟩)
  rw [List.map_cons, List.map_cons, List.map_nil, mG_ds] at this
  exact this
theorem all_d (ds : List D) : ∀ c ∈ ds.map AV.d, ∃ x, c = .d x := fun c hc => by
  obtain ⟨y, _, rfl⟩ := List.mem_map.1 hc
  exact ⟨y, rfl⟩

/-! ### Conjuncts -/
def addX (A : List (List D)) (x : Ex) : List (List D) := A ++ [(shf 0 x).ds]
theorem addX_fold (l : List Ex) : ∀ A, l.foldl addX A = A ++ xL (l.map (shf 0)) := by
  induction l with
  | nil => intro A; simp [xL]
  | cons x l ih =>
    intro A
    rw [List.foldl_cons, ih, addX, List.append_assoc]
    simp [xL]
theorem shf_ds_len (k : Int) (x : Ex) : (shf k x).ds.length = 7 := by
  obtain ⟨op, n, v, nm, nl, args⟩ := x
  rw [shf_mk, Ex.ds_mk]; rfl
theorem C.Conjuncts_c1 (x : Ex) (hx : x.bk ≤ 1048576) (k : Nat) (A : List (List D)) (hA : okA 7 (k + 1) A) : okA 7 k (addX A x) ∧ CallSpec Try.prog N.predicate_Conjuncts_c1 [x.av, .ptr 0 0] [.cells [.arr 1 A.length], .arr A 7 0 A.isEmpty] (fun r os => r = .tup [] ∧ os = [.cells [.arr 1 (addX A x).length], .arr (addX A x) 7 0 (addX A x).isEmpty]) := by
  obtain ⟨k1, k2⟩ := hA
  have hC := C.expr_Shift x hx 0
  have h7 := shf_ds_len 0 x
  unfold addX
  refine ⟨⟨by simp; omega, fun e he => ?_⟩, ?_⟩
  · rcases List.mem_append.1 he with h | h
    · exact k2 e h
    · simp at h; subst h; exact h7
  obtain ⟨z, hz⟩ : ∃ z, z = shf 0 x := ⟨_, rfl⟩
  rw [← hz] at hC ⊢
  obtain ⟨op, n, v, nm, nl, args⟩ := x
  obtain ⟨o2, n2, v2, m2, l2, a2⟩ := z
  rw [Ex.av_mk, Ex.av_mk] at hC
  rw [Ex.av_mk, Ex.ds_mk]
  have e1 : (A ++ [xds o2 n2 v2 m2 (ng l2 (xL a2))]).isEmpty = false := by simp
  rw [e1]
  obtain ⟨b, hb⟩ : ∃ b, b = A.isEmpty := ⟨_, rfl⟩
  rw [← hb]
  have g1 : 0 ≤ (A.length : Int) ∧ (A.length : Int) < ((A ++ [[eI 0, eI 0, eI 0, eI 0, .str [], .str [], .nil]]).length : Nat) := by simp; omega
  have g2 : (A ++ [[eI 0, eI 0, eI 0, eI 0, .str [], .str [], .nil]])[(A.length : Int).toNat]? = some [eI 0, eI 0, eI 0, eI 0, .str [], .str [], .nil] := by simp
  have g3 : (A ++ [[eI 0, eI 0, eI 0, eI 0, .str [], .str [], .nil]]).set (A.length : Int).toNat (xds o2 n2 v2 m2 (ng l2 (xL a2))) = A ++ [xds o2 n2 v2 m2 (ng l2 (xL a2))] := by simp
  refine F.predicate_Conjuncts_c1.goX mixed rfl ?_
  repeat' first
    | refine st ?_
    | ((with_reducible apply go_i); (conv => whnf))
    | ((with_reducible apply k_pn); (· exact hC))
    | ((with_reducible apply k_pc); (· exact hC))
    | (with_reducible apply k_d <;> intro _)
    | (with_reducible apply k_b <;> intro _)
  all_goals exact ⟨rfl, by simp⟩
theorem C.predicate_Conjuncts (e : Ex) (he : e.bk ≤ 1048576) : Pure Try.prog N.predicate_Conjuncts [e.av] (.d (nsl (xL ((cj e).map (shf 0))))) := by
  have hl := cj_len e
  have hE := (C.each_l N.predicate_Conjuncts_c1 7 addX (okA 7) C.Conjuncts_c1 e he 0 [] ⟨by simp; omega, by simp⟩).2
  rw [addX_fold, List.nil_append] at hE
  obtain ⟨R, hR⟩ : ∃ R, R = xL ((cj e).map (shf 0)) := ⟨_, rfl⟩
  rw [← hR] at hE ⊢
  obtain ⟨op, n, v, nm, nl, args⟩ := e
  have hB := each_use rfl hE ((xds op n v nm (ng nl (xL args))).map .d) (all_d _)
  rw [Ex.ds_mk] at hB
  rw [Ex.av_mk]
  refine F.predicate_Conjuncts.go mixed rfl ?_
  obtain ⟨b, hb⟩ : ∃ b, b = R.isEmpty := ⟨_, rfl⟩
  rw [← hb] at hB
  unfold nsl
  rw [← hb]
  cases b with
  | true =>
    repeat' first
      | refine st ?_
      | ((with_reducible apply go_i); (conv => whnf))
      | ((with_reducible apply k_nc); (· first | exact hB); (try rintro _ _ ⟨rfl, rfl⟩))
      | ((with_reducible apply k_pr); (· first | exact hB))
      | ((with_reducible apply k_cs); (· first | exact hB); (try rintro _ _ ⟨rfl, rfl⟩))
      | ((with_reducible apply k_cal); refine st ?_; (with_reducible apply k_chk); (· exact rfl); refine st ?_; (with_reducible apply k_cs); (· first | exact hB); (try rintro _ _ ⟨rfl, rfl⟩))
      | (with_reducible apply k_d <;> intro _)
      | (with_reducible apply k_b <;> intro _)
    all_goals rfl
  | false =>
    repeat' first
      | refine st ?_
      | ((with_reducible apply go_i); (conv => whnf))
      | ((with_reducible apply k_nc); (· first | exact hB); (try rintro _ _ ⟨rfl, rfl⟩))
      | ((with_reducible apply k_pr); (· first | exact hB))
      | ((with_reducible apply k_cs); (· first | exact hB); (try rintro _ _ ⟨rfl, rfl⟩))
      | ((with_reducible apply k_cal); refine st ?_; (with_reducible apply k_chk); (· exact rfl); refine st ?_; (with_reducible apply k_cs); (· first | exact hB); (try rintro _ _ ⟨rfl, rfl⟩))
      | (with_reducible apply k_d <;> intro _)
      | (with_reducible apply k_b <;> intro _)
    all_goals rfl
theorem fmd_and {n : Int} {v : Vl} {nm : List UInt8} {k : Nat} : fmd 5 n v nm k = isAnd 5 n v nm k := by
  have hc : (cnt 5 (k : Int)).1 = decide (2 ≤ k) := by
    unfold cnt
    simp
    omega
  unfold fmd isAnd
  rw [hc, Bool.eq_iff_iff]
  simp
  constructor
  · rintro ⟨⟨h1, h2⟩, h3, h4⟩; exact ⟨h1, h3, h2, h4⟩
  · rintro ⟨h1, h3, h2, h4⟩; exact ⟨⟨h1, h2⟩, h3, h4⟩
theorem C.r12_Conjuncts : ∀ e : Ex, e.bk ≤ 1048576 → Pure Try.prog N.bt_ref12_Conjuncts [e.av] (.d (.sl (xL (cj e)))) := by
  refine Ex.ind fun op n v nm nl args ih hb => ?_
  obtain ⟨b1, b2, b3, b4⟩ := Ex.bk_bounds hb
  have h1 := xL_len args
  have hm := xL_mem args
  have hF := C.r11_Formed op n v nm (ng nl (xL args)) (xL args) sld_ng b2 (by omega)
  rw [h1] at hF
  rw [cj_mk, Ex.av_mk]
  obtain ⟨da, hda⟩ : ∃ d, d = ng nl (xL args) := ⟨_, rfl⟩
  have hsd : SlD da (xL args) := by rw [hda]; exact sld_ng
  rw [← hda] at hF ⊢
  have r1 : v.s = v.s := rfl
  have r2 : nm = nm := rfl
  by_cases h5 : op = 5
  rotate_left
  · have : isAnd op n v nm args.length = false := by unfold isAnd; rw [decide_eq_false (fun h => h5 h.1)]
    rw [this, if_neg (by simp)]
    refine F.bt_ref12_Conjuncts.go mixed rfl ?_
    rw [show xL [Ex.mk op n v nm nl args] = [xds op n v nm da] by rw [xL, List.map_cons, List.map_nil, Ex.ds_mk, hda]]
    repeat' first
      | refine st ?_
      | ((with_reducible apply go_i); (conv => whnf))
      | (with_reducible apply k_d <;> intro _)
      | (with_reducible apply k_b <;> intro _)
    all_goals rfl
  subst h5
  rw [fmd_and] at hF
  cases hA : isAnd 5 n v nm args.length with
  | false =>
    rw [hA] at hF
    rw [if_neg (by simp)]
    refine F.bt_ref12_Conjuncts.go mixed rfl ?_
    rw [show xL [Ex.mk 5 n v nm nl args] = [xds 5 n v nm da] by rw [xL, List.map_cons, List.map_nil, Ex.ds_mk, hda]]
    repeat' first
      | refine st ?_
      | ((with_reducible apply go_i); (conv => whnf))
      | ((with_reducible apply k_pn); (· exact hF))
      | ((with_reducible apply k_pc); (· exact hF))
      | (with_reducible apply k_d <;> intro _)
      | (with_reducible apply k_b <;> intro _)
    all_goals rfl
  | true =>
    rw [hA] at hF
    rw [if_pos rfl]
    refine F.bt_ref12_Conjuncts.go mixed rfl ?_
    obtain ⟨R, hR⟩ : ∃ R, R = xL (args.flatMap cj) := ⟨_, rfl⟩
    rw [← hR]
    have hbl := Ex.bk_mk 5 n v nm nl args
    repeat' first
      | refine st ?_
      | ((with_reducible apply go_i); (conv => whnf))
      | ((with_reducible apply k_pn); (· exact hF))
      | ((with_reducible apply k_pc); (· exact hF))
      | (with_reducible apply k_d <;> intro _)
      | (with_reducible apply k_b <;> intro _)
    refine x_loop2 mixed Lt.bt_ref12_Conjuncts_l0 Lk.bt_ref12_Conjuncts_l0 (fun (i : Nat) (A : List (List D)) => [.arr 1 A.length, .d (eI i)]) (fun i A => [.cells [.d (eI 5), .d (eI n), .d (eI v.k), .d (eI v.n), .d (.str v.s), .d (.str nm), .d da], .arr A 7 0 false]) (fun i A => i ≤ args.length ∧ A = xL ((args.take i).flatMap cj)) (fun i _ => args.length - i) 0 [] rfl rfl rfl rfl (fun _ _ _ => ⟨rfl, rfl⟩) rfl ⟨by omega, rfl⟩ ?_
    repeat' first
      | refine st ?_
      | ((with_reducible apply go_i); (conv => whnf))
      | (with_reducible apply k_d <;> intro _)
      | (with_reducible apply k_b <;> intro _)
    intro i A ⟨h4, h5⟩
    have hAl : A.length ≤ 1048576 := by
      rw [h5, xL_len]
      have := cjt_len args i
      omega
    have hAm : ∀ e ∈ A, e.length = 7 := by rw [h5]; exact xL_mem _
    cases hx : args[i]? with
    | some x =>
      have hlt := (List.getElem?_eq_some_iff.1 hx).1
      have hg := xL_get hx
      have hi := ih x (List.mem_of_getElem? hx) (b4 x (List.mem_of_getElem? hx))
      have hcl := cj_len x
      have hbx := b4 x (List.mem_of_getElem? hx)
      have hs : A ++ xL (cj x) = xL ((args.take (i + 1)).flatMap cj) := by rw [cjt_succ hx, h5]; simp [xL]
      obtain ⟨B, hB⟩ : ∃ B, B = xL (cj x) := ⟨_, rfl⟩
      have hBl : B.length ≤ 1048576 := by rw [hB, xL_len]; omega
      have hBm : ∀ e ∈ B, e.length = 7 := by rw [hB]; exact xL_mem _
      rw [← hB] at hi hs
      obtain ⟨o1, n1, v1, m1, l1, a1⟩ := x
      rw [Ex.ds_mk] at hg
      rw [Ex.av_mk] at hi
      repeat' first
        | refine st ?_
        | ((with_reducible apply go_i); (conv => whnf))
        | ((with_reducible apply k_pn); (· exact hi))
        | ((with_reducible apply k_pc); (· exact hi))
        | (with_reducible apply k_d <;> intro _)
        | (with_reducible apply k_b <;> intro _)
      exact ⟨i + 1, A ++ B, rfl, rfl, by cases B <;> rfl, by omega, by omega, hs⟩
    | none =>
      have hge := List.getElem?_eq_none_iff.1 hx
      rw [List.take_of_length_le hge, ← hR] at h5
      rw [← h5]
      repeat' first
        | refine st ?_
        | ((with_reducible apply go_i); (conv => whnf))
        | (with_reducible apply k_d <;> intro _)
        | (with_reducible apply k_b <;> intro _)
      all_goals rfl
theorem condt_succ {l : List Ex} {i : Nat} {x : Ex} (h : l[i]? = some x) : (l.take (i + 1)).filterMap cond = (l.take i).filterMap cond ++ (cond x).toList := by
  rw [List.take_add_one, h, List.filterMap_append]
  congr 1
theorem C.r12_Conditions (e : Ex) (he : e.bk ≤ 1048576) : Pure Try.prog N.bt_ref12_Conditions [e.av] (.d (.sl (eDs (conds e)))) := by
  have hJ := C.r12_Conjuncts e he
  have hjl := cj_len e
  have hjb := cj_bk e
  unfold conds
  obtain ⟨J, hJe⟩ : ∃ J, J = cj e := ⟨_, rfl⟩
  rw [← hJe] at hJ hjl hjb ⊢
  obtain ⟨R, hR⟩ : ∃ R, R = eDs (J.filterMap cond) := ⟨_, rfl⟩
  rw [← hR]
  have h1 := xL_len J
  have hm := xL_mem J
  obtain ⟨op, n, v, nm, nl, args⟩ := e
  rw [Ex.av_mk] at hJ ⊢
  obtain ⟨da, hda⟩ : ∃ d, d = ng nl (xL args) := ⟨_, rfl⟩
  rw [← hda] at hJ ⊢
  refine F.bt_ref12_Conditions.go mixed rfl ?_
  repeat' first
    | refine st ?_
    | ((with_reducible apply go_i); (conv => whnf))
    | ((with_reducible apply k_pn); (· exact hJ))
    | ((with_reducible apply k_pc); (· exact hJ))
    | (with_reducible apply k_d <;> intro _)
    | (with_reducible apply k_b <;> intro _)
  refine x_loop2 mixed Lt.bt_ref12_Conditions_l0 Lk.bt_ref12_Conditions_l0 (fun (i : Nat) (A : List (List D)) => [.arr 1 A.length, .d (eI i)]) (fun i A => [.cells [.d (eI op), .d (eI n), .d (eI v.k), .d (eI v.n), .d (.str v.s), .d (.str nm), .d da], .arr A 5 0 false]) (fun i A => i ≤ J.length ∧ A = eDs ((J.take i).filterMap cond)) (fun i _ => J.length - i) 0 [] rfl rfl rfl rfl (fun _ _ _ => ⟨rfl, rfl⟩) rfl ⟨by omega, rfl⟩ ?_
  repeat' first
    | refine st ?_
    | ((with_reducible apply go_i); (conv => whnf))
    | (with_reducible apply k_d <;> intro _)
    | (with_reducible apply k_b <;> intro _)
  intro i A ⟨h4, h5⟩
  have hAl : A.length ≤ 1048576 := by
    rw [h5, eDs_len]
    have := List.length_filterMap_le cond (J.take i)
    rw [List.length_take] at this
    omega
  have hAm : ∀ e ∈ A, e.length = 5 := by rw [h5]; exact eDs_mem _
  cases hx : J[i]? with
  | some x =>
    have hlt := (List.getElem?_eq_some_iff.1 hx).1
    have hg := xL_get hx
    have hC := C.r12_condition x (by have := hjb x (List.mem_of_getElem? hx); omega)
    have hs := condt_succ hx
    obtain ⟨o1, n1, v1, m1, l1, a1⟩ := x
    rw [Ex.ds_mk] at hg
    rw [Ex.av_mk] at hC
    cases hc : cond (.mk o1 n1 v1 m1 l1 a1) with
    | none =>
      rw [hc, Option.toList_none, List.append_nil] at hs
      rw [hc] at hC
      repeat' first
        | refine st ?_
        | ((with_reducible apply go_i); (conv => whnf))
        | ((with_reducible apply k_pn); (· exact hC))
        | ((with_reducible apply k_pc); (· exact hC))
        | (with_reducible apply k_d <;> intro _)
        | (with_reducible apply k_b <;> intro _)
      exact ⟨i + 1, A, rfl, rfl, rfl, by omega, by omega, by rw [hs]; exact h5⟩
    | some c =>
      rw [hc, Option.toList_some] at hs
      rw [hc] at hC
      repeat' first
        | refine st ?_
        | ((with_reducible apply go_i); (conv => whnf))
        | ((with_reducible apply k_pn); (· exact hC))
        | ((with_reducible apply k_pc); (· exact hC))
        | (with_reducible apply k_d <;> intro _)
        | (with_reducible apply k_b <;> intro _)
      exact ⟨i + 1, A ++ [c.ds], rfl, rfl, rfl, by omega, by omega, by rw [hs, ← eDs_app, h5]⟩
  | none =>
    have hge := List.getElem?_eq_none_iff.1 hx
    rw [List.take_of_length_le hge, ← hR] at h5
    rw [← h5]
    repeat' first
      | refine st ?_
      | ((with_reducible apply go_i); (conv => whnf))
      | (with_reducible apply k_d <;> intro _)
      | (with_reducible apply k_b <;> intro _)
    all_goals rfl
end Go.Proofs
end
section
/- Equations, the program's and the reference's. No condition. -/
set_option linter.unusedSimpArgs false
set_option linter.unusedVariables false
set_option maxRecDepth 10000
set_option maxHeartbeats 4000000
namespace Go.Proofs
open Go.Bi

def pds (p : Int × Int) : List D := [eI p.1, eI p.2]
def pDs (l : List (Int × Int)) : List (List D) := l.map pds
theorem pDs_len (l : List (Int × Int)) : (pDs l).length = l.length := by simp [pDs]
theorem pDs_get {l : List (Int × Int)} {i : Nat} {p : Int × Int} (h : l[i]? = some p) : (pDs l)[i]? = some [eI p.1, eI p.2] := by simp [pDs, h, pds]
theorem pDs_mem (l : List (Int × Int)) : ∀ e ∈ pDs l, e.length = 2 := by
  intro e he
  obtain ⟨x, _, rfl⟩ := List.mem_map.1 he
  rfl
def eqP (s op aop an bop bn : Int) : Option (Int × Int) :=
  if op = 7 ∧ aop = 2 ∧ bop = 2 ∧ min an bn < s ∧ s ≤ max an bn then some (min an bn, max an bn) else none
def eqn (s : Int) : Ex → Option (Int × Int)
  | .mk op _ _ _ _ [.mk aop an _ _ _ _, .mk bop bn _ _ _ _] => eqP s op aop an bop bn
  | _ => none
theorem eqn_len {s op n : Int} {v : Vl} {nm : List UInt8} {nl : Bool} {args : List Ex} (h : args.length ≠ 2) : eqn s (.mk op n v nm nl args) = none := by
  match args with
  | [] => rfl
  | [a] => cases a; rfl
  | [a, b] => exact absurd rfl h
  | a :: b :: c :: l => cases a; cases b; rfl
def addP (s : Int) (A : List (List D)) (x : Ex) : List (List D) := A ++ (eqn s x).toList.map pds
def eqs (s : Int) (e : Ex) : List (Int × Int) := (cj e).filterMap (eqn s)
theorem addP_fold (s : Int) (l : List Ex) : ∀ A, l.foldl (addP s) A = A ++ pDs (l.filterMap (eqn s)) := by
  induction l with
  | nil => intro A; simp [pDs]
  | cons x l ih =>
    intro A
    rw [List.foldl_cons, ih, List.filterMap_cons, addP, List.append_assoc]
    cases eqn s x <;> simp [pDs]
theorem eqs_len (s : Int) (e : Ex) : (eqs s e).length ≤ e.bk := Nat.le_trans (List.length_filterMap_le _ _) (cj_len e)
theorem C.Equations_c1 (s : Int) (x : Ex) (hx : x.bk ≤ 1048576) (k : Nat) (A : List (List D)) (hA : okA 2 (k + 1) A) : okA 2 k (addP s A x) ∧ CallSpec Try.prog N.predicate_Equations_c1 [x.av, .ptr 0 0, .ptr 1 0] [.cells [.d (eI s)], .cells [.arr 2 A.length], .arr A 2 0 A.isEmpty] (fun r os => r = .tup [] ∧ os = [.cells [.d (eI s)], .cells [.arr 2 (addP s A x).length], .arr (addP s A x) 2 0 (addP s A x).isEmpty]) := by
  obtain ⟨k1, k2⟩ := hA
  refine ⟨?_, ?_⟩
  · unfold addP
    cases eqn s x with
    | none => simp; exact ⟨by omega, k2⟩
    | some p =>
      refine ⟨by simp; omega, fun e he => ?_⟩
      rcases List.mem_append.1 he with h | h
      · exact k2 e h
      · simp at h; subst h; rfl
  obtain ⟨B, hB⟩ : ∃ B, B = addP s A x := ⟨_, rfl⟩
  rw [← hB]
  unfold addP at hB
  obtain ⟨op, n, v, nm, nl, args⟩ := x
  obtain ⟨b1, b2, b3, b4⟩ := Ex.bk_bounds hx
  rw [Ex.av_mk]
  have h1 := xL_len args
  have hm := xL_mem args
  obtain ⟨da, hda⟩ : ∃ d, d = ng nl (xL args) := ⟨_, rfl⟩
  have hsd : SlD da (xL args) := by rw [hda]; exact sld_ng
  rw [← hda]
  by_cases h2 : args.length = 2
  rotate_left
  · rw [eqn_len h2] at hB
    simp only [Option.toList_none, List.map_nil, List.append_nil] at hB
    rw [hB]
    refine F.predicate_Equations_c1.goX mixed rfl ?_
    obtain ⟨b, hb⟩ : ∃ b, b = A.isEmpty := ⟨_, rfl⟩
    rw [← hb]
    repeat' first
      | refine st ?_
      | ((with_reducible apply go_i); (conv => whnf))
      | (with_reducible apply k_d <;> intro _)
      | (with_reducible apply k_b <;> intro _)
    all_goals first | exact ⟨rfl, rfl⟩ | (exfalso; omega)
  match args, h2 with
  | [a, b], _ =>
    obtain ⟨aop, an, av, am, al, aa⟩ := a
    obtain ⟨bop, bn, bv, bm, bl, ba⟩ := b
    rw [show eqn s (.mk op n v nm nl [.mk aop an av am al aa, .mk bop bn bv bm bl ba]) = eqP s op aop an bop bn from rfl] at hB
    obtain ⟨es, hes⟩ : ∃ es, es = xL [.mk aop an av am al aa, .mk bop bn bv bm bl ba] := ⟨_, rfl⟩
    have g0 : es[0]? = some (xds aop an av am (ng al (xL aa))) := by rw [hes, ← Ex.ds_mk]; rfl
    have g1 : es[1]? = some (xds bop bn bv bm (ng bl (xL ba))) := by rw [hes, ← Ex.ds_mk]; rfl
    rw [← hes] at hsd h1 hm
    obtain ⟨d1, hd1⟩ : ∃ d, d = ng al (xL aa) := ⟨_, rfl⟩
    obtain ⟨d2, hd2⟩ : ∃ d, d = ng bl (xL ba) := ⟨_, rfl⟩
    rw [← hd1] at g0
    rw [← hd2] at g1
    have h1 : es.length = 2 := h1
    unfold eqP at hB
    obtain ⟨b, hb⟩ : ∃ b, b = A.isEmpty := ⟨_, rfl⟩
    rw [← hb]
    by_cases z : op = 7 ∧ aop = 2 ∧ bop = 2 ∧ min an bn < s ∧ s ≤ max an bn
    · rw [if_pos z] at hB
      obtain ⟨z1, z2, z3, z4, z5⟩ := z
      simp only [Option.toList_some, List.map_cons, List.map_nil, pds] at hB
      subst hB
      have e1 : (A ++ [[eI (min an bn), eI (max an bn)]]).isEmpty = false := by simp
      rw [e1]
      refine F.predicate_Equations_c1.goX mixed rfl ?_
      repeat' first
        | refine st ?_
        | ((with_reducible apply go_i); (conv => whnf))
        | (with_reducible apply k_d <;> intro _)
        | (with_reducible apply k_b <;> intro _)
      all_goals first | exact ⟨rfl, rfl⟩ | (exfalso; omega)
    · rw [if_neg z] at hB
      simp only [Option.toList_none, List.map_nil, List.append_nil] at hB
      rw [hB, ← hb]
      refine F.predicate_Equations_c1.goX mixed rfl ?_
      repeat' first
        | refine st ?_
        | ((with_reducible apply go_i); (conv => whnf))
        | (with_reducible apply k_d <;> intro _)
        | (with_reducible apply k_b <;> intro _)
      all_goals first | exact ⟨rfl, rfl⟩ | (exfalso; omega)
theorem C.predicate_Equations (e : Ex) (he : e.bk ≤ 1048576) (s : Int) : Pure Try.prog N.predicate_Equations [e.av, .d (eI s)] (.d (nsl (pDs (eqs s e)))) := by
  have hl := cj_len e
  have hE := (C.each_s N.predicate_Equations_c1 2 (eI s) (addP s) (okA 2) (C.Equations_c1 s) e he 0 [] ⟨by simp; omega, by simp⟩).2
  rw [addP_fold, List.nil_append] at hE
  obtain ⟨R, hR⟩ : ∃ R, R = pDs (eqs s e) := ⟨_, rfl⟩
  rw [show pDs ((cj e).filterMap (eqn s)) = R from hR.symm] at hE
  rw [← hR]
  obtain ⟨op, n, v, nm, nl, args⟩ := e
  have hB := each_uses rfl hE ((xds op n v nm (ng nl (xL args))).map .d) (all_d _)
  rw [Ex.ds_mk] at hB
  rw [Ex.av_mk]
  refine F.predicate_Equations.go mixed rfl ?_
  obtain ⟨b, hb⟩ : ∃ b, b = R.isEmpty := ⟨_, rfl⟩
  rw [← hb] at hB
  unfold nsl
  rw [← hb]
  cases b with
  | true =>
    repeat' first
      | refine st ?_
      | ((with_reducible apply go_i); (conv => whnf))
      | ((with_reducible apply k_nc); (· first | exact hB); (try rintro _ _ ⟨rfl, rfl⟩))
      | ((with_reducible apply k_pr); (· first | exact hB))
      | ((with_reducible apply k_cs); (· first | exact hB); (try rintro _ _ ⟨rfl, rfl⟩))
      | ((with_reducible apply k_cal); refine st ?_; (with_reducible apply k_chk); (· exact rfl); refine st ?_; (with_reducible apply k_cs); (· first | exact hB); (try rintro _ _ ⟨rfl, rfl⟩))
      | (with_reducible apply k_d <;> intro _)
      | (with_reducible apply k_b <;> intro _)
    all_goals rfl
  | false =>
    repeat' first
      | refine st ?_
      | ((with_reducible apply go_i); (conv => whnf))
      | ((with_reducible apply k_nc); (· first | exact hB); (try rintro _ _ ⟨rfl, rfl⟩))
      | ((with_reducible apply k_pr); (· first | exact hB))
      | ((with_reducible apply k_cs); (· first | exact hB); (try rintro _ _ ⟨rfl, rfl⟩))
      | ((with_reducible apply k_cal); refine st ?_; (with_reducible apply k_chk); (· exact rfl); refine st ?_; (with_reducible apply k_cs); (· first | exact hB); (try rintro _ _ ⟨rfl, rfl⟩))
      | (with_reducible apply k_d <;> intro _)
      | (with_reducible apply k_b <;> intro _)
    all_goals rfl
theorem eqt_succ {s : Int} {l : List Ex} {i : Nat} {x : Ex} (h : l[i]? = some x) : (l.take (i + 1)).filterMap (eqn s) = (l.take i).filterMap (eqn s) ++ (eqn s x).toList := by
  rw [List.take_add_one, h, List.filterMap_append]
  congr 1
theorem C.r12_Equations (e : Ex) (he : e.bk ≤ 1048576) (s : Int) : Pure Try.prog N.bt_ref12_Equations [e.av, .d (eI s)] (.d (.sl (pDs (eqs s e)))) := by
  have hJ := C.r12_Conjuncts e he
  have hjl := cj_len e
  have hjb := cj_bk e
  unfold eqs
  obtain ⟨J, hJe⟩ : ∃ J, J = cj e := ⟨_, rfl⟩
  rw [← hJe] at hJ hjl hjb ⊢
  obtain ⟨R, hR⟩ : ∃ R, R = pDs (J.filterMap (eqn s)) := ⟨_, rfl⟩
  rw [← hR]
  have h1 := xL_len J
  have hm := xL_mem J
  obtain ⟨op, n, v, nm, nl, args⟩ := e
  rw [Ex.av_mk] at hJ ⊢
  obtain ⟨da, hda⟩ : ∃ d, d = ng nl (xL args) := ⟨_, rfl⟩
  rw [← hda] at hJ ⊢
  refine F.bt_ref12_Equations.go mixed rfl ?_
  repeat' first
    | refine st ?_
    | ((with_reducible apply go_i); (conv => whnf))
    | ((with_reducible apply k_pn); (· exact hJ))
    | ((with_reducible apply k_pc); (· exact hJ))
    | (with_reducible apply k_d <;> intro _)
    | (with_reducible apply k_b <;> intro _)
  refine x_loop2 mixed Lt.bt_ref12_Equations_l0 Lk.bt_ref12_Equations_l0 (fun (i : Nat) (A : List (List D)) => [.arr 1 A.length, .d (eI i)]) (fun i A => [.cells [.d (eI op), .d (eI n), .d (eI v.k), .d (eI v.n), .d (.str v.s), .d (.str nm), .d da], .arr A 2 0 false]) (fun i A => i ≤ J.length ∧ A = pDs ((J.take i).filterMap (eqn s))) (fun i _ => J.length - i) 0 [] rfl rfl rfl rfl (fun _ _ _ => ⟨rfl, rfl⟩) rfl ⟨by omega, rfl⟩ ?_
  repeat' first
    | refine st ?_
    | ((with_reducible apply go_i); (conv => whnf))
    | (with_reducible apply k_d <;> intro _)
    | (with_reducible apply k_b <;> intro _)
  intro i A ⟨h4, h5⟩
  have hAl : A.length ≤ 1048576 := by
    rw [h5, pDs_len]
    have := List.length_filterMap_le (eqn s) (J.take i)
    rw [List.length_take] at this
    omega
  have hAm : ∀ e ∈ A, e.length = 2 := by rw [h5]; exact pDs_mem _
  cases hx : J[i]? with
  | some x =>
    have hlt := (List.getElem?_eq_some_iff.1 hx).1
    have hg := xL_get hx
    have hs := eqt_succ (s := s) hx
    obtain ⟨o1, n1, v1, m1, l1, a1⟩ := x
    rw [Ex.ds_mk] at hg
    have k1 := xL_len a1
    have km := xL_mem a1
    obtain ⟨d0, hd0⟩ : ∃ d, d = ng l1 (xL a1) := ⟨_, rfl⟩
    have ksd : SlD d0 (xL a1) := by rw [hd0]; exact sld_ng
    rw [← hd0] at hg
    obtain ⟨c1, c2, c3, c4⟩ := Ex.bk_bounds (show (Ex.mk o1 n1 v1 m1 l1 a1).bk ≤ 1048576 by have := hjb _ (List.mem_of_getElem? hx); omega)
    by_cases h2 : a1.length = 2
    rotate_left
    · rw [eqn_len h2, Option.toList_none, List.append_nil] at hs
      repeat' first
        | refine st ?_
        | ((with_reducible apply go_i); (conv => whnf))
        | (with_reducible apply k_d <;> intro _)
        | (with_reducible apply k_b <;> intro _)
      all_goals first | (refine ⟨i + 1, A, rfl, rfl, rfl, ?_, ?_, ?_⟩ <;> first | omega | (rw [hs]; exact h5)) | (exfalso; omega)
    match a1, h2 with
    | [a, b], _ =>
      obtain ⟨aop, an, av, am, al, aa⟩ := a
      obtain ⟨bop, bn, bv, bm, bl, ba⟩ := b
      rw [show eqn s (.mk o1 n1 v1 m1 l1 [.mk aop an av am al aa, .mk bop bn bv bm bl ba]) = eqP s o1 aop an bop bn from rfl] at hs
      obtain ⟨es, hes⟩ : ∃ es, es = xL [.mk aop an av am al aa, .mk bop bn bv bm bl ba] := ⟨_, rfl⟩
      have g0 : es[0]? = some (xds aop an av am (ng al (xL aa))) := by rw [hes, ← Ex.ds_mk]; rfl
      have g1 : es[1]? = some (xds bop bn bv bm (ng bl (xL ba))) := by rw [hes, ← Ex.ds_mk]; rfl
      rw [← hes] at ksd k1 km
      obtain ⟨d1, hd1⟩ : ∃ d, d = ng al (xL aa) := ⟨_, rfl⟩
      obtain ⟨d2, hd2⟩ : ∃ d, d = ng bl (xL ba) := ⟨_, rfl⟩
      rw [← hd1] at g0
      rw [← hd2] at g1
      have k1 : es.length = 2 := k1
      unfold eqP at hs
      by_cases z : o1 = 7 ∧ aop = 2 ∧ bop = 2 ∧ min an bn < s ∧ s ≤ max an bn
      · rw [if_pos z, Option.toList_some] at hs
        obtain ⟨z1, z2, z3, z4, z5⟩ := z
        have hs' : A ++ [[eI (min an bn), eI (max an bn)]] = pDs ((J.take (i + 1)).filterMap (eqn s)) := by rw [hs, h5]; simp [pDs, pds]
        repeat' first
          | refine st ?_
          | ((with_reducible apply go_i); (conv => whnf))
          | (with_reducible apply k_d <;> intro _)
          | (with_reducible apply k_b <;> intro _)
        all_goals first | (refine ⟨i + 1, A ++ [[eI (min an bn), eI (max an bn)]], rfl, rfl, rfl, ?_, ?_, ?_⟩ <;> first | omega | exact hs') | (exfalso; omega)
      · rw [if_neg z, Option.toList_none, List.append_nil] at hs
        repeat' first
          | refine st ?_
          | ((with_reducible apply go_i); (conv => whnf))
          | (with_reducible apply k_d <;> intro _)
          | (with_reducible apply k_b <;> intro _)
        all_goals first | (refine ⟨i + 1, A, rfl, rfl, rfl, ?_, ?_, ?_⟩ <;> first | omega | (rw [hs]; exact h5)) | (exfalso; omega)
  | none =>
    have hge := List.getElem?_eq_none_iff.1 hx
    rw [List.take_of_length_le hge, ← hR] at h5
    rw [← h5]
    repeat' first
      | refine st ?_
      | ((with_reducible apply go_i); (conv => whnf))
      | (with_reducible apply k_d <;> intro _)
      | (with_reducible apply k_b <;> intro _)
    all_goals rfl
end Go.Proofs
end
section
/- What the laws are handed: values, rows, numbers, and their bulk. No condition. -/
set_option linter.unusedSimpArgs false
set_option linter.unusedVariables false
set_option maxRecDepth 10000
set_option maxHeartbeats 4000000
namespace Go.Proofs
open Go.Bi

abbrev T.int : TypeId := 3
abbrev T.bool : TypeId := 4
abbrev T.str : TypeId := 9
abbrev T.val : TypeId := 23
abbrev T.ints : TypeId := 27
abbrev T.vals : TypeId := 33
theorem cells_int : Try.prog.cellsOf T.int = 1 := by kernel_rfl
theorem cells_str : Try.prog.cellsOf T.str = 1 := by kernel_rfl
theorem cells_val : Try.prog.cellsOf T.val = 3 := by kernel_rfl
theorem cells_bool : Try.prog.cellsOf T.bool = 1 := by kernel_rfl
theorem wt_bool {ds : List D} (h : WT Try.prog T.bool ds) : ∃ b, ds = [.bool b] := h.bool' Try.underlying4
theorem wt_int {ds : List D} (h : WT Try.prog T.int ds) : ∃ n, ds = [eI n] := by
  obtain ⟨a, ha, _, _⟩ := h.int' Try.underlying3
  exact ⟨a, ha⟩
theorem wt_str {ds : List D} (h : WT Try.prog T.str ds) : ∃ s, ds = [.str s] := by
  obtain ⟨a, ha, _⟩ := h.str' Try.underlying9
  exact ⟨a, ha⟩
theorem wt_val {ds : List D} (h : WT Try.prog T.val ds) : ∃ v : Vl, ds = v.ds := by
  obtain ⟨hl, hf⟩ := h.st' Try.underlying23
  rw [cells_val] at hl
  match ds, hl with
  | [x, y, z], _ =>
    have h0 := hf _ (List.mem_cons_self ..)
    have h1 := hf _ (List.mem_cons_of_mem _ (List.mem_cons_self ..))
    have h2 := hf _ (List.mem_cons_of_mem _ (List.mem_cons_of_mem _ (List.mem_cons_self ..)))
    dsimp only at h0 h1 h2
    rw [cells_int] at h0 h1
    rw [cells_str] at h2
    obtain ⟨a, ha⟩ := wt_int h0
    obtain ⟨b, hb⟩ := wt_int h1
    obtain ⟨s, hs⟩ := wt_str h2
    simp at ha hb hs
    exact ⟨⟨a, b, s⟩, by rw [ha, hb, hs]⟩
theorem wt_ints {ds : List D} (h : WT Try.prog T.ints ds) : ∃ d ks, ds = [d] ∧ SlD d (eIs ks) := by
  obtain ⟨d, es, h1, h2, h4, h3⟩ := h.sl' Try.underlying27
  have : ∃ ks, es = eIs ks := by
    clear h1 h2 h4
    induction es with
    | nil => exact ⟨[], rfl⟩
    | cons x es ih =>
      obtain ⟨n, hn⟩ := wt_int (h3 x (by simp))
      obtain ⟨ks, hk⟩ := ih fun y hy => h3 y (by simp [hy])
      exact ⟨n :: ks, by rw [hn, hk]; rfl⟩
  obtain ⟨ks, rfl⟩ := this
  exact ⟨d, ks, h1, h2⟩
theorem wt_vals {ds : List D} (h : WT Try.prog T.vals ds) : ∃ d row, ds = [d] ∧ SlD d (eVs row) := by
  obtain ⟨d, es, h1, h2, h4, h3⟩ := h.sl' Try.underlying33
  have : ∃ row, es = eVs row := by
    clear h1 h2 h4
    induction es with
    | nil => exact ⟨[], rfl⟩
    | cons x es ih =>
      obtain ⟨n, hn⟩ := wt_val (h3 x (by simp))
      obtain ⟨ks, hk⟩ := ih fun y hy => h3 y (by simp [hy])
      exact ⟨n :: ks, by rw [hn, hk]; rfl⟩
  obtain ⟨ks, rfl⟩ := this
  exact ⟨d, ks, h1, h2⟩
theorem av_ints (d : D) : avOf Try.prog T.ints [d] = .d d := by unfold avOf; rw [Try.underlying27]
theorem av_vals (d : D) : avOf Try.prog T.vals [d] = .d d := by unfold avOf; rw [Try.underlying33]
theorem av_int (d : D) : avOf Try.prog T.int [d] = .d d := by unfold avOf; rw [Try.underlying3]
theorem sld_bulk {d : D} {es : List (List D)} (h : SlD d es) : bulkLL es ≤ bulkL [d] := by
  rcases h with ⟨rfl, rfl⟩ | rfl
  · simp [bulkLL]
  · simp only [bulkL, bulkD]; omega
theorem ints_bulk {d : D} {ks : List Int} (h : SlD d (eIs ks)) : ks.length ≤ bulkL [d] := by
  have h1 := sld_bulk h
  have h2 : (eIs ks).length ≤ bulkLL (eIs ks) := bulkLL_len fun x hx => by
    obtain ⟨k, _, rfl⟩ := List.mem_map.1 hx
    simp [bulkL, bulkD]
  rw [eIs_len] at h2
  omega
theorem vals_bulk {d : D} {row : List Vl} (h : SlD d (eVs row)) : row.length ≤ bulkL [d] ∧ ∀ v ∈ row, v.s.length ≤ bulkL [d] := by
  have h1 := sld_bulk h
  have h2 : (eVs row).length ≤ bulkLL (eVs row) := bulkLL_len fun x hx => by
    obtain ⟨k, _, rfl⟩ := List.mem_map.1 hx
    simp only [Vl.ds, bulkL, bulkD]; omega
  rw [eVs_len] at h2
  refine ⟨by omega, fun v hv => ?_⟩
  have h3 : bulkL v.ds ≤ bulkLL (eVs row) := bulkLL_mem (List.mem_map.2 ⟨v, hv, rfl⟩)
  have h4 : v.s.length ≤ bulkL v.ds := by simp only [Vl.ds, bulkL, bulkD]; omega
  omega
theorem bulkR (H : Type) : Bulk (H := H) Go.Proofs.Ytdhdhhgdeokiiaa.Rows.uptoBulk Go.Proofs.Ytdhdhhgdeokiiaa.Rows.uptoBulkAll where
  lit l := by unfold Go.Proofs.Ytdhdhhgdeokiiaa.Rows.uptoBulk; split <;> simp_all
  str b := by simp [Go.Proofs.Ytdhdhhgdeokiiaa.Rows.uptoBulk]
  nil := by simp [Go.Proofs.Ytdhdhhgdeokiiaa.Rows.uptoBulk]
  sl es sp := by simp [Go.Proofs.Ytdhdhhgdeokiiaa.Rows.uptoBulk]
  agg ps := by simp [Go.Proofs.Ytdhdhhgdeokiiaa.Rows.uptoBulk]
  cons x l := by simp [Go.Proofs.Ytdhdhhgdeokiiaa.Rows.uptoBulkAll]
end Go.Proofs
end
section
/- What the laws are handed: expressions. No condition. -/
set_option linter.unusedSimpArgs false
set_option linter.unusedVariables false
set_option maxRecDepth 10000
set_option maxHeartbeats 4000000
namespace Go.Proofs
open Go.Bi

abbrev T.exs : TypeId := 24
abbrev T.ex : TypeId := 26
theorem cells_exs : Try.prog.cellsOf T.exs = 1 := by kernel_rfl
theorem cells_ex : Try.prog.cellsOf T.ex = 7 := by kernel_rfl
theorem wt_ex' {t : TypeId} {ds : List D} (h : WT Try.prog t ds) : (t = T.ex → ∃ e : Ex, ds = e.ds) ∧ (t = T.exs → ∃ nl args, ds = [ng nl (xL args)]) := by
  induction h with
  | int h => exact ⟨fun e => (by subst e; rw [Try.underlying26] at h; cases h), fun e => (by subst e; rw [Try.underlying24] at h; cases h)⟩
  | bool h => exact ⟨fun e => (by subst e; rw [Try.underlying26] at h; cases h), fun e => (by subst e; rw [Try.underlying24] at h; cases h)⟩
  | str h => exact ⟨fun e => (by subst e; rw [Try.underlying26] at h; cases h), fun e => (by subst e; rw [Try.underlying24] at h; cases h)⟩
  | nil h => exact ⟨fun e => (by subst e; rw [Try.underlying26] at h; cases h), fun e => ⟨true, [], rfl⟩⟩
  | @sl t e es h hl hs he ih =>
    refine ⟨fun e => (by subst e; rw [Try.underlying26] at h; cases h), fun e' => ?_⟩
    subst e'
    rw [Try.underlying24] at h
    cases h
    have : ∃ l, es = xL l := by
      clear he hs hl
      induction es with
      | nil => exact ⟨[], rfl⟩
      | cons x es ihh =>
        obtain ⟨n, hn⟩ := (ih x (by simp)).1 rfl
        obtain ⟨ks, hk⟩ := ihh fun y hy => ih y (by simp [hy])
        exact ⟨n :: ks, by rw [hn, hk]; rfl⟩
    obtain ⟨l, rfl⟩ := this
    exact ⟨false, l, rfl⟩
  | @st t fs ds h hl hf ih =>
    refine ⟨fun e => ?_, fun e => (by subst e; rw [Try.underlying24] at h; cases h)⟩
    subst e
    rw [Try.underlying26] at h
    cases h
    rw [cells_ex] at hl
    match ds, hl with
    | [d0, d1, d2, d3, d4, d5, d6], _ =>
      have h0 := hf _ (List.mem_cons_self ..)
      have h1 := hf _ (List.mem_cons_of_mem _ (List.mem_cons_self ..))
      have h2 := hf _ (List.mem_cons_of_mem _ (List.mem_cons_of_mem _ (List.mem_cons_self ..)))
      have h3 := hf _ (List.mem_cons_of_mem _ (List.mem_cons_of_mem _ (List.mem_cons_of_mem _ (List.mem_cons_self ..))))
      have h4 := (ih _ (List.mem_cons_of_mem _ (List.mem_cons_of_mem _ (List.mem_cons_of_mem _ (List.mem_cons_of_mem _ (List.mem_cons_self ..)))))).2 rfl
      dsimp only at h0 h1 h2 h3 h4
      rw [cells_int] at h0 h1
      rw [cells_val] at h2
      rw [cells_str] at h3
      rw [cells_exs] at h4
      obtain ⟨a, ha⟩ := wt_int h0
      obtain ⟨b, hb⟩ := wt_int h1
      obtain ⟨v, hv⟩ := wt_val h2
      obtain ⟨s, hs⟩ := wt_str h3
      obtain ⟨nl, args, hx⟩ := h4
      simp at ha hb hs hx
      refine ⟨.mk a b v s nl args, ?_⟩
      rw [Ex.ds_mk, ha, hb, hs, hx]
      have hv : [d2, d3, d4] = [eI v.k, eI v.n, .str v.s] := hv
      simp only [List.cons.injEq, and_true] at hv
      rw [hv.1, hv.2.1, hv.2.2]
theorem wt_ex {ds : List D} (h : WT Try.prog T.ex ds) : ∃ e : Ex, ds = e.ds := (wt_ex' h).1 rfl
theorem av_ex (e : Ex) : avOf Try.prog T.ex e.ds = e.av := by unfold avOf; rw [Try.underlying26]; rfl
end Go.Proofs
end
section
/- The program's Eval and Truth. No condition. -/
set_option linter.unusedSimpArgs false
set_option linter.unusedVariables false
set_option maxRecDepth 10000
set_option maxHeartbeats 4000000
namespace Go.Proofs
open Go.Bi

theorem C.expr_Truth_of (row : List Vl) (dr : D) (op n : Int) (v : Vl) (name : List UInt8) (d : D) (r : Vl) (h : Pure Try.prog N.expr_Eval [eX op n v name d, .d dr] (eV r)) : Pure Try.prog N.expr_Truth [eX op n v name d, .d dr] (.d (eI (vTruth r))) := by
  refine F.expr_Truth.go mixed rfl ?_
  repeat' first
    | refine st ?_
    | ((with_reducible apply go_i); (conv => whnf))
    | ((with_reducible apply k_pn); (· first | exact h | exact C.value_Truth _))
    | ((with_reducible apply k_pc); (· first | exact h | exact C.value_Truth _))
    | (with_reducible apply k_d <;> intro _)
    | (with_reducible apply k_b <;> intro _)
theorem evOp_3 (op n : Int) (v : Vl) (l row : List Vl) (h1 : op ≠ 1) (h2 : op ≠ 2) (h3 : op ≠ 22) : evOp op n v l row = (if op = 4 then vOf (tNot (vTruth (l.getD 0 vNull)))
  else if op = 5 ∨ op = 6 then vOf (lgF op (l.getD 0 vNull) (l.drop 1))
  else if op = 21 then vBool (decide ((l.getD 0 vNull).k = 0))
  else if op = 23 then coa l
  else if op = 24 then vRel n (l.getD 0 vNull) (l.getD 1 vNull) (l.getD 2 vNull) (l.getD 3 vNull)
  else if op = 19 ∨ op = 20 then vTxt op l
  else if 13 ≤ op ∧ op ≤ 18 then vAri op l
  else vOf (vCp op (l.getD 0 vNull) (l.getD 1 vNull))) := by
  unfold evOp
  rw [if_neg h1, if_neg h2, if_neg h3]
theorem coa_drop {l : List Vl} {i : Nat} {v : Vl} (h : l[i]? = some v) : coa (l.drop i) = if v.k = 0 then coa (l.drop (i + 1)) else v := by
  obtain ⟨hlt, he⟩ := List.getElem?_eq_some_iff.1 h
  rw [List.drop_eq_getElem_cons hlt, he]; rfl
theorem C.expr_Eval (row : List Vl) (hr : row.length ≤ 1048576) (hrs : ∀ v ∈ row, v.s.length ≤ 1048576) (dr : D) (hdr : SlD dr (eVs row)) : ∀ e : Ex, e.bk ≤ 1048576 → Pure Try.prog N.expr_Eval [e.av, .d dr] (eV (ev row e)) := by
  refine Ex.ind fun op n v name nl args ih hbk => ?_
  obtain ⟨b1, b2, b3, b4⟩ := Ex.bk_bounds hbk
  have ih' : ∀ a ∈ args, Pure Try.prog N.expr_Eval [a.av, .d dr] (eV (ev row a)) := fun a ha => ih a ha (b4 a ha)
  clear ih
  rw [Ex.av_mk]
  refine F.expr_Eval.go mixed rfl ?_
  have hlen := xL_len args
  have hF := C.expr_formed op n v name (ng nl (xL args)) (xL args) sld_ng b2 (by omega)
  rw [hlen] at hF
  have hm := xL_mem args
  have hd : SlD (ng nl (xL args)) (xL args) := sld_ng
  have hget : ∀ (i : Nat) (op' n' : Int) (v' : Vl) (name' : List UInt8) (nl' : Bool) (args' : List Ex), args[i]? = some (.mk op' n' v' name' nl' args') → (xL args)[i]? = some (xds op' n' v' name' (ng nl' (xL args'))) := fun i op' n' v' name' nl' args' h => by
    rw [← Ex.ds_mk]; exact xL_get h
  obtain ⟨d, hde⟩ : ∃ d, d = ng nl (xL args) := ⟨_, rfl⟩
  rw [← hde] at hF hd ⊢
  obtain ⟨es, hes⟩ : ∃ es, es = xL args := ⟨_, rfl⟩
  rw [← hes] at hlen hm hd hget
  rw [ev_mk]
  cases hf : fmd op n v name args.length with
  | false =>
    rw [hf] at hF
    repeat' first
      | refine st ?_
      | ((with_reducible apply go_i); (conv => whnf))
      | ((with_reducible apply k_pn); (· first | exact hF | exact C.value_Null))
      | ((with_reducible apply k_pc); (· first | exact hF | exact C.value_Null))
      | (with_reducible apply k_d <;> intro _)
      | (with_reducible apply k_b <;> intro _)
    all_goals rfl
  | true =>
  rw [hf] at hF
  rw [if_pos rfl]
  by_cases h1 : op = 1
  · subst h1
    repeat' first
      | refine st ?_
      | ((with_reducible apply go_i); (conv => whnf))
      | ((with_reducible apply k_pn); (· exact hF))
      | ((with_reducible apply k_pc); (· exact hF))
      | (with_reducible apply k_d <;> intro _)
      | (with_reducible apply k_b <;> intro _)
    all_goals rfl
  by_cases h2 : op = 2
  · subst h2
    have hc := C.expr_column row hr hrs dr hdr n
    repeat' first
      | refine st ?_
      | ((with_reducible apply go_i); (conv => whnf))
      | ((with_reducible apply k_pn); (· first | exact hF | exact hc))
      | ((with_reducible apply k_pc); (· first | exact hF | exact hc))
      | (with_reducible apply k_d <;> intro _)
      | (with_reducible apply k_b <;> intro _)
    all_goals rfl
  have hcnt := cnt_case (fmd_cnt hf)
  by_cases h3 : op = 22
  · subst h3
    have hl3 : args.length = 3 := by omega
    obtain ⟨a, b, c, rfl⟩ : ∃ a b c, args = [a, b, c] := by
      match args, hl3 with
      | [a, b, c], _ => exact ⟨a, b, c, rfl⟩
    have ia := ih' a (by simp)
    have ib := ih' b (by simp)
    have ic := ih' c (by simp)
    obtain ⟨o0, n0, v0, m0, l0, a0⟩ := a
    obtain ⟨o1, n1, v1, m1, l1, a1⟩ := b
    obtain ⟨o2, n2, v2, m2, l2, a2⟩ := c
    have g0 := hget 0 _ _ _ _ _ _ rfl
    have g1 := hget 1 _ _ _ _ _ _ rfl
    have g2 := hget 2 _ _ _ _ _ _ rfl
    rw [Ex.av_mk] at ia ib ic
    have it := C.expr_Truth_of row dr _ _ _ _ _ _ ia
    have e : evOp 22 n v (List.map (ev row) [.mk o0 n0 v0 m0 l0 a0, .mk o1 n1 v1 m1 l1 a1, .mk o2 n2 v2 m2 l2 a2]) row = if vTruth (ev row (.mk o0 n0 v0 m0 l0 a0)) = 2 then ev row (.mk o1 n1 v1 m1 l1 a1) else ev row (.mk o2 n2 v2 m2 l2 a2) := rfl
    rw [e]
    by_cases ht : vTruth (ev row (.mk o0 n0 v0 m0 l0 a0)) = 2
    · rw [if_pos ht]
      repeat' first
        | refine st ?_
        | ((with_reducible apply go_i); (conv => whnf))
        | ((with_reducible apply k_pn); (· first | exact hF | exact it | exact ib))
        | ((with_reducible apply k_pc); (· first | exact hF | exact it | exact ib))
        | (with_reducible apply k_d <;> intro _)
        | (with_reducible apply k_b <;> intro _)
      all_goals rfl
    · rw [if_neg ht]
      repeat' first
        | refine st ?_
        | ((with_reducible apply go_i); (conv => whnf))
        | ((with_reducible apply k_pn); (· first | exact hF | exact it | exact ic))
        | ((with_reducible apply k_pc); (· first | exact hF | exact it | exact ic))
        | (with_reducible apply k_d <;> intro _)
        | (with_reducible apply k_b <;> intro _)
      all_goals rfl
  rw [evOp_3 op n v _ row h1 h2 h3]
  have hlr : (List.replicate ((es.length : Int)).toNat z3).length = args.length := by rw [List.length_replicate]; omega
  repeat' first
    | refine st ?_
    | ((with_reducible apply go_i); (conv => whnf))
    | ((with_reducible apply k_pn); (· exact hF))
    | ((with_reducible apply k_pc); (· exact hF))
    | (with_reducible apply k_d <;> intro _)
    | (with_reducible apply k_b <;> intro _)
  refine x_loop2 mixed Lt.expr_Eval_l0 Lk.expr_Eval_l0 (fun (i : Nat) (A : List (List D)) => [.d (eI i)]) (fun i A => [.cells [.d (eI op), .d (eI n), .d (eI v.k), .d (eI v.n), .d (.str v.s), .d (.str name), .d d], .cells [.d (eI 0), .d (eI 0), .d (.str [])], .arr A 3 0 false]) (fun i A => i ≤ args.length ∧ A = Lv row args i) (fun i _ => args.length - i) 0 (List.replicate ((es.length : Int)).toNat z3) rfl rfl rfl rfl (fun _ _ _ => ⟨rfl, rfl⟩) rfl ⟨by omega, Lv_zero row args _ hlen⟩ ?_
  repeat' first
    | refine st ?_
    | ((with_reducible apply go_i); (conv => whnf))
    | (with_reducible apply k_d <;> intro _)
    | (with_reducible apply k_b <;> intro _)
  intro i A ⟨h4, h5⟩
  have hAl : A.length = args.length := by rw [h5]; exact Lv_len row args i h4
  have hAm : ∀ e ∈ A, e.length = 3 := by rw [h5]; exact Lv_mem row args i
  have hlr2 : (List.replicate ((es.length : Int)).toNat [D.int .i64 0, D.int .i64 0, D.str []]).length = A.length := by rw [List.length_replicate]; omega
  cases hx : args[i]? with
  | some x =>
    have hlt := (List.getElem?_eq_some_iff.1 hx).1
    have hI := ih' x (List.mem_of_getElem? hx)
    have hset := Lv_set (row := row) hx
    obtain ⟨op', n', v', name', nl', args'⟩ := x
    rw [Ex.av_mk] at hI
    have hg := hget i _ _ _ _ _ _ hx
    have hA := Lv_get (row := row) hlt
    rw [← h5] at hA hset
    repeat' first
      | refine st ?_
      | ((with_reducible apply go_i); (conv => whnf))
      | ((with_reducible apply k_pn); (· exact hI))
      | ((with_reducible apply k_pc); (· exact hI))
      | (with_reducible apply k_d <;> intro _)
      | (with_reducible apply k_b <;> intro _)
    exact ⟨i + 1, _, rfl, rfl, rfl, by omega, by omega, hset⟩
  | none =>
    have hge := List.getElem?_eq_none_iff.1 hx
    rw [Lv_end hge] at h5
    clear ih' hget hF
    -- the values of the arguments
    obtain ⟨l, hl⟩ : ∃ l, l = args.map (ev row) := ⟨_, rfl⟩
    have hll : l.length = args.length := by rw [hl, List.length_map]
    have hs := evs_s row args
    have hn := evs_n row args
    rw [← hl] at h5 hs hn ⊢
    subst h5
    rcases hcnt with ⟨h, k⟩ | ⟨h, k⟩ | ⟨h, k⟩ | ⟨h, k⟩ | ⟨h, k⟩ | ⟨h, k⟩ | ⟨h, k⟩
    · omega
    · obtain ⟨a, rfl⟩ : ∃ a, l = [a] := by
        match l, hll.trans k with
        | [a], _ => exact ⟨a, rfl⟩
      have g0 : (eVs [a])[(0 : Nat)]? = some a.ds := rfl
      rcases h with rfl | rfl | rfl | rfl
      · have hC := C.expr_logic4 a [] (by simp)
        repeat' first
          | refine st ?_
          | ((with_reducible apply go_i); (conv => whnf))
          | ((with_reducible apply k_pn); (· exact hC))
          | ((with_reducible apply k_pc); (· exact hC))
          | (with_reducible apply k_d <;> intro _)
          | (with_reducible apply k_b <;> intro _)
        all_goals rfl
      · have hC := C.expr_arithmetic 18 [a] a a rfl rfl (by simp) hn ⟨by decide, by decide⟩
        repeat' first
          | refine st ?_
          | ((with_reducible apply go_i); (conv => whnf))
          | ((with_reducible apply k_pn); (· exact hC))
          | ((with_reducible apply k_pc); (· exact hC))
          | (with_reducible apply k_d <;> intro _)
          | (with_reducible apply k_b <;> intro _)
        all_goals rfl
      · have hC := C.expr_text 20 [a] (by simp) hs
        repeat' first
          | refine st ?_
          | ((with_reducible apply go_i); (conv => whnf))
          | ((with_reducible apply k_pn); (· exact hC))
          | ((with_reducible apply k_pc); (· exact hC))
          | (with_reducible apply k_d <;> intro _)
          | (with_reducible apply k_b <;> intro _)
        all_goals rfl
      · repeat' first
          | refine st ?_
          | ((with_reducible apply go_i); (conv => whnf))
          | ((with_reducible apply k_pn); (· exact C.value_Bool _))
          | ((with_reducible apply k_pc); (· exact C.value_Bool _))
          | (with_reducible apply k_d <;> intro _)
          | (with_reducible apply k_b <;> intro _)
        all_goals rfl
    · obtain ⟨a, b, rfl⟩ : ∃ a b, l = [a, b] := by
        match l, hll.trans k with
        | [a, b], _ => exact ⟨a, b, rfl⟩
      have g0 : (eVs [a, b])[(0 : Nat)]? = some a.ds := rfl
      have g1 : (eVs [a, b])[(1 : Nat)]? = some b.ds := rfl
      by_cases h19 : op = 19
      · subst h19
        have hC := C.expr_text 19 [a, b] (by simp) hs
        repeat' first
          | refine st ?_
          | ((with_reducible apply go_i); (conv => whnf))
          | ((with_reducible apply k_pn); (· exact hC))
          | ((with_reducible apply k_pc); (· exact hC))
          | (with_reducible apply k_d <;> intro _)
          | (with_reducible apply k_b <;> intro _)
        all_goals rfl
      by_cases h13 : 13 ≤ op
      · have hC := C.expr_arithmetic op [a, b] a b rfl rfl (by simp) hn ⟨h13, by omega⟩
        have e : (if op = 4 then vOf (tNot (vTruth ([a, b].getD 0 vNull))) else if op = 5 ∨ op = 6 then vOf (lgF op ([a, b].getD 0 vNull) ([a, b].drop 1)) else if op = 21 then vBool (decide (([a, b].getD 0 vNull).k = 0)) else if op = 23 then coa [a, b] else if op = 24 then vRel n ([a, b].getD 0 vNull) ([a, b].getD 1 vNull) ([a, b].getD 2 vNull) ([a, b].getD 3 vNull) else if op = 19 ∨ op = 20 then vTxt op [a, b] else if 13 ≤ op ∧ op ≤ 18 then vAri op [a, b] else vOf (vCp op ([a, b].getD 0 vNull) ([a, b].getD 1 vNull))) = vAri op [a, b] := by
          rw [if_neg (by omega), if_neg (by omega), if_neg (by omega), if_neg (by omega), if_neg (by omega), if_neg (by omega), if_pos (by omega)]
        rw [e]
        rcases (show op = 13 ∨ op = 14 ∨ op = 15 ∨ op = 16 ∨ op = 17 by omega) with rfl | rfl | rfl | rfl | rfl
        all_goals clear e
        all_goals repeat' first
          | refine st ?_
          | ((with_reducible apply go_i); (conv => whnf))
          | ((with_reducible apply k_pn); (· exact hC))
          | ((with_reducible apply k_pc); (· exact hC))
          | (with_reducible apply k_d <;> intro _)
          | (with_reducible apply k_b <;> intro _)
        all_goals rfl
      · have e : (if op = 4 then vOf (tNot (vTruth ([a, b].getD 0 vNull))) else if op = 5 ∨ op = 6 then vOf (lgF op ([a, b].getD 0 vNull) ([a, b].drop 1)) else if op = 21 then vBool (decide (([a, b].getD 0 vNull).k = 0)) else if op = 23 then coa [a, b] else if op = 24 then vRel n ([a, b].getD 0 vNull) ([a, b].getD 1 vNull) ([a, b].getD 2 vNull) ([a, b].getD 3 vNull) else if op = 19 ∨ op = 20 then vTxt op [a, b] else if 13 ≤ op ∧ op ≤ 18 then vAri op [a, b] else vOf (vCp op ([a, b].getD 0 vNull) ([a, b].getD 1 vNull))) = vOf (vCp op a b) := by
          rw [if_neg (by omega), if_neg (by omega), if_neg (by omega), if_neg (by omega), if_neg (by omega), if_neg (by omega), if_neg (by omega)]; rfl
        rw [e]
        rcases (show op = 7 ∨ op = 8 ∨ op = 9 ∨ op = 10 ∨ op = 11 ∨ op = 12 by omega) with rfl | rfl | rfl | rfl | rfl | rfl
        all_goals clear e
        all_goals repeat' first
          | refine st ?_
          | ((with_reducible apply go_i); (conv => whnf))
          | ((with_reducible apply k_pn); (· first | exact C.expr_comparison _ _ _ | exact C.value_Of _))
          | ((with_reducible apply k_pc); (· first | exact C.expr_comparison _ _ _ | exact C.value_Of _))
          | (with_reducible apply k_d <;> intro _)
          | (with_reducible apply k_b <;> intro _)
        all_goals rfl
    · obtain ⟨a, r, rfl⟩ : ∃ a r, l = a :: r := by
        match l, hll with
        | [], h => simp at h; omega
        | a :: r, _ => exact ⟨a, r, rfl⟩
      have hC := C.expr_logic op h a r (by simp at hll; omega)
      rcases h with rfl | rfl
      · repeat' first
          | refine st ?_
          | ((with_reducible apply go_i); (conv => whnf))
          | ((with_reducible apply k_pn); (· exact hC))
          | ((with_reducible apply k_pc); (· exact hC))
          | (with_reducible apply k_d <;> intro _)
          | (with_reducible apply k_b <;> intro _)
        all_goals rfl
      · repeat' first
          | refine st ?_
          | ((with_reducible apply go_i); (conv => whnf))
          | ((with_reducible apply k_pn); (· exact hC))
          | ((with_reducible apply k_pc); (· exact hC))
          | (with_reducible apply k_d <;> intro _)
          | (with_reducible apply k_b <;> intro _)
        all_goals rfl
    · omega
    · obtain ⟨rfl⟩ := h
      have hLl := eVs_len l
      have e : (if (23 : Int) = 4 then vOf (tNot (vTruth (l.getD 0 vNull))) else if (23 : Int) = 5 ∨ (23 : Int) = 6 then vOf (lgF 23 (l.getD 0 vNull) (l.drop 1)) else if (23 : Int) = 21 then vBool (decide ((l.getD 0 vNull).k = 0)) else if (23 : Int) = 23 then coa l else if (23 : Int) = 24 then vRel n (l.getD 0 vNull) (l.getD 1 vNull) (l.getD 2 vNull) (l.getD 3 vNull) else if (23 : Int) = 19 ∨ (23 : Int) = 20 then vTxt 23 l else if 13 ≤ (23 : Int) ∧ (23 : Int) ≤ 18 then vAri 23 l else vOf (vCp 23 (l.getD 0 vNull) (l.getD 1 vNull))) = coa l := rfl
      rw [e]
      repeat' first
        | refine st ?_
        | ((with_reducible apply go_i); (conv => whnf))
        | (with_reducible apply k_d <;> intro _)
        | (with_reducible apply k_b <;> intro _)
      refine x_loop1 mixed Lt.expr_Eval_l1 Lk.expr_Eval_l1 (fun (i : Nat) => [.d (eI i)]) (fun i => [.cells [.d (eI 23), .d (eI n), .d (eI v.k), .d (eI v.n), .d (.str v.s), .d (.str name), .d d], .cells [.d (eI 0), .d (eI 0), .d (.str [])], .arr (eVs l) 3 0 false]) (fun i => i ≤ l.length ∧ coa l = coa (l.drop i)) (fun i => l.length - i) 0 rfl rfl rfl rfl (fun _ _ => ⟨rfl, rfl⟩) rfl ⟨by omega, rfl⟩ ?_
      repeat' first
        | refine st ?_
        | ((with_reducible apply go_i); (conv => whnf))
        | (with_reducible apply k_d <;> intro _)
        | (with_reducible apply k_b <;> intro _)
      intro j ⟨h6, h7⟩
      cases hy : l[j]? with
      | some w =>
        have hlt2 := (List.getElem?_eq_some_iff.1 hy).1
        have hg2 := eVs_get hy
        rw [coa_drop hy] at h7
        by_cases hk : w.k = 0
        · rw [if_pos hk] at h7
          repeat' first
            | refine st ?_
            | ((with_reducible apply go_i); (conv => whnf))
            | (with_reducible apply k_d <;> intro _)
            | (with_reducible apply k_b <;> intro _)
          exact ⟨j + 1, rfl, rfl, rfl, by omega, by omega, h7⟩
        · rw [if_neg hk] at h7
          rw [h7]
          repeat' first
            | refine st ?_
            | ((with_reducible apply go_i); (conv => whnf))
            | (with_reducible apply k_d <;> intro _)
            | (with_reducible apply k_b <;> intro _)
          all_goals rfl
      | none =>
        have hge2 := List.getElem?_eq_none_iff.1 hy
        rw [List.drop_eq_nil_of_le hge2] at h7
        rw [h7]
        repeat' first
          | refine st ?_
          | ((with_reducible apply go_i); (conv => whnf))
          | ((with_reducible apply k_pn); (· exact C.value_Null))
          | ((with_reducible apply k_pc); (· exact C.value_Null))
          | (with_reducible apply k_d <;> intro _)
          | (with_reducible apply k_b <;> intro _)
        all_goals rfl
    · obtain ⟨a, b, c, e, rfl⟩ : ∃ a b c e, l = [a, b, c, e] := by
        match l, hll.trans k with
        | [a, b, c, e], _ => exact ⟨a, b, c, e, rfl⟩
      subst h
      have hC := C.expr_related n a b c e
      repeat' first
        | refine st ?_
        | ((with_reducible apply go_i); (conv => whnf))
        | ((with_reducible apply k_pn); (· exact hC))
        | ((with_reducible apply k_pc); (· exact hC))
        | (with_reducible apply k_d <;> intro _)
        | (with_reducible apply k_b <;> intro _)
      all_goals rfl
end Go.Proofs
end
section
/- The depth of an expression. No condition. -/
set_option linter.unusedSimpArgs false
set_option linter.unusedVariables false
set_option maxRecDepth 10000
set_option maxHeartbeats 4000000
namespace Go.Proofs
open Go.Bi

def mx (l : List Nat) : Nat := l.foldl max 0
mutual
def dep : Ex → Nat
  | .mk op n v name nl args => 1 + mx (depL args)
def depL : List Ex → List Nat
  | [] => []
  | e :: es => dep e :: depL es
end
theorem depL_eq : ∀ l, depL l = l.map dep
  | [] => by simp [depL]
  | e :: es => by simp [depL, depL_eq es]
theorem dep_mk (op n : Int) (v : Vl) (name : List UInt8) (nl : Bool) (args : List Ex) : dep (.mk op n v name nl args) = 1 + mx (args.map dep) := by rw [dep, depL_eq]
theorem mx_le {l : List Nat} {B : Nat} (h : ∀ x ∈ l, x ≤ B) : mx l ≤ B := by
  unfold mx
  have key : ∀ (l : List Nat) (a : Nat), a ≤ B → (∀ x ∈ l, x ≤ B) → l.foldl max a ≤ B := by
    intro l
    induction l with
    | nil => intro a ha _; exact ha
    | cons x l ih => intro a ha hl; exact ih (max a x) (by have := hl x (by simp); omega) fun y hy => hl y (by simp [hy])
  exact key l 0 (Nat.zero_le _) h
theorem dep_bk : ∀ e : Ex, dep e ≤ e.bk := by
  refine Ex.ind fun op n v name nl args ih => ?_
  rw [dep_mk]
  have h1 : mx (args.map dep) ≤ (Ex.mk op n v name nl args).bk - 1 := mx_le fun x hx => by
    obtain ⟨a, ha, rfl⟩ := List.mem_map.1 hx
    have h2 := ih a ha
    have h3 := Ex.bk_arg (op := op) (n := n) (v := v) (name := name) (nl := nl) ha
    omega
  have := (Ex.mk op n v name nl args).bk_pos
  omega
theorem foldl_take_succ' {α β : Type} (f : β → α → β) (b : β) (l : List α) (i : Nat) (x : α) (h : l[i]? = some x) : (l.take (i + 1)).foldl f b = f ((l.take i).foldl f b) x := by
  rw [List.take_add_one, h]; simp
theorem mx_succ {l : List Nat} {i x : Nat} (h : l[i]? = some x) : mx (l.take (i + 1)) = max (mx (l.take i)) x := foldl_take_succ' _ _ _ _ _ h
theorem C.expr_depth : ∀ e : Ex, e.bk ≤ 1048576 → ∀ m : Nat, 1 ≤ m → m ≤ 25 → Pure Try.prog N.expr_depth [e.av, .d (eI m)] (.d (eI (min m (dep e) : Nat))) := by
  refine Ex.ind fun op n v name nl args ih hbk m hm1 hm2 => ?_
  obtain ⟨b1, b2, b3, b4⟩ := Ex.bk_bounds hbk
  have ih' : ∀ a ∈ args, ∀ m : Nat, 1 ≤ m → m ≤ 25 → Pure Try.prog N.expr_depth [a.av, .d (eI m)] (.d (eI (min m (dep a) : Nat))) := fun a ha => ih a ha (b4 a ha)
  clear ih
  rw [Ex.av_mk, dep_mk]
  refine F.expr_depth.go mixed rfl ?_
  have hlen := xL_len args
  have hm := xL_mem args
  have hd : SlD (ng nl (xL args)) (xL args) := sld_ng
  have hget : ∀ (i : Nat) (op' n' : Int) (v' : Vl) (name' : List UInt8) (nl' : Bool) (args' : List Ex), args[i]? = some (.mk op' n' v' name' nl' args') → (xL args)[i]? = some (xds op' n' v' name' (ng nl' (xL args'))) := fun i op' n' v' name' nl' args' h => by
    rw [← Ex.ds_mk]; exact xL_get h
  obtain ⟨d, hde⟩ : ∃ d, d = ng nl (xL args) := ⟨_, rfl⟩
  rw [← hde] at hd ⊢
  obtain ⟨es, hes⟩ : ∃ es, es = xL args := ⟨_, rfl⟩
  rw [← hes] at hlen hm hd hget
  by_cases h1 : m = 1
  · subst h1
    rw [show min 1 (1 + mx (args.map dep)) = 1 by omega]
    repeat' first
      | refine st ?_
      | ((with_reducible apply go_i); (conv => whnf))
      | (with_reducible apply k_d <;> intro _)
      | (with_reducible apply k_b <;> intro _)
    all_goals rfl
  have h2 : ¬ (m : Int) ≤ 1 := by omega
  repeat' first
    | refine st ?_
    | ((with_reducible apply go_i); (conv => whnf))
    | (with_reducible apply k_d <;> intro _)
    | (with_reducible apply k_b <;> intro _)
  refine x_loop2 mixed Lt.expr_depth_l0 Lk.expr_depth_l0 (fun (i : Nat) (t : Nat) => [.d (eI t), .d (eI i)]) (fun i t => [.cells [.d (eI op), .d (eI n), .d (eI v.k), .d (eI v.n), .d (.str v.s), .d (.str name), .d d]]) (fun i t => i ≤ args.length ∧ t = min m (1 + mx ((args.map dep).take i))) (fun i _ => args.length - i) 0 1 rfl rfl rfl rfl (fun _ _ _ => ⟨rfl, rfl⟩) rfl ⟨by omega, by simp [mx]; omega⟩ ?_
  repeat' first
    | refine st ?_
    | ((with_reducible apply go_i); (conv => whnf))
    | (with_reducible apply k_d <;> intro _)
    | (with_reducible apply k_b <;> intro _)
  intro i t ⟨h4, h5⟩
  cases hx : args[i]? with
  | some x =>
    have hlt := (List.getElem?_eq_some_iff.1 hx).1
    have hI := ih' x (List.mem_of_getElem? hx) (m - 1) (by omega) (by omega)
    have hmx := mx_succ (l := args.map dep) (i := i) (x := dep x) (by rw [List.getElem?_map, hx]; rfl)
    rw [show ((m - 1 : Nat) : Int) = (m : Int) - 1 by omega] at hI
    obtain ⟨y, hy⟩ : ∃ y, y = dep x := ⟨_, rfl⟩
    rw [← hy] at hI hmx
    obtain ⟨op', n', v', name', nl', args'⟩ := x
    rw [Ex.av_mk] at hI
    have hg := hget i _ _ _ _ _ _ hx
    repeat' first
      | refine st ?_
      | ((with_reducible apply go_i); (conv => whnf))
      | ((with_reducible apply k_pn); (· exact hI))
      | ((with_reducible apply k_pc); (· exact hI))
      | (with_reducible apply k_d <;> intro _)
      | (with_reducible apply k_b <;> intro _)
    refine ⟨i + 1, max t (1 + min (m - 1) y), ?_, rfl, rfl, by omega, by omega, ?_⟩
    · simp only [List.cons.injEq, AV.d.injEq, D.int.injEq, true_and, and_true]
      omega
    · rw [hmx]; omega
  | none =>
    have hge := List.getElem?_eq_none_iff.1 hx
    rw [List.take_of_length_le (by simpa using hge)] at h5
    repeat' first
      | refine st ?_
      | ((with_reducible apply go_i); (conv => whnf))
      | (with_reducible apply k_d <;> intro _)
      | (with_reducible apply k_b <;> intro _)
    rw [h5]
theorem C.expr_Depth (e : Ex) (he : e.bk ≤ 1048576) : Pure Try.prog N.expr_Depth [e.av] (.d (eI (min 25 (dep e) : Nat))) := by
  have h := C.expr_depth e he 25 (by omega) (by omega)
  obtain ⟨op, n, v, name, nl, args⟩ := e
  rw [Ex.av_mk] at h ⊢
  refine F.expr_Depth.go mixed rfl ?_
  repeat' first
    | refine st ?_
    | ((with_reducible apply go_i); (conv => whnf))
    | ((with_reducible apply k_pn); (· exact h))
    | ((with_reducible apply k_pc); (· exact h))
    | (with_reducible apply k_d <;> intro _)
    | (with_reducible apply k_b <;> intro _)
theorem C.r11_depth : ∀ e : Ex, e.bk ≤ 1048576 → Pure Try.prog N.bt_ref11_depth [e.av] (.d (eI (dep e : Nat))) := by
  refine Ex.ind fun op n v name nl args ih hbk => ?_
  have hdb := dep_bk (.mk op n v name nl args)
  obtain ⟨b1, b2, b3, b4⟩ := Ex.bk_bounds hbk
  have ih' : ∀ a ∈ args, Pure Try.prog N.bt_ref11_depth [a.av] (.d (eI (dep a : Nat))) := fun a ha => ih a ha (b4 a ha)
  clear ih
  rw [dep_mk] at hdb
  rw [Ex.av_mk, dep_mk]
  refine F.bt_ref11_depth.go mixed rfl ?_
  have hlen := xL_len args
  have hm := xL_mem args
  have hd : SlD (ng nl (xL args)) (xL args) := sld_ng
  have hget : ∀ (i : Nat) (op' n' : Int) (v' : Vl) (name' : List UInt8) (nl' : Bool) (args' : List Ex), args[i]? = some (.mk op' n' v' name' nl' args') → (xL args)[i]? = some (xds op' n' v' name' (ng nl' (xL args'))) := fun i op' n' v' name' nl' args' h => by
    rw [← Ex.ds_mk]; exact xL_get h
  obtain ⟨d, hde⟩ : ∃ d, d = ng nl (xL args) := ⟨_, rfl⟩
  rw [← hde] at hd ⊢
  obtain ⟨es, hes⟩ : ∃ es, es = xL args := ⟨_, rfl⟩
  rw [← hes] at hlen hm hd hget
  repeat' first
    | refine st ?_
    | ((with_reducible apply go_i); (conv => whnf))
    | (with_reducible apply k_d <;> intro _)
    | (with_reducible apply k_b <;> intro _)
  refine x_loop2 mixed Lt.bt_ref11_depth_l0 Lk.bt_ref11_depth_l0 (fun (i : Nat) (t : Nat) => [.d (eI t), .d (eI i)]) (fun i t => [.cells [.d (eI op), .d (eI n), .d (eI v.k), .d (eI v.n), .d (.str v.s), .d (.str name), .d d]]) (fun i t => i ≤ args.length ∧ t = mx ((args.map dep).take i)) (fun i _ => args.length - i) 0 0 rfl rfl rfl rfl (fun _ _ _ => ⟨rfl, rfl⟩) rfl ⟨by omega, rfl⟩ ?_
  repeat' first
    | refine st ?_
    | ((with_reducible apply go_i); (conv => whnf))
    | (with_reducible apply k_d <;> intro _)
    | (with_reducible apply k_b <;> intro _)
  intro i t ⟨h4, h5⟩
  cases hx : args[i]? with
  | some x =>
    have hlt := (List.getElem?_eq_some_iff.1 hx).1
    have hI := ih' x (List.mem_of_getElem? hx)
    have hmx := mx_succ (l := args.map dep) (i := i) (x := dep x) (by rw [List.getElem?_map, hx]; rfl)
    obtain ⟨y, hy⟩ : ∃ y, y = dep x := ⟨_, rfl⟩
    rw [← hy] at hI hmx
    obtain ⟨op', n', v', name', nl', args'⟩ := x
    rw [Ex.av_mk] at hI
    have hg := hget i _ _ _ _ _ _ hx
    repeat' first
      | refine st ?_
      | ((with_reducible apply go_i); (conv => whnf))
      | ((with_reducible apply k_pn); (· exact hI))
      | ((with_reducible apply k_pc); (· exact hI))
      | (with_reducible apply k_d <;> intro _)
      | (with_reducible apply k_b <;> intro _)
    refine ⟨i + 1, max t y, ?_, rfl, rfl, by omega, by omega, ?_⟩
    · simp only [List.cons.injEq, AV.d.injEq, D.int.injEq, true_and, and_true]
      omega
    · rw [hmx, h5]
  | none =>
    have hge := List.getElem?_eq_none_iff.1 hx
    rw [List.take_of_length_le (by simpa using hge)] at h5
    repeat' first
      | refine st ?_
      | ((with_reducible apply go_i); (conv => whnf))
      | (with_reducible apply k_d <;> intro _)
      | (with_reducible apply k_b <;> intro _)
    rw [h5]
    simp only [AV.d.injEq, D.int.injEq, true_and]
    omega
theorem C.r11_Depth (e : Ex) (he : e.bk ≤ 1048576) : Pure Try.prog N.bt_ref11_Depth [e.av] (.d (eI (min 25 (dep e) : Nat))) := by
  have h := C.r11_depth e he
  obtain ⟨op, n, v, name, nl, args⟩ := e
  rw [Ex.av_mk] at h ⊢
  refine F.bt_ref11_Depth.go mixed rfl ?_
  repeat' first
    | refine st ?_
    | ((with_reducible apply go_i); (conv => whnf))
    | ((with_reducible apply k_pn); (· exact h))
    | ((with_reducible apply k_pc); (· exact h))
    | (with_reducible apply k_d <;> intro _)
    | (with_reducible apply k_b <;> intro _)
  all_goals (simp only [AV.d.injEq, D.int.injEq, true_and]; omega)
end Go.Proofs
end
section
/- Kinds of operators. No condition. -/
set_option linter.unusedSimpArgs false
set_option linter.unusedVariables false
set_option maxRecDepth 10000
set_option maxHeartbeats 4000000
namespace Go.Proofs
open Go.Bi

def uniF (k : Int) : List Int → Int × Bool
  | [] => (k, true)
  | x :: l => if x = 0 then uniF k l else if k ≠ 0 ∧ k ≠ x then (0, false) else uniF x l
def uni (l : List Int) : Int × Bool := uniF 0 l
theorem uniF_drop {k : Int} {l : List Int} {i : Nat} {x : Int} (h : l[i]? = some x) : uniF k (l.drop i) = if x = 0 then uniF k (l.drop (i + 1)) else if k ≠ 0 ∧ k ≠ x then (0, false) else uniF x (l.drop (i + 1)) := by
  obtain ⟨hlt, he⟩ := List.getElem?_eq_some_iff.1 h
  rw [List.drop_eq_getElem_cons hlt, he]; rfl
theorem C.expr_unite (l : List Int) (hl : l.length ≤ 1048577) (d : D) (hd : SlD d (eIs l)) : Pure Try.prog N.expr_unite [.d d] (.tup [.d (eI (uni l).1), .d (.bool (uni l).2)]) := by
  refine F.expr_unite.go mixed rfl ?_
  have h1 := eIs_len l
  have hm := eIs_mem l
  repeat' first
    | refine st ?_
    | ((with_reducible apply go_i); (conv => whnf))
    | (with_reducible apply k_d <;> intro _)
    | (with_reducible apply k_b <;> intro _)
  refine x_loop2 mixed Lt.expr_unite_l0 Lk.expr_unite_l0 (fun (i : Nat) (k : Int) => [.d (eI k), .d (eI i)]) (fun i k => []) (fun i k => i ≤ l.length ∧ uni l = uniF k (l.drop i)) (fun i _ => l.length - i) 0 0 rfl rfl rfl rfl (fun _ _ _ => ⟨rfl, rfl⟩) rfl ⟨by omega, rfl⟩ ?_
  repeat' first
    | refine st ?_
    | ((with_reducible apply go_i); (conv => whnf))
    | (with_reducible apply k_d <;> intro _)
    | (with_reducible apply k_b <;> intro _)
  intro i k ⟨h2, h3⟩
  cases hx : l[i]? with
  | some x =>
    have hlt := (List.getElem?_eq_some_iff.1 hx).1
    have hg := eIs_get hx
    rw [uniF_drop hx] at h3
    by_cases hx0 : x = 0
    · rw [if_pos hx0] at h3
      repeat' first
        | refine st ?_
        | ((with_reducible apply go_i); (conv => whnf))
        | (with_reducible apply k_d <;> intro _)
        | (with_reducible apply k_b <;> intro _)
      exact ⟨i + 1, _, rfl, rfl, rfl, by omega, by omega, h3⟩
    · rw [if_neg hx0] at h3
      by_cases hk : k ≠ 0 ∧ k ≠ x
      · rw [if_pos hk] at h3
        rw [h3]
        obtain ⟨hk1, hk2⟩ := hk
        repeat' first
          | refine st ?_
          | ((with_reducible apply go_i); (conv => whnf))
          | (with_reducible apply k_d <;> intro _)
          | (with_reducible apply k_b <;> intro _)
        all_goals rfl
      · rw [if_neg hk] at h3
        by_cases hk0 : k = 0
        · repeat' first
            | refine st ?_
            | ((with_reducible apply go_i); (conv => whnf))
            | (with_reducible apply k_d <;> intro _)
            | (with_reducible apply k_b <;> intro _)
          exact ⟨i + 1, _, rfl, rfl, rfl, by omega, by omega, h3⟩
        · have hkx : k = x := by omega
          repeat' first
            | refine st ?_
            | ((with_reducible apply go_i); (conv => whnf))
            | (with_reducible apply k_d <;> intro _)
            | (with_reducible apply k_b <;> intro _)
          exact ⟨i + 1, _, rfl, rfl, rfl, by omega, by omega, h3⟩
  | none =>
    have hge := List.getElem?_eq_none_iff.1 hx
    rw [List.drop_eq_nil_of_le hge] at h3
    rw [h3]
    repeat' first
      | refine st ?_
      | ((with_reducible apply go_i); (conv => whnf))
      | (with_reducible apply k_d <;> intro _)
      | (with_reducible apply k_b <;> intro _)
    all_goals rfl
theorem C.r11_Join (l : List Int) (hl : l.length ≤ 1048577) (d : D) (hd : SlD d (eIs l)) : Pure Try.prog N.bt_ref11_Join [.d d] (.tup [.d (eI (uni l).1), .d (.bool (uni l).2)]) := by
  refine F.bt_ref11_Join.go mixed rfl ?_
  have h1 := eIs_len l
  have hm := eIs_mem l
  repeat' first
    | refine st ?_
    | ((with_reducible apply go_i); (conv => whnf))
    | (with_reducible apply k_d <;> intro _)
    | (with_reducible apply k_b <;> intro _)
  refine x_loop2 mixed Lt.bt_ref11_Join_l0 Lk.bt_ref11_Join_l0 (fun (i : Nat) (k : Int) => [.d (eI k), .d (eI i)]) (fun i k => []) (fun i k => i ≤ l.length ∧ uni l = uniF k (l.drop i)) (fun i _ => l.length - i) 0 0 rfl rfl rfl rfl (fun _ _ _ => ⟨rfl, rfl⟩) rfl ⟨by omega, rfl⟩ ?_
  repeat' first
    | refine st ?_
    | ((with_reducible apply go_i); (conv => whnf))
    | (with_reducible apply k_d <;> intro _)
    | (with_reducible apply k_b <;> intro _)
  intro i k ⟨h2, h3⟩
  cases hx : l[i]? with
  | some x =>
    have hlt := (List.getElem?_eq_some_iff.1 hx).1
    have hg := eIs_get hx
    rw [uniF_drop hx] at h3
    by_cases hx0 : x = 0
    · rw [if_pos hx0] at h3
      repeat' first
        | refine st ?_
        | ((with_reducible apply go_i); (conv => whnf))
        | (with_reducible apply k_d <;> intro _)
        | (with_reducible apply k_b <;> intro _)
      exact ⟨i + 1, _, rfl, rfl, rfl, by omega, by omega, h3⟩
    · rw [if_neg hx0] at h3
      by_cases hk : k ≠ 0 ∧ k ≠ x
      · rw [if_pos hk] at h3
        rw [h3]
        obtain ⟨hk1, hk2⟩ := hk
        repeat' first
          | refine st ?_
          | ((with_reducible apply go_i); (conv => whnf))
          | (with_reducible apply k_d <;> intro _)
          | (with_reducible apply k_b <;> intro _)
        all_goals rfl
      · rw [if_neg hk] at h3
        by_cases hk0 : k = 0
        · repeat' first
            | refine st ?_
            | ((with_reducible apply go_i); (conv => whnf))
            | (with_reducible apply k_d <;> intro _)
            | (with_reducible apply k_b <;> intro _)
          exact ⟨i + 1, _, rfl, rfl, rfl, by omega, by omega, h3⟩
        · have hkx : k = x := by omega
          repeat' first
            | refine st ?_
            | ((with_reducible apply go_i); (conv => whnf))
            | (with_reducible apply k_d <;> intro _)
            | (with_reducible apply k_b <;> intro _)
          exact ⟨i + 1, _, rfl, rfl, rfl, by omega, by omega, h3⟩
  | none =>
    have hge := List.getElem?_eq_none_iff.1 hx
    rw [List.drop_eq_nil_of_le hge] at h3
    rw [h3]
    repeat' first
      | refine st ?_
      | ((with_reducible apply go_i); (conv => whnf))
      | (with_reducible apply k_d <;> intro _)
      | (with_reducible apply k_b <;> intro _)
    all_goals rfl
def allK (l : List Int) (c : Int) : Bool := l.all fun x => decide (x = c ∨ x = 0)
theorem uni_all (c : Int) (hc : c ≠ 0) : ∀ (l : List Int) (k : Int), ((uniF k (l ++ [c])).2 && decide ((uniF k (l ++ [c])).1 = c)) = (decide (k = 0 ∨ k = c) && allK l c)
  | [], k => by
    simp only [List.nil_append, uniF, if_neg hc, allK, List.all_nil, Bool.and_true]
    by_cases h : k ≠ 0 ∧ k ≠ c
    · rw [if_pos h, decide_eq_false (show ¬ (k = 0 ∨ k = c) by omega)]; rfl
    · rw [if_neg h, decide_eq_true (show k = 0 ∨ k = c by omega)]; simp
  | x :: l, k => by
    have ih := uni_all c hc l
    simp only [List.cons_append, uniF, allK, List.all_cons] at ih ⊢
    by_cases hx : x = 0
    · rw [if_pos hx, ih k, decide_eq_true (show x = c ∨ x = 0 from .inr hx)]; simp
    · rw [if_neg hx]
      by_cases h : k ≠ 0 ∧ k ≠ x
      · rw [if_pos h]
        by_cases hxc : x = c
        · rw [decide_eq_false (show ¬ (k = 0 ∨ k = c) by omega)]; simp
        · rw [decide_eq_false (show ¬ (x = c ∨ x = 0) by omega)]; simp
      · rw [if_neg h, ih x]
        by_cases hxc : x = c
        · rw [decide_eq_true (show x = 0 ∨ x = c from .inr hxc), decide_eq_true (show x = c ∨ x = 0 from .inl hxc), decide_eq_true (show k = 0 ∨ k = c by omega)]; simp
        · rw [decide_eq_false (show ¬ (x = 0 ∨ x = c) by omega), decide_eq_false (show ¬ (x = c ∨ x = 0) by omega)]; simp
theorem C.clone_nil : Pure Try.prog N.slices_Clone__int_int [.d .nil] (.d .nil) := by
  refine F.slices_Clone__int_int.go mixed rfl ?_
  repeat' first
    | refine st ?_
    | ((with_reducible apply go_i); (conv => whnf))
    | (with_reducible apply k_d <;> intro _)
    | (with_reducible apply k_b <;> intro _)
theorem C.clone_sl (es : List (List D)) (hl : es.length ≤ 1048577) (hm : ∀ e ∈ es, e.length = 1) : CallSpec Try.prog N.slices_Clone__int_int [.d (.sl es)] [] (fun r os => r = .arr 0 es.length ∧ os = [.arr es 1 0 false]) := by
  refine F.slices_Clone__int_int.goO mixed rfl ?_
  have h0 : ([] : List (List D)).length = 0 := rfl
  have h00 : (([] : List (List D)) ++ es).length = es.length := rfl
  have hb : (([] : List (List D)).length + es.length) * 8 ≤ 140737488355328 ∧ ([] : List (List D)).length + es.length ≤ 9223372036854775807 := by rw [h0]; omega
  repeat' first
    | refine st ?_
    | ((with_reducible apply go_i); (conv => whnf))
    | (with_reducible apply k_d <;> intro _)
    | (with_reducible apply k_b <;> intro _)
  all_goals (refine ⟨rfl, ?_⟩; cases es <;> rfl)
theorem eIs_app (l : List Int) (x : Int) : eIs l ++ [[eI x]] = eIs (l ++ [x]) := by simp [eIs]
theorem C.expr_all (l : List Int) (hl : l.length ≤ 1048576) (d : D) (hd : SlD d (eIs l)) (c : Int) (hc : c ≠ 0) : Pure Try.prog N.expr_all [.d d, .d (eI c)] (.d (.bool (allK l c))) := by
  refine F.expr_all.go mixed rfl ?_
  have h1 := eIs_len l
  have hm := eIs_mem l
  have hU := C.expr_unite (l ++ [c]) (by simp; omega) (.sl (eIs (l ++ [c]))) sld_sl
  have hres := uni_all c hc l 0
  rw [show decide ((0 : Int) = 0 ∨ (0 : Int) = c) = true from rfl, Bool.true_and] at hres
  rw [← hres]
  unfold uni at hU
  rw [← eIs_app] at hU
  obtain ⟨x, b⟩ : ∃ x b, uniF 0 (l ++ [c]) = (x, b) := ⟨_, _, rfl⟩
  rcases hd with ⟨rfl, he⟩ | rfl
  · rw [he] at hU
    repeat' first
      | refine st ?_
      | ((with_reducible apply go_i); (conv => whnf))
      | ((with_reducible apply k_pn); (· first | exact C.clone_nil | exact hU))
      | ((with_reducible apply k_pc); (· first | exact C.clone_nil | exact hU))
      | (with_reducible apply k_d <;> intro _)
      | (with_reducible apply k_b <;> intro _)
    all_goals simp [*]
  · have hC := C.clone_sl (eIs l) (by omega) hm
    have ha : (eIs l ++ [[eI c]]).length = l.length + 1 := by simp [h1]
    repeat' first
      | refine st ?_
      | ((with_reducible apply go_i); (conv => whnf))
      | ((with_reducible apply k_pn); (· exact hU))
      | ((with_reducible apply k_pc); (· exact hU))
      | ((with_reducible apply k_nc); (· first | exact hC); (try rintro _ _ ⟨rfl, rfl⟩))
      | ((with_reducible apply k_pr); (· first | exact hC))
      | ((with_reducible apply k_cs); (· first | exact hC); (try rintro _ _ ⟨rfl, rfl⟩))
      | ((with_reducible apply k_cal); refine st ?_; (with_reducible apply k_chk); (· exact rfl); refine st ?_; (with_reducible apply k_cs); (· first | exact hC); (try rintro _ _ ⟨rfl, rfl⟩))
      | (with_reducible apply k_d <;> intro _)
      | (with_reducible apply k_b <;> intro _)
    all_goals simp [*]
theorem C.r11_all (l : List Int) (hl : l.length ≤ 1048577) (d : D) (hd : SlD d (eIs l)) (c : Int) : Pure Try.prog N.bt_ref11_all [.d d, .d (eI c)] (.d (.bool (allK l c))) := by
  refine F.bt_ref11_all.go mixed rfl ?_
  have h1 := eIs_len l
  have hm := eIs_mem l
  repeat' first
    | refine st ?_
    | ((with_reducible apply go_i); (conv => whnf))
    | (with_reducible apply k_d <;> intro _)
    | (with_reducible apply k_b <;> intro _)
  refine x_loop1 mixed Lt.bt_ref11_all_l0 Lk.bt_ref11_all_l0 (fun (i : Nat) => [.d (eI i)]) (fun i => []) (fun i => i ≤ l.length ∧ (l.take i).all (fun x => decide (x = c ∨ x = 0)) = true) (fun i => l.length - i) 0 rfl rfl rfl rfl (fun _ _ => ⟨rfl, rfl⟩) rfl ⟨by omega, rfl⟩ ?_
  repeat' first
    | refine st ?_
    | ((with_reducible apply go_i); (conv => whnf))
    | (with_reducible apply k_d <;> intro _)
    | (with_reducible apply k_b <;> intro _)
  intro i ⟨h2, h3⟩
  cases hx : l[i]? with
  | some x =>
    have hlt := (List.getElem?_eq_some_iff.1 hx).1
    have hg := eIs_get hx
    by_cases hk : x = c
    · repeat' first
        | refine st ?_
        | ((with_reducible apply go_i); (conv => whnf))
        | (with_reducible apply k_d <;> intro _)
        | (with_reducible apply k_b <;> intro _)
      refine ⟨i + 1, rfl, rfl, rfl, by omega, by omega, ?_⟩
      rw [all_take_succ hx, h3, decide_eq_true (show x = c ∨ x = 0 from .inl hk)]; rfl
    · by_cases hk0 : x = 0
      · repeat' first
          | refine st ?_
          | ((with_reducible apply go_i); (conv => whnf))
          | (with_reducible apply k_d <;> intro _)
          | (with_reducible apply k_b <;> intro _)
        refine ⟨i + 1, rfl, rfl, rfl, by omega, by omega, ?_⟩
        rw [all_take_succ hx, h3, decide_eq_true (show x = c ∨ x = 0 from .inr hk0)]; rfl
      · repeat' first
          | refine st ?_
          | ((with_reducible apply go_i); (conv => whnf))
          | (with_reducible apply k_d <;> intro _)
          | (with_reducible apply k_b <;> intro _)
        rw [allK, all_none hx (decide_eq_false (show ¬ (x = c ∨ x = 0) by omega))]
  | none =>
    have hge := List.getElem?_eq_none_iff.1 hx
    rw [List.take_of_length_le hge] at h3
    repeat' first
      | refine st ?_
      | ((with_reducible apply go_i); (conv => whnf))
      | (with_reducible apply k_d <;> intro _)
      | (with_reducible apply k_b <;> intro _)
    rw [allK, h3]
end Go.Proofs
end
