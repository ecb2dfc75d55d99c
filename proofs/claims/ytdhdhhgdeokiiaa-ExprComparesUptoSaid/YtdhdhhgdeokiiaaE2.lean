/- Comparisons of values and truth values: the program's and the reference's alike. No condition. -/
import Derived.Test.YtdhdhhgdeokiiaaE1
set_option linter.unusedSimpArgs false
set_option linter.unusedVariables false
set_option maxRecDepth 10000
set_option maxHeartbeats 4000000
namespace Go.Proofs
open Go.Bi

theorem cmpI_eq {a b : Int} : cmpI a b = 0 ↔ a = b := by unfold cmpI; split <;> (try split) <;> omega
theorem cmpB_less : ∀ (a b : List UInt8), Op.bytesLess a b = decide (cmpB a b < 0) ∧ Op.bytesLess b a = decide (0 < cmpB a b) ∧ (cmpB a b = 0 ↔ a = b) ∧ (cmpB a b = -1 ∨ cmpB a b = 0 ∨ cmpB a b = 1)
  | [], [] => by simp [Op.bytesLess, cmpB, Lib.compareBytes]
  | [], _ :: _ => by simp [Op.bytesLess, cmpB, Lib.compareBytes]
  | _ :: _, [] => by simp [Op.bytesLess, cmpB, Lib.compareBytes]
  | x :: a, y :: b => by
    obtain ⟨h1, h2, h3, h4⟩ := cmpB_less a b
    simp only [Op.bytesLess, cmpB, Lib.compareBytes] at *
    by_cases hxy : x < y
    · have h5 : ¬ y < x := by intro h; exact absurd (UInt8.lt_trans hxy h) (UInt8.lt_irrefl x)
      have h6 : x ≠ y := by intro h; rw [h] at hxy; exact UInt8.lt_irrefl y hxy
      simp [hxy, h5, h6, Ne.symm h6]
    · by_cases hyx : y < x
      · have h6 : x ≠ y := by intro h; rw [h] at hyx; exact UInt8.lt_irrefl y hyx
        simp [hxy, hyx, h6, Ne.symm h6]
      · have h6 : x = y := UInt8.le_antisymm (UInt8.not_lt.1 hyx) (UInt8.not_lt.1 hxy)
        subst h6
        simp only [UInt8.lt_irrefl, decide_false, Bool.false_or, beq_self_eq_true, Bool.true_and, if_false, h1, h2, List.cons.injEq, true_and]
        exact ⟨h3, h4⟩
def vCmp (a b : Vl) : Int := or3 (cmpI a.k b.k) (cmpI a.n b.n) (cmpB a.s b.s)
theorem C.value_Compare (a b : Vl) : Pure Try.prog N.value_Compare [eV a, eV b] (.d (eI (vCmp a b))) := by
  refine F.value_Compare.go mixed rfl ?_
  repeat' first
    | refine st ?_
    | ((with_reducible apply go_i); (conv => whnf))
    | ((with_reducible apply k_pn); (· first | exact C.cmp_Compare _ _ | exact C.strings_Compare _ _ | exact C.cmp_Or _ _ _))
    | ((with_reducible apply k_pc); (· first | exact C.cmp_Compare _ _ | exact C.strings_Compare _ _ | exact C.cmp_Or _ _ _))
    | (with_reducible apply k_d <;> intro _)
    | (with_reducible apply k_b <;> intro _)
  all_goals rfl
def sgn (l g : Bool) : Int := if l then -1 else if g then 1 else 0
theorem C.r7_sign (l g : Bool) : Pure Try.prog N.bt_ref07_sign [.d (.bool l), .d (.bool g)] (.d (eI (sgn l g))) := by
  refine F.bt_ref07_sign.go mixed rfl ?_
  repeat' first
    | refine st ?_
    | ((with_reducible apply go_i); (conv => whnf))
    | (with_reducible apply k_d <;> intro _)
    | (with_reducible apply k_b <;> intro _)
  all_goals simp_all [sgn]
theorem C.r7_Compare (a b : Vl) : Pure Try.prog N.bt_ref07_Compare [eV a, eV b] (.d (eI (vCmp a b))) := by
  refine F.bt_ref07_Compare.go mixed rfl ?_
  repeat' first
    | refine st ?_
    | ((with_reducible apply go_i); (conv => whnf))
    | ((with_reducible apply k_pn); (· exact C.r7_sign _ _))
    | ((with_reducible apply k_pc); (· exact C.r7_sign _ _))
    | (with_reducible apply k_d <;> intro _)
    | (with_reducible apply k_b <;> intro _)
  · rename_i h1 h2
    have e1 := cmpI_eq.2 h1
    have e2 := cmpI_eq.2 h2
    obtain ⟨h3, h4, h5, h6⟩ := cmpB_less a.s b.s
    rw [vCmp, or3, e1, e2]
    simp only [h3, h4, sgn, decide_eq_true_eq]
    congr 2
    rcases h6 with h | h | h
    · rw [h]; rfl
    · rw [h, decide_eq_true (h5.1 h)]; rfl
    · have hne : decide (a.s = b.s) = false := decide_eq_false (fun e => by rw [h5.2 e] at h; cases h)
      rw [h, hne]; rfl
  · rename_i h1 h2
    have e1 := cmpI_eq.2 h1
    rw [vCmp, or3, e1, if_neg (by simp), if_pos (fun e => h2 (cmpI_eq.1 e)), sgn, cmpI]
    simp
  · rename_i h1
    rw [vCmp, or3, if_pos (fun e => h1 (cmpI_eq.1 e)), sgn, cmpI]
    simp
def vDec (a b : Vl) (is : Bool) : Int := if a.k = 0 ∨ a.k ≠ b.k then 1 else if is then 2 else 0
theorem C.value_decide (a b : Vl) (is : Bool) : Pure Try.prog N.value_decide [eV a, eV b, .d (.bool is)] (.d (eI (vDec a b is))) := by
  refine F.value_decide.go mixed rfl ?_
  repeat' first
    | refine st ?_
    | ((with_reducible apply go_i); (conv => whnf))
    | (with_reducible apply k_d <;> intro _)
    | (with_reducible apply k_b <;> intro _)
  all_goals simp_all [vDec]
theorem C.r7_truth (a b : Vl) (is : Bool) : Pure Try.prog N.bt_ref07_truth [eV a, eV b, .d (.bool is)] (.d (eI (vDec a b is))) := by
  refine F.bt_ref07_truth.go mixed rfl ?_
  repeat' first
    | refine st ?_
    | ((with_reducible apply go_i); (conv => whnf))
    | (with_reducible apply k_d <;> intro _)
    | (with_reducible apply k_b <;> intro _)
  all_goals simp_all [vDec]
def vEq (a b : Vl) : Int := vDec a b (decide (vCmp a b = 0))
def vLess (a b : Vl) : Int := vDec a b (decide (vCmp a b < 0))
theorem C.value_Equal (a b : Vl) : Pure Try.prog N.value_Equal [eV a, eV b] (.d (eI (vEq a b))) := by
  refine F.value_Equal.go mixed rfl ?_
  repeat' first
    | refine st ?_
    | ((with_reducible apply go_i); (conv => whnf))
    | ((with_reducible apply k_pn); (· first | exact C.value_Compare _ _ | exact C.value_decide _ _ _))
    | ((with_reducible apply k_pc); (· first | exact C.value_Compare _ _ | exact C.value_decide _ _ _))
    | (with_reducible apply k_d <;> intro _)
    | (with_reducible apply k_b <;> intro _)
  all_goals rfl
theorem C.r7_Equal (a b : Vl) : Pure Try.prog N.bt_ref07_Equal [eV a, eV b] (.d (eI (vEq a b))) := by
  refine F.bt_ref07_Equal.go mixed rfl ?_
  repeat' first
    | refine st ?_
    | ((with_reducible apply go_i); (conv => whnf))
    | ((with_reducible apply k_pn); (· first | exact C.r7_Compare _ _ | exact C.r7_truth _ _ _))
    | ((with_reducible apply k_pc); (· first | exact C.r7_Compare _ _ | exact C.r7_truth _ _ _))
    | (with_reducible apply k_d <;> intro _)
    | (with_reducible apply k_b <;> intro _)
  all_goals rfl
theorem C.value_Less (a b : Vl) : Pure Try.prog N.value_Less [eV a, eV b] (.d (eI (vLess a b))) := by
  refine F.value_Less.go mixed rfl ?_
  repeat' first
    | refine st ?_
    | ((with_reducible apply go_i); (conv => whnf))
    | ((with_reducible apply k_pn); (· first | exact C.value_Compare _ _ | exact C.value_decide _ _ _))
    | ((with_reducible apply k_pc); (· first | exact C.value_Compare _ _ | exact C.value_decide _ _ _))
    | (with_reducible apply k_d <;> intro _)
    | (with_reducible apply k_b <;> intro _)
  all_goals rfl
theorem C.r7_Less (a b : Vl) : Pure Try.prog N.bt_ref07_Less [eV a, eV b] (.d (eI (vLess a b))) := by
  refine F.bt_ref07_Less.go mixed rfl ?_
  repeat' first
    | refine st ?_
    | ((with_reducible apply go_i); (conv => whnf))
    | ((with_reducible apply k_pn); (· first | exact C.r7_Compare _ _ | exact C.r7_truth _ _ _))
    | ((with_reducible apply k_pc); (· first | exact C.r7_Compare _ _ | exact C.r7_truth _ _ _))
    | (with_reducible apply k_d <;> intro _)
    | (with_reducible apply k_b <;> intro _)
  all_goals rfl

/-! ### Truth values -/
def tNorm (t : Int) : Int := if t = 0 ∨ t = 2 then t else 1
theorem tNorm_is (t : Int) : tNorm t = 0 ∨ tNorm t = 1 ∨ tNorm t = 2 := by unfold tNorm; split <;> omega
theorem C.value_normal (t : Int) : Pure Try.prog N.value_normal [.d (eI t)] (.d (eI (tNorm t))) := by
  refine F.value_normal.go mixed rfl ?_
  repeat' first
    | refine st ?_
    | ((with_reducible apply go_i); (conv => whnf))
    | (with_reducible apply k_d <;> intro _)
    | (with_reducible apply k_b <;> intro _)
  all_goals simp_all [tNorm]
def tNot (t : Int) : Int := 2 - tNorm t
theorem C.value_Not (t : Int) : Pure Try.prog N.value_Not [.d (eI t)] (.d (eI (tNot t))) := by
  refine F.value_Not.go mixed rfl ?_
  have := tNorm_is t
  repeat' first
    | refine st ?_
    | ((with_reducible apply go_i); (conv => whnf))
    | ((with_reducible apply k_pn); (· exact C.value_normal _))
    | ((with_reducible apply k_pc); (· exact C.value_normal _))
    | (with_reducible apply k_d <;> intro _)
    | (with_reducible apply k_b <;> intro _)
  all_goals rfl
theorem C.r7_Not (t : Int) : Pure Try.prog N.bt_ref07_Not [.d (eI t)] (.d (eI (tNot t))) := by
  refine F.bt_ref07_Not.go mixed rfl ?_
  repeat' first
    | refine st ?_
    | ((with_reducible apply go_i); (conv => whnf))
    | (with_reducible apply k_d <;> intro _)
    | (with_reducible apply k_b <;> intro _)
  all_goals simp_all [tNot, tNorm]
def tAnd (a b : Int) : Int := min (min 2 (tNorm a)) (tNorm b)
def tOr (a b : Int) : Int := tNot (tAnd (tNot a) (tNot b))
theorem C.value_least (a b : Int) : Pure Try.prog N.value_least [.d (.sl [[eI a], [eI b]])] (.d (eI (tAnd a b))) := by
  refine F.value_least.go mixed rfl ?_
  repeat' first
    | refine st ?_
    | ((with_reducible apply go_i); (conv => whnf))
    | (with_reducible apply k_d <;> intro _)
    | (with_reducible apply k_b <;> intro _)
  refine x_loop2 mixed Lt.value_least_l0 Lk.value_least_l0 (fun (i : Nat) (t : Int) => [.d (eI t), .d (eI i)]) (fun i t => []) (fun i t => (i = 0 ∧ t = 2) ∨ (i = 1 ∧ t = min 2 (tNorm a)) ∨ (i = 2 ∧ t = tAnd a b)) (fun i _ => 2 - i) 0 2 rfl rfl rfl rfl (fun _ _ _ => ⟨rfl, rfl⟩) rfl (.inl ⟨rfl, rfl⟩) ?_
  repeat' first
    | refine st ?_
    | ((with_reducible apply go_i); (conv => whnf))
    | (with_reducible apply k_d <;> intro _)
    | (with_reducible apply k_b <;> intro _)
  intro i t h1
  have hl3 : ([[eI a], [eI b]] : List (List D)).length = 2 := rfl
  have hm : ∀ e ∈ ([[eI a], [eI b]] : List (List D)), e.length = 1 := by intro e he; simp at he; rcases he with rfl | rfl <;> rfl
  rcases h1 with ⟨rfl, rfl⟩ | ⟨rfl, rfl⟩ | ⟨rfl, rfl⟩
  · have hg : ([[eI a], [eI b]] : List (List D))[((0 : Nat) : Int).toNat]? = some [eI a] := rfl
    repeat' first
      | refine st ?_
      | ((with_reducible apply go_i); (conv => whnf))
      | ((with_reducible apply k_pn); (· exact C.value_normal _))
      | ((with_reducible apply k_pc); (· exact C.value_normal _))
      | (with_reducible apply k_d <;> intro _)
      | (with_reducible apply k_b <;> intro _)
    exact ⟨1, _, rfl, rfl, rfl, by omega, .inr (.inl ⟨rfl, rfl⟩)⟩
  · have hg : ([[eI a], [eI b]] : List (List D))[((1 : Nat) : Int).toNat]? = some [eI b] := rfl
    repeat' first
      | refine st ?_
      | ((with_reducible apply go_i); (conv => whnf))
      | ((with_reducible apply k_pn); (· exact C.value_normal _))
      | ((with_reducible apply k_pc); (· exact C.value_normal _))
      | (with_reducible apply k_d <;> intro _)
      | (with_reducible apply k_b <;> intro _)
    exact ⟨2, _, rfl, rfl, rfl, by omega, .inr (.inr ⟨rfl, rfl⟩)⟩
  · repeat' first
      | refine st ?_
      | ((with_reducible apply go_i); (conv => whnf))
      | (with_reducible apply k_d <;> intro _)
      | (with_reducible apply k_b <;> intro _)
theorem C.value_And (a b : Int) : Pure Try.prog N.value_And [.d (eI a), .d (eI b)] (.d (eI (tAnd a b))) := by
  refine F.value_And.go mixed rfl ?_
  repeat' first
    | refine st ?_
    | ((with_reducible apply go_i); (conv => whnf))
    | ((with_reducible apply k_pn); (· exact C.value_least _ _))
    | ((with_reducible apply k_pc); (· exact C.value_least _ _))
    | (with_reducible apply k_d <;> intro _)
    | (with_reducible apply k_b <;> intro _)
theorem C.value_Or (a b : Int) : Pure Try.prog N.value_Or [.d (eI a), .d (eI b)] (.d (eI (tOr a b))) := by
  refine F.value_Or.go mixed rfl ?_
  repeat' first
    | refine st ?_
    | ((with_reducible apply go_i); (conv => whnf))
    | ((with_reducible apply k_pn); (· first | exact C.value_Not _ | exact C.value_least _ _))
    | ((with_reducible apply k_pc); (· first | exact C.value_Not _ | exact C.value_least _ _))
    | (with_reducible apply k_d <;> intro _)
    | (with_reducible apply k_b <;> intro _)
  all_goals rfl
theorem C.r7_And (a b : Int) : Pure Try.prog N.bt_ref07_And [.d (eI a), .d (eI b)] (.d (eI (tAnd a b))) := by
  refine F.bt_ref07_And.go mixed rfl ?_
  repeat' first
    | refine st ?_
    | ((with_reducible apply go_i); (conv => whnf))
    | (with_reducible apply k_d <;> intro _)
    | (with_reducible apply k_b <;> intro _)
  all_goals (simp only [tAnd, tNorm, AV.d.injEq, D.int.injEq, true_and]; split <;> split <;> omega)
theorem C.r7_Or (a b : Int) : Pure Try.prog N.bt_ref07_Or [.d (eI a), .d (eI b)] (.d (eI (tOr a b))) := by
  refine F.bt_ref07_Or.go mixed rfl ?_
  have key : ∀ x y : Int, tOr x y = if x = 2 ∨ y = 2 then 2 else if x = 0 ∧ y = 0 then 0 else 1 := by
    intro x y
    by_cases x0 : x = 0 <;> by_cases x2 : x = 2 <;> by_cases y0 : y = 0 <;> by_cases y2 : y = 2 <;> simp [tOr, tAnd, tNot, tNorm, x0, x2, y0, y2] <;> omega
  rw [key]
  repeat' first
    | refine st ?_
    | ((with_reducible apply go_i); (conv => whnf))
    | (with_reducible apply k_d <;> intro _)
    | (with_reducible apply k_b <;> intro _)
  all_goals (simp only [AV.d.injEq, D.int.injEq, true_and]; (repeat' split) <;> omega)
def vTruth (v : Vl) : Int := if v = vBool true then 2 else if v = vBool false then 0 else 1
theorem vl_eq {v w : Vl} : v = w ↔ (v.k = w.k ∧ v.n = w.n ∧ v.s = w.s) := by cases v; cases w; simp
theorem vTruth_is (v : Vl) : vTruth v = if v.k = 3 ∧ v.n = 1 ∧ v.s = [] then 2 else if v.k = 3 ∧ v.n = 0 ∧ v.s = [] then 0 else 1 := by
  simp only [vTruth, vl_eq, vBool, if_true, Bool.false_eq_true, if_false]
theorem C.value_Truth (v : Vl) : Pure Try.prog N.value_Truth [eV v] (.d (eI (vTruth v))) := by
  refine F.value_Truth.go mixed rfl ?_
  rw [vTruth_is]
  repeat' first
    | refine st ?_
    | ((with_reducible apply go_i); (conv => whnf))
    | ((with_reducible apply k_pn); (· exact C.value_Bool _))
    | ((with_reducible apply k_pc); (· exact C.value_Bool _))
    | (with_reducible apply k_d <;> intro _)
    | (with_reducible apply k_b <;> intro _)
  all_goals (simp_all [vBool])
theorem C.r7_Truth (v : Vl) : Pure Try.prog N.bt_ref07_Truth [eV v] (.d (eI (vTruth v))) := by
  refine F.bt_ref07_Truth.go mixed rfl ?_
  rw [vTruth_is]
  repeat' first
    | refine st ?_
    | ((with_reducible apply go_i); (conv => whnf))
    | ((with_reducible apply k_pn); (· exact C.r7_Bool _))
    | ((with_reducible apply k_pc); (· exact C.r7_Bool _))
    | (with_reducible apply k_d <;> intro _)
    | (with_reducible apply k_b <;> intro _)
  all_goals (simp_all [vBool])
def vOf (t : Int) : Vl := if t = 2 then vBool true else if t = 0 then vBool false else vNull
theorem C.value_Of (t : Int) : Pure Try.prog N.value_Of [.d (eI t)] (eV (vOf t)) := by
  refine F.value_Of.go mixed rfl ?_
  repeat' first
    | refine st ?_
    | ((with_reducible apply go_i); (conv => whnf))
    | ((with_reducible apply k_pn); (· first | exact C.value_normal _ | exact C.value_Null | exact C.value_Bool _))
    | ((with_reducible apply k_pc); (· first | exact C.value_normal _ | exact C.value_Null | exact C.value_Bool _))
    | (with_reducible apply k_d <;> intro _)
    | (with_reducible apply k_b <;> intro _)
  all_goals (by_cases h0 : t = 0 <;> by_cases h2 : t = 2 <;> simp_all [tNorm, vOf, vNull, vBool])
theorem C.r7_Of (t : Int) : Pure Try.prog N.bt_ref07_Of [.d (eI t)] (eV (vOf t)) := by
  refine F.bt_ref07_Of.go mixed rfl ?_
  repeat' first
    | refine st ?_
    | ((with_reducible apply go_i); (conv => whnf))
    | ((with_reducible apply k_pn); (· first | exact C.r7_Null | exact C.r7_Bool _))
    | ((with_reducible apply k_pc); (· first | exact C.r7_Null | exact C.r7_Bool _))
    | (with_reducible apply k_d <;> intro _)
    | (with_reducible apply k_b <;> intro _)
  all_goals simp_all [vOf, vNull, vBool]

/-! ### Rows -/
def eVs (l : List Vl) : List (List D) := l.map Vl.ds
theorem eVs_len (l : List Vl) : (eVs l).length = l.length := by simp [eVs]
theorem eVs_get {l : List Vl} {i : Nat} {v : Vl} (h : l[i]? = some v) : (eVs l)[i]? = some v.ds := by simp [eVs, h]
theorem eVs_mem (l : List Vl) : ∀ e ∈ eVs l, e.length = 3 := by
  intro e he
  obtain ⟨x, _, rfl⟩ := List.mem_map.1 he
  rfl
def vAt (l : List Vl) (i : Int) : Vl := if i < 0 ∨ (l.length : Int) ≤ i then vNull else l.getD i.toNat vNull
theorem vAt_get {l : List Vl} {i : Int} (h : ¬ i < 0) (h2 : ¬ (l.length : Int) ≤ i) : l[i.toNat]? = some (vAt l i) := by
  rw [vAt, if_neg (by omega), List.getD_eq_getElem?_getD, List.getElem?_eq_getElem (by omega)]; rfl
theorem C.r8_At (l : List Vl) (hl : l.length ≤ 4611686018427387904) (d : D) (hd : SlD d (eVs l)) (i : Int) : Pure Try.prog N.bt_ref08_At [.d d, .d (eI i)] (eV (vAt l i)) := by
  refine F.bt_ref08_At.go mixed rfl ?_
  have h1 := eVs_len l
  have hm := eVs_mem l
  by_cases hi : i < 0
  · have e : vAt l i = vNull := if_pos (.inl hi)
    rw [e]
    repeat' first
      | refine st ?_
      | ((with_reducible apply go_i); (conv => whnf))
      | ((with_reducible apply k_pn); (· exact C.r7_Null))
      | ((with_reducible apply k_pc); (· exact C.r7_Null))
      | (with_reducible apply k_d <;> intro _)
      | (with_reducible apply k_b <;> intro _)
  · by_cases hi2 : (l.length : Int) ≤ i
    · have e : vAt l i = vNull := if_pos (.inr hi2)
      rw [e]
      repeat' first
        | refine st ?_
        | ((with_reducible apply go_i); (conv => whnf))
        | ((with_reducible apply k_pn); (· exact C.r7_Null))
        | ((with_reducible apply k_pc); (· exact C.r7_Null))
        | (with_reducible apply k_d <;> intro _)
        | (with_reducible apply k_b <;> intro _)
    · have hg := eVs_get (vAt_get hi hi2)
      repeat' first
        | refine st ?_
        | ((with_reducible apply go_i); (conv => whnf))
        | (with_reducible apply k_d <;> intro _)
        | (with_reducible apply k_b <;> intro _)
theorem C.tuple_at (l : List Vl) (hl : l.length ≤ 4611686018427387904) (d : D) (hd : SlD d (eVs l)) (i : Int) : Pure Try.prog N.tuple_at [.d d, .d (eI i)] (eV (vAt l i)) := by
  refine F.tuple_at.go mixed rfl ?_
  have h1 := eVs_len l
  have hm := eVs_mem l
  by_cases hi : i < 0
  · have e : vAt l i = vNull := if_pos (.inl hi)
    rw [e]
    repeat' first
      | refine st ?_
      | ((with_reducible apply go_i); (conv => whnf))
      | ((with_reducible apply k_pn); (· exact C.value_Null))
      | ((with_reducible apply k_pc); (· exact C.value_Null))
      | (with_reducible apply k_d <;> intro _)
      | (with_reducible apply k_b <;> intro _)
  · by_cases hi2 : (l.length : Int) ≤ i
    · have e : vAt l i = vNull := if_pos (.inr hi2)
      rw [e]
      repeat' first
        | refine st ?_
        | ((with_reducible apply go_i); (conv => whnf))
        | ((with_reducible apply k_pn); (· exact C.value_Null))
        | ((with_reducible apply k_pc); (· exact C.value_Null))
        | (with_reducible apply k_d <;> intro _)
        | (with_reducible apply k_b <;> intro _)
    · have hg := eVs_get (vAt_get hi hi2)
      repeat' first
        | refine st ?_
        | ((with_reducible apply go_i); (conv => whnf))
        | (with_reducible apply k_d <;> intro _)
        | (with_reducible apply k_b <;> intro _)
theorem C.tuple_Pick1 (l : List Vl) (hl : l.length ≤ 4611686018427387904) (d : D) (hd : SlD d (eVs l)) (i : Int) : Pure Try.prog N.tuple_Pick [.d d, .d (.sl [[eI i]])] (.d (.sl [(vAt l i).ds])) := by
  refine F.tuple_Pick.go mixed rfl ?_
  have hA := C.tuple_at l hl d hd i
  repeat' first
    | refine st ?_
    | ((with_reducible apply go_i); (conv => whnf))
    | (with_reducible apply k_d <;> intro _)
    | (with_reducible apply k_b <;> intro _)
  refine x_loop2 mixed Lt.tuple_Pick_l0 Lk.tuple_Pick_l0 (fun (i : Nat) (es : List (List D)) => [.arr 0 es.length, .d (eI i)]) (fun i es => [.arr es 3 0 false]) (fun k es => (k = 0 ∧ es = []) ∨ (k = 1 ∧ es = [(vAt l i).ds])) (fun i _ => 1 - i) 0 [] rfl rfl rfl rfl (fun _ _ _ => ⟨rfl, rfl⟩) rfl (.inl ⟨rfl, rfl⟩) ?_
  repeat' first
    | refine st ?_
    | ((with_reducible apply go_i); (conv => whnf))
    | (with_reducible apply k_d <;> intro _)
    | (with_reducible apply k_b <;> intro _)
  intro k es h1
  have hl3 : ([[eI i]] : List (List D)).length = 1 := rfl
  have hm : ∀ e ∈ ([[eI i]] : List (List D)), e.length = 1 := by intro e he; simp at he; rcases he with rfl; rfl
  rcases h1 with ⟨rfl, rfl⟩ | ⟨rfl, rfl⟩
  · have hg : ([[eI i]] : List (List D))[((0 : Nat) : Int).toNat]? = some [eI i] := rfl
    repeat' first
      | refine st ?_
      | ((with_reducible apply go_i); (conv => whnf))
      | ((with_reducible apply k_pn); (· exact hA))
      | ((with_reducible apply k_pc); (· exact hA))
      | (with_reducible apply k_d <;> intro _)
      | (with_reducible apply k_b <;> intro _)
    exact ⟨1, _, rfl, rfl, rfl, by omega, .inr ⟨rfl, rfl⟩⟩
  · repeat' first
      | refine st ?_
      | ((with_reducible apply go_i); (conv => whnf))
      | (with_reducible apply k_d <;> intro _)
      | (with_reducible apply k_b <;> intro _)
    rfl
end Go.Proofs
