/- Texts of this claim, joined. No condition. -/
import Derived.Test.YthikjlgebokooaaIc0
section
/- The contracts of the sets of relations, of relations and their names. No condition. -/
set_option linter.unusedSimpArgs false
set_option maxRecDepth 10000
set_option maxHeartbeats 4000000
namespace Go.Proofs
open Go.Bi

abbrev eI (n : Int) : D := .int .i64 n
abbrev eU (n : Int) : D := .int .u16 n
abbrev eP (a b : Int) : AV := .agg [.d (eI a), .d (eI b)]
/-- A set of relations. -/
abbrev eS (s : Int) : AV := .agg [.d (eU s)]
def sOr (a b : Int) : Int := IntKind.u16.wrap (BitVec.ofInt IntKind.u16.bits a ||| BitVec.ofInt IntKind.u16.bits b).toNat
def sAnd (a b : Int) : Int := IntKind.u16.wrap (BitVec.ofInt IntKind.u16.bits a &&& BitVec.ofInt IntKind.u16.bits b).toNat
def sOne (r : Int) : Int := IntKind.u16.wrap (1 * 2 ^ (min (IntKind.u64.wrap r).toNat IntKind.u16.bits))
def sHas (s r : Int) : Bool := decide (sAnd (s.fdiv (2 ^ (min (IntKind.u64.wrap r).toNat IntKind.u16.bits))) 1 = 1)
def isRel (n : Int) : Bool := decide (0 ≤ n ∧ n < 13)
theorem C.allen_exists (n : Int) : Pure Try.prog N.allen_exists [.d (.int .i64 n)] (.d (.bool (isRel n))) := by
  refine F.allen_exists.go mixed rfl ?_
  repeat' first
    | refine st ?_
    | ((with_reducible apply go_i); (conv => whnf))
    | (with_reducible apply k_d <;> intro _)
    | (with_reducible apply k_b <;> intro _)
  all_goals (simp_all [isRel] <;> omega)
theorem C.allen_set_or (a b : Int) : Pure Try.prog N.allen_set_or [eS a, eS b] (eS (sOr a b)) := by
  refine F.allen_set_or.go mixed rfl ?_
  repeat' first
    | refine st ?_
    | ((with_reducible apply go_i); (conv => whnf))
    | (with_reducible apply k_d <;> intro _)
    | (with_reducible apply k_b <;> intro _)
  all_goals rfl
theorem C.allen_set_and (a b : Int) : Pure Try.prog N.allen_set_and [eS a, eS b] (eS (sAnd a b)) := by
  refine F.allen_set_and.go mixed rfl ?_
  repeat' first
    | refine st ?_
    | ((with_reducible apply go_i); (conv => whnf))
    | (with_reducible apply k_d <;> intro _)
    | (with_reducible apply k_b <;> intro _)
  all_goals rfl
theorem C.allen_one (r : Int) : Pure Try.prog N.allen_one [.d (eI r)] (eS (sOne r)) := by
  refine F.allen_one.go mixed rfl ?_
  repeat' first
    | refine st ?_
    | ((with_reducible apply go_i); (conv => whnf))
    | (with_reducible apply k_d <;> intro _)
    | (with_reducible apply k_b <;> intro _)
  all_goals rfl
theorem C.allen_full : Pure Try.prog N.allen_full [] (eS 8191) := by
  refine F.allen_full.go mixed rfl ?_
  repeat' first
    | refine st ?_
    | ((with_reducible apply go_i); (conv => whnf))
    | (with_reducible apply k_d <;> intro _)
    | (with_reducible apply k_b <;> intro _)
  all_goals rfl
theorem C.allen_set_has (s r : Int) : Pure Try.prog N.allen_set_has [eS s, .d (eI r)] (.d (.bool (sHas s r))) := by
  refine F.allen_set_has.go mixed rfl ?_
  repeat' first
    | refine st ?_
    | ((with_reducible apply go_i); (conv => whnf))
    | (with_reducible apply k_d <;> intro _)
    | (with_reducible apply k_b <;> intro _)
  all_goals rfl

def sUpto (s : Int) (n : Nat) : List Int := ((List.range n).map fun (k : Nat) => (k : Int)).filter (sHas s)
def sList (s : Int) : List Int := sUpto s 13
def eIs (l : List Int) : List (List D) := l.map fun r => [eI r]
def eL (l : List Int) : D := nsl (eIs l)
theorem sUpto_succ (s : Int) (i : Nat) : sUpto s (i + 1) = if sHas s i then sUpto s i ++ [(i : Int)] else sUpto s i := by
  unfold sUpto
  rw [List.range_succ, List.map_append, List.filter_append]
  simp only [List.map_cons, List.map_nil, List.filter_cons, List.filter_nil]
  split <;> simp
theorem sUpto_len (s : Int) (n : Nat) : (sUpto s n).length ≤ n := by
  unfold sUpto
  exact Nat.le_trans (List.length_filter_le _ _) (by simp)
theorem nsl_cnd {es : List (List D)} {nl : Bool} (h : nl = es.isEmpty) : CnD nl .nil (.sl es) = nsl es := by
  subst h
  cases es <;> rfl
theorem C.allen_set_list (s : Int) : Pure Try.prog N.allen_set_list [eS s] (.d (eL (sList s))) := by
  refine F.allen_set_list.go mixed rfl ?_
  repeat' first
    | refine st ?_
    | ((with_reducible apply go_i); (conv => whnf))
    | (with_reducible apply k_d <;> intro _)
    | (with_reducible apply k_b <;> intro _)
  refine x_nil 3 1 rfl rfl ?_
  repeat' first
    | refine st ?_
    | ((with_reducible apply go_i); (conv => whnf))
    | (with_reducible apply k_d <;> intro _)
    | (with_reducible apply k_b <;> intro _)
  refine x_loop3 mixed [3, 5] [1] (fun (i : Nat) (es : List (List D)) (nl : Bool) => [.arr 1 es.length, .d (eI i)]) (fun i es nl => [.cells [.d (eU s)], .arr es 1 0 nl]) (fun i es nl => i ≤ 13 ∧ es = eIs (sUpto s i) ∧ nl = es.isEmpty) (fun i _ _ => (13 - i)) 0 [] true rfl rfl rfl rfl (fun _ _ _ _ => ⟨rfl, rfl⟩) rfl ⟨by omega, rfl, rfl⟩ ?_
  repeat' first
    | refine st ?_
    | ((with_reducible apply go_i); (conv => whnf))
    | (with_reducible apply k_d <;> intro _)
    | (with_reducible apply k_b <;> intro _)
  intro i es nl ⟨h1, h2, h3⟩
  have hl : es.length ≤ 13 := by rw [h2]; simp [eIs]; exact Nat.le_trans (sUpto_len _ _) h1
  repeat' first
    | refine st ?_
    | ((with_reducible apply go_i); (conv => whnf))
    | ((with_reducible apply k_pn); (· exact C.allen_set_has _ _))
    | ((with_reducible apply k_pc); (· exact C.allen_set_has _ _))
    | (with_reducible apply k_d <;> intro _)
    | (with_reducible apply k_b <;> intro _)
  · refine ⟨i + 1, _, _, rfl, rfl, rfl, by omega, by omega, ?_, ?_⟩
    · rw [sUpto_succ, if_pos (by assumption), h2]; simp [eIs]
    · simp
  · refine ⟨i + 1, _, _, rfl, rfl, rfl, by omega, by omega, ?_, h3⟩
    rw [sUpto_succ, if_neg (by simp [*]), h2]
  · have : i = 13 := by omega
    subst this
    rw [nsl_cnd h3, h2]; rfl

def valid (a b : Int) : Bool := decide (0 ≤ a ∧ a < b ∧ b ≤ 1099511627776)
theorem C.period_Valid (a b : Int) : Pure Try.prog N.period_Valid [eP a b] (.d (.bool (valid a b))) := by
  refine F.period_Valid.go mixed rfl ?_
  repeat' first
    | refine st ?_
    | ((with_reducible apply go_i); (conv => whnf))
    | (with_reducible apply k_d <;> intro _)
    | (with_reducible apply k_b <;> intro _)
  all_goals (simp_all [valid] <;> omega)
def rel (a b c d : Int) : Int × Bool :=
  if valid a b && valid c d then
    (if b < c then 0 else if b = c then 1 else if d < a then 12 else if d = a then 11 else if a = c ∧ b = d then 6
    else if a = c ∧ b < d then 3 else if a = c then 9 else if b = d ∧ a > c then 5 else if b = d then 7 else if a < c ∧ d < b then 8 else if c < a ∧ b < d then 4 else if a < c then 2 else 10, true)
  else (0, false)
theorem C.allen_Relation (a b c d : Int) : Pure Try.prog N.allen_Relation [eP a b, eP c d] (.tup [.d (.int .i64 (rel a b c d).1), .d (.bool (rel a b c d).2)]) := by
  refine F.allen_Relation.go mixed rfl ?_
  repeat' first
    | refine st ?_
    | ((with_reducible apply go_i); (conv => whnf))
    | ((with_reducible apply k_pn); (· exact C.period_Valid _ _))
    | ((with_reducible apply k_pc); (· exact C.period_Valid _ _))
    | (with_reducible apply k_d <;> intro _)
    | (with_reducible apply k_b <;> intro _)
  all_goals simp_all [rel]
  all_goals (repeat' split) <;> omega
def inv (r : Int) : Int := if 0 ≤ r ∧ r < 13 then 12 - r else -1
theorem C.allen_Inverse (r : Int) : Pure Try.prog N.allen_Inverse [.d (eI r)] (.d (eI (inv r))) := by
  refine F.allen_Inverse.go mixed rfl ?_
  repeat' first
    | refine st ?_
    | ((with_reducible apply go_i); (conv => whnf))
    | ((with_reducible apply k_pn); (· exact C.allen_exists _))
    | ((with_reducible apply k_pc); (· exact C.allen_exists _))
    | (with_reducible apply k_d <;> intro _)
    | (with_reducible apply k_b <;> intro _)
  · simp_all [inv]
  · rename_i h1 h2
    refine x_loop1 mixed [22] [0, 21] (fun (i : Nat) => [.d (eI i)]) (fun i => [.cells [.d (eI 0), .d (eI 12), .d (eI 1), .d (eI 11), .d (eI 2), .d (eI 10), .d (eI 3), .d (eI 9), .d (eI 4), .d (eI 8), .d (eI 5), .d (eI 7)]]) (fun i => i ≤ 6 ∧ ∀ j : Nat, j < i → r ≠ j ∧ r ≠ 12 - j) (fun i => 6 - i) 0 rfl rfl rfl rfl (fun _ _ => ⟨rfl, rfl⟩) rfl ⟨by omega, by omega⟩ ?_
    repeat' first
      | refine st ?_
      | ((with_reducible apply go_i); (conv => whnf))
      | (with_reducible apply k_d <;> intro _)
      | (with_reducible apply k_b <;> intro _)
    intro i ⟨h3, h4⟩
    have h5 : 0 ≤ r ∧ r < 13 := by simpa [isRel] using h1
    by_cases h6 : i < 6
    · have hg : (([.d (eI 0), .d (eI 12), .d (eI 1), .d (eI 11), .d (eI 2), .d (eI 10), .d (eI 3), .d (eI 9), .d (eI 4), .d (eI 8), .d (eI 5), .d (eI 7)] : List AV).drop ((i : Int).toNat * 2)).take 2 = [.d (eI i), .d (eI (12 - i))] := by
        rcases (show i = 0 ∨ i = 1 ∨ i = 2 ∨ i = 3 ∨ i = 4 ∨ i = 5 by omega) with rfl | rfl | rfl | rfl | rfl | rfl <;> rfl
      repeat' first
        | refine st ?_
        | ((with_reducible apply go_i); (conv => whnf))
        | (with_reducible apply k_d <;> intro _)
        | (with_reducible apply k_b <;> intro _)
      · simp only [inv, AV.d.injEq, D.int.injEq, true_and]; omega
      · simp only [inv, AV.d.injEq, D.int.injEq, true_and]; omega
      · refine ⟨i + 1, rfl, rfl, rfl, by omega, by omega, fun j hj => ?_⟩
        rcases Nat.lt_succ_iff_lt_or_eq.1 hj with h | rfl
        · exact h4 j h
        · omega
    · repeat' first
        | refine st ?_
        | ((with_reducible apply go_i); (conv => whnf))
        | (with_reducible apply k_d <;> intro _)
        | (with_reducible apply k_b <;> intro _)
      exfalso
      have a0 := h4 0 (by omega)
      have a1 := h4 1 (by omega)
      have a2 := h4 2 (by omega)
      have a3 := h4 3 (by omega)
      have a4 := h4 4 (by omega)
      have a5 := h4 5 (by omega)
      omega
  · simp_all [isRel, inv]; omega

def sInvL (l : List Int) : Int := l.foldl (fun o r => sOr o (sOne (inv r))) 0
def sInv (s : Int) : Int := sInvL (sList s)
theorem foldl_take_succ {α β : Type} (f : β → α → β) (b : β) (l : List α) (i : Nat) (x : α) (h : l[i]? = some x) : (l.take (i + 1)).foldl f b = f ((l.take i).foldl f b) x := by
  rw [List.take_add_one, h]; simp
theorem eIs_get {l : List Int} {i : Nat} {r : Int} (h : l[i]? = some r) : (eIs l)[i]? = some [eI r] := by simp [eIs, h]
theorem eIs_len (l : List Int) : (eIs l).length = l.length := by simp [eIs]
theorem C.allen_set_inverse (s : Int) : Pure Try.prog N.allen_set_inverse [eS s] (eS (sInv s)) := by
  refine F.allen_set_inverse.go mixed rfl ?_
  repeat' first
    | refine st ?_
    | ((with_reducible apply go_i); (conv => whnf))
    | ((with_reducible apply k_pn); (· exact C.allen_set_list _))
    | ((with_reducible apply k_pc); (· exact C.allen_set_list _))
    | (with_reducible apply k_d <;> intro _)
    | (with_reducible apply k_b <;> intro _)
  have hl2 := eIs_len (sList s)
  have hb : (sList s).length ≤ 13 := sUpto_len s 13
  refine x_loop2 mixed [9] [2, 3, 7, 8] (fun (i : Nat) (o : Int) => [.d (eI i)]) (fun i o => [.cells [.d (eU s)], .cells [.d (eU 0)], .cells [.d (eU o)]]) (fun i o => i ≤ (sList s).length ∧ o = sInvL ((sList s).take i)) (fun i _ => (sList s).length - i) 0 0 rfl rfl rfl rfl (fun _ _ _ => ⟨rfl, rfl⟩) rfl ⟨by omega, rfl⟩ ?_
  repeat' first
    | refine st ?_
    | ((with_reducible apply go_i); (conv => whnf))
    | (with_reducible apply k_d <;> intro _)
    | (with_reducible apply k_b <;> intro _)
  intro i o ⟨h1, h2⟩
  cases hx : (sList s)[i]? with
  | some r =>
    have hlt := (List.getElem?_eq_some_iff.1 hx).1
    have he := eIs_get hx
    repeat' first
      | refine st ?_
      | ((with_reducible apply go_i); (conv => whnf))
      | ((with_reducible apply k_pn); (· first | exact C.allen_Inverse _ | exact C.allen_one _ | exact C.allen_set_or _ _))
      | ((with_reducible apply k_pc); (· first | exact C.allen_Inverse _ | exact C.allen_one _ | exact C.allen_set_or _ _))
      | (with_reducible apply k_d <;> intro _)
      | (with_reducible apply k_b <;> intro _)
    refine ⟨i + 1, _, rfl, rfl, rfl, by omega, by omega, ?_⟩
    rw [sInvL, foldl_take_succ _ _ _ _ _ hx, h2]; rfl
  | none =>
    have hge := List.getElem?_eq_none_iff.1 hx
    repeat' first
      | refine st ?_
      | ((with_reducible apply go_i); (conv => whnf))
      | (with_reducible apply k_d <;> intro _)
      | (with_reducible apply k_b <;> intro _)
    rw [h2, List.take_of_length_le hge]; rfl

def sOfL (l : List Int) : Int := l.foldl (fun o r => sOr o (sOne r)) 0
def allEx (l : List Int) : Bool := l.all isRel
def sOf (l : List Int) : Int × Bool := if allEx l then (sOfL l, true) else (0, false)
theorem allEx_take_succ {l : List Int} {i : Nat} {x : Int} (h : l[i]? = some x) : allEx (l.take (i + 1)) = (allEx (l.take i) && isRel x) := by
  simp only [allEx, List.take_add_one, h, List.all_append, Option.toList, List.all_cons, List.all_nil, Bool.and_true]
theorem allEx_none {l : List Int} {i : Nat} {x : Int} (h : l[i]? = some x) (hx : isRel x = false) : allEx l = false := by
  unfold allEx
  rw [Bool.eq_false_iff]
  intro ha
  rw [List.all_eq_true.1 ha x (List.mem_of_getElem? h)] at hx
  cases hx
theorem C.allen_of (l : List Int) (d : D) (hd : SlD d (eIs l)) (hb : l.length ≤ 9223372036854775807) : Pure Try.prog N.allen_of [.d d] (.tup [eS (sOf l).1, .d (.bool (sOf l).2)]) := by
  refine F.allen_of.go mixed rfl ?_
  have hl2 := eIs_len l
  repeat' first
    | refine st ?_
    | ((with_reducible apply go_i); (conv => whnf))
    | (with_reducible apply k_d <;> intro _)
    | (with_reducible apply k_b <;> intro _)
  refine x_loop2 mixed [9] [2, 4, 7, 8] (fun (i : Nat) (o : Int) => [.d (eI i)]) (fun i o => [.cells [.d (eU 0)], .cells [.d (eU o)]]) (fun i o => i ≤ l.length ∧ allEx (l.take i) = true ∧ o = sOfL (l.take i)) (fun i _ => l.length - i) 0 0 rfl rfl rfl rfl (fun _ _ _ => ⟨rfl, rfl⟩) rfl ⟨by omega, rfl, rfl⟩ ?_
  repeat' first
    | refine st ?_
    | ((with_reducible apply go_i); (conv => whnf))
    | (with_reducible apply k_d <;> intro _)
    | (with_reducible apply k_b <;> intro _)
  intro i o ⟨h1, h2, h3⟩
  cases hx : l[i]? with
  | some r =>
    have hlt := (List.getElem?_eq_some_iff.1 hx).1
    have he := eIs_get hx
    repeat' first
      | refine st ?_
      | ((with_reducible apply go_i); (conv => whnf))
      | ((with_reducible apply k_pn); (· first | exact C.allen_exists _ | exact C.allen_one _ | exact C.allen_set_or _ _))
      | ((with_reducible apply k_pc); (· first | exact C.allen_exists _ | exact C.allen_one _ | exact C.allen_set_or _ _))
      | (with_reducible apply k_d <;> intro _)
      | (with_reducible apply k_b <;> intro _)
    · rename_i hr
      refine ⟨i + 1, _, rfl, rfl, rfl, by omega, by omega, ?_, ?_⟩
      · rw [allEx_take_succ hx, h2, hr]; rfl
      · rw [sOfL, foldl_take_succ _ _ _ _ _ hx, h3]; rfl
    · rename_i hr
      have := allEx_none hx hr
      simp [sOf, this]
  | none =>
    have hge := List.getElem?_eq_none_iff.1 hx
    repeat' first
      | refine st ?_
      | ((with_reducible apply go_i); (conv => whnf))
      | (with_reducible apply k_d <;> intro _)
      | (with_reducible apply k_b <;> intro _)
    rw [List.take_of_length_le hge] at h2 h3
    simp [sOf, h2, h3]

def nameL : List (List UInt8) := [[66, 69, 70, 79, 82, 69], [77, 69, 69, 84, 83], [79, 86, 69, 82, 76, 65, 80, 83], [83, 84, 65, 82, 84, 83], [68, 85, 82, 73, 78, 71], [70, 73, 78, 73, 83, 72, 69, 83], [69, 81, 85, 65, 76, 83], [70, 73, 78, 73, 83, 72, 69, 68, 66, 89], [67, 79, 78, 84, 65, 73, 78, 83], [83, 84, 65, 82, 84, 69, 68, 66, 89], [79, 86, 69, 82, 76, 65, 80, 80, 69, 68, 66, 89], [77, 69, 84, 66, 89], [65, 70, 84, 69, 82]]
theorem C.allen_names : Pure Try.prog N.allen_names [] (.agg (nameL.map fun s => .d (.str s))) := by
  refine F.allen_names.go mixed rfl ?_
  repeat' first
    | refine st ?_
    | ((with_reducible apply go_i); (conv => whnf))
    | (with_reducible apply k_d <;> intro _)
    | (with_reducible apply k_b <;> intro _)
  all_goals rfl
def name (r : Int) : List UInt8 := if isRel r then nameL.getD r.toNat [] else []
theorem nameL_get {i : Nat} (h : i < 13) : (nameL.map fun s => AV.d (.str s))[i]? = some (.d (.str (nameL.getD i []))) := by
  have : i < nameL.length := by simpa [nameL] using h
  simp [this]
theorem C.allen_Name (r : Int) : Pure Try.prog N.allen_Name [.d (eI r)] (.d (.str (name r))) := by
  refine F.allen_Name.go mixed rfl ?_
  by_cases h : isRel r = true
  · have h' : 0 ≤ r ∧ r < 13 := by simpa [isRel] using h
    have hg := nameL_get (show r.toNat < 13 by omega)
    repeat' first
      | refine st ?_
      | ((with_reducible apply go_i); (conv => whnf))
      | ((with_reducible apply k_pn); (· first | exact C.allen_exists _ | exact C.allen_names))
      | ((with_reducible apply k_pc); (· first | exact C.allen_exists _ | exact C.allen_names))
      | (with_reducible apply k_d <;> intro _)
      | (with_reducible apply k_b <;> intro _)
    simp [name, h]
  · repeat' first
      | refine st ?_
      | ((with_reducible apply go_i); (conv => whnf))
      | ((with_reducible apply k_pn); (· first | exact C.allen_exists _ | exact C.allen_names))
      | ((with_reducible apply k_pc); (· first | exact C.allen_exists _ | exact C.allen_names))
      | (with_reducible apply k_d <;> intro _)
      | (with_reducible apply k_b <;> intro _)
    · exact absurd (by assumption) h
    · simp [name, h]
def find (s : List UInt8) : Int := match nameL.idxOf? s with
  | some i => i
  | none => -1
theorem find_ge (s : List UInt8) : -1 ≤ find s ∧ find s < 13 := by
  unfold find
  split
  · rename_i i h
    have : i < nameL.length := (List.idxOf?_eq_some_iff.1 h).1
    simp [nameL] at this
    omega
  · omega
end Go.Proofs
end
section
/- The contract of the table of compositions. No condition. -/
set_option linter.unusedSimpArgs false
set_option maxRecDepth 10000
set_option maxHeartbeats 4000000
namespace Go.Proofs
open Go.Bi

/-- A period's cells. -/
def eQ (p : Int × Int) : List D := [eI p.1, eI p.2]
def eQs (l : List (Int × Int)) : List (List D) := l.map eQ
def perPart (i t : Nat) : List (Int × Int) := (List.range (t - i - 1)).map fun k => ((i : Int), ((i + 1 + k : Nat) : Int))
def pers (n m : Nat) : List (Int × Int) := (List.range n).flatMap fun i => perPart i (m + 1)
theorem perPart_succ {i t : Nat} (h : i + 1 ≤ t) : perPart i (t + 1) = perPart i t ++ [((i : Int), (t : Int))] := by
  unfold perPart
  rw [show t + 1 - i - 1 = (t - i - 1) + 1 by omega, List.range_succ, List.map_append]
  simp only [List.map_cons, List.map_nil]
  rw [show i + 1 + (t - i - 1) = t by omega]
theorem pers_succ (n m : Nat) : pers (n + 1) m = pers n m ++ perPart n (m + 1) := by
  unfold pers; rw [List.range_succ, List.flatMap_append]; simp
theorem rel_range (a b c d : Int) : 0 ≤ (rel a b c d).1 ∧ (rel a b c d).1 < 13 := by
  by_cases h : (valid a b && valid c d) = true
  · rw [rel, if_pos h]
    dsimp only
    repeat' split
    all_goals omega
  · rw [rel, if_neg h]
    exact ⟨by decide, by decide⟩
def dU (tb : List Int) : List D := tb.map eU
def cU (tb : List Int) : List AV := (dU tb).map .d
def upd3 (tb : List Int) (a b c : Int) : List Int := tb.set (a.toNat * 13 + b.toNat) (sOr (tb.getD (a.toNat * 13 + b.toNat) 0) (sOne c))
def relQ (p q : Int × Int) : Int := (rel p.1 p.2 q.1 q.2).1
def rowR (l : List (Int × Int)) (p q : Int × Int) (tb : List Int) : List Int := l.foldl (fun tb r => upd3 tb (relQ p q) (relQ q r) (relQ p r)) tb
def rowQ (L : List (Int × Int)) (p : Int × Int) (l : List (Int × Int)) (tb : List Int) : List Int := l.foldl (fun tb q => rowR L p q tb) tb
def rowP (L : List (Int × Int)) (l : List (Int × Int)) (tb : List Int) : List Int := l.foldl (fun tb p => rowQ L p L tb) tb
def comps : List Int := rowP (pers 6 6) (pers 6 6) (List.replicate 169 0)
theorem rowR_succ {l : List (Int × Int)} {p q r : Int × Int} {tb : List Int} {i : Nat} (h : l[i]? = some r) : rowR (l.take (i + 1)) p q tb = upd3 (rowR (l.take i) p q tb) (relQ p q) (relQ q r) (relQ p r) := foldl_take_succ _ _ _ _ _ h
theorem rowQ_succ {L l : List (Int × Int)} {p q : Int × Int} {tb : List Int} {i : Nat} (h : l[i]? = some q) : rowQ L p (l.take (i + 1)) tb = rowR L p q (rowQ L p (l.take i) tb) := foldl_take_succ _ _ _ _ _ h
theorem rowP_succ {L l : List (Int × Int)} {p : Int × Int} {tb : List Int} {i : Nat} (h : l[i]? = some p) : rowP L (l.take (i + 1)) tb = rowQ L p L (rowP L (l.take i) tb) := foldl_take_succ _ _ _ _ _ h
theorem upd3_len (tb : List Int) (a b c : Int) : (upd3 tb a b c).length = tb.length := by simp [upd3]
theorem rowR_len (l : List (Int × Int)) (p q : Int × Int) (tb : List Int) : (rowR l p q tb).length = tb.length := by
  unfold rowR
  induction l generalizing tb with
  | nil => rfl
  | cons r l ih => rw [List.foldl_cons, ih, upd3_len]
theorem rowQ_len (L : List (Int × Int)) (p : Int × Int) (l : List (Int × Int)) (tb : List Int) : (rowQ L p l tb).length = tb.length := by
  unfold rowQ
  induction l generalizing tb with
  | nil => rfl
  | cons r l ih => rw [List.foldl_cons, ih, rowR_len]
theorem rowP_len (L : List (Int × Int)) (l : List (Int × Int)) (tb : List Int) : (rowP L l tb).length = tb.length := by
  unfold rowP
  induction l generalizing tb with
  | nil => rfl
  | cons r l ih => rw [List.foldl_cons, ih, rowQ_len]
theorem cU_one {tb : List Int} {n : Nat} (h : n < tb.length) : ((cU tb).drop n).take 1 = [.d (eU (tb.getD n 0))] := by
  unfold cU dU
  rw [← List.map_drop, ← List.map_take, ← List.map_drop, ← List.map_take, List.take_one]
  simp [h]
theorem cU_set {tb : List Int} {n : Nat} {s : Int} (h : n < tb.length) : setR (cU tb) n [.d (eU s)] = cU (tb.set n s) := by
  unfold setR cU dU
  simp only [List.length_cons, List.length_nil, Nat.zero_add]
  rw [List.set_eq_take_append_cons_drop, if_pos h]
  simp [List.map_take, List.map_drop]
theorem cU_len (tb : List Int) : (cU tb).length = tb.length := by simp [cU, dU]
theorem cU_bnd (m : Nat) (tb : List Int) : (cU tb).all (fun c => c.bnd1B m) = true := by simp [cU, AV.bnd1B]
theorem eQs_get {l : List (Int × Int)} {i : Nat} {p : Int × Int} (h : l[i]? = some p) : (eQs l)[i]? = some [eI p.1, eI p.2] := by simp [eQs, h, eQ]
theorem C.allen_compositions : Pure Try.prog N.allen_compositions [] (.agg (cU comps)) := by
  unfold comps
  refine F.allen_compositions.go mixed rfl ?_
  repeat' first
    | refine st ?_
    | ((with_reducible apply go_i); (conv => whnf))
    | (with_reducible apply k_d <;> intro _)
    | (with_reducible apply k_b <;> intro _)
  refine x_nil 1 2 rfl rfl ?_
  repeat' first
    | refine st ?_
    | ((with_reducible apply go_i); (conv => whnf))
    | (with_reducible apply k_d <;> intro _)
    | (with_reducible apply k_b <;> intro _)
  refine x_loop3 mixed [1, 17] [0] (fun (i : Nat) (es : List (List D)) (nl : Bool) => [.arr 1 es.length, .d (eI i)]) (fun i es nl => [.cells (List.replicate 169 (.d (eU 0))), .arr es 2 0 nl]) (fun i es nl => i ≤ 6 ∧ es = eQs (pers i 6) ∧ es.length ≤ 10 * i ∧ nl = es.isEmpty) (fun i _ _ => 6 - i) 0 [] true rfl rfl rfl rfl (fun _ _ _ _ => ⟨rfl, rfl⟩) rfl ⟨by omega, rfl, by simp, rfl⟩ ?_
  repeat' first
    | refine st ?_
    | ((with_reducible apply go_i); (conv => whnf))
    | (with_reducible apply k_d <;> intro _)
    | (with_reducible apply k_b <;> intro _)
  intro i es nl ⟨h1, h2, h3, h4⟩
  repeat' first
    | refine st ?_
    | ((with_reducible apply go_i); (conv => whnf))
    | (with_reducible apply k_d <;> intro _)
    | (with_reducible apply k_b <;> intro _)
  · refine x_loop3 mixed [1, 3] [0, 2, 17] (fun (t : Nat) (es : List (List D)) (nl : Bool) => [.arr 1 es.length, .d (eI t)]) (fun i es nl => [.cells (List.replicate 169 (.d (eU 0))), .arr es 2 0 nl]) (fun t es' nl => i + 1 ≤ t ∧ t ≤ 7 ∧ es' = es ++ eQs (perPart i t) ∧ es'.length + i + 1 ≤ 10 * i + t ∧ nl = es'.isEmpty) (fun t _ _ => 7 - t) (i + 1) es nl rfl rfl rfl rfl (fun _ _ _ _ => ⟨rfl, rfl⟩) rfl ⟨by omega, by omega, by simp [perPart, eQs], by omega, h4⟩ ?_
    repeat' first
      | refine st ?_
      | ((with_reducible apply go_i); (conv => whnf))
      | (with_reducible apply k_d <;> intro _)
      | (with_reducible apply k_b <;> intro _)
    intro t es' nl' ⟨k1, k2, k3, k4, k5⟩
    repeat' first
      | refine st ?_
      | ((with_reducible apply go_i); (conv => whnf))
      | (with_reducible apply k_d <;> intro _)
      | (with_reducible apply k_b <;> intro _)
    · refine ⟨t + 1, _, _, rfl, rfl, rfl, by omega, by omega, by omega, ?_, by simp; omega, by simp⟩
      rw [k3, perPart_succ k1]; simp [eQs, eQ]
    · have : t = 7 := by omega
      subst this
      refine ⟨i + 1, _, _, rfl, rfl, rfl, by omega, by omega, ?_, by omega, k5⟩
      rw [k3, h2, pers_succ]; simp [eQs]
  · have : i = 6 := by omega
    subst this
    have hL : (pers 6 6).length = 21 := by decide
    generalize pers 6 6 = PL at hL h2 ⊢
    have hes : es.length = 21 := by rw [h2]; simp [eQs, hL]
    obtain rfl : nl = false := by rw [h4]; cases es with
      | nil => simp at hes
      | cons a l => rfl
    have hz : cU (List.replicate 169 0) = (List.replicate 169 (eU 0)).map .d := rfl
    refine x_loop2 mixed [35] [0, 1, 4, 33, 34] (fun (i : Nat) (cs : List AV) => [.d (eI i)]) (fun i cs => [.cells ((List.replicate 169 (eU 0)).map .d), .arr es 2 0 false, .cells cs]) (fun i cs => i ≤ 21 ∧ cs = cU (rowP PL (PL.take i) (List.replicate 169 0))) (fun i _ => 21 - i) 0 _ rfl rfl rfl rfl (fun i cs h => ⟨rfl, ?_⟩) rfl ⟨by omega, rfl⟩ ?_
    · rw [h.2]; simp [AO.bndB, cU, AV.bnd1B]
    repeat' first
      | refine st ?_
      | ((with_reducible apply go_i); (conv => whnf))
      | (with_reducible apply k_d <;> intro _)
      | (with_reducible apply k_b <;> intro _)
    intro i cs ⟨k1, k2⟩
    have hl1 : cs.length = 169 := by rw [k2, cU_len, rowP_len]; rfl
    have hc1 : Nat.beq 169 cs.length = true := by rw [hl1]; rfl
    have hc2 : Nat.beq cs.length 169 = true := by rw [hl1]; rfl
    cases hx : PL[i]? with
    | some p =>
      have hlt := (List.getElem?_eq_some_iff.1 hx).1
      have hep := eQs_get hx
      rw [← h2] at hep
      repeat' first
        | refine st ?_
        | ((with_reducible apply go_i); (conv => whnf))
        | (with_reducible apply k_d <;> intro _)
        | (with_reducible apply k_b <;> intro _)
      refine x_loop2 mixed [41] [0, 1, 4, 6, 33, 34, 35, 39, 40] (fun (i : Nat) (cs : List AV) => [.d (eI i)]) (fun i cs => [.cells ((List.replicate 169 (eU 0)).map .d), .arr es 2 0 false, .cells cs, .cells [.d (eI p.1), .d (eI p.2)]]) (fun i2 cs => i2 ≤ 21 ∧ cs = cU (rowQ PL p (PL.take i2) (rowP PL (PL.take i) (List.replicate 169 0)))) (fun i _ => 21 - i) 0 _ rfl rfl rfl rfl (fun i cs h => ⟨rfl, ?_⟩) rfl ⟨by omega, k2⟩ ?_
      · rw [h.2]; simp [AO.bndB, cU, AV.bnd1B]
      repeat' first
        | refine st ?_
        | ((with_reducible apply go_i); (conv => whnf))
        | (with_reducible apply k_d <;> intro _)
        | (with_reducible apply k_b <;> intro _)
      intro i2 cs2 ⟨k3, k4⟩
      cases hx2 : PL[i2]? with
      | some q =>
        have hlt2 := (List.getElem?_eq_some_iff.1 hx2).1
        have heq := eQs_get hx2
        rw [← h2] at heq
        repeat' first
          | refine st ?_
          | ((with_reducible apply go_i); (conv => whnf))
          | ((with_reducible apply k_pn); (· exact C.allen_Relation _ _ _ _))
          | ((with_reducible apply k_pc); (· exact C.allen_Relation _ _ _ _))
          | (with_reducible apply k_d <;> intro _)
          | (with_reducible apply k_b <;> intro _)
        refine x_loop2 mixed [53] [0, 1, 4, 6, 8, 9, 33, 34, 35, 39, 40, 41, 51, 52] (fun (i : Nat) (cs : List AV) => [.d (eI i)]) (fun i cs => [.cells ((List.replicate 169 (eU 0)).map .d), .arr es 2 0 false, .cells cs, .cells [.d (eI p.1), .d (eI p.2)], .cells [.d (eI q.1), .d (eI q.2)]]) (fun i3 cs => i3 ≤ 21 ∧ cs = cU (rowR (PL.take i3) p q (rowQ PL p (PL.take i2) (rowP PL (PL.take i) (List.replicate 169 0))))) (fun i _ => 21 - i) 0 _ rfl rfl rfl rfl (fun i cs h => ⟨rfl, ?_⟩) rfl ⟨by omega, k4⟩ ?_
        · rw [h.2]; simp [AO.bndB, cU, AV.bnd1B]
        repeat' first
          | refine st ?_
          | ((with_reducible apply go_i); (conv => whnf))
          | (with_reducible apply k_d <;> intro _)
          | (with_reducible apply k_b <;> intro _)
        intro i3 cs3 ⟨k5, k6⟩
        cases hx3 : PL[i3]? with
        | some r =>
          have hlt3 := (List.getElem?_eq_some_iff.1 hx3).1
          have her := eQs_get hx3
          rw [← h2] at her
          have ha := rel_range p.1 p.2 q.1 q.2
          have hb := rel_range q.1 q.2 r.1 r.2
          have hl3 : (rowR (PL.take i3) p q (rowQ PL p (PL.take i2) (rowP PL (PL.take i) (List.replicate 169 0)))).length = 169 := by rw [rowR_len, rowQ_len, rowP_len]; rfl
          have hc3 : Nat.beq 1 cs3.length = false := by rw [k6, cU_len, hl3]; rfl
          have hg : (cs3.drop (0 + (rel p.1 p.2 q.1 q.2).1.toNat * 13 + (rel q.1 q.2 r.1 r.2).1.toNat * 1)).take 1 = [.d (eU ((rowR (PL.take i3) p q (rowQ PL p (PL.take i2) (rowP PL (PL.take i) (List.replicate 169 0)))).getD (0 + (rel p.1 p.2 q.1 q.2).1.toNat * 13 + (rel q.1 q.2 r.1 r.2).1.toNat * 1) 0))] := by
            rw [k6]; exact cU_one (by rw [hl3]; omega)
          have hl4 : 0 + (rel p.1 p.2 q.1 q.2).1.toNat * 13 + (rel q.1 q.2 r.1 r.2).1.toNat * 1 + 1 ≤ cs3.length := by rw [k6, cU_len, hl3]; omega
          repeat' first
            | refine st ?_
            | ((with_reducible apply go_i); (conv => whnf))
            | ((with_reducible apply k_pn); (· first | exact C.allen_Relation _ _ _ _ | exact C.allen_one _ | exact C.allen_set_or _ _))
            | ((with_reducible apply k_pc); (· first | exact C.allen_Relation _ _ _ _ | exact C.allen_one _ | exact C.allen_set_or _ _))
            | (with_reducible apply k_d <;> intro _)
            | (with_reducible apply k_b <;> intro _)
          refine ⟨i3 + 1, _, rfl, rfl, rfl, by omega, by omega, ?_⟩
          rw [rowR_succ hx3, k6, cU_set (by rw [hl3]; omega)]
          simp only [upd3, relQ, Nat.zero_add, Nat.mul_one]
        | none =>
          have hge := List.getElem?_eq_none_iff.1 hx3
          repeat' first
            | refine st ?_
            | ((with_reducible apply go_i); (conv => whnf))
            | (with_reducible apply k_d <;> intro _)
            | (with_reducible apply k_b <;> intro _)
          refine ⟨i2 + 1, _, rfl, rfl, rfl, by omega, by omega, ?_⟩
          rw [k6, List.take_of_length_le hge, rowQ_succ hx2]
      | none =>
        have hge := List.getElem?_eq_none_iff.1 hx2
        repeat' first
          | refine st ?_
          | ((with_reducible apply go_i); (conv => whnf))
          | (with_reducible apply k_d <;> intro _)
          | (with_reducible apply k_b <;> intro _)
        refine ⟨i + 1, _, rfl, rfl, rfl, by omega, by omega, ?_⟩
        rw [k4, List.take_of_length_le hge, rowP_succ hx]
    | none =>
      have hge := List.getElem?_eq_none_iff.1 hx
      have hfz : cs = (dU (rowP PL (PL.take i) (List.replicate 169 0))).map .d := k2
      repeat' first
        | refine st ?_
        | ((with_reducible apply go_i); (conv => whnf))
        | (with_reducible apply k_d <;> intro _)
        | (with_reducible apply k_b <;> intro _)
      rw [List.take_of_length_le hge]; rfl
end Go.Proofs
end
section
/- Contracts: Compose, the composition of sets. No condition. -/
set_option linter.unusedSimpArgs false
set_option maxRecDepth 10000
set_option maxHeartbeats 4000000
namespace Go.Proofs
open Go.Bi

theorem comps_len : comps.length = 169 := by unfold comps; rw [rowP_len]; rfl
def tAt (tb : List Int) (a b : Int) : Int := tb.getD (a.toNat * 13 + b.toNat) 0
def compose (a b : Int) : List Int := if isRel a && isRel b then sList (tAt comps a b) else []
theorem cU_get {tb : List Int} {a b : Int} (h : tb.length = 169) (ha : 0 ≤ a ∧ a < 13) (hb : 0 ≤ b ∧ b < 13) : ((cU tb).drop (0 + a.toNat * 13 + b.toNat * 1)).take 1 = [.d (eU (tAt tb a b))] := by
  rw [cU_one (by omega)]
  simp [tAt]
theorem Compose_T (T : List Int) (hl : T.length = 169) (hC : Pure Try.prog N.allen_compositions [] (.agg (cU T))) (a b : Int) : Pure Try.prog N.allen_Compose [.d (eI a), .d (eI b)] (.d (eL (if isRel a && isRel b then sList (tAt T a b) else []))) := by
  refine F.allen_Compose.go mixed rfl ?_
  have hc2 : Nat.beq (cU T).length 169 = true := by rw [cU_len, hl]; rfl
  have hc1 : Nat.beq 169 (cU T).length = true := by rw [cU_len, hl]; rfl
  have hc3 : Nat.beq 1 (cU T).length = false := by rw [cU_len, hl]; rfl
  by_cases ha : isRel a = true
  · by_cases hb : isRel b = true
    · have ha' : 0 ≤ a ∧ a < 13 := by simpa [isRel] using ha
      have hb' : 0 ≤ b ∧ b < 13 := by simpa [isRel] using hb
      have hg := cU_get hl ha' hb'
      have hle : 0 + a.toNat * 13 + b.toNat * 1 + 1 ≤ (cU T).length := by rw [cU_len, hl]; omega
      repeat' first
        | refine st ?_
        | ((with_reducible apply go_i); (conv => whnf))
        | ((with_reducible apply k_pn); (· first | exact hC | exact C.allen_exists _ | exact C.allen_set_list _))
        | ((with_reducible apply k_pc); (· first | exact hC | exact C.allen_exists _ | exact C.allen_set_list _))
        | (with_reducible apply k_d <;> intro _)
        | (with_reducible apply k_b <;> intro _)
      simp [ha, hb]
    · have hb : isRel b = false := by simpa using hb
      repeat' first
        | refine st ?_
        | ((with_reducible apply go_i); (conv => whnf))
        | ((with_reducible apply k_pn); (· exact C.allen_exists _))
        | ((with_reducible apply k_pc); (· exact C.allen_exists _))
        | (with_reducible apply k_d <;> intro _)
        | (with_reducible apply k_b <;> intro _)
      simp [hb]; rfl
  · have ha : isRel a = false := by simpa using ha
    repeat' first
      | refine st ?_
      | ((with_reducible apply go_i); (conv => whnf))
      | ((with_reducible apply k_pn); (· exact C.allen_exists _))
      | ((with_reducible apply k_pc); (· exact C.allen_exists _))
      | (with_reducible apply k_d <;> intro _)
      | (with_reducible apply k_b <;> intro _)
    simp [ha]; rfl
theorem C.allen_Compose (a b : Int) : Pure Try.prog N.allen_Compose [.d (eI a), .d (eI b)] (.d (eL (compose a b))) := Compose_T comps comps_len C.allen_compositions a b

def tcB (tb : List Int) (s t : Int) (a : Nat) (n : Nat) (o : Int) : Int := (List.range n).foldl (fun o (b : Nat) => if sHas s a && sHas t b then sOr o (tAt tb a b) else o) o
def tcA (tb : List Int) (s t : Int) (n : Nat) : Int := (List.range n).foldl (fun o a => tcB tb s t a 13 o) 0
theorem range_fold {β : Type} (f : β → Nat → β) (b : β) (n : Nat) : (List.range (n + 1)).foldl f b = f ((List.range n).foldl f b) n := by rw [List.range_succ, List.foldl_append]; rfl
theorem list_set_self {α : Type} {l : List α} {i : Nat} {x : α} (h : l[i]? = some x) : l.set i x = l := by
  apply List.ext_getElem?
  intro j
  rw [List.getElem?_set]
  split
  · rename_i e
    subst e
    split
    · exact h.symm
    · rename_i hn
      rw [List.getElem?_eq_none (by omega)] at h
      cases h
  · rfl
theorem C.tc0 (tb : List Int) (h : tb.length = 169) (s t : Int) : CallSpec Try.prog N.pallen_table_compose [.ptr 0 0, eS s, eS t] [.cells (cU tb)] (fun r os' => r = eS (tcA tb s t 13) ∧ os' = [.cells (cU tb)]) := by
  refine F.pallen_table_compose.goX mixed rfl ?_
  have hc3 : Nat.beq 1 (cU tb).length = false := by rw [cU_len, h]; rfl
  have hb1 : (cU tb).all (fun c => c.bnd1B 1) = true := cU_bnd _ _
  have hb5 : (cU tb).all (fun c => c.bnd1B 5) = true := cU_bnd _ _
  repeat' first
    | refine st ?_
    | ((with_reducible apply go_i); (conv => whnf))
    | (with_reducible apply k_d <;> intro _)
    | (with_reducible apply k_b <;> intro _)
  refine x_loop2 mixed [10] [0, 4, 5, 6, 7] (fun (a : Nat) (o : Int) => [.d (eI a)]) (fun a o => [.cells (cU tb), .cells [.d (eU s)], .cells [.d (eU t)], .cells [.d (eU 0)], .cells [.d (eU o)]]) (fun a o => a ≤ 13 ∧ o = tcA tb s t a) (fun a _ => 13 - a) 0 0 rfl rfl rfl rfl (fun a o _ => ⟨rfl, ?_⟩) rfl ⟨by omega, rfl⟩ ?_
  · simp [AO.bndB, cU, AV.bnd1B]
  repeat' first
    | refine st ?_
    | ((with_reducible apply go_i); (conv => whnf))
    | (with_reducible apply k_d <;> intro _)
    | (with_reducible apply k_b <;> intro _)
  intro a o ⟨h1, h2⟩
  repeat' first
    | refine st ?_
    | ((with_reducible apply go_i); (conv => whnf))
    | (with_reducible apply k_d <;> intro _)
    | (with_reducible apply k_b <;> intro _)
  · refine x_loop2 mixed [13] [0, 4, 5, 6, 7, 8, 10] (fun (b : Nat) (o : Int) => [.d (eI b)]) (fun b o => [.cells (cU tb), .cells [.d (eU s)], .cells [.d (eU t)], .cells [.d (eU 0)], .cells [.d (eU o)]]) (fun b o' => b ≤ 13 ∧ o' = tcB tb s t a b o) (fun b _ => 13 - b) 0 o rfl rfl rfl rfl (fun a o _ => ⟨rfl, ?_⟩) rfl ⟨by omega, rfl⟩ ?_
    · simp [AO.bndB, cU, AV.bnd1B]
    repeat' first
      | refine st ?_
      | ((with_reducible apply go_i); (conv => whnf))
      | (with_reducible apply k_d <;> intro _)
      | (with_reducible apply k_b <;> intro _)
    intro b o' ⟨h3, h4⟩
    by_cases h5 : b < 13
    · have ha' : (0 : Int) ≤ (a : Int) ∧ (a : Int) < 13 := by omega
      have hb' : (0 : Int) ≤ (b : Int) ∧ (b : Int) < 13 := by omega
      have hg := cU_get h ha' hb'
      have hle : 0 + (a : Int).toNat * 13 + (b : Int).toNat * 1 + 1 ≤ (cU tb).length := by rw [cU_len, h]; omega
      repeat' first
        | refine st ?_
        | ((with_reducible apply go_i); (conv => whnf))
        | ((with_reducible apply k_pn); (· first | exact C.allen_set_has _ _ | exact C.allen_set_or _ _))
        | ((with_reducible apply k_pc); (· first | exact C.allen_set_has _ _ | exact C.allen_set_or _ _))
        | (with_reducible apply k_d <;> intro _)
        | (with_reducible apply k_b <;> intro _)
      · refine ⟨b + 1, _, rfl, rfl, rfl, by omega, by omega, ?_⟩
        rw [tcB, range_fold, ← tcB, ← h4]; simp [*]
      · refine ⟨b + 1, _, rfl, rfl, rfl, by omega, by omega, ?_⟩
        rw [tcB, range_fold, ← tcB, ← h4]; simp [*]
      · refine ⟨b + 1, _, rfl, rfl, rfl, by omega, by omega, ?_⟩
        rw [tcB, range_fold, ← tcB, ← h4]; simp [*]
    · repeat' first
        | refine st ?_
        | ((with_reducible apply go_i); (conv => whnf))
        | (with_reducible apply k_d <;> intro _)
        | (with_reducible apply k_b <;> intro _)
      refine ⟨a + 1, _, rfl, rfl, rfl, by omega, by omega, ?_⟩
      rw [tcA, range_fold, ← tcA, ← h2, show 13 = b by omega, h4]
  · refine k_chk (by simp [AO.bndB, cU, AV.bnd1B]) ?_
    repeat' first
      | refine st ?_
      | ((with_reducible apply go_i); (conv => whnf))
      | (with_reducible apply k_d <;> intro _)
      | (with_reducible apply k_b <;> intro _)
    exact ⟨by rw [h2, show 13 = a by omega], rfl⟩
theorem C.table_compose (tb : List Int) (h : tb.length = 169) (s t : Int) (os : List AO) (id : Nat) (ho : os[id]? = some (.cells (cU tb))) : CallSpec Try.prog N.pallen_table_compose [.ptr id 0, eS s, eS t] os (fun r os' => r = eS (tcA tb s t 13) ∧ os' = os) := by
  have hm : ∀ f, mO f (.cells (cU tb)) = .cells (cU tb) := fun f => by simp [mO, cU, mC]
  have := lift1 (fun id => [.ptr id 0, eS s, eS t]) (C.tc0 tb h s t) hm hm (fun f => rfl) (fun id n => rfl) (by simp [AV.bnd2, AV.bnd1]) (by simp [AO.bnd, cU, AV.bnd1]) ho
  rwa [list_set_self ho] at this
end Go.Proofs
end
section
/- Contracts: networks of constraints. No condition. -/
set_option linter.unusedSimpArgs false
set_option maxRecDepth 10000
set_option maxHeartbeats 4000000
namespace Go.Proofs
open Go.Bi

structure Con where
  a : Int
  b : Int
  rels : List Int
  d : D
  hd : SlD d (eIs rels)
  hl : rels.length ≤ 9223372036854775807
def eCon (c : Con) : List D := [eI c.a, eI c.b, c.d]
def eCons (l : List Con) : List (List D) := l.map eCon
theorem eCons_get {l : List Con} {i : Nat} {c : Con} (h : l[i]? = some c) : (eCons l)[i]? = some [eI c.a, eI c.b, c.d] := by simp [eCons, h, eCon]
theorem eCons_len (l : List Con) : (eCons l).length = l.length := by simp [eCons]
theorem eCons_mem (l : List Con) : ∀ e ∈ eCons l, e.length = 3 := by
  intro e he
  obtain ⟨c, _, rfl⟩ := List.mem_map.1 he
  rfl

def nAt (ws : List Int) (i k : Int) : Int := ws.getD (i.toNat * 8 + k.toNat) 0
def nSet (ws : List Int) (i k v : Int) : List Int := ws.set (i.toNat * 8 + k.toNat) v
theorem nSet_len (ws : List Int) (i k v : Int) : (nSet ws i k v).length = ws.length := by simp [nSet]
theorem nAt_get {ws : List Int} {i k : Int} (h : ws.length = 64) (hi : 0 ≤ i ∧ i < 8) (hk : 0 ≤ k ∧ k < 8) : ((cU ws).drop (0 + i.toNat * 8 + k.toNat * 1)).take 1 = [.d (eU (nAt ws i k))] := by
  rw [cU_one (by omega)]
  simp [nAt]
theorem nSet_eq {ws : List Int} {i k v : Int} (h : ws.length = 64) (hi : 0 ≤ i ∧ i < 8) (hk : 0 ≤ k ∧ k < 8) : setR (cU ws) (0 + i.toNat * 8 + k.toNat * 1) [.d (eU v)] = cU (nSet ws i k v) := by
  rw [cU_set (by omega)]
  simp [nSet]
theorem n_le {ws : List Int} {i k : Int} (h : ws.length = 64) (hi : 0 ≤ i ∧ i < 8) (hk : 0 ≤ k ∧ k < 8) : 0 + i.toNat * 8 + k.toNat * 1 + 1 ≤ (cU ws).length := by rw [cU_len, h]; omega
theorem n_beq {ws : List Int} (h : ws.length = 64) : Nat.beq 1 (cU ws).length = false := by rw [cU_len, h]; rfl
theorem n_beq1 {ws : List Int} (h : ws.length = 64) : Nat.beq 64 (cU ws).length = true := by rw [cU_len, h]; rfl
theorem n_beq2 {ws : List Int} (h : ws.length = 64) : Nat.beq (cU ws).length 64 = true := by rw [cU_len, h]; rfl

def bRow (i : Nat) (ws : List Int) (n : Nat) : List Int := (List.range n).foldl (fun ws (k : Nat) => nSet ws i k 8191) ws
def bInit (n m : Nat) : List Int := (List.range m).foldl (fun ws (i : Nat) => nSet (bRow i ws n) i i (sOne 6)) (List.replicate 64 0)
theorem bRow_len (i : Nat) (ws : List Int) (n : Nat) : (bRow i ws n).length = ws.length := by
  unfold bRow
  induction n with
  | zero => rfl
  | succ n ih => rw [range_fold, nSet_len, ih]
theorem bInit_len (n m : Nat) : (bInit n m).length = 64 := by
  unfold bInit
  induction m with
  | zero => rfl
  | succ m ih => rw [range_fold, nSet_len, bRow_len, ih]
def okC (n : Int) (c : Con) : Bool := allEx c.rels && decide (0 ≤ c.a ∧ c.a < n ∧ 0 ≤ c.b ∧ c.b < n)
def bUpd (ws : List Int) (c : Con) : List Int :=
  nSet (nSet ws c.a c.b (sAnd (nAt ws c.a c.b) (sOfL c.rels))) c.b c.a (sAnd (nAt (nSet ws c.a c.b (sAnd (nAt ws c.a c.b) (sOfL c.rels))) c.b c.a) (sInv (sOfL c.rels)))
def bGo (n : Int) : List Con → List Int → Option (List Int)
  | [], ws => some ws
  | c :: l, ws => if okC n c then bGo n l (bUpd ws c) else none
def zeros : List Int := List.replicate 64 0
def build (n : Nat) (l : List Con) : List Int × Bool := match bGo n l (bInit n n) with
  | some ws => (ws, true)
  | none => (zeros, false)
theorem C.allen_build (n : Nat) (hn : n ≤ 8) (l : List Con) (hll : l.length ≤ 9223372036854775807) (d : D) (hd : SlD d (eCons l)) : Pure Try.prog N.allen_build [.d (eI n), .d d] (.tup [.agg (cU (build n l).1), .d (.bool (build n l).2)]) := by
  refine F.allen_build.go mixed rfl ?_
  repeat' first
    | refine st ?_
    | ((with_reducible apply go_i); (conv => whnf))
    | (with_reducible apply k_d <;> intro _)
    | (with_reducible apply k_b <;> intro _)
  refine x_loop2 mixed Lt.allen_build_l1 Lk.allen_build_l1 (fun (i : Nat) (ws : List Int) => [.d (eI i)]) (fun i ws => [.cells (cU zeros), .cells (cU ws)]) (fun i ws => i ≤ n ∧ ws = bInit n i) (fun i _ => n - i) 0 zeros rfl rfl rfl rfl (fun i ws _ => ⟨rfl, ?_⟩) rfl ⟨by omega, rfl⟩ ?_
  · simp [AO.bndB, cU, AV.bnd1B]
  repeat' first
    | refine st ?_
    | ((with_reducible apply go_i); (conv => whnf))
    | (with_reducible apply k_d <;> intro _)
    | (with_reducible apply k_b <;> intro _)
  intro i ws ⟨h1, h2⟩
  have hl1 : ws.length = 64 := by rw [h2, bInit_len]
  repeat' first
    | refine st ?_
    | ((with_reducible apply go_i); (conv => whnf))
    | (with_reducible apply k_d <;> intro _)
    | (with_reducible apply k_b <;> intro _)
  · refine x_loop2 mixed Lt.allen_build_l0 Lk.allen_build_l0 (fun (k : Nat) (ws : List Int) => [.d (eI k)]) (fun k ws => [.cells (cU zeros), .cells (cU ws)]) (fun k ws' => k ≤ n ∧ ws' = bRow i ws k) (fun k _ => n - k) 0 ws rfl rfl rfl rfl (fun i ws _ => ⟨rfl, ?_⟩) rfl ⟨by omega, rfl⟩ ?_
    · simp [AO.bndB, cU, AV.bnd1B]
    repeat' first
      | refine st ?_
      | ((with_reducible apply go_i); (conv => whnf))
      | (with_reducible apply k_d <;> intro _)
      | (with_reducible apply k_b <;> intro _)
    intro k ws' ⟨h3, h4⟩
    have hl2 : ws'.length = 64 := by rw [h4, bRow_len, hl1]
    have hc3 := n_beq hl2
    by_cases h5 : k < n
    · have hi : (0 : Int) ≤ (i : Int) ∧ (i : Int) < 8 := by omega
      have hk : (0 : Int) ≤ (k : Int) ∧ (k : Int) < 8 := by omega
      have hle := n_le hl2 hi hk
      repeat' first
        | refine st ?_
        | ((with_reducible apply go_i); (conv => whnf))
        | ((with_reducible apply k_pn); (· exact C.allen_full))
        | ((with_reducible apply k_pc); (· exact C.allen_full))
        | (with_reducible apply k_d <;> intro _)
        | (with_reducible apply k_b <;> intro _)
      refine ⟨k + 1, bRow i ws (k + 1), rfl, rfl, ?_, by omega, by omega, rfl⟩
      rw [nSet_eq hl2 hi hk, bRow, range_fold, ← bRow, h4]
    · have hi : (0 : Int) ≤ (i : Int) ∧ (i : Int) < 8 := by omega
      have hle := n_le hl2 hi hi
      repeat' first
        | refine st ?_
        | ((with_reducible apply go_i); (conv => whnf))
        | ((with_reducible apply k_pn); (· exact C.allen_one _))
        | ((with_reducible apply k_pc); (· exact C.allen_one _))
        | (with_reducible apply k_d <;> intro _)
        | (with_reducible apply k_b <;> intro _)
      refine ⟨i + 1, bInit n (i + 1), rfl, rfl, ?_, by omega, by omega, rfl⟩
      rw [nSet_eq hl2 hi hi, bInit, range_fold, ← bInit, h4, h2, show k = n by omega]
  · have : i = n := by omega
    subst this
    have hl0 := eCons_len l
    have hm := eCons_mem l
    refine x_loop2 mixed Lt.allen_build_l2 Lk.allen_build_l2 (fun (i : Nat) (ws : List Int) => [.d (eI i)]) (fun i ws => [.cells (cU zeros), .cells (cU ws)]) (fun j ws => j ≤ l.length ∧ ws.length = 64 ∧ bGo i (l.drop j) ws = bGo i l (bInit i i)) (fun j _ => l.length - j) 0 ws rfl rfl rfl rfl (fun i ws _ => ⟨rfl, ?_⟩) rfl ⟨by omega, hl1, by rw [h2]; rfl⟩ ?_
    · simp [AO.bndB, cU, AV.bnd1B]
    repeat' first
      | refine st ?_
      | ((with_reducible apply go_i); (conv => whnf))
      | (with_reducible apply k_d <;> intro _)
      | (with_reducible apply k_b <;> intro _)
    intro j ws' ⟨h3, hl2, h4⟩
    have hc3 := n_beq hl2
    have hc1 := n_beq1 hl2
    have hc2 := n_beq2 hl2
    cases hx : l[j]? with
    | some c =>
      have hlt := (List.getElem?_eq_some_iff.1 hx).1
      have he := eCons_get hx
      have hdr : l.drop j = c :: l.drop (j + 1) := by rw [List.drop_eq_getElem_cons hlt]; congr 1; exact (List.getElem?_eq_some_iff.1 hx).2
      rw [hdr, bGo] at h4
      by_cases hok : okC i c = true
      · rw [if_pos hok] at h4
        simp only [okC, Bool.and_eq_true, decide_eq_true_eq] at hok
        obtain ⟨ho1, ho2, ho3, ho4, ho5⟩ := hok
        have hi : 0 ≤ c.a ∧ c.a < 8 := by omega
        have hk : 0 ≤ c.b ∧ c.b < 8 := by omega
        have hle := n_le hl2 hi hk
        have hg := nAt_get hl2 hi hk
        have hof : sOf c.rels = (sOfL c.rels, true) := by simp [sOf, ho1]
        have cof := C.allen_of c.rels c.d c.hd c.hl
        rw [hof] at cof
        have hl3 : (nSet ws' c.a c.b (sAnd (nAt ws' c.a c.b) (sOfL c.rels))).length = 64 := by rw [nSet_len, hl2]
        have e1 := nSet_eq (v := sAnd (nAt ws' c.a c.b) (sOfL c.rels)) hl2 hi hk
        generalize hw2 : nSet ws' c.a c.b (sAnd (nAt ws' c.a c.b) (sOfL c.rels)) = ws2 at e1 hl3
        have hc4 := n_beq hl3
        have hg2 := nAt_get hl3 hk hi
        have hle2 := n_le hl3 hk hi
        have e2 := nSet_eq (v := sAnd (nAt ws2 c.b c.a) (sInv (sOfL c.rels))) hl3 hk hi
        repeat' first
          | refine st ?_
          | ((with_reducible apply go_i); (conv => whnf))
          | ((with_reducible apply k_pn); (· first | exact cof | exact C.allen_set_and _ _ | exact C.allen_set_inverse _))
          | ((with_reducible apply k_pc); (· first | exact cof | exact C.allen_set_and _ _ | exact C.allen_set_inverse _))
          | (with_reducible apply k_d <;> intro _)
          | (with_reducible apply k_b <;> intro _)
        refine ⟨j + 1, _, rfl, rfl, rfl, by omega, by omega, ?_, ?_⟩
        · rw [nSet_len]; exact hl3
        · rw [← h4, bUpd, hw2]
      · rw [if_neg hok] at h4
        have hbuild : build i l = (zeros, false) := by rw [build, ← h4]
        have cof := C.allen_of c.rels c.d c.hd c.hl
        rw [hbuild]
        by_cases he1 : allEx c.rels = true
        · have hof : sOf c.rels = (sOfL c.rels, true) := by simp [sOf, he1]
          rw [hof] at cof
          have hbad : ¬ (0 ≤ c.a ∧ c.a < i ∧ 0 ≤ c.b ∧ c.b < i) := fun h => hok (by simp [okC, he1, h])
          repeat' first
            | refine st ?_
            | ((with_reducible apply go_i); (conv => whnf))
            | ((with_reducible apply k_pn); (· exact cof))
            | ((with_reducible apply k_pc); (· exact cof))
            | (with_reducible apply k_d <;> intro _)
            | (with_reducible apply k_b <;> intro _)
          all_goals rfl
        · have hof : sOf c.rels = (0, false) := by simp [sOf, he1]
          rw [hof] at cof
          repeat' first
            | refine st ?_
            | ((with_reducible apply go_i); (conv => whnf))
            | ((with_reducible apply k_pn); (· exact cof))
            | ((with_reducible apply k_pc); (· exact cof))
            | (with_reducible apply k_d <;> intro _)
            | (with_reducible apply k_b <;> intro _)
          rfl
    | none =>
      have hge := List.getElem?_eq_none_iff.1 hx
      rw [List.drop_eq_nil_of_le hge] at h4
      have hbuild : build i l = (ws', true) := by rw [build, ← h4]; rfl
      have hfz : cU ws' = (dU ws').map .d := rfl
      rw [hbuild]
      repeat' first
        | refine st ?_
        | ((with_reducible apply go_i); (conv => whnf))
        | (with_reducible apply k_d <;> intro _)
        | (with_reducible apply k_b <;> intro _)
      rfl
end Go.Proofs
end
section
/- Contracts: narrowed, Tighten, Satisfied. No condition. -/
set_option linter.unusedSimpArgs false
set_option maxRecDepth 10000
set_option maxHeartbeats 4000000
namespace Go.Proofs
open Go.Bi

def nJ (T : List Int) (k i : Nat) (ws : List Int) (j : Nat) : List Int := nSet ws i j (sAnd (nAt ws i j) (tcA T (nAt ws i k) (nAt ws k j) 13))
def nRow (T : List Int) (k i : Nat) (ws : List Int) (n : Nat) : List Int := (List.range n).foldl (nJ T k i) ws
def nMat (T : List Int) (n k : Nat) (ws : List Int) (m : Nat) : List Int := (List.range m).foldl (fun ws i => nRow T k i ws n) ws
def narrow (T : List Int) (n : Nat) (ws : List Int) (m : Nat) : List Int := (List.range m).foldl (fun ws k => nMat T n k ws n) ws
theorem nRow_len (T : List Int) (k i : Nat) (ws : List Int) (n : Nat) : (nRow T k i ws n).length = ws.length := by
  unfold nRow
  induction n with
  | zero => rfl
  | succ n ih => rw [range_fold, nJ, nSet_len, ih]
theorem nMat_len (T : List Int) (n k : Nat) (ws : List Int) (m : Nat) : (nMat T n k ws m).length = ws.length := by
  unfold nMat
  induction m with
  | zero => rfl
  | succ n ih => rw [range_fold, nRow_len, ih]
theorem narrow_len (T : List Int) (n : Nat) (ws : List Int) (m : Nat) : (narrow T n ws m).length = ws.length := by
  unfold narrow
  induction m with
  | zero => rfl
  | succ n ih => rw [range_fold, nMat_len, ih]

theorem C.nw0 (T : List Int) (hT : T.length = 169) (n : Nat) (hn : n ≤ 8) (ws : List Int) (hw : ws.length = 64) : CallSpec Try.prog N.allen_narrowed [.agg (cU ws), .d (eI n), .ptr 0 0] [.cells (cU T)] (fun r os' => r = .agg (cU (narrow T n ws n)) ∧ os' = [.cells (cU T)]) := by
  refine F.allen_narrowed.goX mixed rfl ?_
  have hc2 := n_beq2 hw
  repeat' first
    | refine st ?_
    | ((with_reducible apply go_i); (conv => whnf))
    | (with_reducible apply k_d <;> intro _)
    | (with_reducible apply k_b <;> intro _)
  refine x_loop2 mixed Lt.allen_narrowed_l2 Lk.allen_narrowed_l2 (fun (k : Nat) (ws : List Int) => [.d (eI k)]) (fun i ws => [.cells (cU T), .cells (cU ws), .cells (cU zeros)]) (fun k ws' => k ≤ n ∧ ws' = narrow T n ws k) (fun k _ => n - k) 0 ws rfl rfl rfl rfl (fun i ws _ => ⟨rfl, ?_⟩) rfl ⟨by omega, rfl⟩ ?_
  · simp [AO.bndB, cU, AV.bnd1B]
  repeat' first
    | refine st ?_
    | ((with_reducible apply go_i); (conv => whnf))
    | (with_reducible apply k_d <;> intro _)
    | (with_reducible apply k_b <;> intro _)
  intro k ws1 ⟨h1, h2⟩
  have hl1 : ws1.length = 64 := by rw [h2, narrow_len, hw]
  have hd1 := n_beq1 hl1
  have hd2 := n_beq2 hl1
  have hfz : cU ws1 = (dU ws1).map .d := rfl
  repeat' first
    | refine st ?_
    | ((with_reducible apply go_i); (conv => whnf))
    | (with_reducible apply k_d <;> intro _)
    | (with_reducible apply k_b <;> intro _)
  · refine x_loop2 mixed Lt.allen_narrowed_l1 Lk.allen_narrowed_l1 (fun (i : Nat) (ws : List Int) => [.d (eI i)]) (fun i ws => [.cells (cU T), .cells (cU ws), .cells (cU zeros)]) (fun i ws' => i ≤ n ∧ ws' = nMat T n k ws1 i) (fun i _ => n - i) 0 ws1 rfl rfl rfl rfl (fun i ws _ => ⟨rfl, ?_⟩) rfl ⟨by omega, rfl⟩ ?_
    · simp [AO.bndB, cU, AV.bnd1B]
    repeat' first
      | refine st ?_
      | ((with_reducible apply go_i); (conv => whnf))
      | (with_reducible apply k_d <;> intro _)
      | (with_reducible apply k_b <;> intro _)
    intro i ws2 ⟨h3, h4⟩
    have hl2 : ws2.length = 64 := by rw [h4, nMat_len, hl1]
    repeat' first
      | refine st ?_
      | ((with_reducible apply go_i); (conv => whnf))
      | (with_reducible apply k_d <;> intro _)
      | (with_reducible apply k_b <;> intro _)
    · refine x_loop2 mixed Lt.allen_narrowed_l0 Lk.allen_narrowed_l0 (fun (j : Nat) (ws : List Int) => [.d (eI j)]) (fun i ws => [.cells (cU T), .cells (cU ws), .cells (cU zeros)]) (fun j ws' => j ≤ n ∧ ws' = nRow T k i ws2 j) (fun i _ => n - i) 0 ws2 rfl rfl rfl rfl (fun i ws _ => ⟨rfl, ?_⟩) rfl ⟨by omega, rfl⟩ ?_
      · simp [AO.bndB, cU, AV.bnd1B]
      repeat' first
        | refine st ?_
        | ((with_reducible apply go_i); (conv => whnf))
        | (with_reducible apply k_d <;> intro _)
        | (with_reducible apply k_b <;> intro _)
      intro j ws3 ⟨h5, h6⟩
      have hl3 : ws3.length = 64 := by rw [h6, nRow_len, hl2]
      by_cases h7 : j < n
      · have hk : (0 : Int) ≤ (k : Int) ∧ (k : Int) < 8 := by omega
        have hi : (0 : Int) ≤ (i : Int) ∧ (i : Int) < 8 := by omega
        have hj : (0 : Int) ≤ (j : Int) ∧ (j : Int) < 8 := by omega
        have hc3 := n_beq hl3
        have g1 := nAt_get hl3 hi hj
        have g2 := nAt_get hl3 hi hk
        have g3 := nAt_get hl3 hk hj
        have l1 := n_le hl3 hi hj
        have l2 := n_le hl3 hi hk
        have l3 := n_le hl3 hk hj
        have e1 := nSet_eq (v := sAnd (nAt ws3 i j) (tcA T (nAt ws3 i k) (nAt ws3 k j) 13)) hl3 hi hj
        repeat' first
          | refine st ?_
          | ((with_reducible apply go_i); (conv => whnf))
          | ((with_reducible apply k_pn); (· exact C.allen_set_and _ _))
          | ((with_reducible apply k_pc); (· exact C.allen_set_and _ _))
          | ((with_reducible apply k_nc); (· first | exact C.table_compose T hT _ _ _ _ rfl); (try rintro _ _ ⟨rfl, rfl⟩))
          | ((with_reducible apply k_pr); (· first | exact C.table_compose T hT _ _ _ _ rfl))
          | ((with_reducible apply k_cs); (· first | exact C.table_compose T hT _ _ _ _ rfl); (try rintro _ _ ⟨rfl, rfl⟩))
          | ((with_reducible apply k_cal); refine st ?_; (with_reducible apply k_chk); (· exact rfl); refine st ?_; (with_reducible apply k_cs); (· first | exact C.table_compose T hT _ _ _ _ rfl); (try rintro _ _ ⟨rfl, rfl⟩))
          | (with_reducible apply k_d <;> intro _)
          | (with_reducible apply k_b <;> intro _)
        refine ⟨j + 1, _, rfl, rfl, rfl, by omega, by omega, ?_⟩
        rw [nRow, range_fold, ← nRow, ← h6]; rfl
      · repeat' first
          | refine st ?_
          | ((with_reducible apply go_i); (conv => whnf))
          | (with_reducible apply k_d <;> intro _)
          | (with_reducible apply k_b <;> intro _)
        refine ⟨i + 1, _, rfl, rfl, rfl, by omega, by omega, ?_⟩
        rw [nMat, range_fold, ← nMat, ← h4, h6, show j = n by omega]
    · refine ⟨k + 1, _, rfl, rfl, rfl, by omega, by omega, ?_⟩
      rw [narrow, range_fold, ← narrow, ← h2, h4, show i = n by omega]
  · refine k_chk (by simp [AO.bndB, cU, AV.bnd1B]) ?_
    repeat' first
      | refine st ?_
      | ((with_reducible apply go_i); (conv => whnf))
      | (with_reducible apply k_d <;> intro _)
      | (with_reducible apply k_b <;> intro _)
    exact ⟨by rw [h2, show k = n by omega]; rfl, rfl⟩
theorem C.allen_narrowed (T : List Int) (hT : T.length = 169) (n : Nat) (hn : n ≤ 8) (ws : List Int) (hw : ws.length = 64) (os : List AO) (id : Nat) (ho : os[id]? = some (.cells (cU T))) : CallSpec Try.prog N.allen_narrowed [.agg (cU ws), .d (eI n), .ptr id 0] os (fun r os' => r = .agg (cU (narrow T n ws n)) ∧ os' = os) := by
  have hm : ∀ ws f, mO f (.cells (cU ws)) = .cells (cU ws) := fun ws f => by simp [mO, cU, mC]
  have hg : ∀ ws f, mG f (.agg (cU ws)) = .agg (cU ws) := fun ws f => by simp [mG, cU, mC]
  have := lift1 (fun id => [.agg (cU ws), .d (eI n), .ptr id 0]) (C.nw0 T hT n hn ws hw) (hm T) (hm T) (fun f => by simp only [mA]; exact hg _ f) (fun id n => by simp only [List.map_cons, List.map_nil, hg]; rfl) (by simp [AV.bnd2, AV.bnd1, cU]) (by simp [AO.bnd, cU, AV.bnd1]) ho
  rwa [list_set_self ho] at this

/-- The rounds until nothing changes. -/
def rounds (f : List Int → List Int) : Nat → List Int → List Int
  | 0, ws => ws
  | m + 1, ws => if f ws = ws then ws else rounds f m (f ws)
def wsum (ws : List Int) : Nat := (ws.map Int.toNat).sum
end Go.Proofs
end
section
/- Contracts: Tighten, Satisfied. No condition. -/
set_option linter.unusedSimpArgs false
set_option linter.unusedVariables false
set_option maxRecDepth 10000
set_option maxHeartbeats 4000000
namespace Go.Proofs
open Go.Bi

/-! ### Sets get smaller -/
theorem ofInt16 {a : Int} (h : 0 ≤ a ∧ a < 65536) : (BitVec.ofInt 16 a).toNat = a.toNat := by
  rw [BitVec.toNat_ofInt]
  rw [Int.emod_eq_of_lt h.1 (by simpa using h.2)]
theorem wrap16 {n : Nat} (h : n < 65536) : IntKind.u16.wrap (n : Int) = n := by
  simp only [IntKind.wrap, IntKind.signed, IntKind.bits, Bool.false_and, Bool.false_eq_true, if_false]
  omega
theorem sAnd_eq (a b : Int) : sAnd a b = (((BitVec.ofInt 16 a).toNat &&& (BitVec.ofInt 16 b).toNat : Nat) : Int) := by
  show IntKind.u16.wrap ((BitVec.ofInt 16 a &&& BitVec.ofInt 16 b).toNat : Nat) = _
  rw [BitVec.toNat_and]
  exact wrap16 (Nat.lt_of_le_of_lt Nat.and_le_left (BitVec.isLt _))
theorem sAnd_le {a b : Int} (h : 0 ≤ a ∧ a < 65536) : 0 ≤ sAnd a b ∧ sAnd a b ≤ a := by
  rw [sAnd_eq, ofInt16 h]
  have := Nat.and_le_left (n := a.toNat) (m := (BitVec.ofInt 16 b).toNat)
  omega
def inR (ws : List Int) : Prop := ∀ x ∈ ws, 0 ≤ x ∧ x < 65536
/-- Smaller at every place. -/
def leW (ws' ws : List Int) : Prop := ws'.length = ws.length ∧ ∀ (i : Nat) x y, ws'[i]? = some x → ws[i]? = some y → x ≤ y
theorem leW.refl (ws : List Int) : leW ws ws := ⟨rfl, fun i x y h1 h2 => by rw [h1] at h2; cases h2; exact Int.le_refl _⟩
theorem leW.trans {a b c : List Int} (h : leW a b) (k : leW b c) : leW a c := by
  refine ⟨h.1.trans k.1, fun i x y h1 h2 => ?_⟩
  have hi := (List.getElem?_eq_some_iff.1 h1).1
  have hb : i < b.length := by rw [← h.1]; exact hi
  have h3 : b[i]? = some b[i] := List.getElem?_eq_getElem hb
  exact Int.le_trans (h.2 i x _ h1 h3) (k.2 i _ y h3 h2)
theorem inR_get {ws : List Int} {i : Nat} (h : inR ws) : 0 ≤ ws.getD i 0 ∧ ws.getD i 0 < 65536 := by
  rw [List.getD_eq_getElem?_getD]
  cases hx : ws[i]? with
  | none => simp
  | some x => exact h x (List.mem_of_getElem? hx)
theorem inR_set {ws : List Int} {i : Nat} {v : Int} (h : inR ws) (hv : 0 ≤ v ∧ v < 65536) : inR (ws.set i v) := by
  intro x hx
  rcases List.mem_or_eq_of_mem_set hx with h1 | rfl
  · exact h x h1
  · exact hv
theorem leW_set {ws : List Int} {i : Nat} {v : Int} (h : v ≤ ws.getD i 0) : leW (ws.set i v) ws := by
  refine ⟨by simp, fun j x y h1 h2 => ?_⟩
  rw [List.getElem?_set] at h1
  split at h1
  · rename_i e
    subst e
    split at h1
    · cases h1
      rw [List.getD_eq_getElem?_getD, h2] at h
      exact h
    · cases h1
  · rw [h1] at h2; cases h2; exact Int.le_refl _
theorem nJ_ok (T : List Int) (k i : Nat) {ws : List Int} (j : Nat) (h : inR ws) : inR (nJ T k i ws j) ∧ leW (nJ T k i ws j) ws := by
  have h1 := inR_get (i := (i : Int).toNat * 8 + (j : Int).toNat) h
  have h2 := sAnd_le (b := tcA T (nAt ws i k) (nAt ws k j) 13) h1
  exact ⟨inR_set h ⟨h2.1, by unfold nAt at *; omega⟩, leW_set h2.2⟩
theorem fold_ok {f : List Int → Nat → List Int} (hf : ∀ ws j, inR ws → inR (f ws j) ∧ leW (f ws j) ws) (n : Nat) {ws : List Int} (h : inR ws) : inR ((List.range n).foldl f ws) ∧ leW ((List.range n).foldl f ws) ws := by
  induction n with
  | zero => exact ⟨h, leW.refl _⟩
  | succ n ih =>
    rw [range_fold]
    obtain ⟨h1, h2⟩ := hf _ n ih.1
    exact ⟨h1, h2.trans ih.2⟩
theorem narrow_ok (T : List Int) (n : Nat) {ws : List Int} (m : Nat) (h : inR ws) : inR (narrow T n ws m) ∧ leW (narrow T n ws m) ws :=
  fold_ok (fun ws k h => fold_ok (fun ws i h => fold_ok (fun ws j h => nJ_ok T k i j h) n h) n h) m h
theorem wsum_cons (x : Int) (l : List Int) : wsum (x :: l) = x.toNat + wsum l := by simp [wsum]
theorem wsum_le : ∀ {ws' ws : List Int}, leW ws' ws → inR ws' → wsum ws' ≤ wsum ws ∧ (wsum ws' = wsum ws → ws' = ws)
  | [], [], _, _ => ⟨Nat.le_refl _, fun _ => rfl⟩
  | [], _ :: _, h, _ => by have := h.1; simp at this
  | _ :: _, [], h, _ => by have := h.1; simp at this
  | x :: a, y :: b, h, hr => by
    have h1 := h.2 0 x y rfl rfl
    have h2 := hr x (by simp)
    obtain ⟨h3, h4⟩ := wsum_le (ws' := a) (ws := b) ⟨by have := h.1; simpa using this, fun i x y h1 h2 => h.2 (i + 1) x y (by simpa using h1) (by simpa using h2)⟩ (fun x hx => hr x (by simp [hx]))
    rw [wsum_cons, wsum_cons]
    refine ⟨by omega, fun e => ?_⟩
    have e1 : x = y := by omega
    have e2 := h4 (by omega)
    rw [e1, e2]
theorem narrow_lt (T : List Int) (n : Nat) {ws : List Int} (h : inR ws) (hne : narrow T n ws n ≠ ws) : wsum (narrow T n ws n) < wsum ws := by
  obtain ⟨h1, h2⟩ := narrow_ok T n n h
  obtain ⟨h3, h4⟩ := wsum_le h2 h1
  rcases Nat.lt_or_ge (wsum (narrow T n ws n)) (wsum ws) with h | h
  · exact h
  · exact absurd (h4 (by omega)) hne

/-- The rounds until nothing changes: as many as are wanted. -/
theorem rounds_step (f : List Int → List Int) (m : Nat) (ws : List Int) (h : f ws ≠ ws) : rounds f (m + 1) ws = rounds f m (f ws) := by rw [rounds, if_neg h]
theorem rounds_stop (f : List Int → List Int) (m : Nat) (ws : List Int) (h : f ws = ws) : rounds f m ws = ws := by cases m with
  | zero => rfl
  | succ m => rw [rounds, if_pos h]
theorem rounds_enough (T : List Int) (n : Nat) : ∀ (k : Nat) (ws : List Int), inR ws → wsum ws ≤ k → ∀ k', wsum ws ≤ k' → rounds (fun ws => narrow T n ws n) k ws = rounds (fun ws => narrow T n ws n) k' ws := by
  intro k
  induction k with
  | zero =>
    intro ws h h1 k' h2
    by_cases he : narrow T n ws n = ws
    · rw [rounds_stop _ _ _ he, rounds_stop _ _ _ he]
    · have := narrow_lt T n h he; omega
  | succ k ih =>
    intro ws h h1 k' h2
    by_cases he : narrow T n ws n = ws
    · rw [rounds_stop _ _ _ he, rounds_stop _ _ _ he]
    · have hlt := narrow_lt T n h he
      cases k' with
      | zero => omega
      | succ k' =>
        rw [rounds_step _ _ _ he, rounds_step _ _ _ he]
        exact ih _ (narrow_ok T n n h).1 (by omega) k' (by omega)
theorem fixed_step (T : List Int) (n : Nat) {ws : List Int} (h : inR ws) (he : narrow T n ws n ≠ ws) : rounds (fun ws => narrow T n ws n) (wsum (narrow T n ws n)) (narrow T n ws n) = rounds (fun ws => narrow T n ws n) (wsum ws) ws := by
  have hlt := narrow_lt T n h he
  obtain ⟨k, hk⟩ : ∃ k, wsum ws = k + 1 := ⟨wsum ws - 1, by omega⟩
  rw [hk, rounds_step _ _ _ he]
  exact rounds_enough T n _ _ (narrow_ok T n n h).1 (Nat.le_refl _) k (by omega)
theorem bGo_inR (n : Int) : ∀ (l : List Con) (ws r : List Int), inR ws → bGo n l ws = some r → inR r ∧ r.length = ws.length
  | [], ws, r, h, e => by cases e; exact ⟨h, rfl⟩
  | c :: l, ws, r, h, e => by
    rw [bGo] at e
    split at e
    · have h1 : inR (bUpd ws c) := by
        unfold bUpd nSet nAt
        have g1 := sAnd_le (b := sOfL c.rels) (inR_get (i := c.a.toNat * 8 + c.b.toNat) h)
        have g2 := inR_get (i := c.a.toNat * 8 + c.b.toNat) h
        have g3 := inR_set (i := c.a.toNat * 8 + c.b.toNat) h ⟨g1.1, show sAnd (ws.getD (c.a.toNat * 8 + c.b.toNat) 0) (sOfL c.rels) < 65536 by omega⟩
        have g4 := inR_get (i := c.b.toNat * 8 + c.a.toNat) g3
        have g5 := sAnd_le (b := sInv (sOfL c.rels)) g4
        exact inR_set g3 ⟨g5.1, by omega⟩
      obtain ⟨h2, h3⟩ := bGo_inR n l _ r h1 e
      refine ⟨h2, h3.trans ?_⟩
      simp [bUpd, nSet_len]
    · cases e
theorem bRow_inR (i n : Nat) {ws : List Int} (h : inR ws) : inR (bRow i ws n) := by
  unfold bRow
  induction n with
  | zero => exact h
  | succ n ih2 => rw [range_fold]; exact inR_set ih2 (by decide)
theorem bInit_inR (n m : Nat) : inR (bInit n m) := by
  have h0 : inR (List.replicate 64 0) := by intro x hx; rw [List.eq_of_mem_replicate hx]; decide
  unfold bInit
  induction m with
  | zero => exact h0
  | succ m ih =>
    rw [range_fold]
    exact inR_set (bRow_inR m n ih) (by decide)

/-! ### The result -/
def eOut (c : Int × Int × List Int) : List D := [eI c.1, eI c.2.1, eL c.2.2]
def oStep (ws : List Int) (i : Nat) (acc : Option (List (Int × Int × List Int))) (k : Nat) : Option (List (Int × Int × List Int)) := match acc with
  | none => none
  | some l => if nAt ws i k = 0 then none else if i < k then some (l ++ [((i : Int), (k : Int), sList (nAt ws i k))]) else some l
def oRow (ws : List Int) (i : Nat) (acc : Option (List (Int × Int × List Int))) (n : Nat) : Option (List (Int × Int × List Int)) := (List.range n).foldl (oStep ws i) acc
def oAll (ws : List Int) (n m : Nat) : Option (List (Int × Int × List Int)) := (List.range m).foldl (fun acc i => oRow ws i acc n) (some [])
theorem oRow_none (ws : List Int) (i n : Nat) : oRow ws i none n = none := by
  unfold oRow
  induction n with
  | zero => rfl
  | succ n ih => rw [range_fold, ih]; rfl
theorem oRow_later {ws : List Int} {i k : Nat} {acc : Option (List (Int × Int × List Int))} (h : oRow ws i acc k = none) : ∀ n, k ≤ n → oRow ws i acc n = none := by
  intro n hn
  induction hn with
  | refl => exact h
  | step _ ih => rw [oRow, range_fold, ← oRow, ih]; rfl
theorem oAll_later {ws : List Int} {n k : Nat} (h : oAll ws n k = none) : ∀ m, k ≤ m → oAll ws n m = none := by
  intro m hm
  induction hm with
  | refl => exact h
  | step _ ih => rw [oAll, range_fold, ← oAll, ih]; exact oRow_none ..
def eOuts (l : List (Int × Int × List Int)) : List (List D) := l.map eOut
def fixed (T : List Int) (n : Nat) (ws : List Int) : List Int := rounds (fun ws => narrow T n ws n) (wsum ws) ws
def tightT (T : List Int) (n : Int) (l : List Con) : D × Bool :=
  if 1 ≤ n ∧ n ≤ 8 then
    match bGo n l (bInit n.toNat n.toNat) with
    | some ws => match oAll (fixed T n.toNat ws) n.toNat n.toNat with
      | some out => (nsl (eOuts out), true)
      | none => (.nil, false)
    | none => (.nil, false)
  else (.nil, false)
def tight := tightT comps

theorem k_eqU {xs ys : List Int} {ks : List SK} {K : Bool → Prop} (h1 : xs.length = 64) (h2 : ys.length = 64) (hk : ks = List.replicate 64 .i) (k : Go (K (decide (xs = ys)))) : eqLK ks (cU xs) (cU ys) K := by
  have gen : ∀ (n : Nat) (xs ys : List Int) (K : Bool → Prop), xs.length = n → ys.length = n → K (decide (xs = ys)) → eqLK (List.replicate n .i) (cU xs) (cU ys) K := by
    intro n
    induction n with
    | zero =>
      intro xs ys K h1 h2 k
      obtain rfl := List.length_eq_zero_iff.1 h1
      obtain rfl := List.length_eq_zero_iff.1 h2
      exact k
    | succ n ih =>
      intro xs ys K h1 h2 k
      match xs, ys, h1, h2 with
      | x :: xs, y :: ys, h1, h2 =>
        have e : decide (x :: xs = y :: ys) = (decide (x = y) && decide (xs = ys)) := by rw [Bool.eq_iff_iff]; simp
        cases n with
        | zero =>
          obtain rfl := List.length_eq_zero_iff.1 (by simpa using h1)
          obtain rfl := List.length_eq_zero_iff.1 (by simpa using h2)
          rw [e] at k
          simpa [eqLK, eqDK, cU, dU, kq, List.replicate] using k
        | succ n =>
          have := ih xs ys (fun b => K (decide (x = y) && b)) (by simpa using h1) (by simpa using h2) (by rw [← e]; exact k)
          match xs, ys, this with
          | x2 :: xs, y2 :: ys, this => exact this
          | [], _, _ => simp at h1
          | _ :: _, [], _ => simp at h2
  subst hk
  exact gen 64 xs ys K h1 h2 k

theorem oAll_row {ws : List Int} {n i : Nat} : oAll ws n (i + 1) = oRow ws i (oAll ws n i) n := by rw [oAll, range_fold]; rfl
theorem oRow_step {ws : List Int} {i k : Nat} {acc : Option (List (Int × Int × List Int))} : oRow ws i acc (k + 1) = oStep ws i (oRow ws i acc k) k := by rw [oRow, range_fold]; rfl
theorem eOuts_len (l : List (Int × Int × List Int)) : (eOuts l).length = l.length := by simp [eOuts]
theorem Tighten_T (T : List Int) (hT : T.length = 169) (hC : Pure Try.prog N.allen_compositions [] (.agg (cU T))) (n : Int) (l : List Con) (hll : l.length ≤ 9223372036854775807) (d : D) (hd : SlD d (eCons l)) :
    Pure Try.prog N.allen_Tighten [.d (eI n), .d d] (.tup [.d (tightT T n l).1, .d (.bool (tightT T n l).2)]) := by
  refine F.allen_Tighten.go mixed rfl ?_
  by_cases hn : 1 ≤ n ∧ n ≤ 8
  rotate_left
  · unfold tightT
    rw [if_neg hn]
    repeat' first
      | refine st ?_
      | ((with_reducible apply go_i); (conv => whnf))
      | (with_reducible apply k_d <;> intro _)
      | (with_reducible apply k_b <;> intro _)
    all_goals rfl
  obtain ⟨m, rfl⟩ : ∃ m : Nat, n = m := ⟨n.toNat, by omega⟩
  have hm8 : m ≤ 8 := by omega
  have hB := C.allen_build m hm8 l hll d hd
  have htc2 : Nat.beq (cU T).length 169 = true := by rw [cU_len, hT]; rfl
  unfold tightT
  rw [if_pos hn]
  simp only [Int.toNat_natCast]
  unfold build at hB
  cases hb : bGo m l (bInit m m) with
  | none =>
    rw [hb] at hB
    dsimp only at hB
    repeat' first
      | refine st ?_
      | ((with_reducible apply go_i); (conv => whnf))
      | ((with_reducible apply k_pn); (· exact hB))
      | ((with_reducible apply k_pc); (· exact hB))
      | (with_reducible apply k_d <;> intro _)
      | (with_reducible apply k_b <;> intro _)
  | some ws =>
    rw [hb] at hB
    dsimp only at hB ⊢
    obtain ⟨hr, hl⟩ := bGo_inR m l _ ws (bInit_inR m m) hb
    rw [bInit_len] at hl
    have hc1 := n_beq1 hl
    have hc2 := n_beq2 hl
    have hfz : cU ws = (dU ws).map .d := rfl
    have hnl : (narrow T m ws m).length = 64 := by rw [narrow_len, hl]
    have hd1 := n_beq1 hnl
    have hd2 := n_beq2 hnl
    have hrf : ∀ ws, (AV.agg (cU ws)).ref = false := fun ws => by simp [AV.ref, cU, AV.ref1]
    have hr1 := hrf ws
    have hany : ∀ ws, [AV.agg (cU ws), .d (eI m), .ptr 1 0].any AV.ref = true := fun ws => by simp [AV.ref, AV.ref1]
    have ha1 := hany ws
    have hgm : ∀ f ws, mG f (.agg (cU ws)) = .agg (cU ws) := fun f ws => by simp [mG, cU, mC]
    repeat' first
      | refine st ?_
      | ((with_reducible apply go_i); (conv => whnf))
      | ((with_reducible apply k_pn); (· first | exact hB | exact hC))
      | ((with_reducible apply k_pc); (· first | exact hB | exact hC))
      | ((with_reducible apply k_nc); (· first | exact C.allen_narrowed T hT m hm8 ws hl _ _ rfl); (try rintro _ _ ⟨rfl, rfl⟩))
      | ((with_reducible apply k_pr); (· first | exact C.allen_narrowed T hT m hm8 ws hl _ _ rfl))
      | ((with_reducible apply k_cs); (· first | exact C.allen_narrowed T hT m hm8 ws hl _ _ rfl); (try rintro _ _ ⟨rfl, rfl⟩))
      | ((with_reducible apply k_cal); refine st ?_; (with_reducible apply k_chk); (· exact rfl); refine st ?_; (with_reducible apply k_cs); (· first | exact C.allen_narrowed T hT m hm8 ws hl _ _ rfl); (try rintro _ _ ⟨rfl, rfl⟩))
      | (with_reducible apply k_d <;> intro _)
      | (with_reducible apply k_b <;> intro _)
    refine x_loopR1 mixed Lt.allen_Tighten_l0 Lk.allen_Tighten_l0 (fun (w : List Int) => [.ptr 2 0]) (fun w => [.cells (cU w), .cells (cU T), .cells (cU (narrow T m w m))]) 3 (fun w => inR w ∧ w.length = 64 ∧ fixed T m w = fixed T m ws) wsum ws rfl rfl rfl (fun w => ⟨rfl, rfl⟩) (fun w _ => ⟨rfl, ?_⟩) rfl ⟨hr, hl, rfl⟩ ?_
    · simp [AO.bndB, cU, AV.bnd1B]
    repeat' first
      | refine st ?_
      | ((with_reducible apply go_i); (conv => whnf))
      | (with_reducible apply k_d <;> intro _)
      | (with_reducible apply k_b <;> intro _)
    intro w ⟨k1, k2, k3⟩
    have hc1 := n_beq1 k2
    have hc2 := n_beq2 k2
    have hfz : cU w = (dU w).map .d := rfl
    have hnl : (narrow T m w m).length = 64 := by rw [narrow_len, k2]
    have hd1 := n_beq1 hnl
    have hd2 := n_beq2 hnl
    repeat' first
      | refine st ?_
      | ((with_reducible apply go_i); (conv => whnf))
      | (with_reducible apply k_d <;> intro _)
      | (with_reducible apply k_b <;> intro _)
    refine k_eqU hnl k2 rfl ?_
    have hfz2 : cU (narrow T m w m) = (dU (narrow T m w m)).map .d := rfl
    have hr2 := hrf (narrow T m w m)
    have ha2 := hany (narrow T m w m)
    have hnl2 : (narrow T m (narrow T m w m) m).length = 64 := by rw [narrow_len, hnl]
    have hd3 := n_beq1 hnl2
    have hd4 := n_beq2 hnl2
    repeat' first
      | refine st ?_
      | ((with_reducible apply go_i); (conv => whnf))
      | ((with_reducible apply k_nc); (· first | exact C.allen_narrowed T hT m hm8 _ hnl _ _ rfl); (try rintro _ _ ⟨rfl, rfl⟩))
      | ((with_reducible apply k_pr); (· first | exact C.allen_narrowed T hT m hm8 _ hnl _ _ rfl))
      | ((with_reducible apply k_cs); (· first | exact C.allen_narrowed T hT m hm8 _ hnl _ _ rfl); (try rintro _ _ ⟨rfl, rfl⟩))
      | ((with_reducible apply k_cal); refine st ?_; (with_reducible apply k_chk); (· exact rfl); refine st ?_; (with_reducible apply k_cs); (· first | exact C.allen_narrowed T hT m hm8 _ hnl _ _ rfl); (try rintro _ _ ⟨rfl, rfl⟩))
      | (with_reducible apply k_d <;> intro _)
      | (with_reducible apply k_b <;> intro _)
    · rename_i hfx
      have hfix : fixed T m ws = w := by rw [← k3]; exact rounds_stop _ _ _ hfx
      rw [hfix]
      clear hfix
      refine x_nil 10 3 rfl rfl ?_
      repeat' first
        | refine st ?_
        | ((with_reducible apply go_i); (conv => whnf))
        | (with_reducible apply k_d <;> intro _)
        | (with_reducible apply k_b <;> intro _)
      have hc3 := n_beq k2
      refine x_loop3 mixed Lt.allen_Tighten_l2 Lk.allen_Tighten_l2 (fun (i : Nat) (out : List (Int × Int × List Int)) (nl : Bool) => [.arr 3 (eOuts out).length, .d (eI i)]) (fun i out nl => [.cells (cU w), .cells (cU T), .cells (cU (narrow T m w m)), .arr (eOuts out) 3 0 nl]) (fun i out nl => i ≤ m ∧ nl = (eOuts out).isEmpty ∧ oAll w m i = some out ∧ out.length ≤ 8 * i) (fun i _ _ => m - i) 0 [] true rfl rfl rfl rfl (fun i out nl _ => ⟨rfl, ?_⟩) rfl ⟨by omega, rfl, rfl, by simp⟩ ?_
      · simp [AO.bndB, cU, AV.bnd1B]
      repeat' first
        | refine st ?_
        | ((with_reducible apply go_i); (conv => whnf))
        | (with_reducible apply k_d <;> intro _)
        | (with_reducible apply k_b <;> intro _)
      intro i out nl ⟨q1, q2, q3, q4⟩
      repeat' first
        | refine st ?_
        | ((with_reducible apply go_i); (conv => whnf))
        | (with_reducible apply k_d <;> intro _)
        | (with_reducible apply k_b <;> intro _)
      · refine x_loop3 mixed Lt.allen_Tighten_l1 Lk.allen_Tighten_l1 (fun (k : Nat) (out : List (Int × Int × List Int)) (nl : Bool) => [.arr 3 (eOuts out).length, .d (eI k)]) (fun i out nl => [.cells (cU w), .cells (cU T), .cells (cU (narrow T m w m)), .arr (eOuts out) 3 0 nl]) (fun k out' nl => k ≤ m ∧ nl = (eOuts out').isEmpty ∧ oRow w i (some out) k = some out' ∧ out'.length ≤ 8 * i + k) (fun i _ _ => m - i) 0 out nl rfl rfl rfl rfl (fun i out nl _ => ⟨rfl, ?_⟩) rfl ⟨by omega, q2, rfl, by omega⟩ ?_
        · simp [AO.bndB, cU, AV.bnd1B]
        repeat' first
          | refine st ?_
          | ((with_reducible apply go_i); (conv => whnf))
          | (with_reducible apply k_d <;> intro _)
          | (with_reducible apply k_b <;> intro _)
        intro k out' nl' ⟨r1, r2, r3, r4⟩
        have hol := eOuts_len out'
        by_cases hk : k < m
        · have hi' : (0 : Int) ≤ (i : Int) ∧ (i : Int) < 8 := by omega
          have hk' : (0 : Int) ≤ (k : Int) ∧ (k : Int) < 8 := by omega
          have g1 := nAt_get k2 hi' hk'
          have l1 := n_le k2 hi' hk'
          have hs := @oRow_step w i k (some out)
          rw [r3, oStep] at hs
          repeat' first
            | refine st ?_
            | ((with_reducible apply go_i); (conv => whnf))
            | ((with_reducible apply k_pn); (· exact C.allen_set_list _))
            | ((with_reducible apply k_pc); (· exact C.allen_set_list _))
            | (with_reducible apply k_d <;> intro _)
            | (with_reducible apply k_b <;> intro _)
          · rename_i h0
            rw [if_pos h0] at hs
            have h1 := oRow_later hs m (by omega)
            have h2 : oAll w m (i + 1) = none := by rw [oAll_row, q3]; exact h1
            rw [oAll_later h2 m (by omega)]
          · rename_i h0 h1
            rw [if_neg h0, if_pos (by omega)] at hs
            refine ⟨k + 1, out' ++ [((i : Int), (k : Int), sList (nAt w i k))], false, ?_, rfl, ?_, by omega, by omega, by simp [eOuts], hs, by simp; omega⟩
            · simp [eOuts]
            · simp [eOuts, eOut]
          · rename_i h0 h1
            rw [if_neg h0, if_neg (by omega)] at hs
            exact ⟨k + 1, out', nl', rfl, rfl, rfl, by omega, by omega, r2, hs, by omega⟩
        · repeat' first
            | refine st ?_
            | ((with_reducible apply go_i); (conv => whnf))
            | (with_reducible apply k_d <;> intro _)
            | (with_reducible apply k_b <;> intro _)
          refine ⟨i + 1, out', nl', rfl, rfl, rfl, by omega, by omega, r2, ?_, by omega⟩
          rw [oAll_row, q3, ← r3, show k = m by omega]
      · obtain rfl : m = i := by omega
        rw [q3]
        simp [nsl_cnd q2]
    · rename_i hne
      have hmo : ∀ f ws, mO f (.cells (cU ws)) = .cells (cU ws) := fun f ws => by simp [mO, cU, mC]
      refine ⟨[0, 1, 3], narrow T m w m, rfl, rfl, ?_, by decide, rfl, rfl, narrow_lt T m k1 hne, (narrow_ok T m m k1).1, hnl, ?_⟩
      · simp only [List.map_cons, List.map_nil, hmo]; rfl
      · rw [← k3]; exact fixed_step T m k1 hne
theorem C.allen_Tighten (n : Int) (l : List Con) (hll : l.length ≤ 9223372036854775807) (d : D) (hd : SlD d (eCons l)) :
    Pure Try.prog N.allen_Tighten [.d (eI n), .d d] (.tup [.d (tight n l).1, .d (.bool (tight n l).2)]) := Tighten_T comps comps_len C.allen_compositions n l hll d hd
end Go.Proofs
end
section
/- Contracts: Satisfied, the reference's relations, inverses, names. No condition. -/
set_option linter.unusedSimpArgs false
set_option linter.unusedVariables false
set_option maxRecDepth 10000
set_option maxHeartbeats 4000000
namespace Go.Proofs
open Go.Bi

def validQ (p : Int × Int) : Bool := valid p.1 p.2
def getQ (l : List (Int × Int)) (i : Int) : Int × Int := l.getD i.toNat (0, 0)
def okS (l : List (Int × Int)) (c : Con) : Bool := okC l.length c && sHas (sOfL c.rels) (relQ (getQ l c.a) (getQ l c.b))
def sat (l : List (Int × Int)) (c : List Con) : Bool := l.all validQ && c.all (okS l)
theorem all_take_succ {α : Type} {f : α → Bool} {l : List α} {i : Nat} {x : α} (h : l[i]? = some x) : (l.take (i + 1)).all f = ((l.take i).all f && f x) := by
  simp only [List.take_add_one, h, List.all_append, Option.toList, List.all_cons, List.all_nil, Bool.and_true]
theorem all_none {α : Type} {f : α → Bool} {l : List α} {i : Nat} {x : α} (h : l[i]? = some x) (hx : f x = false) : l.all f = false := by
  rw [Bool.eq_false_iff]
  intro ha
  rw [List.all_eq_true.1 ha x (List.mem_of_getElem? h)] at hx
  cases hx
theorem eQs_len (l : List (Int × Int)) : (eQs l).length = l.length := by simp [eQs]
theorem eQs_mem (l : List (Int × Int)) : ∀ e ∈ eQs l, e.length = 2 := by
  intro e he
  obtain ⟨c, _, rfl⟩ := List.mem_map.1 he
  rfl
theorem getQ_get {l : List (Int × Int)} {i : Int} (h : 0 ≤ i ∧ i < l.length) : l[i.toNat]? = some (getQ l i) := by
  unfold getQ
  rw [List.getD_eq_getElem?_getD, List.getElem?_eq_getElem (by omega)]
  rfl
theorem C.allen_Satisfied (l : List (Int × Int)) (hl : l.length ≤ 9223372036854775806) (d1 : D) (hd1 : SlD d1 (eQs l)) (c : List Con) (hc : c.length ≤ 9223372036854775806) (d2 : D) (hd2 : SlD d2 (eCons c)) :
    Pure Try.prog N.allen_Satisfied [.d d1, .d d2] (.d (.bool (sat l c))) := by
  refine F.allen_Satisfied.go mixed rfl ?_
  have hl1 := eQs_len l
  have hm1 := eQs_mem l
  have hl2 := eCons_len c
  have hm2 := eCons_mem c
  repeat' first
    | refine st ?_
    | ((with_reducible apply go_i); (conv => whnf))
    | (with_reducible apply k_d <;> intro _)
    | (with_reducible apply k_b <;> intro _)
  refine x_loop1 mixed Lt.allen_Satisfied_l0 Lk.allen_Satisfied_l0 (fun (i : Nat) => [.d (eI i)]) (fun i => []) (fun i => i ≤ l.length ∧ (l.take i).all validQ = true) (fun i => l.length - i) 0 rfl rfl rfl rfl (fun _ _ => ⟨rfl, rfl⟩) rfl ⟨by omega, rfl⟩ ?_
  repeat' first
    | refine st ?_
    | ((with_reducible apply go_i); (conv => whnf))
    | (with_reducible apply k_d <;> intro _)
    | (with_reducible apply k_b <;> intro _)
  intro i ⟨h1, h2⟩
  cases hx : l[i]? with
  | some p =>
    have hlt := (List.getElem?_eq_some_iff.1 hx).1
    have he := eQs_get hx
    repeat' first
      | refine st ?_
      | ((with_reducible apply go_i); (conv => whnf))
      | ((with_reducible apply k_pn); (· exact C.period_Valid _ _))
      | ((with_reducible apply k_pc); (· exact C.period_Valid _ _))
      | (with_reducible apply k_d <;> intro _)
      | (with_reducible apply k_b <;> intro _)
    · rename_i hv
      refine ⟨i + 1, rfl, rfl, rfl, by omega, by omega, ?_⟩
      rw [all_take_succ hx, h2]; exact hv
    · rename_i hv
      rw [sat, all_none hx hv]; rfl
  | none =>
    have hge := List.getElem?_eq_none_iff.1 hx
    rw [List.take_of_length_le hge] at h2
    repeat' first
      | refine st ?_
      | ((with_reducible apply go_i); (conv => whnf))
      | (with_reducible apply k_d <;> intro _)
      | (with_reducible apply k_b <;> intro _)
    refine x_loop1 mixed Lt.allen_Satisfied_l1 Lk.allen_Satisfied_l1 (fun (i : Nat) => [.d (eI i)]) (fun i => []) (fun i => i ≤ c.length ∧ (c.take i).all (okS l) = true) (fun i => c.length - i) 0 rfl rfl rfl rfl (fun _ _ => ⟨rfl, rfl⟩) rfl ⟨by omega, rfl⟩ ?_
    repeat' first
      | refine st ?_
      | ((with_reducible apply go_i); (conv => whnf))
      | (with_reducible apply k_d <;> intro _)
      | (with_reducible apply k_b <;> intro _)
    intro j ⟨h3, h4⟩
    cases hy : c[j]? with
    | none =>
      have hge := List.getElem?_eq_none_iff.1 hy
      rw [List.take_of_length_le hge] at h4
      repeat' first
        | refine st ?_
        | ((with_reducible apply go_i); (conv => whnf))
        | (with_reducible apply k_d <;> intro _)
        | (with_reducible apply k_b <;> intro _)
      rw [sat, h2, h4]; rfl
    | some x =>
      have hlt := (List.getElem?_eq_some_iff.1 hy).1
      have he := eCons_get hy
      have cof := C.allen_of x.rels x.d x.hd x.hl
      by_cases hok : okC l.length x = true
      · simp only [okC, Bool.and_eq_true, decide_eq_true_eq] at hok
        obtain ⟨ho1, ho2, ho3, ho4, ho5⟩ := hok
        have hof : sOf x.rels = (sOfL x.rels, true) := by simp [sOf, ho1]
        rw [hof] at cof
        have ga := eQs_get (getQ_get ⟨ho2, ho3⟩)
        have gb := eQs_get (getQ_get ⟨ho4, ho5⟩)
        have hk : okC l.length x = true := by simp [okC, ho1, ho2, ho3, ho4, ho5]
        repeat' first
          | refine st ?_
          | ((with_reducible apply go_i); (conv => whnf))
          | ((with_reducible apply k_pn); (· first | exact cof | exact C.allen_Relation _ _ _ _ | exact C.allen_set_has _ _))
          | ((with_reducible apply k_pc); (· first | exact cof | exact C.allen_Relation _ _ _ _ | exact C.allen_set_has _ _))
          | (with_reducible apply k_d <;> intro _)
          | (with_reducible apply k_b <;> intro _)
        · rename_i hs
          refine ⟨j + 1, rfl, rfl, rfl, by omega, by omega, ?_⟩
          rw [all_take_succ hy, h4, okS, hk]; exact hs
        · rename_i hs
          have : okS l x = false := by rw [okS, hk]; exact hs
          rw [sat, all_none hy this, Bool.and_false]
      · have hbad : okS l x = false := by simp [okS, hok]
        have hsat : sat l c = false := by rw [sat, all_none hy hbad, Bool.and_false]
        rw [hsat]
        by_cases he1 : allEx x.rels = true
        · have hof : sOf x.rels = (sOfL x.rels, true) := by simp [sOf, he1]
          rw [hof] at cof
          have hb : ¬ (0 ≤ x.a ∧ x.a < l.length ∧ 0 ≤ x.b ∧ x.b < l.length) := fun h => hok (by simp [okC, he1, h])
          repeat' first
            | refine st ?_
            | ((with_reducible apply go_i); (conv => whnf))
            | ((with_reducible apply k_pn); (· exact cof))
            | ((with_reducible apply k_pc); (· exact cof))
            | (with_reducible apply k_d <;> intro _)
            | (with_reducible apply k_b <;> intro _)
          all_goals rfl
        · have hof : sOf x.rels = (0, false) := by simp [sOf, he1]
          rw [hof] at cof
          repeat' first
            | refine st ?_
            | ((with_reducible apply go_i); (conv => whnf))
            | ((with_reducible apply k_pn); (· exact cof))
            | ((with_reducible apply k_pc); (· exact cof))
            | (with_reducible apply k_d <;> intro _)
            | (with_reducible apply k_b <;> intro _)

/-! ### The reference -/
theorem C.ref_Valid1 (a b : Int) : Pure Try.prog N.bt_ref01_Valid [eP a b] (.d (.bool (valid a b))) := by
  refine F.bt_ref01_Valid.go mixed rfl ?_
  repeat' first
    | refine st ?_
    | ((with_reducible apply go_i); (conv => whnf))
    | (with_reducible apply k_d <;> intro _)
    | (with_reducible apply k_b <;> intro _)
  all_goals (simp_all [valid] <;> omega)
def isR (r a b c d : Int) : Bool :=
  if r = 0 then decide (b < c) else if r = 1 then decide (b = c) else if r = 2 then decide (a < c ∧ c < b ∧ b < d) else if r = 3 then decide (a = c ∧ b < d) else if r = 4 then decide (c < a ∧ b < d)
  else if r = 5 then decide (b = d ∧ c < a) else if r = 6 then decide (a = c ∧ b = d) else if r = 7 then decide (b = d ∧ a < c) else if r = 8 then decide (a < c ∧ d < b) else if r = 9 then decide (a = c ∧ d < b)
  else if r = 10 then decide (c < a ∧ a < d ∧ d < b) else if r = 11 then decide (d = a) else if r = 12 then decide (d < a) else false
theorem C.ref_Is (r a b c d : Int) : Pure Try.prog N.bt_ref02_Is [.d (eI r), eP a b, eP c d] (.d (.bool (isR r a b c d))) := by
  refine F.bt_ref02_Is.go mixed rfl ?_
  repeat' first
    | refine st ?_
    | ((with_reducible apply go_i); (conv => whnf))
    | (with_reducible apply k_d <;> intro _)
    | (with_reducible apply k_b <;> intro _)
  all_goals simp_all [isR]
  all_goals (intros; omega)
theorem isR_at (a b c d : Int) (h1 : valid a b = true) (h2 : valid c d = true) : isR (rel a b c d).1 a b c d = true := by
  simp only [valid, decide_eq_true_eq] at h1 h2
  have h : (valid a b && valid c d) = true := by simp [valid, h1, h2]
  rw [rel, if_pos h]
  dsimp only
  repeat' split
  all_goals (simp [isR]; try omega)
theorem isR_of (r a b c d : Int) (h1 : valid a b = true) (h2 : valid c d = true) (h3 : isR r a b c d = true) : (rel a b c d).1 = r := by
  simp only [valid, decide_eq_true_eq] at h1 h2
  have h : (valid a b && valid c d) = true := by simp [valid, h1, h2]
  have hr : 0 ≤ r ∧ r < 13 := by
    by_cases hr : 0 ≤ r ∧ r < 13
    · exact hr
    · unfold isR at h3
      rw [if_neg (by omega), if_neg (by omega), if_neg (by omega), if_neg (by omega), if_neg (by omega), if_neg (by omega), if_neg (by omega), if_neg (by omega), if_neg (by omega), if_neg (by omega), if_neg (by omega), if_neg (by omega), if_neg (by omega)] at h3
      cases h3
  rw [rel, if_pos h]
  dsimp only
  rcases (show r = 0 ∨ r = 1 ∨ r = 2 ∨ r = 3 ∨ r = 4 ∨ r = 5 ∨ r = 6 ∨ r = 7 ∨ r = 8 ∨ r = 9 ∨ r = 10 ∨ r = 11 ∨ r = 12 by omega) with rfl | rfl | rfl | rfl | rfl | rfl | rfl | rfl | rfl | rfl | rfl | rfl | rfl
  · have hh := h3; simp only [isR, decide_eq_true_eq] at hh; simp at hh
    rw [if_pos (by omega)]
  · have hh := h3; simp only [isR, decide_eq_true_eq] at hh; simp at hh
    rw [if_neg (by omega), if_pos (by omega)]
  · have hh := h3; simp only [isR, decide_eq_true_eq] at hh; simp at hh
    rw [if_neg (by omega), if_neg (by omega), if_neg (by omega), if_neg (by omega), if_neg (by omega), if_neg (by omega), if_neg (by omega), if_neg (by omega), if_neg (by omega), if_neg (by omega), if_neg (by omega), if_pos (by omega)]
  · have hh := h3; simp only [isR, decide_eq_true_eq] at hh; simp at hh
    rw [if_neg (by omega), if_neg (by omega), if_neg (by omega), if_neg (by omega), if_neg (by omega), if_pos (by omega)]
  · have hh := h3; simp only [isR, decide_eq_true_eq] at hh; simp at hh
    rw [if_neg (by omega), if_neg (by omega), if_neg (by omega), if_neg (by omega), if_neg (by omega), if_neg (by omega), if_neg (by omega), if_neg (by omega), if_neg (by omega), if_neg (by omega), if_pos (by omega)]
  · have hh := h3; simp only [isR, decide_eq_true_eq] at hh; simp at hh
    rw [if_neg (by omega), if_neg (by omega), if_neg (by omega), if_neg (by omega), if_neg (by omega), if_neg (by omega), if_neg (by omega), if_pos (by omega)]
  · have hh := h3; simp only [isR, decide_eq_true_eq] at hh; simp at hh
    rw [if_neg (by omega), if_neg (by omega), if_neg (by omega), if_neg (by omega), if_pos (by omega)]
  · have hh := h3; simp only [isR, decide_eq_true_eq] at hh; simp at hh
    rw [if_neg (by omega), if_neg (by omega), if_neg (by omega), if_neg (by omega), if_neg (by omega), if_neg (by omega), if_neg (by omega), if_neg (by omega), if_pos (by omega)]
  · have hh := h3; simp only [isR, decide_eq_true_eq] at hh; simp at hh
    rw [if_neg (by omega), if_neg (by omega), if_neg (by omega), if_neg (by omega), if_neg (by omega), if_neg (by omega), if_neg (by omega), if_neg (by omega), if_neg (by omega), if_pos (by omega)]
  · have hh := h3; simp only [isR, decide_eq_true_eq] at hh; simp at hh
    rw [if_neg (by omega), if_neg (by omega), if_neg (by omega), if_neg (by omega), if_neg (by omega), if_neg (by omega), if_pos (by omega)]
  · have hh := h3; simp only [isR, decide_eq_true_eq] at hh; simp at hh
    rw [if_neg (by omega), if_neg (by omega), if_neg (by omega), if_neg (by omega), if_neg (by omega), if_neg (by omega), if_neg (by omega), if_neg (by omega), if_neg (by omega), if_neg (by omega), if_neg (by omega), if_neg (by omega)]
  · have hh := h3; simp only [isR, decide_eq_true_eq] at hh; simp at hh
    rw [if_neg (by omega), if_neg (by omega), if_neg (by omega), if_pos (by omega)]
  · have hh := h3; simp only [isR, decide_eq_true_eq] at hh; simp at hh
    rw [if_neg (by omega), if_neg (by omega), if_pos (by omega)]
theorem isR_eq (r a b c d : Int) (h1 : valid a b = true) (h2 : valid c d = true) : isR r a b c d = decide ((rel a b c d).1 = r) := by
  rw [Bool.eq_iff_iff, decide_eq_true_eq]
  exact ⟨isR_of r a b c d h1 h2, fun e => by rw [← e]; exact isR_at a b c d h1 h2⟩
theorem rel_is (a b c d : Int) : (rel a b c d).2 = (valid a b && valid c d) := by
  by_cases h : (valid a b && valid c d) = true
  · rw [rel, if_pos h, h]
  · rw [rel, if_neg h, Bool.eq_false_iff.2 h]
theorem rel_no {a b c d : Int} (h : (valid a b && valid c d) = false) : rel a b c d = (0, false) := by
  unfold rel; rw [h]; rfl
theorem C.ref_Holds (r a b c d : Int) : Pure Try.prog N.bt_ref02_Holds [.d (eI r), eP a b, eP c d] (.d (.bool ((rel a b c d).2 && decide ((rel a b c d).1 = r)))) := by
  refine F.bt_ref02_Holds.go mixed rfl ?_
  rw [rel_is]
  repeat' first
    | refine st ?_
    | ((with_reducible apply go_i); (conv => whnf))
    | ((with_reducible apply k_pn); (· first | exact C.ref_Valid1 _ _ | exact C.ref_Is _ _ _ _ _))
    | ((with_reducible apply k_pc); (· first | exact C.ref_Valid1 _ _ | exact C.ref_Is _ _ _ _ _))
    | (with_reducible apply k_d <;> intro _)
    | (with_reducible apply k_b <;> intro _)
  · rename_i h1 h2
    rw [isR_eq _ _ _ _ _ h1 h2, h1, h2]; rfl
  · rename_i h1 h2
    rw [h1, h2]; rfl
  · rename_i h1
    rw [h1]; rfl
theorem C.ref_Relation (a b c d : Int) : Pure Try.prog N.bt_ref02_Relation [eP a b, eP c d] (.tup [.d (.int .i64 (rel a b c d).1), .d (.bool (rel a b c d).2)]) := by
  refine F.bt_ref02_Relation.go mixed rfl ?_
  repeat' first
    | refine st ?_
    | ((with_reducible apply go_i); (conv => whnf))
    | (with_reducible apply k_d <;> intro _)
    | (with_reducible apply k_b <;> intro _)
  refine x_loop1 mixed Lt.bt_ref02_Relation_l0 Lk.bt_ref02_Relation_l0 (fun (i : Nat) => [.d (eI i)]) (fun i => [.cells [.d (eI a), .d (eI b)], .cells [.d (eI c), .d (eI d)]]) (fun i => i ≤ 13 ∧ ∀ j : Nat, j < i → ((rel a b c d).2 && decide ((rel a b c d).1 = j)) = false) (fun i => 13 - i) 0 rfl rfl rfl rfl (fun _ _ => ⟨rfl, rfl⟩) rfl ⟨by omega, by omega⟩ ?_
  repeat' first
    | refine st ?_
    | ((with_reducible apply go_i); (conv => whnf))
    | (with_reducible apply k_d <;> intro _)
    | (with_reducible apply k_b <;> intro _)
  intro i ⟨h1, h2⟩
  repeat' first
    | refine st ?_
    | ((with_reducible apply go_i); (conv => whnf))
    | ((with_reducible apply k_pn); (· exact C.ref_Holds _ _ _ _ _))
    | ((with_reducible apply k_pc); (· exact C.ref_Holds _ _ _ _ _))
    | (with_reducible apply k_d <;> intro _)
    | (with_reducible apply k_b <;> intro _)
  · rename_i h3 h4
    simp [h3, h4]
  · rename_i h3 h4
    refine ⟨i + 1, rfl, rfl, rfl, by omega, by omega, fun j hj => ?_⟩
    rcases Nat.lt_succ_iff_lt_or_eq.1 hj with h | rfl
    · exact h2 j h
    · rw [h3, decide_eq_false h4]; rfl
  · rename_i h3
    refine ⟨i + 1, rfl, rfl, rfl, by omega, by omega, fun j hj => ?_⟩
    rw [h3]; rfl
  · have : (rel a b c d).2 = false := by
      rw [Bool.eq_false_iff]
      intro h
      have hr := rel_range a b c d
      have := h2 (rel a b c d).1.toNat (by omega)
      rw [h] at this
      simp at this
      omega
    rw [rel_is] at this
    rw [rel_no this]
theorem C.ref_Inverse (r : Int) : Pure Try.prog N.bt_ref02_Inverse [.d (eI r)] (.d (eI (inv r))) := by
  refine F.bt_ref02_Inverse.go mixed rfl ?_
  repeat' first
    | refine st ?_
    | ((with_reducible apply go_i); (conv => whnf))
    | (with_reducible apply k_d <;> intro _)
    | (with_reducible apply k_b <;> intro _)
  all_goals (simp only [inv, AV.d.injEq, D.int.injEq, true_and]; split <;> omega)
theorem C.ref_Ints (l k : List Int) (hl : l.length ≤ 9223372036854775806) (d1 d2 : D) (h1 : SlD d1 (eIs l)) (h2 : SlD d2 (eIs k)) : Pure Try.prog N.bt_ref02_Ints [.d d1, .d d2] (.d (.bool (decide (l = k)))) := by
  refine F.bt_ref02_Ints.go mixed rfl ?_
  have hl1 := eIs_len l
  have hl2 := eIs_len k
  repeat' first
    | refine st ?_
    | ((with_reducible apply go_i); (conv => whnf))
    | (with_reducible apply k_d <;> intro _)
    | (with_reducible apply k_b <;> intro _)
  · rename_i hne
    refine x_loop1 mixed Lt.bt_ref02_Ints_l0 Lk.bt_ref02_Ints_l0 (fun (i : Nat) => [.d (eI i)]) (fun i => []) (fun i => i ≤ l.length ∧ l.take i = k.take i) (fun i => l.length - i) 0 rfl rfl rfl rfl (fun _ _ => ⟨rfl, rfl⟩) rfl ⟨by omega, rfl⟩ ?_
    repeat' first
      | refine st ?_
      | ((with_reducible apply go_i); (conv => whnf))
      | (with_reducible apply k_d <;> intro _)
      | (with_reducible apply k_b <;> intro _)
    intro i ⟨h3, h4⟩
    cases hx : l[i]? with
    | none =>
      have hge := List.getElem?_eq_none_iff.1 hx
      repeat' first
        | refine st ?_
        | ((with_reducible apply go_i); (conv => whnf))
        | (with_reducible apply k_d <;> intro _)
        | (with_reducible apply k_b <;> intro _)
      rw [List.take_of_length_le hge, List.take_of_length_le (by omega)] at h4
      simp [h4]
    | some x =>
      have hlt := (List.getElem?_eq_some_iff.1 hx).1
      have hy : k[i]? = some k[i] := List.getElem?_eq_getElem (by omega)
      generalize k[i] = y at hy
      have g1 := eIs_get hx
      have g2 := eIs_get hy
      repeat' first
        | refine st ?_
        | ((with_reducible apply go_i); (conv => whnf))
        | (with_reducible apply k_d <;> intro _)
        | (with_reducible apply k_b <;> intro _)
      · rename_i e
        refine ⟨i + 1, rfl, rfl, rfl, by omega, by omega, ?_⟩
        rw [List.take_add_one, List.take_add_one, h4, hx, hy, e]
      · rename_i e
        have : l ≠ k := fun h => e (by rw [h, hy] at hx; cases hx; rfl)
        simp [this]
  · rename_i hne
    have : l ≠ k := fun e => hne (by rw [e])
    simp [this]
theorem nameR_get {i : Nat} (h : i < 13) : (nameL.map fun s => [D.str s])[i]? = some [.str (nameL.getD i [])] := by
  have : i < nameL.length := by simpa [nameL] using h
  simp [this]
end Go.Proofs
end
section
/- Sets of relations as bits; the table of compositions by its members. No condition. -/
set_option linter.unusedSimpArgs false
set_option linter.unusedVariables false
set_option maxRecDepth 100000
set_option maxHeartbeats 4000000
namespace Go.Proofs
open Go.Bi

theorem sOr_nat (m n : Nat) (hm : m < 65536) (hn : n < 65536) : sOr (m : Int) n = ((m ||| n : Nat) : Int) := by
  show IntKind.u16.wrap ((BitVec.ofInt 16 m ||| BitVec.ofInt 16 n).toNat : Nat) = _
  rw [BitVec.toNat_or, ofInt16 ⟨by omega, by omega⟩, ofInt16 ⟨by omega, by omega⟩]
  exact wrap16 (Nat.or_lt_two_pow (n := 16) hm hn)
theorem sAnd_nat (m n : Nat) (hm : m < 65536) (hn : n < 65536) : sAnd (m : Int) n = ((m &&& n : Nat) : Int) := by
  rw [sAnd_eq, ofInt16 ⟨by omega, by omega⟩, ofInt16 ⟨by omega, by omega⟩]; rfl
theorem wrap64u {n : Nat} (h : n < 16) : IntKind.u64.wrap (n : Int) = n := by
  simp only [IntKind.wrap, IntKind.signed, IntKind.bits, Bool.false_and, Bool.false_eq_true, if_false]
  omega
theorem sOne_nat (c : Nat) (h : c < 16) : sOne (c : Int) = ((2 ^ c : Nat) : Int) := by
  unfold sOne
  rw [wrap64u h]
  have : min (c : Int).toNat IntKind.u16.bits = c := by simp [IntKind.bits]; omega
  rw [this, Int.one_mul]
  have h2 : 2 ^ c < 65536 := Nat.pow_lt_pow_right (by omega) (show c < 16 by omega)
  have := wrap16 h2
  rw [← this]
  congr 1
theorem sHas_nat (n c : Nat) (hn : n < 65536) (hc : c < 16) : sHas (n : Int) c = n.testBit c := by
  unfold sHas
  rw [wrap64u hc]
  have : min (c : Int).toNat IntKind.u16.bits = c := by simp [IntKind.bits]; omega
  rw [this]
  have h1 : ((n : Int).fdiv (2 ^ c)) = ((n / 2 ^ c : Nat) : Int) := by
    rw [Int.fdiv_eq_ediv_of_nonneg _ (by exact Int.le_of_lt (Int.pow_pos (by decide)))]
    simp
  rw [h1]
  have h2 : n / 2 ^ c < 65536 := Nat.lt_of_le_of_lt (Nat.div_le_self _ _) hn
  have h3 := sAnd_nat (n / 2 ^ c) 1 h2 (by omega)
  rw [show ((1 : Nat) : Int) = 1 from rfl] at h3
  rw [h3, Nat.and_one_is_mod, Nat.testBit_eq_decide_div_mod_eq]
  rw [Bool.eq_iff_iff, decide_eq_true_eq, decide_eq_true_eq]
  omega

/-! ### The table -/
def relN (a b c d : Nat) : Nat :=
  bif Nat.blt b c then 0 else bif Nat.beq b c then 1 else bif Nat.blt d a then 12 else bif Nat.beq d a then 11 else bif Nat.beq a c then (bif Nat.beq b d then 6 else bif Nat.blt b d then 3 else 9)
  else bif Nat.beq b d then (bif Nat.blt c a then 5 else 7) else bif Nat.blt a c then (bif Nat.blt d b then 8 else 2) else (bif Nat.blt b d then 4 else 10)
theorem beq_dec (a b : Nat) : Nat.beq a b = decide (a = b) := by
  rw [Bool.eq_iff_iff, decide_eq_true_eq]
  exact ⟨Nat.eq_of_beq_eq_true, fun h => by subst h; exact Nat.beq_refl a⟩
theorem blt_dec (a b : Nat) : Nat.blt a b = decide (a < b) := by
  rw [Bool.eq_iff_iff, decide_eq_true_eq]
  exact ⟨Nat.le_of_ble_eq_true, Nat.ble_eq_true_of_le⟩
theorem relN_eq (a b c d : Nat) (h1 : valid a b = true) (h2 : valid c d = true) : (rel a b c d).1 = (relN a b c d : Int) := by
  refine isR_of _ _ _ _ _ h1 h2 ?_
  simp only [valid, decide_eq_true_eq] at h1 h2
  unfold relN
  simp only [beq_dec, blt_dec, Bool.cond_decide]
  repeat' split
  all_goals (simp [isR]; try omega)
abbrev PN := List (Nat × Nat)
def persN (n m : Nat) : PN := (List.range n).flatMap fun i => (List.range (m - i)).map fun k => (i, i + 1 + k)
def toP (p : Nat × Nat) : Int × Int := (p.1, p.2)
theorem pers_eq (n m : Nat) : pers n m = (persN n m).map toP := by
  unfold pers persN
  rw [List.map_flatMap]
  congr 1
  funext i
  simp only [perPart, List.map_map]
  rw [show m + 1 - i - 1 = m - i by omega]
  rfl
def rN (p q : Nat × Nat) : Nat := relN p.1 p.2 q.1 q.2
def okP (p : Nat × Nat) : Prop := p.1 < p.2 ∧ p.2 ≤ 1099511627776
theorem relQ_eq {p q : Nat × Nat} (hp : okP p) (hq : okP q) : relQ (toP p) (toP q) = (rN p q : Int) := by
  refine relN_eq p.1 p.2 q.1 q.2 ?_ ?_
  · obtain ⟨h1, h2⟩ := hp; simp only [valid, decide_eq_true_eq]; omega
  · obtain ⟨h1, h2⟩ := hq; simp only [valid, decide_eq_true_eq]; omega
theorem persN_ok {n m : Nat} (h : n + m ≤ 1000) : ∀ p ∈ persN n m, okP p ∧ p.1 < n ∧ p.2 ≤ m := by
  intro p hp
  obtain ⟨i, hi, h2⟩ := List.mem_flatMap.1 hp
  obtain ⟨k, hk, rfl⟩ := List.mem_map.1 h2
  have := List.mem_range.1 hi
  have := List.mem_range.1 hk
  exact ⟨⟨by show i < i + 1 + k; omega, by show i + 1 + k ≤ _; omega⟩, by show i < n; omega, by show i + 1 + k ≤ m; omega⟩
theorem persN_mem {n m i j : Nat} (h1 : i < n) (h2 : i < j) (h3 : j ≤ m) : (i, j) ∈ persN n m :=
  List.mem_flatMap.2 ⟨i, List.mem_range.2 h1, List.mem_map.2 ⟨j - i - 1, List.mem_range.2 (by omega), by congr 1; omega⟩⟩
theorem rN_lt (p q : Nat × Nat) : rN p q < 13 := by
  unfold rN relN
  simp only [beq_dec, blt_dec, Bool.cond_decide]
  repeat' split
  all_goals omega

def lorAll {α : Type} (f : α → Nat) : List α → Nat
  | [] => 0
  | x :: l => Nat.lor (f x) (lorAll f l)
theorem lorAll_bit {α : Type} {f : α → Nat} {n : Nat} : ∀ {l : List α}, (lorAll f l).testBit n = true ↔ ∃ x ∈ l, (f x).testBit n = true
  | [] => by simp [lorAll]
  | x :: l => by
    show (f x ||| lorAll f l).testBit n = true ↔ _
    rw [Nat.testBit_or, Bool.or_eq_true, lorAll_bit (l := l)]
    simp
def maskN (L : PN) : Nat := lorAll (fun p => lorAll (fun q => lorAll (fun r => Nat.shiftLeft 1 (169 * rN p q + 13 * rN q r + rN p r)) L) L) L
theorem shl_bit (k n : Nat) : (Nat.shiftLeft 1 k).testBit n = true ↔ k = n := by
  show (1 <<< k).testBit n = true ↔ _
  rw [Nat.one_shiftLeft, Nat.testBit_two_pow]
  simp
theorem maskN_bit (L : PN) (a b c : Nat) (ha : a < 13) (hb : b < 13) (hc : c < 13) : (maskN L).testBit (169 * a + 13 * b + c) = true ↔ ∃ p ∈ L, ∃ q ∈ L, ∃ r ∈ L, rN p q = a ∧ rN q r = b ∧ rN p r = c := by
  unfold maskN
  simp only [lorAll_bit, shl_bit]
  constructor
  · rintro ⟨p, hp, q, hq, r, hr, h⟩
    have h1 := rN_lt p q
    have h2 := rN_lt q r
    have h3 := rN_lt p r
    exact ⟨p, hp, q, hq, r, hr, by omega, by omega, by omega⟩
  · rintro ⟨p, hp, q, hq, r, hr, h1, h2, h3⟩
    exact ⟨p, hp, q, hq, r, hr, by omega⟩

theorem mask_val : maskN (persN 6 6) = maskN (persN 6 5) := by kernel_rfl

end Go.Proofs
end
