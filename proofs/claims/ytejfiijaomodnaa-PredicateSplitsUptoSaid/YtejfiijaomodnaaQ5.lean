/- Texts of this claim, joined. No condition. -/
import Derived.Test.YtejfiijaomodnaaQ4
section
/- All, the program's and the reference's. No condition. -/
set_option linter.unusedSimpArgs false
set_option linter.unusedVariables false
set_option maxRecDepth 10000
set_option maxHeartbeats 4000000
namespace Go.Proofs
open Go.Bi

def allX (nl : Bool) : List Ex → Ex
  | [] => .mk 1 0 (vBool true) [] true []
  | [x] => x
  | l => .mk 5 0 vNull [] nl l
theorem allX_two {nl : Bool} {l : List Ex} (h : 2 ≤ l.length) : allX nl l = .mk 5 0 vNull [] nl l := by
  match l, h with
  | _ :: _ :: _, _ => rfl
theorem allX_same {nl : Bool} {l : List Ex} (h : ∀ x ∈ l, x.Rg) : smE (allX false (l.map (shf 0))) (allX nl l) = true := by
  match l with
  | [] => exact smE_refl _
  | [x] => exact shf0_same x (h x (by simp))
  | a :: b :: t =>
    rw [allX_two (by simp), allX_two (by simp), smE_mk, smL_eq]
    simp only [decide_true, Bool.true_and, List.length_map, List.all_eq_true]
    intro p hp
    obtain ⟨i, hi, rfl⟩ := List.mem_iff_getElem.1 hp
    rw [List.getElem_zip, List.getElem_map]
    dsimp only
    exact shf0_same _ (h _ (List.getElem_mem _))
theorem allX_bk {nl : Bool} {l : List Ex} (h : bulkLL (xL l) ≤ 1048576) : (allX nl l).bk ≤ 2097152 := by
  match l with
  | [] => exact (by decide +kernel : (allX true []).bk ≤ 2097152)
  | [x] =>
    simp only [allX, Ex.bk]
    simp only [xL, List.map_cons, List.map_nil, bulkLL] at h
    omega
  | a :: b :: t =>
    rw [allX_two (by simp), Ex.bk, Ex.ds_mk]
    simp only [bulkL, bulkD, bulk_ng]
    have e0 : vNull.s.length = 0 := rfl
    simp
    omega
end Go.Proofs
end
section
/- The window: the program's and the reference's. No condition. -/
set_option linter.unusedSimpArgs false
set_option linter.unusedVariables false
set_option maxRecDepth 10000
set_option maxHeartbeats 4000000
namespace Go.Proofs
open Go.Bi

def nar (r : Int × Int) (c : Cd) : Int × Int :=
  if c.op = 7 then (max r.1 c.v.n, min r.2 c.v.n) else if c.op = 9 then (r.1, min r.2 (c.v.n - 1)) else if c.op = 10 then (r.1, min r.2 c.v.n) else if c.op = 11 then (max r.1 (c.v.n + 1), r.2) else (max r.1 c.v.n, r.2)
theorem C.span_meet0 (a b : Int) (c : Cd) (hc : cmpOp c.op = true) (hn : nSm c.v.n) : CallSpec Try.prog N.ppredicate_span_meet [.ptr 0 0, .d (eI c.op), .d (eI c.v.n)] [.cells [.d (eI a), .d (eI b)]] (fun r os => r = .tup [] ∧ os = [.cells [.d (eI (nar (a, b) c).1), .d (eI (nar (a, b) c).2)]]) := by
  obtain ⟨op, col, k, n, s⟩ := c
  dsimp only at hc hn ⊢
  unfold cmpOp at hc
  have hc := of_decide_eq_true hc
  unfold nSm at hn
  obtain ⟨n1, n2⟩ := hn
  refine F.ppredicate_span_meet.goX mixed rfl ?_
  unfold nar
  dsimp only
  rcases hc with rfl | rfl | rfl | rfl | rfl
  · rw [if_pos rfl]
    repeat' first
      | refine st ?_
      | ((with_reducible apply go_i); (conv => whnf))
      | (with_reducible apply k_d <;> intro _)
      | (with_reducible apply k_b <;> intro _)
    all_goals exact ⟨rfl, rfl⟩
  · rw [if_neg (by decide), if_pos rfl]
    repeat' first
      | refine st ?_
      | ((with_reducible apply go_i); (conv => whnf))
      | (with_reducible apply k_d <;> intro _)
      | (with_reducible apply k_b <;> intro _)
    all_goals exact ⟨rfl, rfl⟩
  · rw [if_neg (by decide), if_neg (by decide), if_pos rfl]
    repeat' first
      | refine st ?_
      | ((with_reducible apply go_i); (conv => whnf))
      | (with_reducible apply k_d <;> intro _)
      | (with_reducible apply k_b <;> intro _)
    all_goals exact ⟨rfl, rfl⟩
  · rw [if_neg (by decide), if_neg (by decide), if_neg (by decide), if_pos rfl]
    repeat' first
      | refine st ?_
      | ((with_reducible apply go_i); (conv => whnf))
      | (with_reducible apply k_d <;> intro _)
      | (with_reducible apply k_b <;> intro _)
    all_goals exact ⟨rfl, rfl⟩
  · rw [if_neg (by decide), if_neg (by decide), if_neg (by decide), if_neg (by decide)]
    repeat' first
      | refine st ?_
      | ((with_reducible apply go_i); (conv => whnf))
      | (with_reducible apply k_d <;> intro _)
      | (with_reducible apply k_b <;> intro _)
    all_goals exact ⟨rfl, rfl⟩
theorem C.span_meet (a b : Int) (c : Cd) (hc : cmpOp c.op = true) (hn : nSm c.v.n) {os : List AO} {id : Nat} (ho : os[id]? = some (.cells [.d (eI a), .d (eI b)])) : CallSpec Try.prog N.ppredicate_span_meet [.ptr id 0, .d (eI c.op), .d (eI c.v.n)] os (fun r os' => r = .tup [] ∧ os' = os.set id (.cells [.d (eI (nar (a, b) c).1), .d (eI (nar (a, b) c).2)])) :=
  lift1 (fun id => [.ptr id 0, .d (eI c.op), .d (eI c.v.n)]) (C.span_meet0 a b c hc hn) (fun _ => rfl) (fun _ => rfl) (fun _ => rfl) (fun id n => rfl) (by simp [AV.bnd2, AV.bnd1]) (by simp [AO.bnd, AV.bnd1]) ho
theorem C.span_empty0 (a b : Int) : CallSpec Try.prog N.ppredicate_span_empty [.ptr 0 0] [.cells [.d (eI a), .d (eI b)]] (fun r os => r = .d (.bool (decide (b < a))) ∧ os = [.cells [.d (eI a), .d (eI b)]]) := by
  refine F.ppredicate_span_empty.goX mixed rfl ?_
  repeat' first
    | refine st ?_
    | ((with_reducible apply go_i); (conv => whnf))
    | (with_reducible apply k_d <;> intro _)
    | (with_reducible apply k_b <;> intro _)
  all_goals exact ⟨rfl, rfl⟩
theorem C.span_empty (a b : Int) {os : List AO} {id : Nat} (ho : os[id]? = some (.cells [.d (eI a), .d (eI b)])) : CallSpec Try.prog N.ppredicate_span_empty [.ptr id 0] os (fun r os' => r = .d (.bool (decide (b < a))) ∧ os' = os.set id (.cells [.d (eI a), .d (eI b)])) :=
  lift1 (fun id => [.ptr id 0]) (C.span_empty0 a b) (fun _ => rfl) (fun _ => rfl) (fun _ => rfl) (fun id n => rfl) (by simp [AV.bnd2, AV.bnd1]) (by simp [AO.bnd, AV.bnd1]) ho

def wf (f t : Int) : List Cd → Int × Int → Int × Int → Option ((Int × Int) × (Int × Int))
  | [], a, b => some (a, b)
  | c :: l, a, b => if c.col ≠ f ∧ c.col ≠ t then wf f t l a b else if c.v.k ≠ 1 then none else wf f t l (if c.col = f then nar a c else a) (if c.col = t then nar b c else b)
def bd (col : Int) : List Cd → Int × Int → Option (Int × Int)
  | [], r => some r
  | c :: l, r => if c.col = col then (if c.v.k ≠ 1 then none else bd col l (nar r c)) else bd col l r
theorem wf_bd (f t : Int) : ∀ (l : List Cd) (a b : Int × Int), wf f t l a b = match bd f l a, bd t l b with
    | some a', some b' => some (a', b')
    | _, _ => none
  | [], a, b => rfl
  | c :: l, a, b => by
    unfold wf bd
    by_cases h1 : c.col = f
    · by_cases h2 : c.col = t
      · by_cases h3 : c.v.k = 1
        · simp only [h1, h3, ne_eq, not_true, false_and, if_false, if_true]
          rw [← h1, if_pos h2, if_pos h2]
          exact wf_bd _ t l _ _
        · simp only [h1, h3, ne_eq, not_true, not_false_iff, false_and, if_false, if_true]
      · by_cases h3 : c.v.k = 1
        · simp only [h1, h3, ne_eq, not_true, false_and, if_false, if_true]
          rw [← h1, if_neg h2, if_neg h2]
          exact wf_bd _ t l _ _
        · simp only [h1, h3, ne_eq, not_true, not_false_iff, false_and, if_false, if_true]
    · by_cases h2 : c.col = t
      · by_cases h3 : c.v.k = 1
        · rw [if_neg (fun h => h.2 h2), if_neg (fun h => h h3), if_neg h1, if_neg h1, if_pos h2, if_pos h2, if_neg (fun h => h h3)]
          exact wf_bd f t l _ _
        · rw [if_neg (fun h => h.2 h2), if_pos h3, if_neg h1, if_pos h2, if_pos h3]
          cases bd f l a <;> rfl
      · rw [if_pos ⟨h1, h2⟩, if_neg h1, if_neg h2]
        exact wf_bd f t l _ _
theorem wf_drop {f t : Int} {l : List Cd} {i : Nat} {c : Cd} {a b : Int × Int} (h : l[i]? = some c) : wf f t (l.drop i) a b = if c.col ≠ f ∧ c.col ≠ t then wf f t (l.drop (i + 1)) a b else if c.v.k ≠ 1 then none else wf f t (l.drop (i + 1)) (if c.col = f then nar a c else a) (if c.col = t then nar b c else b) := by
  obtain ⟨hlt, he⟩ := List.getElem?_eq_some_iff.1 h
  rw [List.drop_eq_getElem_cons hlt, he, wf]
def wout : Option ((Int × Int) × (Int × Int)) → (Int × Int) × Bool
  | none => ((0, 0), false)
  | some (a, b) => if a.2 < a.1 ∨ b.2 < b.1 ∨ b.2 ≤ a.1 then ((0, 0), false) else if a.2 < b.1 then ((a.2, b.1), true) else ((a.1, b.2), true)
def win (e : Ex) (f t : Int) : (Int × Int) × Bool := wout (wf f t (conds e) (0, 1099511627775) (1, 1099511627776))
def winA (r : (Int × Int) × Bool) : AV := .tup [.agg [.d (eI r.1.1), .d (eI r.1.2)], .d (.bool r.2)]
theorem C.predicate_Window (e : Ex) (he : e.bk ≤ 1048576) (f t : Int) : Pure Try.prog N.predicate_Window [e.av, .d (eI f), .d (eI t)] (winA (win e f t)) := by
  have hJ := C.predicate_Conditions e he
  have hok : ∀ c ∈ conds e, cmpOp c.op = true ∧ nSm c.v.n := fun c hc => ⟨(conds_ok hc).1, valid_n (conds_ok hc).2.2⟩
  have hcl := conds_len e
  unfold win
  obtain ⟨J, hJe⟩ : ∃ J, J = conds e := ⟨_, rfl⟩
  rw [← hJe] at hJ hok hcl ⊢
  have h1 := eDs_len J
  have hm := eDs_mem J
  have hsl : SlD (nsl (eDs J)) (eDs J) := sld_nsl
  obtain ⟨dj, hdj⟩ : ∃ d, d = nsl (eDs J) := ⟨_, rfl⟩
  rw [← hdj] at hJ hsl
  obtain ⟨q, hq⟩ : ∃ q, q = wf f t J (0, 1099511627775) (1, 1099511627776) := ⟨_, rfl⟩
  rw [← hq]
  obtain ⟨op, n, v, nm, nl, args⟩ := e
  rw [Ex.av_mk] at hJ ⊢
  obtain ⟨da, hda⟩ : ∃ d, d = ng nl (xL args) := ⟨_, rfl⟩
  rw [← hda] at hJ ⊢
  refine F.predicate_Window.go mixed rfl ?_
  repeat' first
    | refine st ?_
    | ((with_reducible apply go_i); (conv => whnf))
    | ((with_reducible apply k_pn); (· exact hJ))
    | ((with_reducible apply k_pc); (· exact hJ))
    | (with_reducible apply k_d <;> intro _)
    | (with_reducible apply k_b <;> intro _)
  refine x_loop3 mixed Lt.predicate_Window_l0 Lk.predicate_Window_l0 (fun (i : Nat) (a b : Int × Int) => [.d (eI i)]) (fun i a b => [.cells [.d (eI op), .d (eI n), .d (eI v.k), .d (eI v.n), .d (.str v.s), .d (.str nm), .d da], .cells [.d (eI 0), .d (eI 0)], .cells [.d (eI a.1), .d (eI a.2)], .cells [.d (eI b.1), .d (eI b.2)]]) (fun i a b => i ≤ J.length ∧ q = wf f t (J.drop i) a b) (fun i _ _ => J.length - i) 0 (0, 1099511627775) (1, 1099511627776) rfl rfl rfl rfl (fun _ _ _ _ => ⟨rfl, rfl⟩) rfl ⟨by omega, hq⟩ ?_
  repeat' first
    | refine st ?_
    | ((with_reducible apply go_i); (conv => whnf))
    | (with_reducible apply k_d <;> intro _)
    | (with_reducible apply k_b <;> intro _)
  intro i a b ⟨h4, h5⟩
  obtain ⟨a1, a2⟩ := a
  obtain ⟨b1, b2⟩ := b
  cases hx : J[i]? with
  | some c =>
    have hlt := (List.getElem?_eq_some_iff.1 hx).1
    have hg := eDs_get hx
    obtain ⟨k1, k2⟩ := hok c (List.mem_of_getElem? hx)
    rw [wf_drop hx] at h5
    have hM1 : ∀ (os : List AO), os[2]? = some (.cells [.d (eI a1), .d (eI a2)]) → CallSpec Try.prog N.ppredicate_span_meet [.ptr 2 0, .d (eI c.op), .d (eI c.v.n)] os (fun r os' => r = .tup [] ∧ os' = os.set 2 (.cells [.d (eI (nar (a1, a2) c).1), .d (eI (nar (a1, a2) c).2)])) := fun os ho => C.span_meet a1 a2 c k1 k2 ho
    have hM2 : ∀ (os : List AO), os[3]? = some (.cells [.d (eI b1), .d (eI b2)]) → CallSpec Try.prog N.ppredicate_span_meet [.ptr 3 0, .d (eI c.op), .d (eI c.v.n)] os (fun r os' => r = .tup [] ∧ os' = os.set 3 (.cells [.d (eI (nar (b1, b2) c).1), .d (eI (nar (b1, b2) c).2)])) := fun os ho => C.span_meet b1 b2 c k1 k2 ho
    obtain ⟨A, hA⟩ : ∃ A, A = nar (a1, a2) c := ⟨_, rfl⟩
    obtain ⟨B, hB⟩ : ∃ B, B = nar (b1, b2) c := ⟨_, rfl⟩
    rw [← hA] at hM1 h5
    rw [← hB] at hM2 h5
    obtain ⟨cop, col, ck, cn, cs⟩ := c
    dsimp only at h5 hM1 hM2
    have r1 : cs = cs := rfl
    by_cases g1 : col = f
    · rw [if_neg (fun h => h.1 g1)] at h5
      by_cases g3 : ck = 1
      · rw [if_neg (fun h => h g3), if_pos g1] at h5
        by_cases g2 : col = t
        · rw [if_pos g2] at h5
          repeat' first
            | refine st ?_
            | ((with_reducible apply go_i); (conv => whnf))
            | ((with_reducible apply k_nc); (· first | exact hM1 _ rfl | exact hM2 _ rfl); (try rintro _ _ ⟨rfl, rfl⟩))
            | ((with_reducible apply k_pr); (· first | exact hM1 _ rfl | exact hM2 _ rfl))
            | ((with_reducible apply k_cs); (· first | exact hM1 _ rfl | exact hM2 _ rfl); (try rintro _ _ ⟨rfl, rfl⟩))
            | ((with_reducible apply k_cal); refine st ?_; (with_reducible apply k_chk); (· exact rfl); refine st ?_; (with_reducible apply k_cs); (· first | exact hM1 _ rfl | exact hM2 _ rfl); (try rintro _ _ ⟨rfl, rfl⟩))
            | (with_reducible apply k_d <;> intro _)
            | (with_reducible apply k_b <;> intro _)
          exact ⟨i + 1, A, B, rfl, rfl, rfl, by omega, by omega, h5⟩
        · rw [if_neg g2] at h5
          repeat' first
            | refine st ?_
            | ((with_reducible apply go_i); (conv => whnf))
            | ((with_reducible apply k_nc); (· first | exact hM1 _ rfl | exact hM2 _ rfl); (try rintro _ _ ⟨rfl, rfl⟩))
            | ((with_reducible apply k_pr); (· first | exact hM1 _ rfl | exact hM2 _ rfl))
            | ((with_reducible apply k_cs); (· first | exact hM1 _ rfl | exact hM2 _ rfl); (try rintro _ _ ⟨rfl, rfl⟩))
            | ((with_reducible apply k_cal); refine st ?_; (with_reducible apply k_chk); (· exact rfl); refine st ?_; (with_reducible apply k_cs); (· first | exact hM1 _ rfl | exact hM2 _ rfl); (try rintro _ _ ⟨rfl, rfl⟩))
            | (with_reducible apply k_d <;> intro _)
            | (with_reducible apply k_b <;> intro _)
          exact ⟨i + 1, A, (b1, b2), rfl, rfl, rfl, by omega, by omega, h5⟩
      · rw [if_pos g3] at h5
        rw [h5]
        repeat' first
          | refine st ?_
          | ((with_reducible apply go_i); (conv => whnf))
          | (with_reducible apply k_d <;> intro _)
          | (with_reducible apply k_b <;> intro _)
        all_goals rfl
    · by_cases g2 : col = t
      · rw [if_neg (fun h => h.2 g2)] at h5
        by_cases g3 : ck = 1
        · rw [if_neg (fun h => h g3), if_neg g1, if_pos g2] at h5
          repeat' first
            | refine st ?_
            | ((with_reducible apply go_i); (conv => whnf))
            | ((with_reducible apply k_nc); (· first | exact hM2 _ rfl); (try rintro _ _ ⟨rfl, rfl⟩))
            | ((with_reducible apply k_pr); (· first | exact hM2 _ rfl))
            | ((with_reducible apply k_cs); (· first | exact hM2 _ rfl); (try rintro _ _ ⟨rfl, rfl⟩))
            | ((with_reducible apply k_cal); refine st ?_; (with_reducible apply k_chk); (· exact rfl); refine st ?_; (with_reducible apply k_cs); (· first | exact hM2 _ rfl); (try rintro _ _ ⟨rfl, rfl⟩))
            | (with_reducible apply k_d <;> intro _)
            | (with_reducible apply k_b <;> intro _)
          exact ⟨i + 1, (a1, a2), B, rfl, rfl, rfl, by omega, by omega, h5⟩
        · rw [if_pos g3] at h5
          rw [h5]
          repeat' first
            | refine st ?_
            | ((with_reducible apply go_i); (conv => whnf))
            | (with_reducible apply k_d <;> intro _)
            | (with_reducible apply k_b <;> intro _)
          all_goals rfl
      · rw [if_pos ⟨g1, g2⟩] at h5
        repeat' first
          | refine st ?_
          | ((with_reducible apply go_i); (conv => whnf))
          | (with_reducible apply k_d <;> intro _)
          | (with_reducible apply k_b <;> intro _)
        exact ⟨i + 1, (a1, a2), (b1, b2), rfl, rfl, rfl, by omega, by omega, h5⟩
  | none =>
    have hge := List.getElem?_eq_none_iff.1 hx
    rw [List.drop_eq_nil_of_le hge] at h5
    have h5 : q = some ((a1, a2), (b1, b2)) := h5
    rw [h5]
    have hE1 : ∀ (os : List AO), os[2]? = some (.cells [.d (eI a1), .d (eI a2)]) → CallSpec Try.prog N.ppredicate_span_empty [.ptr 2 0] os (fun r os' => r = .d (.bool (decide (a2 < a1))) ∧ os' = os.set 2 (.cells [.d (eI a1), .d (eI a2)])) := fun os ho => C.span_empty a1 a2 ho
    have hE2 : ∀ (os : List AO), os[3]? = some (.cells [.d (eI b1), .d (eI b2)]) → CallSpec Try.prog N.ppredicate_span_empty [.ptr 3 0] os (fun r os' => r = .d (.bool (decide (b2 < b1))) ∧ os' = os.set 3 (.cells [.d (eI b1), .d (eI b2)])) := fun os ho => C.span_empty b1 b2 ho
    unfold wout
    dsimp only
    by_cases z : a2 < a1 ∨ b2 < b1 ∨ b2 ≤ a1
    · rw [if_pos z]
      repeat' first
        | refine st ?_
        | ((with_reducible apply go_i); (conv => whnf))
        | ((with_reducible apply k_nc); (· first | exact hE1 _ rfl | exact hE2 _ rfl); (try rintro _ _ ⟨rfl, rfl⟩))
        | ((with_reducible apply k_pr); (· first | exact hE1 _ rfl | exact hE2 _ rfl))
        | ((with_reducible apply k_cs); (· first | exact hE1 _ rfl | exact hE2 _ rfl); (try rintro _ _ ⟨rfl, rfl⟩))
        | ((with_reducible apply k_cal); refine st ?_; (with_reducible apply k_chk); (· exact rfl); refine st ?_; (with_reducible apply k_cs); (· first | exact hE1 _ rfl | exact hE2 _ rfl); (try rintro _ _ ⟨rfl, rfl⟩))
        | (with_reducible apply k_d <;> intro _)
        | (with_reducible apply k_b <;> intro _)
      all_goals first | rfl | (exfalso; omega)
    · rw [if_neg z]
      by_cases z2 : a2 < b1
      · rw [if_pos z2]
        repeat' first
          | refine st ?_
          | ((with_reducible apply go_i); (conv => whnf))
          | ((with_reducible apply k_nc); (· first | exact hE1 _ rfl | exact hE2 _ rfl); (try rintro _ _ ⟨rfl, rfl⟩))
          | ((with_reducible apply k_pr); (· first | exact hE1 _ rfl | exact hE2 _ rfl))
          | ((with_reducible apply k_cs); (· first | exact hE1 _ rfl | exact hE2 _ rfl); (try rintro _ _ ⟨rfl, rfl⟩))
          | ((with_reducible apply k_cal); refine st ?_; (with_reducible apply k_chk); (· exact rfl); refine st ?_; (with_reducible apply k_cs); (· first | exact hE1 _ rfl | exact hE2 _ rfl); (try rintro _ _ ⟨rfl, rfl⟩))
          | (with_reducible apply k_d <;> intro _)
          | (with_reducible apply k_b <;> intro _)
        all_goals first | rfl | (exfalso; omega)
      · rw [if_neg z2]
        repeat' first
          | refine st ?_
          | ((with_reducible apply go_i); (conv => whnf))
          | ((with_reducible apply k_nc); (· first | exact hE1 _ rfl | exact hE2 _ rfl); (try rintro _ _ ⟨rfl, rfl⟩))
          | ((with_reducible apply k_pr); (· first | exact hE1 _ rfl | exact hE2 _ rfl))
          | ((with_reducible apply k_cs); (· first | exact hE1 _ rfl | exact hE2 _ rfl); (try rintro _ _ ⟨rfl, rfl⟩))
          | ((with_reducible apply k_cal); refine st ?_; (with_reducible apply k_chk); (· exact rfl); refine st ?_; (with_reducible apply k_cs); (· first | exact hE1 _ rfl | exact hE2 _ rfl); (try rintro _ _ ⟨rfl, rfl⟩))
          | (with_reducible apply k_d <;> intro _)
          | (with_reducible apply k_b <;> intro _)
        all_goals first | rfl | (exfalso; omega)
end Go.Proofs
end
section
/- The window: the reference's. No condition. -/
set_option linter.unusedSimpArgs false
set_option linter.unusedVariables false
set_option maxRecDepth 10000
set_option maxHeartbeats 4000000
namespace Go.Proofs
open Go.Bi

def onC (col : Int) (l : List Cd) : List Cd := l.filter fun c => decide (c.col = col)
theorem onC_len (col : Int) (l : List Cd) : (onC col l).length ≤ l.length := List.length_filter_le _ _
theorem onC_succ {col : Int} {l : List Cd} {i : Nat} {c : Cd} (h : l[i]? = some c) : onC col (l.take (i + 1)) = if c.col = col then onC col (l.take i) ++ [c] else onC col (l.take i) := by
  unfold onC
  rw [List.take_add_one, h, List.filter_append]
  by_cases hc : c.col = col
  · rw [if_pos hc]; simp [hc]
  · rw [if_neg hc]; simp [hc]
def bdF : List Cd → Int × Int → (Int × Int) × Bool
  | [], r => (r, true)
  | c :: l, r => if c.v.k ≠ 1 then (r, false) else bdF l (nar r c)
theorem bd_bdF (col : Int) : ∀ (l : List Cd) (r : Int × Int), bd col l r = if (bdF (onC col l) r).2 then some (bdF (onC col l) r).1 else none
  | [], r => rfl
  | c :: l, r => by
    unfold bd
    by_cases h : c.col = col
    · rw [if_pos h, show onC col (c :: l) = c :: onC col l by unfold onC; simp [h], bdF]
      by_cases h2 : c.v.k = 1
      · simp only [h2, ne_eq, not_true, if_false]
        exact bd_bdF col l _
      · simp [h2]
    · rw [if_neg h, show onC col (c :: l) = onC col l by unfold onC; simp [h], bd_bdF col l]
theorem bdF_drop {l : List Cd} {i : Nat} {c : Cd} {r : Int × Int} (h : l[i]? = some c) : bdF (l.drop i) r = if c.v.k ≠ 1 then (r, false) else bdF (l.drop (i + 1)) (nar r c) := by
  obtain ⟨hlt, he⟩ := List.getElem?_eq_some_iff.1 h
  rw [List.drop_eq_getElem_cons hlt, he, bdF]
end Go.Proofs
end
section
/- Conditions on texts. No condition. -/
set_option linter.unusedSimpArgs false
set_option linter.unusedVariables false
set_option maxRecDepth 10000
set_option maxHeartbeats 4000000
namespace Go.Proofs
open Go.Bi

theorem cmpB_anti (a b : List UInt8) : cmpB b a = - cmpB a b := by
  obtain ⟨h1, h2, h3, h4⟩ := cmpB_less a b
  obtain ⟨g1, g2, g3, g4⟩ := cmpB_less b a
  have e1 : (cmpB b a < 0) ↔ (0 < cmpB a b) := by rw [← decide_eq_decide, ← g1, ← h2]
  have e2 : (0 < cmpB b a) ↔ (cmpB a b < 0) := by rw [← decide_eq_decide, ← g2, ← h1]
  omega
theorem cmpB_trans : ∀ {a b c : List UInt8}, cmpB a b < 0 → cmpB b c < 0 → cmpB a c < 0
  | [], [], _, h, _ => by simp [cmpB, Lib.compareBytes] at h
  | [], _ :: _, [], _, h => by simp [cmpB, Lib.compareBytes] at h
  | [], _ :: _, _ :: _, _, _ => by simp [cmpB, Lib.compareBytes]
  | _ :: _, [], _, h, _ => by simp [cmpB, Lib.compareBytes] at h
  | _ :: _, _ :: _, [], _, h => by simp [cmpB, Lib.compareBytes] at h
  | x :: a, y :: b, z :: c, h1, h2 => by
    simp only [cmpB, Lib.compareBytes] at h1 h2 ⊢
    have t : ∀ p q : UInt8, p < q ↔ p.toNat < q.toNat := fun p q => UInt8.lt_iff_toNat_lt
    simp only [t] at h1 h2 ⊢
    split at h1
    · split at h2
      · rw [if_pos (by omega)]; omega
      · split at h2
        · omega
        · rw [if_pos (by omega)]; omega
    · split at h1
      · omega
      · split at h2
        · rw [if_pos (by omega)]; omega
        · split at h2
          · omega
          · rw [if_neg (by omega), if_neg (by omega)]
            exact cmpB_trans h1 h2
theorem cmpB_nil (a : List UInt8) : ¬ cmpB a [] < 0 := by cases a <;> simp [cmpB, Lib.compareBytes]
theorem cmpB_eq {a b : List UInt8} : cmpB a b = 0 ↔ a = b := (cmpB_less a b).2.2.1

structure Lm where
  t : List UInt8
  st : Bool
  is : Bool
def tig (a b : Lm) (s : Int) : Lm := if a.is = false ∨ 0 < s * cmpB b.t a.t ∨ (s * cmpB b.t a.t = 0 ∧ b.st = true) then b else a
def loA (op : Int) : Bool := decide (op = 11 ∨ op = 12 ∨ op = 7)
def hiA (op : Int) : Bool := decide (op = 9 ∨ op = 10 ∨ op = 7)
def stA (op : Int) : Bool := decide (op = 11 ∨ op = 9)
def lmC (c : Cd) : Lm := ⟨c.v.s, stA c.op, true⟩
def txS (p : Lm × Lm) (c : Cd) : Lm × Lm := (if loA c.op then tig p.1 (lmC c) 1 else p.1, if hiA c.op then tig p.2 (lmC c) (-1) else p.2)
def lm0 : Lm := ⟨[], false, false⟩
def txO (p : Lm × Lm) : Bool := if p.2.is = true ∧ p.2.st = true ∧ p.2.t = [] then false else if p.1.is = false ∨ p.2.is = false then true else decide (cmpB p.1.t p.2.t < 0 ∨ (cmpB p.1.t p.2.t = 0 ∧ p.1.st = false ∧ p.2.st = false))
def txP (l : List Cd) : Bool := txO (l.foldl txS (lm0, lm0))
def tx2 (a b : Cd) : Bool := decide (b.op = 9 ∧ b.v.s = []) || (decide (loA a.op = true ∧ hiA b.op = true) && decide (0 < cmpB a.v.s b.v.s ∨ (a.v.s = b.v.s ∧ (a.op = 11 ∨ b.op = 9))))
/-- Below the lower limit. -/
def domL (x lo : Lm) : Prop := cmpB x.t lo.t < 0 ∨ (x.t = lo.t ∧ (x.st = true → lo.st = true))
def domH (x hi : Lm) : Prop := cmpB hi.t x.t < 0 ∨ (x.t = hi.t ∧ (x.st = true → hi.st = true))
theorem domL_trans {x y z : Lm} (h1 : domL x y) (h2 : domL y z) : domL x z := by
  rcases h1 with h1 | ⟨h1, h1'⟩
  · rcases h2 with h2 | ⟨h2, h2'⟩
    · exact .inl (cmpB_trans h1 h2)
    · exact .inl (by rw [← h2]; exact h1)
  · rcases h2 with h2 | ⟨h2, h2'⟩
    · exact .inl (by rw [h1]; exact h2)
    · exact .inr ⟨h1.trans h2, fun h => h2' (h1' h)⟩
theorem domH_trans {x y z : Lm} (h1 : domH x y) (h2 : domH y z) : domH x z := by
  rcases h1 with h1 | ⟨h1, h1'⟩
  · rcases h2 with h2 | ⟨h2, h2'⟩
    · exact .inl (cmpB_trans h2 h1)
    · exact .inl (by rw [← h2]; exact h1)
  · rcases h2 with h2 | ⟨h2, h2'⟩
    · exact .inl (by rw [h1]; exact h2)
    · exact .inr ⟨h1.trans h2, fun h => h2' (h1' h)⟩
theorem tigL {a b : Lm} (ha : a.is = true) : (tig a b 1 = b ∧ domL a b) ∨ (tig a b 1 = a ∧ domL b a) := by
  unfold tig
  have hn := cmpB_anti a.t b.t
  have he := cmpB_eq (a := b.t) (b := a.t)
  split
  · rename_i h
    left
    refine ⟨rfl, ?_⟩
    rcases h with h | h | ⟨h, h'⟩
    · rw [ha] at h; cases h
    · exact .inl (by omega)
    · exact .inr ⟨(he.1 (by omega)).symm, fun _ => h'⟩
  · rename_i h
    right
    refine ⟨rfl, ?_⟩
    simp only [not_or, not_and, Bool.not_eq_true] at h
    obtain ⟨_, h1, h2⟩ := h
    rcases (show cmpB b.t a.t < 0 ∨ 0 ≤ cmpB b.t a.t by omega) with g | g
    · exact .inl g
    · exact .inr ⟨he.1 (by omega), fun h => by rw [h2 (by omega)] at h; cases h⟩
theorem tigH {a b : Lm} (ha : a.is = true) : (tig a b (-1) = b ∧ domH a b) ∨ (tig a b (-1) = a ∧ domH b a) := by
  unfold tig
  have hn := cmpB_anti a.t b.t
  have he := cmpB_eq (a := b.t) (b := a.t)
  split
  · rename_i h
    left
    refine ⟨rfl, ?_⟩
    rcases h with h | h | ⟨h, h'⟩
    · rw [ha] at h; cases h
    · exact .inl (by omega)
    · exact .inr ⟨(he.1 (by omega)).symm, fun _ => h'⟩
  · rename_i h
    right
    refine ⟨rfl, ?_⟩
    simp only [not_or, not_and, Bool.not_eq_true] at h
    obtain ⟨_, h1, h2⟩ := h
    rcases (show cmpB a.t b.t < 0 ∨ 0 ≤ cmpB a.t b.t by omega) with g | g
    · exact .inl g
    · exact .inr ⟨he.1 (by omega), fun h => by rw [h2 (by omega)] at h; cases h⟩
def InvL (l : List Cd) (lo : Lm) : Prop := (lo.is = false ∧ ∀ a ∈ l, loA a.op = false) ∨ (lo.is = true ∧ (∃ a ∈ l, loA a.op = true ∧ lmC a = lo) ∧ ∀ a ∈ l, loA a.op = true → domL (lmC a) lo)
def InvH (l : List Cd) (hi : Lm) : Prop := (hi.is = false ∧ ∀ a ∈ l, hiA a.op = false) ∨ (hi.is = true ∧ (∃ a ∈ l, hiA a.op = true ∧ lmC a = hi) ∧ ∀ a ∈ l, hiA a.op = true → domH (lmC a) hi)
theorem InvL_step {l : List Cd} {lo : Lm} {c : Cd} (h : InvL l lo) : InvL (l ++ [c]) (if loA c.op then tig lo (lmC c) 1 else lo) := by
  cases hc : loA c.op with
  | false =>
    rw [if_neg (by simp)]
    rcases h with ⟨h1, h2⟩ | ⟨h1, ⟨a, ha, hb⟩, h3⟩
    · exact .inl ⟨h1, fun a ha => by rcases List.mem_append.1 ha with h | h; exact h2 a h; simp at h; subst h; exact hc⟩
    · exact .inr ⟨h1, ⟨a, by simp [ha], hb⟩, fun a ha hl => by rcases List.mem_append.1 ha with h | h; exact h3 a h hl; simp at h; subst h; rw [hc] at hl; cases hl⟩
  | true =>
    rw [if_pos rfl]
    rcases h with ⟨h1, h2⟩ | ⟨h1, ⟨a, ha, hb⟩, h3⟩
    · have : tig lo (lmC c) 1 = lmC c := by unfold tig; rw [if_pos (.inl h1)]
      rw [this]
      refine .inr ⟨rfl, ⟨c, by simp, hc, rfl⟩, fun a ha hl => ?_⟩
      rcases List.mem_append.1 ha with h | h
      · rw [h2 a h] at hl; cases hl
      · simp at h; subst h; exact .inr ⟨rfl, id⟩
    · rcases tigL (a := lo) (b := lmC c) h1 with ⟨e, hd⟩ | ⟨e, hd⟩
      · rw [e]
        refine .inr ⟨rfl, ⟨c, by simp, hc, rfl⟩, fun a ha hl => ?_⟩
        rcases List.mem_append.1 ha with h | h
        · exact domL_trans (h3 a h hl) hd
        · simp at h; subst h; exact .inr ⟨rfl, id⟩
      · rw [e]
        refine .inr ⟨h1, ⟨a, by simp [ha], hb⟩, fun a ha hl => ?_⟩
        rcases List.mem_append.1 ha with h | h
        · exact h3 a h hl
        · simp at h; subst h; exact hd
theorem InvH_step {l : List Cd} {hi : Lm} {c : Cd} (h : InvH l hi) : InvH (l ++ [c]) (if hiA c.op then tig hi (lmC c) (-1) else hi) := by
  cases hc : hiA c.op with
  | false =>
    rw [if_neg (by simp)]
    rcases h with ⟨h1, h2⟩ | ⟨h1, ⟨a, ha, hb⟩, h3⟩
    · exact .inl ⟨h1, fun a ha => by rcases List.mem_append.1 ha with h | h; exact h2 a h; simp at h; subst h; exact hc⟩
    · exact .inr ⟨h1, ⟨a, by simp [ha], hb⟩, fun a ha hl => by rcases List.mem_append.1 ha with h | h; exact h3 a h hl; simp at h; subst h; rw [hc] at hl; cases hl⟩
  | true =>
    rw [if_pos rfl]
    rcases h with ⟨h1, h2⟩ | ⟨h1, ⟨a, ha, hb⟩, h3⟩
    · have : tig hi (lmC c) (-1) = lmC c := by unfold tig; rw [if_pos (.inl h1)]
      rw [this]
      refine .inr ⟨rfl, ⟨c, by simp, hc, rfl⟩, fun a ha hl => ?_⟩
      rcases List.mem_append.1 ha with h | h
      · rw [h2 a h] at hl; cases hl
      · simp at h; subst h; exact .inr ⟨rfl, id⟩
    · rcases tigH (a := hi) (b := lmC c) h1 with ⟨e, hd⟩ | ⟨e, hd⟩
      · rw [e]
        refine .inr ⟨rfl, ⟨c, by simp, hc, rfl⟩, fun a ha hl => ?_⟩
        rcases List.mem_append.1 ha with h | h
        · exact domH_trans (h3 a h hl) hd
        · simp at h; subst h; exact .inr ⟨rfl, id⟩
      · rw [e]
        refine .inr ⟨h1, ⟨a, by simp [ha], hb⟩, fun a ha hl => ?_⟩
        rcases List.mem_append.1 ha with h | h
        · exact h3 a h hl
        · simp at h; subst h; exact hd
theorem inv_fold : ∀ (l pre : List Cd) (p : Lm × Lm), InvL pre p.1 → InvH pre p.2 → InvL (pre ++ l) (l.foldl txS p).1 ∧ InvH (pre ++ l) (l.foldl txS p).2
  | [], pre, p, h1, h2 => by simpa using ⟨h1, h2⟩
  | c :: l, pre, p, h1, h2 => by
    have := inv_fold l (pre ++ [c]) (txS p c) (InvL_step h1) (InvH_step h2)
    simpa using this
theorem stA_lo {op : Int} (h : loA op = true) : stA op = true ↔ op = 11 := by
  unfold loA at h; unfold stA
  have := of_decide_eq_true h
  rw [decide_eq_true_eq]
  omega
theorem stA_hi {op : Int} (h : hiA op = true) : stA op = true ↔ op = 9 := by
  unfold hiA at h; unfold stA
  have := of_decide_eq_true h
  rw [decide_eq_true_eq]
  omega
theorem tx2_iff (a b : Cd) : tx2 a b = true ↔ (b.op = 9 ∧ b.v.s = []) ∨ (loA a.op = true ∧ hiA b.op = true ∧ (0 < cmpB a.v.s b.v.s ∨ (a.v.s = b.v.s ∧ (a.op = 11 ∨ b.op = 9)))) := by
  unfold tx2
  rw [Bool.or_eq_true, Bool.and_eq_true, decide_eq_true_eq, decide_eq_true_eq, decide_eq_true_eq]
  constructor
  · rintro (h | ⟨⟨h1, h2⟩, h3⟩)
    · exact .inl h
    · exact .inr ⟨h1, h2, h3⟩
  · rintro (h | ⟨h1, h2, h3⟩)
    · exact .inl h
    · exact .inr ⟨⟨h1, h2⟩, h3⟩
theorem hiA9 : hiA 9 = true := by decide
theorem txP_eq (l : List Cd) : txP l = !(l.any fun a => l.any fun b => tx2 a b) := by
  obtain ⟨hL, hH⟩ := inv_fold l [] (lm0, lm0) (.inl ⟨rfl, by simp⟩) (.inl ⟨rfl, by simp⟩)
  rw [List.nil_append] at hL hH
  unfold txP
  obtain ⟨⟨lo, hi⟩, hp⟩ : ∃ p, p = l.foldl txS (lm0, lm0) := ⟨_, rfl⟩
  rw [← hp] at hL hH ⊢
  dsimp only at hL hH
  rw [Bool.eq_iff_iff]
  have hany : ((!(l.any fun a => l.any fun b => tx2 a b)) = true) ↔ ∀ a ∈ l, ∀ b ∈ l, ¬ tx2 a b = true := by simp
  rw [hany]
  have A : hi.is = true ∧ hi.st = true ∧ hi.t = [] ↔ ∃ b ∈ l, b.op = 9 ∧ b.v.s = [] := by
    constructor
    · rintro ⟨h1, h2, h3⟩
      rcases hH with ⟨g, _⟩ | ⟨_, ⟨b, hb, hb1, hb2⟩, _⟩
      · rw [h1] at g; cases g
      · refine ⟨b, hb, ?_, ?_⟩
        · rw [← hb2] at h2; exact (stA_hi hb1).1 h2
        · rw [← hb2] at h3; exact h3
    · rintro ⟨b, hb, hb1, hb2⟩
      have hA : hiA b.op = true := by rw [hb1]; exact hiA9
      rcases hH with ⟨_, g⟩ | ⟨g1, _, g3⟩
      · rw [g b hb] at hA; cases hA
      · rcases g3 b hb hA with g | ⟨g, g'⟩
        · simp only [lmC] at g
          rw [hb2] at g
          exact absurd g (cmpB_nil _)
        · simp only [lmC] at g g'
          rw [hb2] at g
          exact ⟨g1, g' ((stA_hi hA).2 hb1), g.symm⟩
  unfold txO
  dsimp only
  by_cases hA : hi.is = true ∧ hi.st = true ∧ hi.t = []
  · rw [if_pos hA]
    obtain ⟨b, hb, hb'⟩ := A.1 hA
    simp only [Bool.false_eq_true, false_iff]
    intro h
    exact h b hb b hb ((tx2_iff b b).2 (.inl hb'))
  · rw [if_neg hA]
    have hA' : ∀ b ∈ l, ¬ (b.op = 9 ∧ b.v.s = []) := fun b hb h => hA (A.2 ⟨b, hb, h⟩)
    by_cases hN : lo.is = false ∨ hi.is = false
    · rw [if_pos hN]
      simp only [true_iff]
      intro a ha b hb h
      rcases (tx2_iff a b).1 h with h | ⟨h1, h2, _⟩
      · exact hA' b hb h
      · rcases hN with hN | hN
        · rcases hL with ⟨_, g⟩ | ⟨g, _⟩
          · rw [g a ha] at h1; cases h1
          · rw [hN] at g; cases g
        · rcases hH with ⟨_, g⟩ | ⟨g, _⟩
          · rw [g b hb] at h2; cases h2
          · rw [hN] at g; cases g
    · rw [if_neg hN]
      simp only [not_or, Bool.not_eq_false] at hN
      rcases hL with ⟨g, _⟩ | ⟨_, ⟨a, ha, ha1, ha2⟩, ga⟩
      · rw [hN.1] at g; cases g
      rcases hH with ⟨g, _⟩ | ⟨_, ⟨b, hb, hb1, hb2⟩, gb⟩
      · rw [hN.2] at g; cases g
      rw [decide_eq_true_eq]
      have e1 : lo.t = a.v.s := by rw [← ha2]; rfl
      have e2 : hi.t = b.v.s := by rw [← hb2]; rfl
      have e3 : lo.st = stA a.op := by rw [← ha2]; rfl
      have e4 : hi.st = stA b.op := by rw [← hb2]; rfl
      constructor
      · intro h x hx y hy hxy
        rcases (tx2_iff x y).1 hxy with h' | ⟨x1, y1, h'⟩
        · exact hA' y hy h'
        have dx := ga x hx x1
        have dy := gb y hy y1
        unfold domL at dx
        unfold domH at dy
        simp only [lmC] at dx dy
        have ax := cmpB_anti x.v.s lo.t
        have ay := cmpB_anti hi.t y.v.s
        have axy := cmpB_anti x.v.s y.v.s
        -- x ≤ lo ≤ hi ≤ y
        rcases h with h | ⟨h, s1, s2⟩
        · -- strictly below
          have : cmpB x.v.s y.v.s < 0 := by
            have k1 : cmpB x.v.s hi.t < 0 := by
              rcases dx with dx | ⟨dx, _⟩
              · exact cmpB_trans dx h
              · rw [dx]; exact h
            rcases dy with dy | ⟨dy, _⟩
            · exact cmpB_trans k1 dy
            · rw [dy]; exact k1
          rcases h' with h' | ⟨h', _⟩
          · omega
          · have := cmpB_eq.2 h'; omega
        · have h := cmpB_eq.1 h
          rcases dx with dx | ⟨dx, dx'⟩
          · have k1 : cmpB x.v.s y.v.s < 0 := by
              rw [h] at dx
              rcases dy with dy | ⟨dy, _⟩
              · exact cmpB_trans dx dy
              · rw [dy]; exact dx
            rcases h' with h' | ⟨h', _⟩
            · omega
            · have := cmpB_eq.2 h'; omega
          · rcases dy with dy | ⟨dy, dy'⟩
            · have k1 : cmpB x.v.s y.v.s < 0 := by rw [dx, h]; exact dy
              rcases h' with h' | ⟨h', _⟩
              · omega
              · have := cmpB_eq.2 h'; omega
            · have k0 : x.v.s = y.v.s := by rw [dx, dy, h]
              rcases h' with h' | ⟨_, h'⟩
              · have := cmpB_eq.2 k0; omega
              · rcases h' with h' | h'
                · have := dx' ((stA_lo x1).2 h')
                  rw [s1] at this; cases this
                · have := dy' ((stA_hi y1).2 h')
                  rw [s2] at this; cases this
      · intro h
        have hab := h a ha b hb
        rw [tx2_iff] at hab
        rw [e1, e2, e3, e4]
        rcases (cmpB_less a.v.s b.v.s).2.2.2 with g | g | g
        · left; omega
        · right
          refine ⟨g, ?_, ?_⟩
          · rw [Bool.eq_false_iff]
            intro s
            exact hab (.inr ⟨ha1, hb1, .inr ⟨cmpB_eq.1 g, .inl ((stA_lo ha1).1 s)⟩⟩)
          · rw [Bool.eq_false_iff]
            intro s
            exact hab (.inr ⟨ha1, hb1, .inr ⟨cmpB_eq.1 g, .inr ((stA_hi hb1).1 s)⟩⟩)
        · exact absurd (.inr ⟨ha1, hb1, .inl (by omega)⟩) hab
end Go.Proofs
end
section
/- Whether conditions on one column can hold together. No condition. -/
set_option linter.unusedSimpArgs false
set_option linter.unusedVariables false
set_option maxRecDepth 10000
set_option maxHeartbeats 4000000
namespace Go.Proofs
open Go.Bi

abbrev Lm.cs (x : Lm) : List AV := [.d (.str x.t), .d (.bool x.st), .d (.bool x.is)]
theorem C.predicate_tighter (a b : Lm) (s : Int) (hs : s = 1 ∨ s = -1) : Pure Try.prog N.predicate_tighter [.agg a.cs, .agg b.cs, .d (eI s)] (.agg (tig a b s).cs) := by
  have hc := C.strings_Compare b.t a.t
  have hr := (cmpB_less b.t a.t).2.2.2
  obtain ⟨c, hce⟩ : ∃ c, c = cmpB b.t a.t := ⟨_, rfl⟩
  unfold tig
  rw [← hce] at hc hr ⊢
  obtain ⟨at', ast, ai⟩ := a
  obtain ⟨bt', bs, bi⟩ := b
  dsimp only at hc ⊢
  have w1 : -9223372036854775808 ≤ s * c ∧ s * c ≤ 9223372036854775807 := by rcases hs with rfl | rfl <;> omega
  obtain ⟨m, hm⟩ : ∃ m, m = s * c := ⟨_, rfl⟩
  obtain ⟨w1, w2⟩ := w1
  have r1 : at' = at' := rfl
  have r2 : bt' = bt' := rfl
  refine F.predicate_tighter.go mixed rfl ?_
  obtain ⟨q, hq⟩ : ∃ q, q = AV.agg (Lm.cs (if ai = false ∨ 0 < s * c ∨ s * c = 0 ∧ bs = true then ⟨bt', bs, bi⟩ else ⟨at', ast, ai⟩)) := ⟨_, rfl⟩
  rw [← hq]
  cases ai with
  | false =>
    rw [if_pos (.inl rfl)] at hq
    rw [hq]
    repeat' first
      | refine st ?_
      | ((with_reducible apply go_i); (conv => whnf))
      | ((with_reducible apply k_pn); (· exact hc))
      | ((with_reducible apply k_pc); (· exact hc))
      | (with_reducible apply k_d <;> intro _)
      | (with_reducible apply k_b <;> intro _)
    all_goals rfl
  | true =>
    by_cases h1 : 0 < s * c
    · rw [if_pos (.inr (.inl h1))] at hq
      rw [hq]
      repeat' first
        | refine st ?_
        | ((with_reducible apply go_i); (conv => whnf))
        | ((with_reducible apply k_pn); (· exact hc))
        | ((with_reducible apply k_pc); (· exact hc))
        | (with_reducible apply k_d <;> intro _)
        | (with_reducible apply k_b <;> intro _)
      all_goals rfl
    · by_cases h2 : s * c = 0
      · cases bs with
        | true =>
          rw [if_pos (.inr (.inr ⟨h2, rfl⟩))] at hq
          rw [hq]
          repeat' first
            | refine st ?_
            | ((with_reducible apply go_i); (conv => whnf))
            | ((with_reducible apply k_pn); (· exact hc))
            | ((with_reducible apply k_pc); (· exact hc))
            | (with_reducible apply k_d <;> intro _)
            | (with_reducible apply k_b <;> intro _)
          all_goals rfl
        | false =>
          rw [if_neg (by simp [h1])] at hq
          rw [hq]
          repeat' first
            | refine st ?_
            | ((with_reducible apply go_i); (conv => whnf))
            | ((with_reducible apply k_pn); (· exact hc))
            | ((with_reducible apply k_pc); (· exact hc))
            | (with_reducible apply k_d <;> intro _)
            | (with_reducible apply k_b <;> intro _)
          all_goals rfl
      · rw [if_neg (by simp [h1, h2])] at hq
        rw [hq]
        repeat' first
          | refine st ?_
          | ((with_reducible apply go_i); (conv => whnf))
          | ((with_reducible apply k_pn); (· exact hc))
          | ((with_reducible apply k_pc); (· exact hc))
          | (with_reducible apply k_d <;> intro _)
          | (with_reducible apply k_b <;> intro _)
        all_goals rfl
theorem txS_eq (p : Lm × Lm) (c : Cd) : txS p c = (if c.op = 11 ∨ c.op = 12 ∨ c.op = 7 then tig p.1 ⟨c.v.s, stA c.op, true⟩ 1 else p.1, if c.op = 9 ∨ c.op = 10 ∨ c.op = 7 then tig p.2 ⟨c.v.s, stA c.op, true⟩ (-1) else p.2) := by
  unfold txS loA hiA lmC
  simp
theorem C.predicate_texts (l : List Cd) (hl : l.length ≤ 1048576) (hok : ∀ c ∈ l, cmpOp c.op = true) (d : D) (hd : SlD d (eDs l)) : Pure Try.prog N.predicate_texts [.d d] (.d (.bool (txP l))) := by
  refine F.predicate_texts.go mixed rfl ?_
  have h1 := eDs_len l
  have hm := eDs_mem l
  obtain ⟨q, hq⟩ : ∃ q, q = l.foldl txS (lm0, lm0) := ⟨_, rfl⟩
  rw [show txP l = txO q by rw [hq]; rfl]
  repeat' first
    | refine st ?_
    | ((with_reducible apply go_i); (conv => whnf))
    | (with_reducible apply k_d <;> intro _)
    | (with_reducible apply k_b <;> intro _)
  refine x_loop2 mixed Lt.predicate_texts_l0 Lk.predicate_texts_l0 (fun (i : Nat) (p : Lm × Lm) => [.d (eI i)]) (fun i p => [.cells p.1.cs, .cells p.2.cs]) (fun i p => i ≤ l.length ∧ q = (l.drop i).foldl txS p) (fun i _ => l.length - i) 0 (lm0, lm0) rfl rfl rfl rfl (fun _ _ _ => ⟨rfl, rfl⟩) rfl ⟨by omega, hq⟩ ?_
  repeat' first
    | refine st ?_
    | ((with_reducible apply go_i); (conv => whnf))
    | (with_reducible apply k_d <;> intro _)
    | (with_reducible apply k_b <;> intro _)
  intro i p ⟨h4, h5⟩
  obtain ⟨lo, hi⟩ := p
  dsimp only
  cases hx : l[i]? with
  | some c =>
    have hlt := (List.getElem?_eq_some_iff.1 hx).1
    have hg := eDs_get hx
    have hc := hok c (List.mem_of_getElem? hx)
    rw [List.drop_eq_getElem_cons hlt, (List.getElem?_eq_some_iff.1 hx).2, List.foldl_cons, txS_eq] at h5
    obtain ⟨op, col, k, n, s⟩ := c
    dsimp only at h5 hc hg
    unfold cmpOp at hc
    have hc := of_decide_eq_true hc
    have r1 : s = s := rfl
    rcases hc with rfl | rfl | rfl | rfl | rfl
    · have t1 := C.predicate_tighter lo ⟨s, stA 7, true⟩ 1 (.inl rfl)
      have t2 := C.predicate_tighter hi ⟨s, stA 7, true⟩ (-1) (.inr rfl)
      rw [if_pos (by decide), if_pos (by decide)] at h5
      rw [show stA 7 = false by decide] at t1 t2 h5
      obtain ⟨A, hA⟩ : ∃ A, A = tig lo ⟨s, false, true⟩ 1 := ⟨_, rfl⟩
      obtain ⟨B, hB⟩ : ∃ B, B = tig hi ⟨s, false, true⟩ (-1) := ⟨_, rfl⟩
      rw [← hA] at t1 h5
      rw [← hB] at t2 h5
      repeat' first
        | refine st ?_
        | ((with_reducible apply go_i); (conv => whnf))
        | ((with_reducible apply k_pn); (· first | exact t1 | exact t2))
        | ((with_reducible apply k_pc); (· first | exact t1 | exact t2))
        | (with_reducible apply k_d <;> intro _)
        | (with_reducible apply k_b <;> intro _)
      exact ⟨i + 1, (A, B), rfl, rfl, rfl, by omega, by omega, h5⟩
    · have t2 := C.predicate_tighter hi ⟨s, stA 9, true⟩ (-1) (.inr rfl)
      rw [if_neg (by decide), if_pos (by decide)] at h5
      rw [show stA 9 = true by decide] at t2 h5
      obtain ⟨B, hB⟩ : ∃ B, B = tig hi ⟨s, true, true⟩ (-1) := ⟨_, rfl⟩
      rw [← hB] at t2 h5
      repeat' first
        | refine st ?_
        | ((with_reducible apply go_i); (conv => whnf))
        | ((with_reducible apply k_pn); (· exact t2))
        | ((with_reducible apply k_pc); (· exact t2))
        | (with_reducible apply k_d <;> intro _)
        | (with_reducible apply k_b <;> intro _)
      exact ⟨i + 1, (lo, B), rfl, rfl, rfl, by omega, by omega, h5⟩
    · have t2 := C.predicate_tighter hi ⟨s, stA 10, true⟩ (-1) (.inr rfl)
      rw [if_neg (by decide), if_pos (by decide)] at h5
      rw [show stA 10 = false by decide] at t2 h5
      obtain ⟨B, hB⟩ : ∃ B, B = tig hi ⟨s, false, true⟩ (-1) := ⟨_, rfl⟩
      rw [← hB] at t2 h5
      repeat' first
        | refine st ?_
        | ((with_reducible apply go_i); (conv => whnf))
        | ((with_reducible apply k_pn); (· exact t2))
        | ((with_reducible apply k_pc); (· exact t2))
        | (with_reducible apply k_d <;> intro _)
        | (with_reducible apply k_b <;> intro _)
      exact ⟨i + 1, (lo, B), rfl, rfl, rfl, by omega, by omega, h5⟩
    · have t1 := C.predicate_tighter lo ⟨s, stA 11, true⟩ 1 (.inl rfl)
      rw [if_pos (by decide), if_neg (by decide)] at h5
      rw [show stA 11 = true by decide] at t1 h5
      obtain ⟨A, hA⟩ : ∃ A, A = tig lo ⟨s, true, true⟩ 1 := ⟨_, rfl⟩
      rw [← hA] at t1 h5
      repeat' first
        | refine st ?_
        | ((with_reducible apply go_i); (conv => whnf))
        | ((with_reducible apply k_pn); (· exact t1))
        | ((with_reducible apply k_pc); (· exact t1))
        | (with_reducible apply k_d <;> intro _)
        | (with_reducible apply k_b <;> intro _)
      exact ⟨i + 1, (A, hi), rfl, rfl, rfl, by omega, by omega, h5⟩
    · have t1 := C.predicate_tighter lo ⟨s, stA 12, true⟩ 1 (.inl rfl)
      rw [if_pos (by decide), if_neg (by decide)] at h5
      rw [show stA 12 = false by decide] at t1 h5
      obtain ⟨A, hA⟩ : ∃ A, A = tig lo ⟨s, false, true⟩ 1 := ⟨_, rfl⟩
      rw [← hA] at t1 h5
      repeat' first
        | refine st ?_
        | ((with_reducible apply go_i); (conv => whnf))
        | ((with_reducible apply k_pn); (· exact t1))
        | ((with_reducible apply k_pc); (· exact t1))
        | (with_reducible apply k_d <;> intro _)
        | (with_reducible apply k_b <;> intro _)
      exact ⟨i + 1, (A, hi), rfl, rfl, rfl, by omega, by omega, h5⟩
  | none =>
    have hge := List.getElem?_eq_none_iff.1 hx
    rw [List.drop_eq_nil_of_le hge] at h5
    have h5 : q = (lo, hi) := h5
    rw [h5]
    have hc := C.strings_Compare lo.t hi.t
    obtain ⟨lt', ls, li⟩ := lo
    obtain ⟨ht', hs, hi'⟩ := hi
    dsimp only at hc
    unfold txO
    dsimp only
    obtain ⟨c, hce⟩ : ∃ c, c = cmpB lt' ht' := ⟨_, rfl⟩
    rw [← hce] at hc ⊢
    cases li <;> cases ls <;> cases hi' <;> cases hs <;> simp only [Bool.false_eq_true, reduceCtorEq, false_and, true_and, and_true, and_false, if_false, if_true, or_false, false_or, or_true, true_or]
    all_goals by_cases z : ht' = []
    all_goals first | rw [if_pos z] | rw [if_neg z] | skip
    all_goals repeat' first
      | refine st ?_
      | ((with_reducible apply go_i); (conv => whnf))
      | ((with_reducible apply k_pn); (· exact hc))
      | ((with_reducible apply k_pc); (· exact hc))
      | (with_reducible apply k_d <;> intro _)
      | (with_reducible apply k_b <;> intro _)
    all_goals first | rfl | (simp_all; done) | (simp only [AV.d.injEq, D.bool.injEq, decide_eq_true_eq, decide_eq_false_iff_not, Bool.true_eq, Bool.false_eq]; omega)
def rng0 (k : Int) : Int × Int := if k = 3 then (0, 1) else (-1125899906842624, 1125899906842624)
def rng (k : Int) (l : List Cd) : Int × Int := l.foldl nar (rng0 k)
/-- May the conditions hold together? -/
def posB (l : List Cd) : Bool := match l with
  | [] => true
  | c :: r => (c :: r).all (fun x => decide (x.v.k = c.v.k)) && (if c.v.k = 2 then txP (c :: r) else !decide ((rng c.v.k (c :: r)).2 < (rng c.v.k (c :: r)).1))
theorem posB_at {l : List Cd} {c : Cd} (h : l[0]? = some c) : posB l = (l.all (fun x => decide (x.v.k = c.v.k)) && (if c.v.k = 2 then txP l else !decide ((rng c.v.k l).2 < (rng c.v.k l).1))) := by
  cases l with
  | nil => simp at h
  | cons a r => simp at h; subst h; rfl
theorem C.predicate_possible (l : List Cd) (hl : l.length ≤ 1048576) (hok : ∀ c ∈ l, cmpOp c.op = true ∧ nSm c.v.n) (hne : l ≠ []) (d : D) (hd : SlD d (eDs l)) : Pure Try.prog N.predicate_possible [.d d] (.d (.bool (posB l))) := by
  have h1 := eDs_len l
  have hm := eDs_mem l
  have h0 : 0 < l.length := List.length_pos_iff.2 hne
  obtain ⟨c0, hc0⟩ : ∃ c, l[0]? = some c := ⟨_, List.getElem?_eq_getElem h0⟩
  have hT := C.predicate_texts l hl (fun c hc => (hok c hc).1) d hd
  rw [posB_at hc0]
  have g0 := eDs_get hc0
  obtain ⟨q, hq⟩ : ∃ q, q = (l.all (fun x => decide (x.v.k = c0.v.k)) && (if c0.v.k = 2 then txP l else !decide ((rng c0.v.k l).2 < (rng c0.v.k l).1))) := ⟨_, rfl⟩
  rw [← hq]
  obtain ⟨k0, hk0⟩ : ∃ k, k = c0.v.k := ⟨_, rfl⟩
  have g0' : (eDs l)[0]? = some [eI c0.op, eI c0.col, eI k0, eI c0.v.n, .str c0.v.s] := by rw [hk0]; exact g0
  rw [← hk0] at hq
  clear g0
  refine F.predicate_possible.go mixed rfl ?_
  by_cases hk3 : k0 = 3
  · have e0 : rng0 k0 = (0, 1) := by unfold rng0; rw [if_pos hk3]
    repeat' first
      | refine st ?_
      | ((with_reducible apply go_i); (conv => whnf))
      | (with_reducible apply k_d <;> intro _)
      | (with_reducible apply k_b <;> intro _)
    refine x_loop2 mixed Lt.predicate_possible_l0 Lk.predicate_possible_l0 (fun (i : Nat) (r : Int × Int) => [.d (eI i)]) (fun i r => [.cells [.d (eI r.1), .d (eI r.2)]]) (fun i r => i ≤ l.length ∧ (l.take i).all (fun x => decide (x.v.k = k0)) = true ∧ rng k0 l = (l.drop i).foldl nar r) (fun i _ => l.length - i) 0 (0, 1) rfl rfl rfl rfl (fun _ _ _ => ⟨rfl, rfl⟩) rfl ⟨by omega, rfl, by unfold rng; rw [e0]; rfl⟩ ?_
    repeat' first
      | refine st ?_
      | ((with_reducible apply go_i); (conv => whnf))
      | (with_reducible apply k_d <;> intro _)
      | (with_reducible apply k_b <;> intro _)
    intro i r ⟨h4, h5, h6⟩
    obtain ⟨a, b⟩ := r
    cases hx : l[i]? with
    | some c =>
      have hlt := (List.getElem?_eq_some_iff.1 hx).1
      have hg := eDs_get hx
      obtain ⟨k1, k2⟩ := hok c (List.mem_of_getElem? hx)
      have hM : ∀ (os : List AO), os[0]? = some (.cells [.d (eI a), .d (eI b)]) → CallSpec Try.prog N.ppredicate_span_meet [.ptr 0 0, .d (eI c.op), .d (eI c.v.n)] os (fun r os' => r = .tup [] ∧ os' = os.set 0 (.cells [.d (eI (nar (a, b) c).1), .d (eI (nar (a, b) c).2)])) := fun os ho => C.span_meet a b c k1 k2 ho
      rw [List.drop_eq_getElem_cons hlt, (List.getElem?_eq_some_iff.1 hx).2, List.foldl_cons] at h6
      have hs : (l.take (i + 1)).all (fun x => decide (x.v.k = k0)) = ((l.take i).all (fun x => decide (x.v.k = k0)) && decide (c.v.k = k0)) := by rw [List.take_add_one, hx]; simp
      rw [h5, Bool.true_and] at hs
      obtain ⟨A, hA⟩ : ∃ A, A = nar (a, b) c := ⟨_, rfl⟩
      rw [← hA] at hM h6
      have r1 : c.v.s = c.v.s := rfl
      by_cases g3 : c.v.k = k0
      · rw [decide_eq_true g3] at hs
        repeat' first
          | refine st ?_
          | ((with_reducible apply go_i); (conv => whnf))
          | ((with_reducible apply k_nc); (· first | exact hM _ rfl); (try rintro _ _ ⟨rfl, rfl⟩))
          | ((with_reducible apply k_pr); (· first | exact hM _ rfl))
          | ((with_reducible apply k_cs); (· first | exact hM _ rfl); (try rintro _ _ ⟨rfl, rfl⟩))
          | ((with_reducible apply k_cal); refine st ?_; (with_reducible apply k_chk); (· exact rfl); refine st ?_; (with_reducible apply k_cs); (· first | exact hM _ rfl); (try rintro _ _ ⟨rfl, rfl⟩))
          | (with_reducible apply k_d <;> intro _)
          | (with_reducible apply k_b <;> intro _)
        exact ⟨i + 1, A, rfl, rfl, rfl, by omega, by omega, hs, h6⟩
      · have : l.all (fun x => decide (x.v.k = k0)) = false := by
          rw [Bool.eq_false_iff]
          intro h
          exact g3 (of_decide_eq_true (List.all_eq_true.1 h c (List.mem_of_getElem? hx)))
        rw [this, Bool.false_and] at hq
        rw [hq]
        repeat' first
          | refine st ?_
          | ((with_reducible apply go_i); (conv => whnf))
          | (with_reducible apply k_d <;> intro _)
          | (with_reducible apply k_b <;> intro _)
        all_goals rfl
    | none =>
      have hge := List.getElem?_eq_none_iff.1 hx
      rw [List.take_of_length_le hge] at h5
      rw [List.drop_eq_nil_of_le hge] at h6
      have h6 : rng k0 l = (a, b) := h6
      rw [h5, Bool.true_and, h6] at hq
      dsimp only at hq
      have hE : ∀ (os : List AO), os[0]? = some (.cells [.d (eI a), .d (eI b)]) → CallSpec Try.prog N.ppredicate_span_empty [.ptr 0 0] os (fun r os' => r = .d (.bool (decide (b < a))) ∧ os' = os.set 0 (.cells [.d (eI a), .d (eI b)])) := fun os ho => C.span_empty a b ho
      by_cases hk2 : k0 = 2
      · rw [if_pos hk2] at hq
        rw [hq]
        repeat' first
          | refine st ?_
          | ((with_reducible apply go_i); (conv => whnf))
          | ((with_reducible apply k_pn); (· exact hT))
          | ((with_reducible apply k_pc); (· exact hT))
          | (with_reducible apply k_d <;> intro _)
          | (with_reducible apply k_b <;> intro _)
        all_goals first | rfl | (exfalso; omega)
      · rw [if_neg hk2] at hq
        rw [hq]
        repeat' first
          | refine st ?_
          | ((with_reducible apply go_i); (conv => whnf))
          | ((with_reducible apply k_nc); (· first | exact hE _ rfl); (try rintro _ _ ⟨rfl, rfl⟩))
          | ((with_reducible apply k_pr); (· first | exact hE _ rfl))
          | ((with_reducible apply k_cs); (· first | exact hE _ rfl); (try rintro _ _ ⟨rfl, rfl⟩))
          | ((with_reducible apply k_cal); refine st ?_; (with_reducible apply k_chk); (· exact rfl); refine st ?_; (with_reducible apply k_cs); (· first | exact hE _ rfl); (try rintro _ _ ⟨rfl, rfl⟩))
          | (with_reducible apply k_d <;> intro _)
          | (with_reducible apply k_b <;> intro _)
        all_goals first | rfl | simp_all
  · have e0 : rng0 k0 = (-1125899906842624, 1125899906842624) := by unfold rng0; rw [if_neg hk3]
    repeat' first
      | refine st ?_
      | ((with_reducible apply go_i); (conv => whnf))
      | (with_reducible apply k_d <;> intro _)
      | (with_reducible apply k_b <;> intro _)
    refine x_loop2 mixed Lt.predicate_possible_l0 Lk.predicate_possible_l0 (fun (i : Nat) (r : Int × Int) => [.d (eI i)]) (fun i r => [.cells [.d (eI r.1), .d (eI r.2)]]) (fun i r => i ≤ l.length ∧ (l.take i).all (fun x => decide (x.v.k = k0)) = true ∧ rng k0 l = (l.drop i).foldl nar r) (fun i _ => l.length - i) 0 (-1125899906842624, 1125899906842624) rfl rfl rfl rfl (fun _ _ _ => ⟨rfl, rfl⟩) rfl ⟨by omega, rfl, by unfold rng; rw [e0]; rfl⟩ ?_
    repeat' first
      | refine st ?_
      | ((with_reducible apply go_i); (conv => whnf))
      | (with_reducible apply k_d <;> intro _)
      | (with_reducible apply k_b <;> intro _)
    intro i r ⟨h4, h5, h6⟩
    obtain ⟨a, b⟩ := r
    cases hx : l[i]? with
    | some c =>
      have hlt := (List.getElem?_eq_some_iff.1 hx).1
      have hg := eDs_get hx
      obtain ⟨k1, k2⟩ := hok c (List.mem_of_getElem? hx)
      have hM : ∀ (os : List AO), os[0]? = some (.cells [.d (eI a), .d (eI b)]) → CallSpec Try.prog N.ppredicate_span_meet [.ptr 0 0, .d (eI c.op), .d (eI c.v.n)] os (fun r os' => r = .tup [] ∧ os' = os.set 0 (.cells [.d (eI (nar (a, b) c).1), .d (eI (nar (a, b) c).2)])) := fun os ho => C.span_meet a b c k1 k2 ho
      rw [List.drop_eq_getElem_cons hlt, (List.getElem?_eq_some_iff.1 hx).2, List.foldl_cons] at h6
      have hs : (l.take (i + 1)).all (fun x => decide (x.v.k = k0)) = ((l.take i).all (fun x => decide (x.v.k = k0)) && decide (c.v.k = k0)) := by rw [List.take_add_one, hx]; simp
      rw [h5, Bool.true_and] at hs
      obtain ⟨A, hA⟩ : ∃ A, A = nar (a, b) c := ⟨_, rfl⟩
      rw [← hA] at hM h6
      have r1 : c.v.s = c.v.s := rfl
      by_cases g3 : c.v.k = k0
      · rw [decide_eq_true g3] at hs
        repeat' first
          | refine st ?_
          | ((with_reducible apply go_i); (conv => whnf))
          | ((with_reducible apply k_nc); (· first | exact hM _ rfl); (try rintro _ _ ⟨rfl, rfl⟩))
          | ((with_reducible apply k_pr); (· first | exact hM _ rfl))
          | ((with_reducible apply k_cs); (· first | exact hM _ rfl); (try rintro _ _ ⟨rfl, rfl⟩))
          | ((with_reducible apply k_cal); refine st ?_; (with_reducible apply k_chk); (· exact rfl); refine st ?_; (with_reducible apply k_cs); (· first | exact hM _ rfl); (try rintro _ _ ⟨rfl, rfl⟩))
          | (with_reducible apply k_d <;> intro _)
          | (with_reducible apply k_b <;> intro _)
        exact ⟨i + 1, A, rfl, rfl, rfl, by omega, by omega, hs, h6⟩
      · have : l.all (fun x => decide (x.v.k = k0)) = false := by
          rw [Bool.eq_false_iff]
          intro h
          exact g3 (of_decide_eq_true (List.all_eq_true.1 h c (List.mem_of_getElem? hx)))
        rw [this, Bool.false_and] at hq
        rw [hq]
        repeat' first
          | refine st ?_
          | ((with_reducible apply go_i); (conv => whnf))
          | (with_reducible apply k_d <;> intro _)
          | (with_reducible apply k_b <;> intro _)
        all_goals rfl
    | none =>
      have hge := List.getElem?_eq_none_iff.1 hx
      rw [List.take_of_length_le hge] at h5
      rw [List.drop_eq_nil_of_le hge] at h6
      have h6 : rng k0 l = (a, b) := h6
      rw [h5, Bool.true_and, h6] at hq
      dsimp only at hq
      have hE : ∀ (os : List AO), os[0]? = some (.cells [.d (eI a), .d (eI b)]) → CallSpec Try.prog N.ppredicate_span_empty [.ptr 0 0] os (fun r os' => r = .d (.bool (decide (b < a))) ∧ os' = os.set 0 (.cells [.d (eI a), .d (eI b)])) := fun os ho => C.span_empty a b ho
      by_cases hk2 : k0 = 2
      · rw [if_pos hk2] at hq
        rw [hq]
        repeat' first
          | refine st ?_
          | ((with_reducible apply go_i); (conv => whnf))
          | ((with_reducible apply k_pn); (· exact hT))
          | ((with_reducible apply k_pc); (· exact hT))
          | (with_reducible apply k_d <;> intro _)
          | (with_reducible apply k_b <;> intro _)
        all_goals first | rfl | (exfalso; omega)
      · rw [if_neg hk2] at hq
        rw [hq]
        repeat' first
          | refine st ?_
          | ((with_reducible apply go_i); (conv => whnf))
          | ((with_reducible apply k_nc); (· first | exact hE _ rfl); (try rintro _ _ ⟨rfl, rfl⟩))
          | ((with_reducible apply k_pr); (· first | exact hE _ rfl))
          | ((with_reducible apply k_cs); (· first | exact hE _ rfl); (try rintro _ _ ⟨rfl, rfl⟩))
          | ((with_reducible apply k_cal); refine st ?_; (with_reducible apply k_chk); (· exact rfl); refine st ?_; (with_reducible apply k_cs); (· first | exact hE _ rfl); (try rintro _ _ ⟨rfl, rfl⟩))
          | (with_reducible apply k_d <;> intro _)
          | (with_reducible apply k_b <;> intro _)
        all_goals first | rfl | simp_all
end Go.Proofs
end
section
/- Contradictions: the program's. No condition. -/
set_option linter.unusedSimpArgs false
set_option linter.unusedVariables false
set_option maxRecDepth 10000
set_option maxHeartbeats 4000000
namespace Go.Bi
theorem nth_snoc0 {α : Type} {l : List α} {x : α} : (l ++ [x])[l.length + 0]? = some x := by simp
theorem k_ss0 {α : Type} {l : List α} {x y : α} {K : List α → Prop} (k : Go (K (l ++ [y]))) : setK (l ++ [x]) (l.length + 0) y K := setK_eq.2 (by
  have k : K (l ++ [y]) := k
  simpa using k)
theorem app_get {α : Type} {l : List α} {i : Nat} {x : α} (h : l[i]? = some x) (y : α) : (l ++ [y])[i]? = some x := by
  rw [List.getElem?_append_left (List.getElem?_eq_some_iff.1 h).1]; exact h
theorem app_set {α : Type} {l m : List α} {i : Nat} {x : α} (h : l.set i x = m) (hi : i < l.length) (y : α) : (l ++ [y]).set i x = m ++ [y] := by
  rw [List.set_append_left _ _ hi, h]
theorem weak_spare {n nb : Nat} {ρ : Rho} {os : List AO} (sz : Nat) (hsz : 0 < sz) : Weak n nb ρ os ρ (os ++ [.arr [] sz 0 true]) := by
  intro c M G w a hR
  obtain ⟨n1, n2⟩ := env_nil hR.env sz hsz
  exact ⟨M, G, { env := n1, since := hR.since.trans n2, size := hR.size, defers := hR.defers, base := hR.base, tmps := fun s => (hR.tmps s).since n2 }⟩
/-- An array without elements, to spare, ahead of a loop. -/
theorem x_spare {P : Program} {n nb : Nat} {cd : IC} {N : Sl → List AO → Prop} {E0 : Nat → Sl → List AO → Prop} {R : Sl → List AO → Prop} {L : Sl} {os : List AO} (sz : Nat) (hsz : Nat.blt 0 sz = true) (k : LoopX P n nb cd N E0 R L (os ++ [AO.arr [] sz 0 true])) : LoopX P n nb cd N E0 R L os := by
  refine ⟨fun code hc c M G w a hR => ?_⟩
  obtain ⟨M', G', hR'⟩ := weak_spare (n := n) (nb := nb) sz (Nat.lt_of_lt_of_le Nat.zero_lt_one (Nat.le_of_ble_eq_true hsz)) c M G w a hR
  exact k.h code hc c M' G' w a hR'
/-- A loop whose objects may grow in number; a spare array comes in at the end of each round. -/
theorem x_loopS {A : Type} {P : Program} {n nb : Nat} {cd : IC} {N : Sl → List AO → Prop} {E0 : Nat → Sl → List AO → Prop} {R : Sl → List AO → Prop} {L : Sl} {os : List AO} (hm : P.follows .mixedOrders = true) (ts ks : List Nat) (vs : A → List AV) (So : A → List AO) (φ : A → Prop) (μ : A → Nat) (sz : Nat) (a0 : A)
    (hsz : Nat.blt 0 sz = true) (hv : vs a0 = valsOf L ts) (ho : os.take (So a0).length = So a0) (hlen : ∀ a, (vs a).length = ts.length) (hb : ∀ a, φ a → Nat.ble nb (So a).length = true ∧ (vs a).all (fun v => v.bndB (So a).length) = true ∧ (So a).all (fun o => o.bndB (So a).length) = true ∧ (valsOf L ks).all (fun v => v.bndB (So a).length) = true) (h0 : φ a0)
    (step : Go (selK L ks fun ws => ∀ a, φ a → Go (zipSK ts (vs a) (zipS ks ws) fun L3 => xI P n nb cd (fun L' os' => selK L' ts fun vs' => selK L' ks fun ws' => ∃ (σ : List Nat), ∃ a', vs' = (vs a').map (mA (sg σ)) ∧ ws' = ws.map (mA (sg σ)) ∧ σ.map (fun s => (os' ++ [AO.arr [] sz 0 true])[s]?) = (So a').map (fun o => some (mO (sg σ) o)) ∧ σ.Nodup ∧ σ.take nb = List.range nb ∧ ((So a').take nb).map (mO (sg σ)) = (So a').take nb ∧ μ a' < μ a ∧ φ a') E0 R L3 (So a)))) : LoopX P n nb cd N E0 R L os := by
  have step := selK_eq.1 step
  refine ⟨?_⟩
  refine loop_rule hm (fun x : A => ofL (zipS ts (vs x) ++ zipS ks (valsOf L ks))) (fun x => So x) (fun x => φ x) (fun x => μ x) a0 h0 ?_ ?_
  · obtain ⟨b1, b2, b3, b4⟩ := hb a0 h0
    exact weak_sel hv rfl _ (Nat.le_of_ble_eq_true b1) ho b2 b4 b3
  · intro x hx
    have := zipSK_eq.1 (step x hx)
    refine xI_ok (K := ⟨fun L' os' => selK L' ts fun vs' => selK L' ks fun ws' => ∃ (σ : List Nat), ∃ a', vs' = (vs a').map (mA (sg σ)) ∧ ws' = (valsOf L ks).map (mA (sg σ)) ∧ σ.map (fun s => (os' ++ [AO.arr [] sz 0 true])[s]?) = (So a').map (fun o => some (mO (sg σ) o)) ∧ σ.Nodup ∧ σ.take nb = List.range nb ∧ ((So a').take nb).map (mO (sg σ)) = (So a').take nb ∧ μ a' < μ x ∧ φ a', E0, R⟩) ⟨fun L' os' h => ?_, fun i L' os' h => ⟨L', rfl, h⟩, fun L' os' h => ⟨L', rfl, h⟩⟩ this
    have h := selK_eq.1 (selK_eq.1 h)
    obtain ⟨σ, a', h1, h2, h3, h4, h5, h6, h7, h8⟩ := h
    obtain ⟨b1, b2, b3, b4⟩ := hb a' h8
    refine ⟨a', h8, h7, ?_⟩
    intro c M G w a hR
    obtain ⟨M', G', hR'⟩ := weak_spare (n := n) (nb := nb) sz (Nat.lt_of_lt_of_le Nat.zero_lt_one (Nat.le_of_ble_eq_true hsz)) c M G w a hR
    exact weak_selm σ h1 h2 (hlen a') h4 h5 h3 h6 b2 b4 b3 c M' G' w a hR'
end Go.Bi
namespace Go.Proofs
open Go.Bi

/-- A constant that is not true. -/
def nvX (x : Ex) : Bool := match x with
  | .mk op _ _ _ _ _ => decide (op = 1) && !decide (vTruth (ev [] x) = 2)
def nvF (s : D) (x : Ex) : D := match s with
  | .bool b => .bool (b || nvX x)
  | s => s
def okB (k : Nat) (s : D) : Prop := ∃ b, s = .bool b
theorem nvF_fold (l : List Ex) : ∀ b, l.foldl nvF (.bool b) = .bool (b || l.any nvX) := by
  induction l with
  | nil => intro b; simp
  | cons x l ih =>
    intro b
    rw [List.foldl_cons, nvF, ih, List.any_cons, Bool.or_assoc]
theorem C.Never_c1 (x : Ex) (hx : x.bk ≤ 1048576) (k : Nat) (s : D) (hs : okB (k + 1) s) : okB k (nvF s x) ∧ CallSpec Try.prog N.predicate_Never_c1 [x.av, .ptr 0 0] [.cells [.d s]] (fun r os => r = .tup [] ∧ os = [.cells [.d (nvF s x)]]) := by
  obtain ⟨b, rfl⟩ := hs
  refine ⟨⟨_, rfl⟩, ?_⟩
  have hE := C.expr_Eval [] (by simp) (by simp) .nil (.inl ⟨rfl, rfl⟩) x hx
  unfold nvF
  dsimp only
  unfold nvX
  obtain ⟨z, hz⟩ : ∃ z, z = ev [] x := ⟨_, rfl⟩
  rw [← hz] at hE ⊢
  obtain ⟨op, n, v, nm, nl, args⟩ := x
  rw [Ex.av_mk] at hE ⊢
  have hT := C.expr_Truth_of [] .nil _ _ _ _ _ _ hE
  dsimp only
  refine F.predicate_Never_c1.goX mixed rfl ?_
  cases b with
  | true =>
    repeat' first
      | refine st ?_
      | ((with_reducible apply go_i); (conv => whnf))
      | (with_reducible apply k_d <;> intro _)
      | (with_reducible apply k_b <;> intro _)
    all_goals exact ⟨rfl, rfl⟩
  | false =>
    by_cases h1 : op = 1
    · by_cases h2 : vTruth z = 2
      · rw [decide_eq_true h1, decide_eq_true h2]
        repeat' first
          | refine st ?_
          | ((with_reducible apply go_i); (conv => whnf))
          | ((with_reducible apply k_pn); (· exact hT))
          | ((with_reducible apply k_pc); (· exact hT))
          | (with_reducible apply k_d <;> intro _)
          | (with_reducible apply k_b <;> intro _)
        all_goals exact ⟨rfl, by simp [h2]⟩
      · rw [decide_eq_true h1, decide_eq_false h2]
        repeat' first
          | refine st ?_
          | ((with_reducible apply go_i); (conv => whnf))
          | ((with_reducible apply k_pn); (· exact hT))
          | ((with_reducible apply k_pc); (· exact hT))
          | (with_reducible apply k_d <;> intro _)
          | (with_reducible apply k_b <;> intro _)
        all_goals exact ⟨rfl, by simp [h2]⟩
    · rw [decide_eq_false h1]
      repeat' first
        | refine st ?_
        | ((with_reducible apply go_i); (conv => whnf))
        | ((with_reducible apply k_pn); (· exact hT))
        | ((with_reducible apply k_pc); (· exact hT))
        | (with_reducible apply k_d <;> intro _)
        | (with_reducible apply k_b <;> intro _)
      all_goals exact ⟨rfl, rfl⟩

/-! ### Conditions by column -/
def arO (J : List Cd) (ks : List Int) : List AO := ks.map fun k => .arr (eDs (onC k J)) 5 0 false
def kvO (J : List Cd) (s : Nat) : List Int → List (D × AV)
  | [] => []
  | k :: ks => (eI k, .arr s (onC k J).length) :: kvO J (s + 1) ks
def Keys (J : List Cd) (ks : List Int) : Prop := ks.Nodup ∧ ∀ k, k ∈ ks ↔ ∃ c ∈ J, c.col = k
theorem eqD_i (a b : Int) : eqD .i (eI a) (eI b) = some (decide (a = b)) := by
  show (if IntKind.i64 = IntKind.i64 then some (a == b) else none) = _
  rw [if_pos rfl, Option.some.injEq, Bool.eq_iff_iff]
  simp
theorem kvO_len (J : List Cd) : ∀ (ks : List Int) (s : Nat), (kvO J s ks).length = ks.length
  | [], _ => rfl
  | k :: ks, s => by rw [kvO, List.length_cons, kvO_len J ks, List.length_cons]
theorem kvO_mok (J : List Cd) (x : Int) : ∀ (ks : List Int) (s : Nat), mok .i (eI x) (kvO J s ks)
  | [], _ => ⟨by simp [kvO], by rw [eqD_i]; simp⟩
  | k :: ks, s => by
    refine ⟨fun p hp => ?_, by rw [eqD_i]; simp⟩
    rw [kvO] at hp
    rcases List.mem_cons.1 hp with rfl | hp
    · rw [eqD_i]; simp
    · exact (kvO_mok J x ks (s + 1)).1 p hp
theorem kvO_get {J : List Cd} {x : Int} : ∀ {ks : List Int} {s j : Nat}, ks.Nodup → ks[j]? = some x → mget .i (eI x) (kvO J s ks) = some (.arr (s + j) (onC x J).length)
  | [], _, _, _, h => by simp at h
  | k :: ks, s, 0, _, h => by
    simp at h; subst h
    rw [kvO, mget, eqD_i, if_pos (by simp)]; rfl
  | k :: ks, s, j + 1, hn, h => by
    rw [List.getElem?_cons_succ] at h
    have hm := List.mem_of_getElem? h
    have hne : x ≠ k := fun e => (List.nodup_cons.1 hn).1 (e ▸ hm)
    rw [kvO, mget, eqD_i, if_neg (by simp [hne]), kvO_get (List.nodup_cons.1 hn).2 h]
    congr 2; omega
theorem kvO_none {J : List Cd} {x : Int} : ∀ {ks : List Int} {s : Nat}, ¬ x ∈ ks → mget .i (eI x) (kvO J s ks) = none
  | [], _, _ => rfl
  | k :: ks, s, h => by
    have hne : x ≠ k := fun e => h (by simp [e])
    rw [kvO, mget, eqD_i, if_neg (by simp [hne])]
    exact kvO_none fun h' => h (by simp [h'])
theorem onC_snoc (x : Int) (J : List Cd) (c : Cd) : onC x (J ++ [c]) = if c.col = x then onC x J ++ [c] else onC x J := by
  unfold onC
  rw [List.filter_append]
  by_cases h : c.col = x <;> simp [h]
theorem kvO_same {J : List Cd} {c : Cd} : ∀ {ks : List Int} {s : Nat}, ¬ c.col ∈ ks → kvO (J ++ [c]) s ks = kvO J s ks
  | [], _, _ => rfl
  | k :: ks, s, h => by
    have hne : c.col ≠ k := fun e => h (by simp [e])
    rw [kvO, kvO, onC_snoc, if_neg hne, kvO_same fun h' => h (by simp [h'])]
theorem kvO_put {J : List Cd} {c : Cd} : ∀ {ks : List Int} {s j : Nat}, ks.Nodup → ks[j]? = some c.col → mput .i (eI c.col) (.arr (s + j) ((onC c.col J).length + 1)) (kvO J s ks) = kvO (J ++ [c]) s ks
  | [], _, _, _, h => by simp at h
  | k :: ks, s, 0, hn, h => by
    simp at h; subst h
    rw [kvO, mput, eqD_i, if_pos (by simp), kvO, onC_snoc, if_pos rfl, kvO_same (List.nodup_cons.1 hn).1]
    simp
  | k :: ks, s, j + 1, hn, h => by
    rw [List.getElem?_cons_succ] at h
    have hm := List.mem_of_getElem? h
    have hne : c.col ≠ k := fun e => (List.nodup_cons.1 hn).1 (e ▸ hm)
    rw [kvO, mput, eqD_i, if_neg (by simp [hne]), kvO, onC_snoc, if_neg hne]
    congr 1
    rw [show s + (j + 1) = s + 1 + j by omega]
    exact kvO_put (List.nodup_cons.1 hn).2 h
theorem kvO_new {J : List Cd} {c : Cd} {v : AV} : ∀ {ks : List Int} {s : Nat}, ¬ c.col ∈ ks → mput .i (eI c.col) v (kvO J s ks) = kvO (J ++ [c]) s ks ++ [(eI c.col, v)]
  | [], _, _ => rfl
  | k :: ks, s, h => by
    have hne : c.col ≠ k := fun e => h (by simp [e])
    rw [kvO, mput, eqD_i, if_neg (by simp [hne]), kvO, onC_snoc, if_neg hne, kvO_new fun h' => h (by simp [h'])]
    rfl
theorem kvO_snoc (J : List Cd) (x : Int) : ∀ (ks : List Int) (s : Nat), kvO J s (ks ++ [x]) = kvO J s ks ++ [(eI x, .arr (s + ks.length) (onC x J).length)]
  | [], s => rfl
  | k :: ks, s => by
    rw [List.cons_append, kvO, kvO_snoc J x ks, kvO, List.cons_append, List.length_cons]
    congr 5; omega
theorem arO_len (J : List Cd) (ks : List Int) : (arO J ks).length = ks.length := by simp [arO]
theorem arO_get {J : List Cd} {ks : List Int} {j : Nat} {x : Int} (h : ks[j]? = some x) : (arO J ks)[j]? = some (.arr (eDs (onC x J)) 5 0 false) := by simp [arO, h]
theorem arO_same {J : List Cd} {c : Cd} {ks : List Int} (h : ¬ c.col ∈ ks) : arO (J ++ [c]) ks = arO J ks := by
  refine List.map_congr_left fun k hk => ?_
  rw [onC_snoc, if_neg (fun e => h (by rw [e]; exact hk))]
theorem arO_set {J : List Cd} {c : Cd} : ∀ {ks : List Int} {j : Nat}, ks.Nodup → ks[j]? = some c.col → (arO J ks).set j (.arr (eDs (onC c.col J) ++ [c.ds]) 5 0 false) = arO (J ++ [c]) ks
  | [], _, _, h => by simp at h
  | k :: ks, 0, hn, h => by
    simp at h; subst h
    have := arO_same (J := J) (List.nodup_cons.1 hn).1
    unfold arO at this ⊢
    rw [List.map_cons, List.set_cons_zero, List.map_cons, this, onC_snoc, if_pos rfl, eDs_app]
  | k :: ks, j + 1, hn, h => by
    rw [List.getElem?_cons_succ] at h
    have hm := List.mem_of_getElem? h
    have hne : c.col ≠ k := fun e => (List.nodup_cons.1 hn).1 (e ▸ hm)
    have := arO_set (List.nodup_cons.1 hn).2 h (J := J)
    unfold arO at this ⊢
    rw [List.map_cons, List.set_cons_succ, this, List.map_cons, onC_snoc, if_neg hne]
theorem onC_nil {J : List Cd} {ks : List Int} (hk : Keys J ks) {x : Int} (h : ¬ x ∈ ks) : onC x J = [] := by
  unfold onC
  rw [List.filter_eq_nil_iff]
  intro c hc e
  exact h ((hk.2 x).2 ⟨c, hc, of_decide_eq_true e⟩)
theorem Keys_old {J : List Cd} {ks : List Int} (hk : Keys J ks) {c : Cd} (h : c.col ∈ ks) : Keys (J ++ [c]) ks := by
  refine ⟨hk.1, fun k => ?_⟩
  rw [hk.2 k]
  constructor
  · rintro ⟨d, hd, e⟩; exact ⟨d, by simp [hd], e⟩
  · rintro ⟨d, hd, e⟩
    rcases List.mem_append.1 hd with h' | h'
    · exact ⟨d, h', e⟩
    · simp at h'; subst h'; subst e; exact (hk.2 _).1 h
theorem Keys_new {J : List Cd} {ks : List Int} (hk : Keys J ks) {c : Cd} (h : ¬ c.col ∈ ks) : Keys (J ++ [c]) (ks ++ [c.col]) := by
  refine ⟨?_, fun k => ?_⟩
  · rw [List.nodup_append]
    exact ⟨hk.1, by simp, fun a ha b hb => by simp at hb; subst hb; exact fun e => h (e ▸ ha)⟩
  · rw [List.mem_append, hk.2 k]
    constructor
    · rintro (⟨d, hd, e⟩ | h')
      · exact ⟨d, by simp [hd], e⟩
      · simp at h'; exact ⟨c, by simp, h'.symm⟩
    · rintro ⟨d, hd, e⟩
      rcases List.mem_append.1 hd with h' | h'
      · exact .inl ⟨d, h', e⟩
      · simp at h'; subst h'; right; simp [e]
theorem take_snoc {J : List Cd} {i : Nat} {c : Cd} (h : J[i]? = some c) : J.take (i + 1) = J.take i ++ [c] := by rw [List.take_add_one, h]; rfl
def neverB (e : Ex) : Bool := (cj e).any nvX || (conds e).any fun c => !posB (onC c.col (conds e))
abbrev NvO (E : List AV) (b : Bool) (J : List Cd) (ks : List Int) : List AO := .cells E :: .cells [.d (.bool b)] :: .map (kvO J 4 ks) :: .arr [] 5 0 true :: arO J ks
theorem kvO_bnd (J : List Cd) (m : Nat) : ∀ (ks : List Int) (s : Nat), s + ks.length ≤ m → (kvO J s ks).all (fun p => p.2.bnd2B m) = true
  | [], _, _ => rfl
  | k :: ks, s, h => by
    rw [List.length_cons] at h
    rw [kvO, List.all_cons, kvO_bnd J m ks (s + 1) (by omega), Bool.and_true]
    exact Nat.ble_eq_true_of_le (by omega)
theorem NvO_bnd (E : List AV) (hE : E.all (fun c => c.bnd1B 0) = true) (b : Bool) (J : List Cd) (ks : List Int) : (NvO E b J ks).all (fun o => o.bndB (NvO E b J ks).length) = true := by
  have hl : (NvO E b J ks).length = ks.length + 4 := by simp [NvO, arO]
  rw [hl]
  have h1 : E.all (fun c => c.bnd1B (ks.length + 4)) = true := by
    rw [List.all_eq_true] at hE ⊢
    intro c hc
    have := hE c hc
    cases c with
    | ptr i o => exact absurd this (by simp [AV.bnd1B, Nat.blt])
    | aptr i l k o => exact absurd this (by simp [AV.bnd1B, Nat.blt])
    | arr i l => exact absurd this (by simp [AV.bnd1B, Nat.blt])
    | clo g cs =>
      simp only [AV.bnd1B, List.all_eq_true] at this ⊢
      intro i hi
      exact absurd (this i hi) (by simp [Nat.blt])
    | iter i => exact absurd this (by simp [AV.bnd1B, Nat.blt])
    | mp i => exact absurd this (by simp [AV.bnd1B, Nat.blt])
    | mit i => exact absurd this (by simp [AV.bnd1B, Nat.blt])
    | _ => rfl
  have h2 := kvO_bnd J (ks.length + 4) ks 4 (by omega)
  simp only [NvO, List.all_cons, AO.bndB, h1, h2, Bool.true_and, Bool.and_eq_true]
  refine ⟨⟨rfl, rfl⟩, ?_⟩
  rw [List.all_eq_true]
  intro o ho
  obtain ⟨k, _, rfl⟩ := List.mem_map.1 ho
  rfl
theorem sg_range {m i : Nat} (h : i < m) : sg (List.range m) i = i := by
  unfold sg
  rw [List.getD_eq_getElem?_getD]
  simp [h]
theorem sig_same {bs rest : List AO} (hb : bs.all (fun o => o.bndB bs.length) = true) : (List.range bs.length).map (fun s => (bs ++ rest)[s]?) = bs.map (fun o => some (mO (sg (List.range bs.length)) o)) := by
  refine List.ext_getElem? fun i => ?_
  rcases Nat.lt_or_ge i bs.length with h | h
  · have hx : bs[i]? = some bs[i] := List.getElem?_eq_getElem h
    rw [List.getElem?_map, List.getElem?_map, hx, List.getElem?_range h]
    simp only [Option.map_some, Option.some.injEq]
    rw [List.getElem?_append_left h, hx, mO_id (k := bs.length) (fun i hi => sg_range hi) (bndo_of (List.all_eq_true.1 hb _ (List.getElem_mem h)))]
  · rw [List.getElem?_eq_none (by simpa using h), List.getElem?_eq_none (by simpa using h)]
abbrev sgN (n : Nat) : List Nat := 0 :: 1 :: 2 :: (n + 5) :: (List.range' 4 n ++ [3])
theorem sgN_mid {n i : Nat} (h1 : 4 ≤ i) (h2 : i < 4 + n) : sg (sgN n) i = i := by
  obtain ⟨k, rfl⟩ : ∃ k, i = k + 4 := ⟨i - 4, by omega⟩
  unfold sg
  rw [List.getD_eq_getElem?_getD]
  simp only [List.getElem?_cons_succ]
  rw [List.getElem?_append_left (by simp; omega), List.getElem?_range' (by omega)]
  simp; omega
theorem sgN_last (n : Nat) : sg (sgN n) (4 + n) = 3 := by
  unfold sg
  rw [List.getD_eq_getElem?_getD, Nat.add_comm 4 n]
  simp only [List.getElem?_cons_succ]
  rw [List.getElem?_append_right (by simp)]
  simp
theorem kvO_map {f : Nat → Nat} {J : List Cd} : ∀ {ks : List Int} {s : Nat}, (∀ i, s ≤ i → i < s + ks.length → f i = i) → (kvO J s ks).map (fun p => (p.1, mG f p.2)) = kvO J s ks
  | [], _, _ => rfl
  | k :: ks, s, h => by
    rw [kvO, List.map_cons, kvO_map fun i h1 h2 => h i (by omega) (by rw [List.length_cons]; omega)]
    simp only [mG, mC]
    rw [h s (Nat.le_refl _) (by simp)]
theorem sgN_nodup (n : Nat) : (sgN n).Nodup := by
  have h : (List.range' 4 n).Nodup := List.nodup_range'
  simp only [sgN, List.nodup_cons, List.mem_cons, List.mem_append, List.mem_range', List.not_mem_nil, or_false, not_or]
  refine ⟨⟨by omega, by omega, by omega, ?_, by omega⟩, ⟨by omega, by omega, ?_, by omega⟩, ⟨by omega, ?_, by omega⟩, ⟨?_, by omega⟩, ?_⟩
  · rintro ⟨i, h1, h2⟩; omega
  · rintro ⟨i, h1, h2⟩; omega
  · rintro ⟨i, h1, h2⟩; omega
  · rintro ⟨i, h1, h2⟩; omega
  · rw [List.nodup_append]
    refine ⟨h, by simp, fun a ha b hb => ?_⟩
    obtain ⟨i, h1, h2⟩ := List.mem_range'.1 ha
    simp at hb
    omega
theorem sig_new (E : List AV) (hE : E.all (fun c => c.bnd1B 0) = true) (b : Bool) (J' : List Cd) (ks : List Int) (x : Int) (A : List (List D)) (C : AO) (hA : eDs (onC x J') = A) :
    (sgN ks.length).map (fun s => (AO.cells E :: AO.cells [.d (.bool b)] :: AO.map (kvO J' 4 ks ++ [(eI x, .arr 3 (onC x J').length)]) :: AO.arr A 5 0 false :: (arO J' ks ++ [C]) ++ [AO.arr [] 5 0 true])[s]?) = (NvO E b J' (ks ++ [x])).map (fun o => some (mO (sg (sgN ks.length)) o)) := by
  have e1 : mO (sg (sgN ks.length)) (.cells E) = .cells E := mO_id (k := 0) (fun i hi => absurd hi (by omega)) (bndo_of (o := .cells E) hE)
  have e2 : mO (sg (sgN ks.length)) (.map (kvO J' 4 (ks ++ [x]))) = .map (kvO J' 4 ks ++ [(eI x, .arr 3 (onC x J').length)]) := by
    rw [kvO_snoc]
    simp only [mO, List.map_append, List.map_cons, List.map_nil]
    rw [kvO_map fun i h1 h2 => sgN_mid h1 h2]
    simp only [mG, mC]
    rw [sgN_last]
  have e3 : arO J' (ks ++ [x]) = arO J' ks ++ [.arr A 5 0 false] := by simp [arO, hA]
  simp only [NvO, sgN, List.map_cons, e1, e2, e3, List.map_append, List.map_nil]
  have hl := arO_len J' ks
  have m1 : ∀ k, (AO.cells E :: AO.cells [.d (.bool b)] :: AO.map (kvO J' 4 ks ++ [(eI x, .arr 3 (onC x J').length)]) :: AO.arr A 5 0 false :: (arO J' ks ++ [C]) ++ [AO.arr [] 5 0 true])[k + 4]? = (arO J' ks ++ [C] ++ [AO.arr [] 5 0 true])[k]? := fun k => rfl
  have m2 : (List.range' 4 ks.length).map (fun s => (AO.cells E :: AO.cells [.d (.bool b)] :: AO.map (kvO J' 4 ks ++ [(eI x, .arr 3 (onC x J').length)]) :: AO.arr A 5 0 false :: (arO J' ks ++ [C]) ++ [AO.arr [] 5 0 true])[s]?) = (arO J' ks).map (fun o => some (mO (sg (sgN ks.length)) o)) := by
    refine List.ext_getElem? fun i => ?_
    rcases Nat.lt_or_ge i ks.length with h | h
    · rw [List.getElem?_map, List.getElem?_map, List.getElem?_range' h]
      simp only [Option.map_some, Nat.one_mul]
      rw [Nat.add_comm 4 i, m1, List.append_assoc, List.getElem?_append_left (by omega)]
      have hk : ks[i]? = some ks[i] := List.getElem?_eq_getElem h
      rw [arO_get hk]; rfl
    · rw [List.getElem?_eq_none (by simpa using h), List.getElem?_eq_none (by simpa [arO] using h)]
  rw [m2, show ks.length + 5 = (ks.length + 1) + 4 by omega, m1]
  have m3 : (arO J' ks ++ [C] ++ [AO.arr [] 5 0 true])[ks.length + 1]? = some (AO.arr [] 5 0 true) := by
    rw [List.getElem?_append_right (by simp [hl])]
    simp [hl]
  rw [m3]
  rfl
theorem eNs (E : List AV) (b : Bool) (J : List Cd) (ks : List Int) (C F : AO) : (AO.cells E :: AO.cells [.d (.bool b)] :: AO.map (kvO J 4 ks) :: AO.arr [] 5 0 true :: (arO J ks ++ [C])) ++ [F] = NvO E b J ks ++ [C, F] := by simp [NvO]
theorem kvO_at {J : List Cd} : ∀ {ks : List Int} {s i : Nat} {p : D × AV}, (kvO J s ks)[i]? = some p → ∃ k, ks[i]? = some k ∧ p = (eI k, .arr (s + i) (onC k J).length)
  | [], _, _, _, h => by simp [kvO] at h
  | k :: ks, s, 0, p, h => by
    simp [kvO] at h; subst h
    exact ⟨k, rfl, rfl⟩
  | k :: ks, s, i + 1, p, h => by
    rw [kvO, List.getElem?_cons_succ] at h
    obtain ⟨x, h1, h2⟩ := kvO_at h
    exact ⟨x, by rw [List.getElem?_cons_succ]; exact h1, by rw [h2]; congr 2; omega⟩
theorem nv_end {J : List Cd} {ks : List Int} (hk : Keys J ks) {seen : List Nat} (h1 : ∀ i, i < ks.length → i ∈ seen) (h2 : ∀ s ∈ seen, s < ks.length) : (seen.any fun s => !posB (onC (ks.getD s 0) J)) = J.any fun c => !posB (onC c.col J) := by
  rw [Bool.eq_iff_iff, List.any_eq_true, List.any_eq_true]
  constructor
  · rintro ⟨s, hs, h⟩
    have hlt := h2 s hs
    have hm : ks.getD s 0 ∈ ks := by rw [List.getD_eq_getElem?_getD, List.getElem?_eq_getElem hlt]; exact List.getElem_mem hlt
    obtain ⟨c, hc, e⟩ := (hk.2 _).1 hm
    exact ⟨c, hc, by rw [e]; exact h⟩
  · rintro ⟨c, hc, h⟩
    obtain ⟨s, hs⟩ := List.getElem?_of_mem ((hk.2 c.col).2 ⟨c, hc, rfl⟩)
    have hlt := (List.getElem?_eq_some_iff.1 hs).1
    refine ⟨s, h1 s hlt, ?_⟩
    rw [List.getD_eq_getElem?_getD, hs]
    exact h
theorem all_set {p : AO → Bool} {l : List AO} {i : Nat} {x : AO} (h : l.all p = true) (hx : p x = true) : (l.set i x).all p = true := by
  rw [List.all_eq_true] at h ⊢
  intro y hy
  rcases List.mem_or_eq_of_mem_set hy with h' | h'
  · exact h y h'
  · rw [h']; exact hx
structure NvS (b : Bool) (J : List Cd) (ks : List Int) (kv : List (D × AV)) (m : Nat) (w : List AO × List Nat × Bool) : Prop where
  len : w.1.length = ks.length + 5
  bnd : w.1.all (fun o => o.bndB (ks.length + 5)) = true
  c1 : w.1[1]? = some (.cells [.d (.bool w.2.2)])
  c2 : w.1[2]? = some (.map kv)
  cm : w.1[m]? = some (.mit 2 kv.length w.2.1)
  ar : ∀ (j : Nat) k, ks[j]? = some k → ∃ f, w.1[j + 4]? = some (.arr (eDs (onC k J)) 5 f false)
  nd : w.2.1.Nodup
  lt : ∀ s ∈ w.2.1, s < ks.length
  is : w.2.2 = (b || w.2.1.any fun s => !posB (onC (ks.getD s 0) J))
theorem NvS.step {b : Bool} {J : List Cd} {ks : List Int} {kv : List (D × AV)} {m : Nat} (hm : m = ks.length + 4) {O O1 O2 : List AO} {seen : List Nat} {bc : Bool} (h : NvS b J ks kv m (O, seen, bc)) {i : Nat} {k : Int} (hk : ks[i]? = some k) (hi : ¬ i ∈ seen)
    (h1 : O.set m (.mit 2 kv.length (seen ++ [i])) = O1) {bd : Bool} (hbd : bd = (bc || !posB (onC k J))) (h2 : O1.set 1 (.cells [.d (.bool bd)]) = O2) : NvS b J ks kv m (O2, seen ++ [i], bd) := by
  obtain ⟨l1, l2, l3, l4, l5, l6, l7, l8, l9⟩ := h
  dsimp only at l1 l2 l3 l4 l5 l6 l7 l8 l9
  have hlt := (List.getElem?_eq_some_iff.1 hk).1
  have hl1 : O1.length = ks.length + 5 := by rw [← h1, List.length_set, l1]
  refine ⟨by rw [← h2]; simp [hl1], ?_, ?_, ?_, ?_, fun j x hj => ?_, ?_, fun s hs => ?_, ?_⟩
  · rw [← h2, ← h1]
    exact all_set (all_set l2 (Nat.ble_eq_true_of_le (by omega))) rfl
  · rw [← h2, List.getElem?_set_self (by omega)]
  · rw [← h2, ← h1, List.getElem?_set_ne (by omega), List.getElem?_set_ne (by omega)]; exact l4
  · rw [← h2, ← h1, List.getElem?_set_ne (by omega), List.getElem?_set_self (by omega)]
  · have := (List.getElem?_eq_some_iff.1 hj).1
    rw [← h2, ← h1, List.getElem?_set_ne (by omega), List.getElem?_set_ne (by omega)]
    exact l6 j x hj
  · rw [List.nodup_append]
    exact ⟨l7, by simp, fun a ha c hc e => by simp at hc; subst hc; subst e; exact hi ha⟩
  · rcases List.mem_append.1 hs with h | h
    · exact l8 s h
    · simp at h; subst h; exact hlt
  · rw [hbd, l9, List.any_append]
    simp only [List.any_cons, List.any_nil, Bool.or_false]
    rw [List.getD_eq_getElem?_getD, hk, Bool.or_assoc]; rfl
theorem NvS.frz {b : Bool} {J : List Cd} {ks : List Int} {kv : List (D × AV)} {m : Nat} (hm : m = ks.length + 4) {O O1 : List AO} {seen : List Nat} {bc : Bool} (h : NvS b J ks kv m (O, seen, bc)) {i : Nat} {k : Int} (hk : ks[i]? = some k) {f : Nat} (h1 : O.set (4 + i) (.arr (eDs (onC k J)) 5 f false) = O1) : NvS b J ks kv m (O1, seen, bc) := by
  obtain ⟨l1, l2, l3, l4, l5, l6, l7, l8, l9⟩ := h
  dsimp only at l1 l2 l3 l4 l5 l6 l7 l8 l9
  have hlt := (List.getElem?_eq_some_iff.1 hk).1
  refine ⟨by rw [← h1]; simp [l1], ?_, ?_, ?_, ?_, fun j x hj => ?_, l7, l8, l9⟩
  · rw [← h1]; exact all_set l2 rfl
  · rw [← h1, List.getElem?_set_ne (by omega)]; exact l3
  · rw [← h1, List.getElem?_set_ne (by omega)]; exact l4
  · rw [← h1, List.getElem?_set_ne (by omega)]; exact l5
  · rw [← h1]
    by_cases e : i = j
    · subst e
      rw [hk] at hj; cases hj
      exact ⟨f, by rw [Nat.add_comm i 4, List.getElem?_set_self (by omega)]⟩
    · rw [List.getElem?_set_ne (by omega)]; exact l6 j x hj
theorem C.predicate_Never (e : Ex) (he : e.bk ≤ 1048576) : Pure Try.prog N.predicate_Never [e.av] (.d (.bool (neverB e))) := by
  have hE := (C.each_d N.predicate_Never_c1 nvF okB C.Never_c1 e he 0 (.bool false) ⟨_, rfl⟩).2
  rw [nvF_fold, Bool.false_or] at hE
  have hJ := C.predicate_Conditions e he
  have hok : ∀ c ∈ conds e, cmpOp c.op = true ∧ nSm c.v.n := fun c hc => ⟨(conds_ok hc).1, valid_n (conds_ok hc).2.2⟩
  have hcl := conds_len e
  unfold neverB
  obtain ⟨b, hb⟩ : ∃ b, b = (cj e).any nvX := ⟨_, rfl⟩
  rw [← hb] at hE ⊢
  obtain ⟨J, hJe⟩ : ∃ J, J = conds e := ⟨_, rfl⟩
  rw [← hJe] at hJ hok hcl ⊢
  obtain ⟨q, hq⟩ : ∃ q, q = (b || J.any fun c => !posB (onC c.col J)) := ⟨_, rfl⟩
  rw [← hq]
  have h1 := eDs_len J
  have hm := eDs_mem J
  have hsl : SlD (nsl (eDs J)) (eDs J) := sld_nsl
  obtain ⟨dj, hdj⟩ : ∃ d, d = nsl (eDs J) := ⟨_, rfl⟩
  rw [← hdj] at hJ hsl
  have hL : ∀ os : List AO, os[1]? = some (.cells [.d (.bool false)]) → CallSpec Try.prog N.predicate_each [e.av, .clo N.predicate_Never_c1 [1]] os (fun r' os' => r' = .tup [] ∧ os' = os.set 1 (.cells [.d (.bool b)])) := fun os ho => liftF (id := 1) hE (fun f => rfl) ho
  obtain ⟨op, n, v, nm, nl, args⟩ := e
  rw [Ex.av_mk] at hJ ⊢
  simp only [Ex.av_mk] at hL
  obtain ⟨da, hda⟩ : ∃ d, d = ng nl (xL args) := ⟨_, rfl⟩
  rw [← hda] at hJ hL ⊢
  refine F.predicate_Never.go mixed rfl ?_
  repeat' first
    | refine st ?_
    | ((with_reducible apply go_i); (conv => whnf))
    | ((with_reducible apply k_pn); (· exact hJ))
    | ((with_reducible apply k_pc); (· exact hJ))
    | ((with_reducible apply k_nc); (· first | exact hL _ rfl); (try rintro _ _ ⟨rfl, rfl⟩))
    | ((with_reducible apply k_pr); (· first | exact hL _ rfl))
    | ((with_reducible apply k_cs); (· first | exact hL _ rfl); (try rintro _ _ ⟨rfl, rfl⟩))
    | ((with_reducible apply k_cal); refine st ?_; (with_reducible apply k_chk); (· exact rfl); refine st ?_; (with_reducible apply k_cs); (· first | exact hL _ rfl); (try rintro _ _ ⟨rfl, rfl⟩))
    | (with_reducible apply k_d <;> intro _)
    | (with_reducible apply k_b <;> intro _)
  obtain ⟨E, hE'⟩ : ∃ E : List AV, E = [.d (eI op), .d (eI n), .d (eI v.k), .d (eI v.n), .d (.str v.s), .d (.str nm), .d da] := ⟨_, rfl⟩
  have hEb : E.all (fun c => c.bnd1B 0) = true := by rw [hE']; rfl
  rw [← hE']
  refine x_spare 5 rfl ?_
  refine x_loopS mixed Lt.predicate_Never_l0 Lk.predicate_Never_l0 (fun (w : Nat × List Int) => [.d (eI w.1)]) (fun w => NvO E b (J.take w.1) w.2) (fun w => w.1 ≤ J.length ∧ Keys (J.take w.1) w.2) (fun w => J.length - w.1) 5 (0, []) rfl rfl rfl (fun _ => rfl) (fun w hw => ⟨rfl, rfl, NvO_bnd E hEb _ _ _, by
    rw [show (NvO E b (J.take w.1) w.2).length = w.2.length + 4 by simp [NvO, arO]]
    show ([AV.ptr (0 + 1) 0, AV.mp (0 + 1 + 1), AV.d dj, AV.d (.int .i64 (eDs J).length)].all fun v => v.bndB (w.2.length + 4)) = true
    have b1 : Nat.blt (0 + 1) (w.2.length + 4) = true := Nat.ble_eq_true_of_le (by omega)
    have b2 : Nat.blt (0 + 1 + 1) (w.2.length + 4) = true := Nat.ble_eq_true_of_le (by omega)
    simp only [List.all_cons, List.all_nil, AV.bndB, AV.bnd2B, AV.bnd1B, b1, b2, Bool.and_self]⟩) ⟨by omega, by simp [Keys]⟩ ?_
  repeat' first
    | refine st ?_
    | ((with_reducible apply go_i); (conv => whnf))
    | (with_reducible apply k_d <;> intro _)
    | (with_reducible apply k_b <;> intro _)
  rintro ⟨i, ks⟩ ⟨h4, h5⟩
  dsimp only at h4 h5 ⊢
  cases hx : J[i]? with
  | some c =>
    have hlt := (List.getElem?_eq_some_iff.1 hx).1
    have hg := eDs_get hx
    have hT := take_snoc hx
    have hcl2 : (onC c.col (J.take i)).length ≤ 1048576 := by
      have := onC_len c.col (J.take i)
      rw [List.length_take] at this
      omega
    have m1 := kvO_mok (J.take i) c.col ks 4
    have r1 : c.v.s = c.v.s := rfl
    have al := arO_len (J.take i) ks
    obtain ⟨O, hO⟩ : ∃ O, O = NvO E b (J.take i) ks := ⟨_, rfl⟩
    obtain ⟨kv, hkv⟩ : ∃ kv, kv = kvO (J.take i) 4 ks := ⟨_, rfl⟩
    have ol : O.length = ks.length + 4 := by rw [hO]; simp [NvO, arO]
    have o2 : O[2]? = some (.map kv) := by rw [hO, hkv]; rfl
    have o3 : O[3]? = some (.arr [] 5 0 true) := by rw [hO]; rfl
    rw [← hO]
    rw [← hkv] at m1
    obtain ⟨C, hC⟩ : ∃ C, C = AO.cells [.d (eI c.op), .d (eI c.col), .d (eI c.v.k), .d (eI c.v.n), .d (.str c.v.s)] := ⟨_, rfl⟩
    have p2 := app_get o2 (AO.cells [.d (eI c.op), .d (eI c.col), .d (eI c.v.k), .d (eI c.v.n), .d (.str c.v.s)])
    have p3 := app_get o3 (AO.cells [.d (eI c.op), .d (eI c.col), .d (eI c.v.k), .d (eI c.v.n), .d (.str c.v.s)])
    by_cases hin : c.col ∈ ks
    · obtain ⟨j, hj⟩ := List.getElem?_of_mem hin
      have hjl := (List.getElem?_eq_some_iff.1 hj).1
      have e1 : lkR false (zv false [.nil]) (mget .i (eI c.col) kv) = .arr (j + 4) (eDs (onC c.col (J.take i))).length := by rw [hkv, kvO_get h5.1 hj, eDs_len, Nat.add_comm]; rfl
      have e2 : mput .i (eI c.col) (.arr (j + 4) (eDs (onC c.col (J.take i)) ++ [c.ds]).length) kv = kvO (J.take (i + 1)) 4 ks := by
        rw [hkv, hT, ← kvO_put (J := J.take i) (s := 4) h5.1 hj, List.length_append, eDs_len, Nat.add_comm]; rfl
      have a2 := arO_set (J := J.take i) h5.1 hj
      have oj : O[j + 4]? = some (.arr (eDs (onC c.col (J.take i))) 5 0 false) := by rw [hO]; exact arO_get hj
      have pj := app_get oj (AO.cells [.d (eI c.op), .d (eI c.col), .d (eI c.v.k), .d (eI c.v.n), .d (.str c.v.s)])
      obtain ⟨O1, hO1⟩ : ∃ O1, O.set (j + 4) (.arr (eDs (onC c.col (J.take i)) ++ [c.ds]) 5 0 false) = O1 := ⟨_, rfl⟩
      have s1 := app_set hO1 (by omega) (AO.cells [.d (eI c.op), .d (eI c.col), .d (eI c.v.k), .d (eI c.v.n), .d (.str c.v.s)])
      have o1l : O1.length = ks.length + 4 := by rw [← hO1, List.length_set, ol]
      have o12 : O1[2]? = some (.map kv) := by rw [← hO1, List.getElem?_set_ne (by omega)]; exact o2
      have p12 := app_get o12 (AO.cells [.d (eI c.op), .d (eI c.col), .d (eI c.v.k), .d (eI c.v.n), .d (.str c.v.s)])
      have hO2 : O1.set 2 (.map (kvO (J.take (i + 1)) 4 ks)) = NvO E b (J.take (i + 1)) ks := by
        rw [← hO1, hO, hT, show NvO E b (J.take i ++ [c]) ks = .cells E :: .cells [.d (.bool b)] :: .map (kvO (J.take i ++ [c]) 4 ks) :: .arr [] 5 0 true :: arO (J.take i ++ [c]) ks from rfl, ← a2]
        rfl
      obtain ⟨O2, hO2'⟩ : ∃ O2, O2 = NvO E b (J.take (i + 1)) ks := ⟨_, rfl⟩
      rw [← hO2'] at hO2
      have s2 := app_set hO2 (by omega) (AO.cells [.d (eI c.op), .d (eI c.col), .d (eI c.v.k), .d (eI c.v.n), .d (.str c.v.s)])
      have q1 := eDs_len (onC c.col (J.take i))
      have q2 := eDs_mem (onC c.col (J.take i))
      repeat' first
        | refine st ?_
        | ((with_reducible apply go_i); (conv => whnf))
        | (with_reducible apply k_ln)
        | (with_reducible apply k_ap0)
        | (with_reducible apply k_ap)
        | (with_reducible apply k_ss0)
        | ((with_reducible apply k_sj);  (· assumption))
        | ((with_reducible apply k_nt);  (· first | assumption | exact nth_snoc0))
        | ((with_reducible apply k_chk);  (· (show chkT _ _ = true); simp [chkT, disjA]; omega))
        | (with_reducible apply k_d <;> intro _)
        | (with_reducible apply k_b <;> intro _)
      have hln : (NvO E b (J.take (i + 1)) ks).length = ks.length + 4 := by simp [NvO, arO]
      have hs := sig_same (rest := [AO.cells [.d (eI c.op), .d (eI c.col), .d (eI c.v.k), .d (eI c.v.n), .d (.str c.v.s)], AO.arr [] 5 0 true]) (NvO_bnd E hEb b (J.take (i + 1)) ks)
      rw [hln, ← hO2'] at hs
      refine ⟨List.range (ks.length + 4), (i + 1, ks), rfl, ?_, ?_, List.nodup_range, rfl, rfl, by show J.length - (i + 1) < J.length - i; omega, by show i + 1 ≤ J.length; omega, by show Keys (J.take (i + 1)) ks; rw [hT]; exact Keys_old h5 hin⟩
      · have w1 : sg (List.range (ks.length + 4)) (0 + 1) = 0 + 1 := sg_range (by omega)
        have w2 : sg (List.range (ks.length + 4)) (0 + 1 + 1) = 0 + 1 + 1 := sg_range (by omega)
        simp only [List.map_cons, List.map_nil, mA, mG, mC, w1, w2]
      · rw [List.append_assoc]
        show _ = (NvO E b (J.take (i + 1)) ks).map _
        rw [← hO2']
        exact hs
    · have e1 : lkR false (zv false [.nil]) (mget .i (eI c.col) kv) = .d .nil := by rw [hkv, kvO_none hin]; rfl
      have e2 : mput .i (eI c.col) (.arr 3 ([] ++ [c.ds] : List (List D)).length) kv = kvO (J.take (i + 1)) 4 ks ++ [(eI c.col, .arr 3 1)] := by rw [hkv, kvO_new hin, hT]; rfl
      have a2 := arO_same (J := J.take i) hin
      have on1 := onC_nil h5 hin
      have on2 : onC c.col (J.take (i + 1)) = [c] := by rw [hT, onC_snoc, if_pos rfl, on1]; rfl
      rw [← hT] at a2
      have hs := sig_new E hEb b (J.take (i + 1)) ks c.col [c.ds] (AO.cells [.d (eI c.op), .d (eI c.col), .d (eI c.v.k), .d (eI c.v.n), .d (.str c.v.s)]) (by rw [on2]; rfl)
      rw [on2] at hs
      obtain ⟨O1, hO1⟩ : ∃ O1, O.set 3 (.arr ([] ++ [c.ds] : List (List D)) 5 0 false) = O1 := ⟨_, rfl⟩
      have s1 := app_set hO1 (by omega) (AO.cells [.d (eI c.op), .d (eI c.col), .d (eI c.v.k), .d (eI c.v.n), .d (.str c.v.s)])
      have o1l : O1.length = ks.length + 4 := by rw [← hO1, List.length_set, ol]
      have o12 : O1[2]? = some (.map kv) := by rw [← hO1, List.getElem?_set_ne (by omega)]; exact o2
      have p12 := app_get o12 (AO.cells [.d (eI c.op), .d (eI c.col), .d (eI c.v.k), .d (eI c.v.n), .d (.str c.v.s)])
      obtain ⟨O2, hO2⟩ : ∃ O2, O1.set 2 (.map (kvO (J.take (i + 1)) 4 ks ++ [(eI c.col, .arr 3 1)])) = O2 := ⟨_, rfl⟩
      have s2 := app_set hO2 (by omega) (AO.cells [.d (eI c.op), .d (eI c.col), .d (eI c.v.k), .d (eI c.v.n), .d (.str c.v.s)])
      have hO2' : O2 = AO.cells E :: AO.cells [.d (.bool b)] :: AO.map (kvO (J.take (i + 1)) 4 ks ++ [(eI c.col, .arr 3 1)]) :: AO.arr [c.ds] 5 0 false :: arO (J.take (i + 1)) ks := by
        rw [← hO2, ← hO1, hO, a2]; rfl
      repeat' first
        | (with_reducible apply k_lk2)
        | refine st ?_
        | ((with_reducible apply go_i); (conv => whnf))
        | (with_reducible apply k_ln)
        | (with_reducible apply k_ap0)
        | (with_reducible apply k_ap)
        | (with_reducible apply k_ss0)
        | ((with_reducible apply k_sj);  (· assumption))
        | ((with_reducible apply k_nt);  (· first | assumption | exact nth_snoc0))
        | ((with_reducible apply k_chk);  (· (show chkT _ _ = true); simp [chkT, disjA]; omega))
        | (with_reducible apply k_d <;> intro _)
        | (with_reducible apply k_b <;> intro _)
      refine ⟨sgN ks.length, (i + 1, ks ++ [c.col]), rfl, rfl, ?_, sgN_nodup _, rfl, rfl, by show J.length - (i + 1) < J.length - i; omega, by show i + 1 ≤ J.length; omega, by show Keys (J.take (i + 1)) (ks ++ [c.col]); rw [hT]; exact Keys_new h5 hin⟩
      rw [hO2']
      exact hs
  | none =>
    have hge := List.getElem?_eq_none_iff.1 hx
    rw [List.take_of_length_le hge] at h5 ⊢
    obtain ⟨O, hO⟩ : ∃ O, O = NvO E b J ks := ⟨_, rfl⟩
    obtain ⟨kv, hkv⟩ : ∃ kv, kv = kvO J 4 ks := ⟨_, rfl⟩
    have ol : O.length = ks.length + 4 := by rw [hO]; simp [NvO, arO]
    have o2 : O[2]? = some (.map kv) := by rw [hO, hkv]; rfl
    have kl : kv.length = ks.length := by rw [hkv, kvO_len]
    rw [← hO]
    repeat' first
      | refine st ?_
      | ((with_reducible apply go_i); (conv => whnf))
      | (with_reducible apply k_ln)
      | (with_reducible apply k_ap)
      | ((with_reducible apply k_nt);  (· first | assumption))
      | (with_reducible apply k_d <;> intro _)
      | (with_reducible apply k_b <;> intro _)
    have oS : NvS b J ks kv (O.length + 0) (O ++ [AO.mit (0 + 1 + 1) kv.length []], [], b) := by
      refine ⟨by simp [ol], ?_, ?_, app_get o2 _, nth_snoc0, fun j k hj => ⟨0, app_get ?_ _⟩, by simp, by simp, by simp⟩
      · have hb := NvO_bnd E hEb b J ks
        rw [← hO, ol] at hb
        show (O ++ [AO.mit (0 + 1 + 1) kv.length []]).all _ = true
        rw [List.all_append, Bool.and_eq_true]
        refine ⟨?_, ?_⟩
        · rw [List.all_eq_true] at hb ⊢
          intro o ho
          have h1 := hb o ho
          rw [hO] at ho
          simp only [NvO, List.mem_cons] at ho
          rcases ho with rfl | rfl | rfl | rfl | ho
          · have := NvO_bnd E hEb b (J ++ [cd0]) (ks ++ [0])
            rw [show (NvO E b (J ++ [cd0]) (ks ++ [0])).length = ks.length + 5 by simp [NvO, arO]] at this
            exact List.all_eq_true.1 this _ (List.mem_cons_self ..)
          · rfl
          · exact kvO_bnd J (ks.length + 5) ks 4 (by omega)
          · rfl
          · obtain ⟨k, _, rfl⟩ := List.mem_map.1 ho
            rfl
        · simp only [List.all_cons, List.all_nil, Bool.and_true]
          exact Nat.ble_eq_true_of_le (by omega)
      · show (O ++ _)[1]? = _
        rw [hO]; rfl
      · rw [hO]
        exact arO_get hj
    refine x_loopS mixed Lt.predicate_Never_l1 Lk.predicate_Never_l1 (fun (w : List AO × List Nat × Bool) => []) (fun w => w.1) (fun w => NvS b J ks kv (O.length + 0) w) (fun w => ks.length - w.2.1.length) 5 (O ++ [AO.mit (0 + 1 + 1) kv.length []], [], b) rfl rfl ?_ (fun _ => rfl) ?_ oS ?_
    · exact List.take_of_length_le (Nat.le_refl _)
    · rintro ⟨Oc, seen, bc⟩ hS
      have w1 := hS.len
      have w2 := hS.bnd
      dsimp only at w1 w2 ⊢
      rw [w1]
      refine ⟨rfl, rfl, w2, ?_⟩
      show ([AV.ptr (0 + 1) 0, AV.mit (O.length + 0)].all fun v => v.bndB (ks.length + 5)) = true
      have b1 : Nat.blt (0 + 1) (ks.length + 5) = true := Nat.ble_eq_true_of_le (by omega)
      have b2 : Nat.blt (O.length + 0) (ks.length + 5) = true := Nat.ble_eq_true_of_le (by omega)
      simp only [List.all_cons, List.all_nil, AV.bndB, AV.bnd2B, AV.bnd1B, b1, b2, Bool.and_self]
    repeat' first
      | refine st ?_
      | ((with_reducible apply go_i); (conv => whnf))
      | (with_reducible apply k_d <;> intro _)
      | (with_reducible apply k_b <;> intro _)
    rintro ⟨Oc, seen, bc⟩ hS
    have w3 := hS.c1
    have w4 := hS.c2
    have w5 := hS.cm
    dsimp only at w3 w4 w5 ⊢
    repeat' first
      | refine st ?_
      | ((with_reducible apply go_i); (conv => whnf))
      | (with_reducible apply k_ln)
      | (with_reducible apply k_ap)
      | ((with_reducible apply k_nt);  (· first | assumption))
      | (with_reducible apply k_d <;> intro _)
      | (with_reducible apply k_b <;> intro _)
    refine ⟨rfl, fun i p hi hp => ?_, fun hall => ?_⟩
    · have hp' := hp
      rw [hkv] at hp'
      obtain ⟨k, hk, rfl⟩ := kvO_at hp'
      have hkl := (List.getElem?_eq_some_iff.1 hk).1
      obtain ⟨Oc1, hO1⟩ : ∃ O1, Oc.set (O.length + 0) (.mit 2 kv.length (seen ++ [i])) = O1 := ⟨_, rfl⟩
      have hl0 := hS.len
      dsimp only at hl0
      have v1 : Oc1[1]? = some (.cells [.d (.bool bc)]) := by rw [← hO1, List.getElem?_set_ne (by omega)]; exact w3
      have v2 : Oc1[2]? = some (.map kv) := by rw [← hO1, List.getElem?_set_ne (by omega)]; exact w4
      have v3 : Oc1[O.length + 0]? = some (.mit 2 kv.length (seen ++ [i])) := by rw [← hO1, List.getElem?_set_self (by omega)]
      have gl : (seen ++ [i]).getLast? = some i := by simp
      have hlo : O.length + 0 = ks.length + 4 := by omega
      have slt : seen.length < ks.length := by
        have h1 : (seen ++ [i]).Nodup := by
          rw [List.nodup_append]
          exact ⟨hS.nd, by simp, fun a ha c hc e => by simp at hc; subst hc; subst e; exact hi ha⟩
        have h2 : (seen ++ [i]).length ≤ (List.range ks.length).length := by
          refine List.Nodup.length_le_of_subset h1 fun s hs => ?_
          rw [List.mem_range]
          rcases List.mem_append.1 hs with h | h
          · exact hS.lt s h
          · simp at h; subst h; exact hkl
        simp at h2
        omega
      have ends : ∀ (O2 : List AO) (bd : Bool), NvS b J ks kv (O.length + 0) (O2, seen ++ [i], bd) → ∃ (σ : List Nat) (a' : List AO × List Nat × Bool), ([] : List AV) = List.map (mA (sg σ)) [] ∧ [AV.ptr (0 + 1) 0, AV.mit (O.length + 0)] = List.map (mA (sg σ)) [AV.ptr (0 + 1) 0, AV.mit (O.length + 0)] ∧ List.map (fun s => (O2 ++ [AO.arr [] 5 0 true])[s]?) σ = List.map (fun o => some (mO (sg σ) o)) a'.1 ∧ σ.Nodup ∧ List.take 0 σ = List.range 0 ∧ List.map (mO (sg σ)) (List.take 0 a'.1) = List.take 0 a'.1 ∧ ks.length - a'.2.1.length < ks.length - seen.length ∧ NvS b J ks kv (O.length + 0) a' := by
        intro O2 bd hN
        have l2 := hN.len
        have hb2 := hN.bnd
        dsimp only at l2 hb2
        rw [← l2] at hb2
        have hs := sig_same (rest := [AO.arr [] 5 0 true]) hb2
        have s1 : sg (List.range O2.length) (0 + 1) = 0 + 1 := sg_range (by omega)
        have s2 : sg (List.range O2.length) (O.length + 0) = O.length + 0 := sg_range (by omega)
        refine ⟨List.range O2.length, (O2, seen ++ [i], bd), rfl, ?_, hs, List.nodup_range, rfl, rfl, ?_, hN⟩
        · simp only [List.map_cons, List.map_nil, mA, mG, mC, s1, s2]
        · rw [List.length_append]; simp only [List.length_cons, List.length_nil]; omega
      cases bc with
      | true =>
        obtain ⟨O2, hO2⟩ : ∃ O2, Oc1.set 1 (.cells [.d (.bool true)]) = O2 := ⟨_, rfl⟩
        have hN := hS.step hlo hk hi hO1 (bd := true) rfl hO2
        repeat' first
          | refine st ?_
          | ((with_reducible apply go_i); (conv => whnf))
          | ((with_reducible apply k_sj);  (· assumption))
          | ((with_reducible apply k_nt);  (· first | assumption))
          | ((with_reducible apply k_me);  (· rfl);  (· assumption);  (· assumption))
          | (with_reducible apply k_d <;> intro _)
          | (with_reducible apply k_b <;> intro _)
        exact ends O2 true hN
      | false =>
        obtain ⟨f, hf⟩ := hS.ar i k hk
        dsimp only at hf
        have v4 : Oc1[4 + i]? = some (.arr (eDs (onC k J)) 5 f false) := by rw [← hO1, List.getElem?_set_ne (by omega), Nat.add_comm 4 i]; exact hf
        obtain ⟨Oc2, hO2⟩ : ∃ O2, Oc1.set (4 + i) (.arr (eDs (onC k J)) 5 (eDs (onC k J)).length false) = O2 := ⟨_, rfl⟩
        have v5 : Oc2[1]? = some (.cells [.d (.bool false)]) := by rw [← hO2, List.getElem?_set_ne (by omega)]; exact v1
        obtain ⟨bd, hbd⟩ : ∃ bd, bd = !posB (onC k J) := ⟨_, rfl⟩
        obtain ⟨O3, hO3⟩ : ∃ O3, Oc2.set 1 (.cells [.d (.bool bd)]) = O3 := ⟨_, rfl⟩
        have q1 := eDs_len (onC k J)
        have hN : NvS b J ks kv (O.length + 0) (O3, seen ++ [i], bd) := by
          obtain ⟨Od, hOd⟩ : ∃ O1, Oc.set (4 + i) (.arr (eDs (onC k J)) 5 (eDs (onC k J)).length false) = O1 := ⟨_, rfl⟩
          have hS' := hS.frz hlo hk hOd
          refine hS'.step hlo hk hi (O1 := Oc2) ?_ (bd := bd) (by rw [hbd]; rfl) hO3
          rw [← hO2, ← hO1, ← hOd, List.set_comm _ _ (by omega)]
        have hne : onC k J ≠ [] := by
          obtain ⟨c, hc, e⟩ := (h5.2 k).1 (List.mem_of_getElem? hk)
          intro hnil
          have : c ∈ onC k J := List.mem_filter.2 ⟨hc, by simp [e]⟩
          rw [hnil] at this; cases this
        have hP := C.predicate_possible (onC k J) (by have := onC_len k J; omega) (fun c hc => hok c (List.mem_filter.1 hc).1) hne (.sl (eDs (onC k J))) (.inr rfl)
        obtain ⟨pb, hpb⟩ : ∃ pb, pb = posB (onC k J) := ⟨_, rfl⟩
        rw [← hpb] at hP hbd
        subst hbd
        repeat' first
          | refine st ?_
          | ((with_reducible apply go_i); (conv => whnf))
          | ((with_reducible apply k_sj);  (· assumption))
          | ((with_reducible apply k_nt);  (· first | assumption))
          | ((with_reducible apply k_me);  (· rfl);  (· assumption);  (· assumption))
          | ((with_reducible apply k_pn); (· exact hP))
          | ((with_reducible apply k_pc); (· exact hP))
          | (with_reducible apply k_d <;> intro _)
          | (with_reducible apply k_b <;> intro _)
        exact ends O3 _ hN
    · have hbc := hS.is
      dsimp only at hbc
      have he : (seen.any fun s => !posB (onC (ks.getD s 0) J)) = J.any fun c => !posB (onC c.col J) := nv_end h5 (fun i hi => hall i (by omega)) hS.lt
      rw [he, ← hq] at hbc
      rw [hbc] at w3
      repeat' first
        | refine st ?_
        | ((with_reducible apply go_i); (conv => whnf))
        | ((with_reducible apply k_nt);  (· first | assumption))
        | (with_reducible apply k_d <;> intro _)
        | (with_reducible apply k_b <;> intro _)
      all_goals rfl
end Go.Proofs
end
