/- Texts of this claim, joined. No condition. -/
import Derived.Test.YtejfiijaomodnaaQ5
section
/- The examples of the chapter. No condition. -/
set_option linter.unusedSimpArgs false
set_option linter.unusedVariables false
set_option maxRecDepth 10000
set_option maxHeartbeats 4000000
namespace Go.Proofs
open Go.Bi

def cmE (op i n : Int) : Ex := .mk op 0 vNull [] false [.mk 2 i vNull [] true [], .mk 1 0 ⟨1, n, []⟩ [] true []]
def anE (a b : Ex) : Ex := .mk 5 0 vNull [] false [a, b]
def mE : Ex := .mk 9 0 vNull [] false [.mk 1 0 ⟨1, 3, []⟩ [] true [], .mk 2 0 vNull [] true []]
theorem cmE_av (op i n : Int) : (cmE op i n).av = eX op 0 vNull [] (.sl [[eI 2, eI i, eI 0, eI 0, .str [], .str [], .nil], [eI 1, eI 0, eI 1, eI n, .str [], .str [], .nil]]) := by rw [cmE, Ex.av_mk]; rfl
theorem mE_av : mE.av = eX 9 0 vNull [] (.sl [[eI 1, eI 0, eI 1, eI 3, .str [], .str [], .nil], [eI 2, eI 0, eI 0, eI 0, .str [], .str [], .nil]]) := by rw [mE, Ex.av_mk]; rfl
theorem anE_av (a b : Ex) : (anE a b).av = eX 5 0 vNull [] (.sl [a.ds, b.ds]) := by rw [anE, Ex.av_mk]; rfl
theorem C.law12_compare (op i n : Int) : Pure Try.prog N.bt_law12_compare [.d (eI op), .d (eI i), .d (eI n)] (cmE op i n).av := by
  rw [cmE_av]
  refine F.bt_law12_compare.go mixed rfl ?_
  repeat' first
    | refine st ?_
    | ((with_reducible apply go_i); (conv => whnf))
    | (with_reducible apply k_d <;> intro _)
    | (with_reducible apply k_b <;> intro _)
  all_goals rfl
theorem C.law12_and (a b : Ex) : Pure Try.prog N.bt_law12_and [a.av, b.av] (anE a b).av := by
  rw [anE_av]
  obtain ⟨o1, n1, v1, m1, l1, a1⟩ := a
  obtain ⟨o2, n2, v2, m2, l2, a2⟩ := b
  rw [Ex.av_mk, Ex.av_mk, Ex.ds_mk, Ex.ds_mk]
  refine F.bt_law12_and.go mixed rfl ?_
  repeat' first
    | refine st ?_
    | ((with_reducible apply go_i); (conv => whnf))
    | (with_reducible apply k_d <;> intro _)
    | (with_reducible apply k_b <;> intro _)
  all_goals rfl
theorem aw1 : win (anE (cmE 10 0 5) (cmE 11 1 5)) 0 1 = ((5, 6), true) := by decide +kernel
theorem aw2 : neverB (anE mE (cmE 10 0 4)) = false := by decide +kernel
theorem aw3 : neverB (anE mE (cmE 9 0 4)) = true := by decide +kernel
theorem aw4 : nsl (eDs (conds (anE mE (cmE 10 0 4)))) = .sl [[eI 11, eI 0, eI 1, eI 3, .str []], [eI 10, eI 0, eI 1, eI 4, .str []]] := by kernel_rfl
theorem aw5 : nsl (xL ((cj (anE (anE (cmE 10 0 5) (cmE 11 1 5)) (cmE 8 2 0))).map (shf 0))) = .sl [(shf 0 (cmE 10 0 5)).ds, (shf 0 (cmE 11 1 5)).ds, (shf 0 (cmE 8 2 0)).ds] := by kernel_rfl
theorem aw6 : (shf 0 (cmE 8 2 0)).ds = (cmE 8 2 0).ds := by kernel_rfl
theorem C.law12_awake : Pure Try.prog N.bt_law12_awake [] (.d (.bool true)) := by
  have c1 := C.law12_compare 10 0 5
  have c2 := C.law12_compare 11 1 5
  have c3 := C.law12_compare 8 2 0
  have c4 := C.law12_compare 7 0 3
  have c5 := C.law12_compare 10 0 4
  have c6 := C.law12_compare 9 0 4
  have n1 := C.law12_and (cmE 10 0 5) (cmE 11 1 5)
  have n2 := C.law12_and (anE (cmE 10 0 5) (cmE 11 1 5)) (cmE 8 2 0)
  have n3 := C.law12_and mE (cmE 10 0 4)
  have n4 := C.law12_and mE (cmE 9 0 4)
  have w1 := C.predicate_Window (anE (cmE 10 0 5) (cmE 11 1 5)) (by decide +kernel) 0 1
  have j1 := C.predicate_Conjuncts (anE (anE (cmE 10 0 5) (cmE 11 1 5)) (cmE 8 2 0)) (by decide +kernel)
  have d1 := C.predicate_Conditions (anE mE (cmE 10 0 4)) (by decide +kernel)
  have v1 := C.predicate_Never (anE mE (cmE 10 0 4)) (by decide +kernel)
  have v2 := C.predicate_Never (anE mE (cmE 9 0 4)) (by decide +kernel)
  have s1 := C.r11_Same (cmE 8 2 0) (by decide +kernel) (cmE 8 2 0) (by decide +kernel)
  rw [smE_refl] at s1
  rw [aw1] at w1
  rw [aw2] at v1
  rw [aw3] at v2
  rw [aw4] at d1
  rw [aw5, aw6] at j1
  have e3 : (cmE 8 2 0).ds = xds 8 0 vNull [] (.sl [[eI 2, eI 2, eI 0, eI 0, .str [], .str [], .nil], [eI 1, eI 0, eI 1, eI 0, .str [], .str [], .nil]]) := by rw [cmE, Ex.ds_mk]; rfl
  rw [e3] at j1
  obtain ⟨x1, hx1⟩ : ∃ x, x = (shf 0 (cmE 10 0 5)).ds := ⟨_, rfl⟩
  obtain ⟨x2, hx2⟩ : ∃ x, x = (shf 0 (cmE 11 1 5)).ds := ⟨_, rfl⟩
  have l1 : x1.length = 7 := by rw [hx1]; exact shf_ds_len _ _
  have l2 : x2.length = 7 := by rw [hx2]; exact shf_ds_len _ _
  rw [← hx1, ← hx2] at j1
  have hm : ∀ e ∈ [x1, x2, xds 8 0 vNull [] (.sl [[eI 2, eI 2, eI 0, eI 0, .str [], .str [], .nil], [eI 1, eI 0, eI 1, eI 0, .str [], .str [], .nil]])], e.length = 7 := by
    intro e he
    simp only [List.mem_cons, List.not_mem_nil, or_false] at he
    rcases he with rfl | rfl | rfl
    · exact l1
    · exact l2
    · rfl
  simp only [cmE_av, mE_av, anE_av] at c1 c2 c3 c4 c5 c6 n1 n2 n3 n4 w1 j1 d1 v1 v2 s1
  have e1 : (cmE 10 0 5).ds = xds 10 0 vNull [] (.sl [[eI 2, eI 0, eI 0, eI 0, .str [], .str [], .nil], [eI 1, eI 0, eI 1, eI 5, .str [], .str [], .nil]]) := by rw [cmE, Ex.ds_mk]; rfl
  have e2 : (cmE 11 1 5).ds = xds 11 0 vNull [] (.sl [[eI 2, eI 1, eI 0, eI 0, .str [], .str [], .nil], [eI 1, eI 0, eI 1, eI 5, .str [], .str [], .nil]]) := by rw [cmE, Ex.ds_mk]; rfl
  have e4 : (cmE 10 0 4).ds = xds 10 0 vNull [] (.sl [[eI 2, eI 0, eI 0, eI 0, .str [], .str [], .nil], [eI 1, eI 0, eI 1, eI 4, .str [], .str [], .nil]]) := by rw [cmE, Ex.ds_mk]; rfl
  have e5 : (cmE 9 0 4).ds = xds 9 0 vNull [] (.sl [[eI 2, eI 0, eI 0, eI 0, .str [], .str [], .nil], [eI 1, eI 0, eI 1, eI 4, .str [], .str [], .nil]]) := by rw [cmE, Ex.ds_mk]; rfl
  have e6 : mE.ds = xds 9 0 vNull [] (.sl [[eI 1, eI 0, eI 1, eI 3, .str [], .str [], .nil], [eI 2, eI 0, eI 0, eI 0, .str [], .str [], .nil]]) := by rw [mE, Ex.ds_mk]; rfl
  have e7 : (anE (cmE 10 0 5) (cmE 11 1 5)).ds = xds 5 0 vNull [] (.sl [(cmE 10 0 5).ds, (cmE 11 1 5).ds]) := by rw [anE, Ex.ds_mk]; rfl
  rw [e7] at n2 j1
  rw [e1, e2] at n1 n2 w1 j1
  rw [e3] at n2 j1
  rw [e4, e6] at n3 d1 v1
  rw [e5, e6] at n4 v2
  refine F.bt_law12_awake.go mixed rfl ?_
  repeat' first
    | (with_reducible apply k_lk2)
    | refine st ?_
    | ((with_reducible apply go_i); (conv => whnf))
    | ((with_reducible apply k_pn); (· first | exact c1 | exact c2 | exact c3 | exact c4 | exact c5 | exact c6 | exact n1 | exact n2 | exact n3 | exact n4 | exact w1 | exact j1 | exact d1 | exact v1 | exact v2 | exact s1))
    | ((with_reducible apply k_pc); (· first | exact c1 | exact c2 | exact c3 | exact c4 | exact c5 | exact c6 | exact n1 | exact n2 | exact n3 | exact n4 | exact w1 | exact j1 | exact d1 | exact v1 | exact v2 | exact s1))
    | (with_reducible apply k_d <;> intro _)
    | (with_reducible apply k_b <;> intro _)
  all_goals rfl
end Go.Proofs
end
section
/- Split: the program's and the reference's; PredicateSplits. No condition. -/
set_option linter.unusedSimpArgs false
set_option linter.unusedVariables false
set_option maxRecDepth 10000
set_option maxHeartbeats 4000000
namespace Go.Proofs
open Go.Bi

/-- Which columns a conjunct has: below n alone, from n on alone, or both. -/
def clsL (n : Int) : List Int → Nat
  | [] => 0
  | z :: l => if (z :: l).getD l.length 0 < n then 0 else if n ≤ z then 1 else 2
def cls (n : Int) (x : Ex) : Nat := clsL n (cols x)
theorem cls_cases (n : Int) (x : Ex) : (cls n x = 0 ∧ cols x = []) ∨ ∃ y z, (cols x)[(cols x).length - 1]? = some y ∧ (cols x)[0]? = some z ∧ ((cls n x = 0 ∧ y < n) ∨ (cls n x = 1 ∧ ¬ y < n ∧ n ≤ z) ∨ (cls n x = 2 ∧ ¬ y < n ∧ ¬ n ≤ z)) := by
  unfold cls
  cases hc : cols x with
  | nil => exact .inl ⟨rfl, rfl⟩
  | cons z l =>
    right
    have hy : (z :: l)[(z :: l).length - 1]? = some ((z :: l).getD l.length 0) := by
      rw [List.getD_eq_getElem?_getD, List.length_cons, Nat.add_sub_cancel, List.getElem?_eq_getElem (by simp)]; rfl
    refine ⟨_, z, hy, rfl, ?_⟩
    rw [clsL]
    by_cases h1 : (z :: l).getD l.length 0 < n
    · rw [if_pos h1]; exact .inl ⟨rfl, h1⟩
    · rw [if_neg h1]
      by_cases h2 : n ≤ z
      · rw [if_pos h2]; exact .inr (.inl ⟨rfl, h1, h2⟩)
      · rw [if_neg h2]; exact .inr (.inr ⟨rfl, h1, h2⟩)
def sel (n : Int) (k : Nat) (L : List Ex) : List Ex := L.filter fun x => decide (cls n x = k)
/-- An array that holds expressions: the elements, how many at most, whether it is nil. -/
def St7 (nl : Bool) (w : List (List D) × Bool) (l : List Ex) (i : Nat) : Prop := (∀ e ∈ w.1, e.length = 7) ∧ w.1.length ≤ i ∧ w.1 = xL l ∧ w.2 = (nl && w.1.isEmpty)
theorem st7_0 {nl : Bool} {n : Int} {k : Nat} : St7 nl ([], nl) (sel n k ([] : List Ex)) 0 := by
  refine ⟨by simp, by simp, rfl, by simp⟩
theorem st7_app (nl : Bool) {n : Int} {L : List Ex} {i : Nat} {x : Ex} (hx : L[i]? = some x) (k : Nat) {A : List (List D)} {c : Bool} :
    (cls n x = k → (∀ e ∈ A, e.length = 7) → A.length ≤ i → A = xL (sel n k (L.take i)) → c = (nl && A.isEmpty) → St7 nl (A ++ [x.ds], false) (sel n k (L.take (i + 1))) (i + 1)) ∧
    (cls n x ≠ k → (∀ e ∈ A, e.length = 7) → A.length ≤ i → A = xL (sel n k (L.take i)) → c = (nl && A.isEmpty) → St7 nl (A, c) (sel n k (L.take (i + 1))) (i + 1)) := by
  have e : L.take (i + 1) = L.take i ++ [x] := by rw [List.take_add_one, hx]; rfl
  constructor
  · intro h m l ea ec
    refine ⟨fun y hy => ?_, by simp; omega, ?_, by simp⟩
    · rcases List.mem_append.1 hy with hy | hy
      · exact m y hy
      · cases List.mem_singleton.1 hy
        exact xL_mem [x] _ (by simp [xL])
    · rw [e, ea]
      unfold sel
      rw [List.filter_append]
      simp [xL, h]
  · intro h m l ea ec
    refine ⟨m, by dsimp only; omega, ?_, ec⟩
    rw [e]
    unfold sel at ea ⊢
    rw [List.filter_append]
    dsimp only
    rw [ea]
    simp [h]
theorem nsl_ng (l : List (List D)) : nsl l = ng true l := by unfold nsl ng; rw [Bool.true_and]

theorem C.predicate_Split (n : Int) (e : Ex) (he : e.bk ≤ 1048576) : Pure Try.prog N.predicate_Split [e.av, .d (eI n)] (.tup [.d (nsl (xL (sel n 0 ((cj e).map (shf 0))))), .d (nsl (xL (sel n 1 ((cj e).map (shf 0))))), .d (nsl (xL (sel n 2 ((cj e).map (shf 0)))))]) := by
  have hj := C.predicate_Conjuncts e he
  have hLb : ∀ x ∈ (cj e).map (shf 0), x.bk ≤ 1048576 := fun x hx => by
    obtain ⟨y, hy, rfl⟩ := List.mem_map.1 hx
    have h1 := cj_bk e y hy
    have h2 := shf_bk 0 y
    omega
  have hLl : ((cj e).map (shf 0)).length ≤ 1048576 := by rw [List.length_map]; have := cj_len e; omega
  obtain ⟨L, hL⟩ : ∃ L, L = (cj e).map (shf 0) := ⟨_, rfl⟩
  rw [← hL] at hj hLb hLl ⊢
  have hxl := xL_len L
  have hxm := xL_mem L
  have hsL : SlD (nsl (xL L)) (xL L) := sld_nsl
  obtain ⟨dL, hdL⟩ : ∃ d, d = nsl (xL L) := ⟨_, rfl⟩
  rw [← hdL] at hj hsL
  obtain ⟨op, k, v, nm, nl, args⟩ := e
  rw [Ex.av_mk] at hj ⊢
  obtain ⟨da, hda⟩ : ∃ d, d = ng nl (xL args) := ⟨_, rfl⟩
  rw [← hda] at hj ⊢
  clear hda hdL hL he
  have r0 : v.k = v.k := rfl
  have r1 : v.s = v.s := rfl
  have r2 : nm = nm := rfl
  refine F.predicate_Split.go mixed rfl ?_
  repeat' first
    | refine st ?_
    | ((with_reducible apply go_i); (conv => whnf))
    | ((with_reducible apply k_pn); (· exact hj))
    | ((with_reducible apply k_pc); (· exact hj))
    | (with_reducible apply k_d <;> intro _)
    | (with_reducible apply k_b <;> intro _)
  refine x_nil 7 7 rfl rfl ?_
  repeat' first
    | refine st ?_
    | ((with_reducible apply go_i); (conv => whnf))
    | (with_reducible apply k_d <;> intro _)
    | (with_reducible apply k_b <;> intro _)
  refine x_nil 8 7 rfl rfl ?_
  repeat' first
    | refine st ?_
    | ((with_reducible apply go_i); (conv => whnf))
    | (with_reducible apply k_d <;> intro _)
    | (with_reducible apply k_b <;> intro _)
  refine x_nil 9 7 rfl rfl ?_
  repeat' first
    | refine st ?_
    | ((with_reducible apply go_i); (conv => whnf))
    | (with_reducible apply k_d <;> intro _)
    | (with_reducible apply k_b <;> intro _)
  refine x_loop4 mixed Lt.predicate_Split_l0 Lk.predicate_Split_l0 (fun (i : Nat) (w1 w2 w3 : List (List D) × Bool) => [.arr 1 w1.1.length, .arr 2 w2.1.length, .arr 3 w3.1.length, .d (eI i)]) (fun i w1 w2 w3 => [.cells [.d (eI op), .d (eI k), .d (eI v.k), .d (eI v.n), .d (.str v.s), .d (.str nm), .d da], .arr w1.1 7 0 w1.2, .arr w2.1 7 0 w2.2, .arr w3.1 7 0 w3.2]) (fun i w1 w2 w3 => i ≤ L.length ∧ St7 true w1 (sel n 0 (L.take i)) i ∧ St7 true w2 (sel n 1 (L.take i)) i ∧ St7 true w3 (sel n 2 (L.take i)) i) (fun i _ _ _ => L.length - i) 0 ([], true) ([], true) ([], true) rfl rfl rfl rfl (fun _ _ _ _ _ => ⟨rfl, rfl⟩) rfl ⟨Nat.zero_le _, st7_0, st7_0, st7_0⟩ ?_
  repeat' first
    | refine st ?_
    | ((with_reducible apply go_i); (conv => whnf))
    | (with_reducible apply k_d <;> intro _)
    | (with_reducible apply k_b <;> intro _)
  intro i w1 w2 w3 ⟨h1, h2, h3, h4⟩
  obtain ⟨A1, c1⟩ := w1
  obtain ⟨A2, c2⟩ := w2
  obtain ⟨A3, c3⟩ := w3
  obtain ⟨m1, l1, e1, f1⟩ := h2
  obtain ⟨m2, l2, e2, f2⟩ := h3
  obtain ⟨m3, l3, e3, f3⟩ := h4
  dsimp only at m1 l1 e1 f1 m2 l2 e2 f2 m3 l3 e3 f3 ⊢
  cases hx : L[i]? with
  | none =>
    have hge := List.getElem?_eq_none_iff.1 hx
    rw [List.take_of_length_le hge] at e1 e2 e3
    rw [← e1, ← e2, ← e3]
    repeat' first
      | refine st ?_
      | ((with_reducible apply go_i); (conv => whnf))
      | (with_reducible apply k_d <;> intro _)
      | (with_reducible apply k_b <;> intro _)
    all_goals
      rw [Bool.true_and] at f1 f2 f3
      rw [nsl_cnd f1, nsl_cnd f2, nsl_cnd f3]
  | some x =>
    have hlt := (List.getElem?_eq_some_iff.1 hx).1
    have hgx := xL_get hx
    have hxin := List.mem_of_getElem? hx
    have hC := C.expr_Columns x (hLb x hxin)
    have hks : SlD (colsD x) (eIs (cols x)) := colsD_sl x
    have hcl := cols_len x
    have hxb := hLb x hxin
    have s0 := st7_app true (n := n) (A := A1) (c := c1) hx 0
    have s1 := st7_app true (n := n) (A := A2) (c := c2) hx 1
    have s2 := st7_app true (n := n) (A := A3) (c := c3) hx 2
    have hcs := cls_cases n x
    obtain ⟨ks, hk⟩ : ∃ y, y = cols x := ⟨_, rfl⟩
    obtain ⟨dk, hdk⟩ : ∃ y, y = colsD x := ⟨_, rfl⟩
    rw [← hk] at hks hcl hcs
    rw [← hdk] at hC hks
    have hkl := eIs_len ks
    obtain ⟨o1, n1, v1, u1, b1, a1⟩ := x
    rw [Ex.ds_mk] at hgx
    rw [Ex.av_mk] at hC
    simp only [Ex.ds_mk] at s0 s1 s2
    rcases hcs with ⟨hc, hks0⟩ | ⟨y, z, hy, hz, hcc⟩
    · have hks0' : ks.length = 0 := by rw [hks0]; rfl
      rw [hc] at s0 s1 s2
      repeat' first
        | refine st ?_
        | ((with_reducible apply go_i); (conv => whnf))
        | ((with_reducible apply k_pn); (· exact hC))
        | ((with_reducible apply k_pc); (· exact hC))
        | (with_reducible apply k_d <;> intro _)
        | (with_reducible apply k_b <;> intro _)
      all_goals exact ⟨i + 1, (A1 ++ [_], _), (A2, c2), (A3, c3), rfl, rfl, rfl, by omega, by omega, s0.1 rfl m1 l1 e1 f1, s1.2 (by decide) m2 l2 e2 f2, s2.2 (by decide) m3 l3 e3 f3⟩
    · have hpos := (List.getElem?_eq_some_iff.1 hz).1
      have hg1 : (eIs ks)[((ks.length : Int) - 1).toNat]? = some [eI y] := by
        rw [show ((ks.length : Int) - 1).toNat = ks.length - 1 by omega]; exact eIs_get hy
      have hg1' : (eIs ks)[(((eIs ks).length : Int) - 1).toNat]? = some [eI y] := by rw [hkl]; exact hg1
      have hg2 : (eIs ks)[0]? = some [eI z] := eIs_get hz
      have hg3 : (eIs ks)[(0 : Int).toNat]? = some [eI z] := hg2
      have hk0 : ks.length ≠ 0 := by omega
      rcases hcc with ⟨hc, q1⟩ | ⟨hc, q1, q2⟩ | ⟨hc, q1, q2⟩
      · rw [hc] at s0 s1 s2
        repeat' first
          | refine st ?_
          | ((with_reducible apply go_i); (conv => whnf))
          | ((with_reducible apply k_pn); (· exact hC))
          | ((with_reducible apply k_pc); (· exact hC))
          | (with_reducible apply k_d <;> intro _)
          | (with_reducible apply k_b <;> intro _)
        all_goals exact ⟨i + 1, (A1 ++ [_], _), (A2, c2), (A3, c3), rfl, rfl, rfl, by omega, by omega, s0.1 rfl m1 l1 e1 f1, s1.2 (by decide) m2 l2 e2 f2, s2.2 (by decide) m3 l3 e3 f3⟩
      · rw [hc] at s0 s1 s2
        repeat' first
          | refine st ?_
          | ((with_reducible apply go_i); (conv => whnf))
          | ((with_reducible apply k_pn); (· exact hC))
          | ((with_reducible apply k_pc); (· exact hC))
          | (with_reducible apply k_d <;> intro _)
          | (with_reducible apply k_b <;> intro _)
        all_goals exact ⟨i + 1, (A1, c1), (A2 ++ [_], _), (A3, c3), rfl, rfl, rfl, by omega, by omega, s0.2 (by decide) m1 l1 e1 f1, s1.1 rfl m2 l2 e2 f2, s2.2 (by decide) m3 l3 e3 f3⟩
      · rw [hc] at s0 s1 s2
        repeat' first
          | refine st ?_
          | ((with_reducible apply go_i); (conv => whnf))
          | ((with_reducible apply k_pn); (· exact hC))
          | ((with_reducible apply k_pc); (· exact hC))
          | (with_reducible apply k_d <;> intro _)
          | (with_reducible apply k_b <;> intro _)
        all_goals exact ⟨i + 1, (A1, c1), (A2, c2), (A3 ++ [_], _), rfl, rfl, rfl, by omega, by omega, s0.2 (by decide) m1 l1 e1 f1, s1.2 (by decide) m2 l2 e2 f2, s2.1 rfl m3 l3 e3 f3⟩

theorem C.r12_Split (n : Int) (e : Ex) (he : e.bk ≤ 1048576) : Pure Try.prog N.bt_ref12_Split [e.av, .d (eI n)] (.tup [.d (.sl (xL (sel n 0 (cj e)))), .d (.sl (xL (sel n 1 (cj e)))), .d (.sl (xL (sel n 2 (cj e))))]) := by
  have hj := C.r12_Conjuncts e he
  have hLb : ∀ x ∈ cj e, x.bk ≤ 1048576 := fun x hx => by
    have h1 := cj_bk e x hx
    omega
  have hLl : (cj e).length ≤ 1048576 := by have := cj_len e; omega
  obtain ⟨L, hL⟩ : ∃ L, L = cj e := ⟨_, rfl⟩
  rw [← hL] at hj hLb hLl ⊢
  have hxl := xL_len L
  have hxm := xL_mem L
  obtain ⟨op, k, v, nm, nl, args⟩ := e
  rw [Ex.av_mk] at hj ⊢
  obtain ⟨da, hda⟩ : ∃ d, d = ng nl (xL args) := ⟨_, rfl⟩
  rw [← hda] at hj ⊢
  clear hda hL he
  have r0 : v.k = v.k := rfl
  have r1 : v.s = v.s := rfl
  have r2 : nm = nm := rfl
  refine F.bt_ref12_Split.go mixed rfl ?_
  repeat' first
    | refine st ?_
    | ((with_reducible apply go_i); (conv => whnf))
    | ((with_reducible apply k_pn); (· exact hj))
    | ((with_reducible apply k_pc); (· exact hj))
    | (with_reducible apply k_d <;> intro _)
    | (with_reducible apply k_b <;> intro _)
  refine x_loop4 mixed Lt.bt_ref12_Split_l0 Lk.bt_ref12_Split_l0 (fun (i : Nat) (w1 w2 w3 : List (List D) × Bool) => [.arr 1 w1.1.length, .arr 2 w2.1.length, .arr 3 w3.1.length, .d (eI i)]) (fun i w1 w2 w3 => [.cells [.d (eI op), .d (eI k), .d (eI v.k), .d (eI v.n), .d (.str v.s), .d (.str nm), .d da], .arr w1.1 7 0 w1.2, .arr w2.1 7 0 w2.2, .arr w3.1 7 0 w3.2]) (fun i w1 w2 w3 => i ≤ L.length ∧ St7 false w1 (sel n 0 (L.take i)) i ∧ St7 false w2 (sel n 1 (L.take i)) i ∧ St7 false w3 (sel n 2 (L.take i)) i) (fun i _ _ _ => L.length - i) 0 ([], false) ([], false) ([], false) rfl rfl rfl rfl (fun _ _ _ _ _ => ⟨rfl, rfl⟩) rfl ⟨Nat.zero_le _, st7_0, st7_0, st7_0⟩ ?_
  repeat' first
    | refine st ?_
    | ((with_reducible apply go_i); (conv => whnf))
    | (with_reducible apply k_d <;> intro _)
    | (with_reducible apply k_b <;> intro _)
  intro i w1 w2 w3 ⟨h1, h2, h3, h4⟩
  obtain ⟨A1, c1⟩ := w1
  obtain ⟨A2, c2⟩ := w2
  obtain ⟨A3, c3⟩ := w3
  obtain ⟨m1, l1, e1, f1⟩ := h2
  obtain ⟨m2, l2, e2, f2⟩ := h3
  obtain ⟨m3, l3, e3, f3⟩ := h4
  dsimp only at m1 l1 e1 f1 m2 l2 e2 f2 m3 l3 e3 f3 ⊢
  cases hx : L[i]? with
  | none =>
    have hge := List.getElem?_eq_none_iff.1 hx
    rw [List.take_of_length_le hge] at e1 e2 e3
    rw [← e1, ← e2, ← e3]
    repeat' first
      | refine st ?_
      | ((with_reducible apply go_i); (conv => whnf))
      | (with_reducible apply k_d <;> intro _)
      | (with_reducible apply k_b <;> intro _)
    all_goals
      rw [Bool.false_and] at f1 f2 f3
      rw [f1, f2, f3]
      rfl
  | some x =>
    have hlt := (List.getElem?_eq_some_iff.1 hx).1
    have hgx := xL_get hx
    have hxin := List.mem_of_getElem? hx
    have hC := C.r11_Columns x (hLb x hxin)
    have hks : SlD (D.sl (eIs (rcE x))) (eIs (cols x)) := (by rw [rcE_cols]; exact sld_sl)
    have hcl := cols_len x
    have hxb := hLb x hxin
    have s0 := st7_app false (n := n) (A := A1) (c := c1) hx 0
    have s1 := st7_app false (n := n) (A := A2) (c := c2) hx 1
    have s2 := st7_app false (n := n) (A := A3) (c := c3) hx 2
    have hcs := cls_cases n x
    obtain ⟨ks, hk⟩ : ∃ y, y = cols x := ⟨_, rfl⟩
    obtain ⟨dk, hdk⟩ : ∃ y, y = D.sl (eIs (rcE x)) := ⟨_, rfl⟩
    rw [← hk] at hks hcl hcs
    rw [← hdk] at hC hks
    have hkl := eIs_len ks
    obtain ⟨o1, n1, v1, u1, b1, a1⟩ := x
    rw [Ex.ds_mk] at hgx
    rw [Ex.av_mk] at hC
    simp only [Ex.ds_mk] at s0 s1 s2
    rcases hcs with ⟨hc, hks0⟩ | ⟨y, z, hy, hz, hcc⟩
    · have hks0' : ks.length = 0 := by rw [hks0]; rfl
      rw [hc] at s0 s1 s2
      repeat' first
        | refine st ?_
        | ((with_reducible apply go_i); (conv => whnf))
        | ((with_reducible apply k_pn); (· exact hC))
        | ((with_reducible apply k_pc); (· exact hC))
        | (with_reducible apply k_d <;> intro _)
        | (with_reducible apply k_b <;> intro _)
      all_goals exact ⟨i + 1, (A1 ++ [_], _), (A2, c2), (A3, c3), rfl, rfl, rfl, by omega, by omega, s0.1 rfl m1 l1 e1 f1, s1.2 (by decide) m2 l2 e2 f2, s2.2 (by decide) m3 l3 e3 f3⟩
    · have hpos := (List.getElem?_eq_some_iff.1 hz).1
      have hg1 : (eIs ks)[((ks.length : Int) - 1).toNat]? = some [eI y] := by
        rw [show ((ks.length : Int) - 1).toNat = ks.length - 1 by omega]; exact eIs_get hy
      have hg1' : (eIs ks)[(((eIs ks).length : Int) - 1).toNat]? = some [eI y] := by rw [hkl]; exact hg1
      have hg2 : (eIs ks)[0]? = some [eI z] := eIs_get hz
      have hg3 : (eIs ks)[(0 : Int).toNat]? = some [eI z] := hg2
      have hk0 : ks.length ≠ 0 := by omega
      rcases hcc with ⟨hc, q1⟩ | ⟨hc, q1, q2⟩ | ⟨hc, q1, q2⟩
      · rw [hc] at s0 s1 s2
        repeat' first
          | refine st ?_
          | ((with_reducible apply go_i); (conv => whnf))
          | ((with_reducible apply k_pn); (· exact hC))
          | ((with_reducible apply k_pc); (· exact hC))
          | (with_reducible apply k_d <;> intro _)
          | (with_reducible apply k_b <;> intro _)
        all_goals exact ⟨i + 1, (A1 ++ [_], _), (A2, c2), (A3, c3), rfl, rfl, rfl, by omega, by omega, s0.1 rfl m1 l1 e1 f1, s1.2 (by decide) m2 l2 e2 f2, s2.2 (by decide) m3 l3 e3 f3⟩
      · rw [hc] at s0 s1 s2
        repeat' first
          | refine st ?_
          | ((with_reducible apply go_i); (conv => whnf))
          | ((with_reducible apply k_pn); (· exact hC))
          | ((with_reducible apply k_pc); (· exact hC))
          | (with_reducible apply k_d <;> intro _)
          | (with_reducible apply k_b <;> intro _)
        all_goals exact ⟨i + 1, (A1, c1), (A2 ++ [_], _), (A3, c3), rfl, rfl, rfl, by omega, by omega, s0.2 (by decide) m1 l1 e1 f1, s1.1 rfl m2 l2 e2 f2, s2.2 (by decide) m3 l3 e3 f3⟩
      · rw [hc] at s0 s1 s2
        repeat' first
          | refine st ?_
          | ((with_reducible apply go_i); (conv => whnf))
          | ((with_reducible apply k_pn); (· exact hC))
          | ((with_reducible apply k_pc); (· exact hC))
          | (with_reducible apply k_d <;> intro _)
          | (with_reducible apply k_b <;> intro _)
        all_goals exact ⟨i + 1, (A1, c1), (A2, c2), (A3 ++ [_], _), rfl, rfl, rfl, by omega, by omega, s0.2 (by decide) m1 l1 e1 f1, s1.2 (by decide) m2 l2 e2 f2, s2.1 rfl m3 l3 e3 f3⟩

theorem rawC_shf0 : ∀ e : Ex, e.Rg → rawC (shf 0 e) = rawC e := by
  refine Ex.ind fun op n v nm nl args ih hr => ?_
  cases hr with
  | mk h1 h2 h =>
    have hn : (if op = 2 then w64 (n + 0) else n) = n := by
      split
      · rw [Int.add_zero]
        have e1 : IntKind.i64.min = -9223372036854775808 := rfl
        have e2 : IntKind.i64.max = 9223372036854775807 := rfl
        show IntKind.i64.wrap n = n
        rw [IntKind.wrap_i64]
        omega
      · rfl
    rw [shf_mk, rawC_mk, rawC_mk, hn, List.flatMap_def, List.flatMap_def, List.map_map]
    congr 2
    exact List.map_congr_left fun a ha => ih a ha (h a ha)
theorem sel_shf {n : Int} {k : Nat} {L : List Ex} (h : ∀ x ∈ L, x.Rg) : sel n k (L.map (shf 0)) = (sel n k L).map (shf 0) := by
  unfold sel
  rw [List.filter_map]
  congr 1
  refine List.filter_congr fun x hx => ?_
  show decide (cls n (shf 0 x) = k) = _
  rw [cls, cls, cols, cols, rawC_shf0 x (h x hx)]
theorem L.PredicateSplits (e : Ex) (he : e.bk ≤ 1048576) (hr : e.Rg) (n : Int) : Pure Try.prog N.bt_law12_PredicateSplits [e.av, .d (eI n)] (.d (.bool true)) := by
  have h1 := C.predicate_Split n e he
  have h2 := C.r12_Split n e he
  have hjl := cj_len e
  have hjb := cj_bk e
  have hjr := rg_cj e hr
  have hsl : ∀ k, ∀ x ∈ sel n k (cj e), x ∈ cj e := fun k x hx => (List.mem_filter.1 hx).1
  have hll : ∀ k, (sel n k (cj e)).length ≤ (cj e).length := fun k => List.length_filter_le _ _
  simp only [sel_shf hjr] at h1
  have h3 : ∀ k, Pure Try.prog N.bt_ref11_List [.d (nsl (xL ((sel n k (cj e)).map (shf 0)))), .d (.sl (xL (sel n k (cj e))))] (.d (.bool true)) := fun k => C.r11_List ((sel n k (cj e)).map (shf 0)) (sel n k (cj e)) (by simp) (by rw [List.length_map]; have := hll k; omega) (fun i x y hx hy => by
    rw [List.getElem?_map, hy] at hx
    cases hx
    have hm := hsl k y (List.mem_of_getElem? hy)
    have b := hjb y hm
    have := C.r11_Same (shf 0 y) (by have := shf_bk 0 y; omega) y (by omega)
    rw [shf0_same y (hjr y hm)] at this
    exact this) _ _ sld_nsl sld_sl
  have h7 := C.law12_awake
  have q0 := h3 0
  have q1 := h3 1
  have q2 := h3 2
  clear h3
  obtain ⟨a0, ha0⟩ : ∃ x, x = nsl (xL ((sel n 0 (cj e)).map (shf 0))) := ⟨_, rfl⟩
  obtain ⟨a1, ha1⟩ : ∃ x, x = nsl (xL ((sel n 1 (cj e)).map (shf 0))) := ⟨_, rfl⟩
  obtain ⟨a2, ha2⟩ : ∃ x, x = nsl (xL ((sel n 2 (cj e)).map (shf 0))) := ⟨_, rfl⟩
  obtain ⟨b0, hb0⟩ : ∃ x, x = xL (sel n 0 (cj e)) := ⟨_, rfl⟩
  obtain ⟨b1, hb1⟩ : ∃ x, x = xL (sel n 1 (cj e)) := ⟨_, rfl⟩
  obtain ⟨b2, hb2⟩ : ∃ x, x = xL (sel n 2 (cj e)) := ⟨_, rfl⟩
  rw [← ha0] at h1 q0
  rw [← ha1] at h1 q1
  rw [← ha2] at h1 q2
  rw [← hb0] at h2 q0
  rw [← hb1] at h2 q1
  rw [← hb2] at h2 q2
  clear ha0 ha1 ha2 hb0 hb1 hb2 hsl hll hjl hjb hjr
  obtain ⟨op, m, v, nm, nle, args⟩ := e
  rw [Ex.av_mk] at h1 h2 ⊢
  refine F.bt_law12_PredicateSplits.go mixed rfl ?_
  repeat' first
    | refine st ?_
    | ((with_reducible apply go_i); (conv => whnf))
    | ((with_reducible apply k_pn); (· first | exact h1 | exact h2 | exact q0 | exact q1 | exact q2 | exact h7))
    | ((with_reducible apply k_pc); (· first | exact h1 | exact h2 | exact q0 | exact q1 | exact q2 | exact h7))
    | (with_reducible apply k_d <;> intro _)
    | (with_reducible apply k_b <;> intro _)
  all_goals rfl
end Go.Proofs
end
