/- The program's Eval and Truth. No condition. -/
import Derived.Test.YtdhdhhgdeokiiaaE7
set_option linter.unusedSimpArgs false
set_option linter.unusedVariables false
set_option maxRecDepth 10000
set_option maxHeartbeats 4000000
namespace Go.Proofs
open Go.Bi

theorem C.expr_Truth_of (row : List Vl) (dr : D) (op n : Int) (v : Vl) (name : List UInt8) (d : D) (r : Vl) (h : Pure Try.prog N.expr_Eval [eX op n v name d, .d dr] (eV r)) : Pure Try.prog N.expr_Truth [eX op n v name d, .d dr] (.d (eI (vTruth r))) := by
  refine F.expr_Truth.go mixed rfl ?_
  repeat' first
    | refine st ?_
    | ((with_reducible apply go_i); (conv => whnf))
    | ((with_reducible apply k_pn); (· first | exact h | exact C.value_Truth _))
    | ((with_reducible apply k_pc); (· first | exact h | exact C.value_Truth _))
    | (with_reducible apply k_d <;> intro _)
    | (with_reducible apply k_b <;> intro _)
theorem evOp_3 (op n : Int) (v : Vl) (l row : List Vl) (h1 : op ≠ 1) (h2 : op ≠ 2) (h3 : op ≠ 22) : evOp op n v l row = (if op = 4 then vOf (tNot (vTruth (l.getD 0 vNull)))
  else if op = 5 ∨ op = 6 then vOf (lgF op (l.getD 0 vNull) (l.drop 1))
  else if op = 21 then vBool (decide ((l.getD 0 vNull).k = 0))
  else if op = 23 then coa l
  else if op = 24 then vRel n (l.getD 0 vNull) (l.getD 1 vNull) (l.getD 2 vNull) (l.getD 3 vNull)
  else if op = 19 ∨ op = 20 then vTxt op l
  else if 13 ≤ op ∧ op ≤ 18 then vAri op l
  else vOf (vCp op (l.getD 0 vNull) (l.getD 1 vNull))) := by
  unfold evOp
  rw [if_neg h1, if_neg h2, if_neg h3]
theorem coa_drop {l : List Vl} {i : Nat} {v : Vl} (h : l[i]? = some v) : coa (l.drop i) = if v.k = 0 then coa (l.drop (i + 1)) else v := by
  obtain ⟨hlt, he⟩ := List.getElem?_eq_some_iff.1 h
  rw [List.drop_eq_getElem_cons hlt, he]; rfl
theorem C.expr_Eval (row : List Vl) (hr : row.length ≤ 1048576) (hrs : ∀ v ∈ row, v.s.length ≤ 1048576) (dr : D) (hdr : SlD dr (eVs row)) : ∀ e : Ex, e.bk ≤ 1048576 → Pure Try.prog N.expr_Eval [e.av, .d dr] (eV (ev row e)) := by
  refine Ex.ind fun op n v name nl args ih hbk => ?_
  obtain ⟨b1, b2, b3, b4⟩ := Ex.bk_bounds hbk
  have ih' : ∀ a ∈ args, Pure Try.prog N.expr_Eval [a.av, .d dr] (eV (ev row a)) := fun a ha => ih a ha (b4 a ha)
  clear ih
  rw [Ex.av_mk]
  refine F.expr_Eval.go mixed rfl ?_
  have hlen := xL_len args
  have hF := C.expr_formed op n v name (ng nl (xL args)) (xL args) sld_ng b2 (by omega)
  rw [hlen] at hF
  have hm := xL_mem args
  have hd : SlD (ng nl (xL args)) (xL args) := sld_ng
  have hget : ∀ (i : Nat) (op' n' : Int) (v' : Vl) (name' : List UInt8) (nl' : Bool) (args' : List Ex), args[i]? = some (.mk op' n' v' name' nl' args') → (xL args)[i]? = some (xds op' n' v' name' (ng nl' (xL args'))) := fun i op' n' v' name' nl' args' h => by
    rw [← Ex.ds_mk]; exact xL_get h
  obtain ⟨d, hde⟩ : ∃ d, d = ng nl (xL args) := ⟨_, rfl⟩
  rw [← hde] at hF hd ⊢
  obtain ⟨es, hes⟩ : ∃ es, es = xL args := ⟨_, rfl⟩
  rw [← hes] at hlen hm hd hget
  rw [ev_mk]
  cases hf : fmd op n v name args.length with
  | false =>
    rw [hf] at hF
    repeat' first
      | refine st ?_
      | ((with_reducible apply go_i); (conv => whnf))
      | ((with_reducible apply k_pn); (· first | exact hF | exact C.value_Null))
      | ((with_reducible apply k_pc); (· first | exact hF | exact C.value_Null))
      | (with_reducible apply k_d <;> intro _)
      | (with_reducible apply k_b <;> intro _)
    all_goals rfl
  | true =>
  rw [hf] at hF
  rw [if_pos rfl]
  by_cases h1 : op = 1
  · subst h1
    repeat' first
      | refine st ?_
      | ((with_reducible apply go_i); (conv => whnf))
      | ((with_reducible apply k_pn); (· exact hF))
      | ((with_reducible apply k_pc); (· exact hF))
      | (with_reducible apply k_d <;> intro _)
      | (with_reducible apply k_b <;> intro _)
    all_goals rfl
  by_cases h2 : op = 2
  · subst h2
    have hc := C.expr_column row hr hrs dr hdr n
    repeat' first
      | refine st ?_
      | ((with_reducible apply go_i); (conv => whnf))
      | ((with_reducible apply k_pn); (· first | exact hF | exact hc))
      | ((with_reducible apply k_pc); (· first | exact hF | exact hc))
      | (with_reducible apply k_d <;> intro _)
      | (with_reducible apply k_b <;> intro _)
    all_goals rfl
  have hcnt := cnt_case (fmd_cnt hf)
  by_cases h3 : op = 22
  · subst h3
    have hl3 : args.length = 3 := by omega
    obtain ⟨a, b, c, rfl⟩ : ∃ a b c, args = [a, b, c] := by
      match args, hl3 with
      | [a, b, c], _ => exact ⟨a, b, c, rfl⟩
    have ia := ih' a (by simp)
    have ib := ih' b (by simp)
    have ic := ih' c (by simp)
    obtain ⟨o0, n0, v0, m0, l0, a0⟩ := a
    obtain ⟨o1, n1, v1, m1, l1, a1⟩ := b
    obtain ⟨o2, n2, v2, m2, l2, a2⟩ := c
    have g0 := hget 0 _ _ _ _ _ _ rfl
    have g1 := hget 1 _ _ _ _ _ _ rfl
    have g2 := hget 2 _ _ _ _ _ _ rfl
    rw [Ex.av_mk] at ia ib ic
    have it := C.expr_Truth_of row dr _ _ _ _ _ _ ia
    have e : evOp 22 n v (List.map (ev row) [.mk o0 n0 v0 m0 l0 a0, .mk o1 n1 v1 m1 l1 a1, .mk o2 n2 v2 m2 l2 a2]) row = if vTruth (ev row (.mk o0 n0 v0 m0 l0 a0)) = 2 then ev row (.mk o1 n1 v1 m1 l1 a1) else ev row (.mk o2 n2 v2 m2 l2 a2) := rfl
    rw [e]
    by_cases ht : vTruth (ev row (.mk o0 n0 v0 m0 l0 a0)) = 2
    · rw [if_pos ht]
      repeat' first
        | refine st ?_
        | ((with_reducible apply go_i); (conv => whnf))
        | ((with_reducible apply k_pn); (· first | exact hF | exact it | exact ib))
        | ((with_reducible apply k_pc); (· first | exact hF | exact it | exact ib))
        | (with_reducible apply k_d <;> intro _)
        | (with_reducible apply k_b <;> intro _)
      all_goals rfl
    · rw [if_neg ht]
      repeat' first
        | refine st ?_
        | ((with_reducible apply go_i); (conv => whnf))
        | ((with_reducible apply k_pn); (· first | exact hF | exact it | exact ic))
        | ((with_reducible apply k_pc); (· first | exact hF | exact it | exact ic))
        | (with_reducible apply k_d <;> intro _)
        | (with_reducible apply k_b <;> intro _)
      all_goals rfl
  rw [evOp_3 op n v _ row h1 h2 h3]
  have hlr : (List.replicate ((es.length : Int)).toNat z3).length = args.length := by rw [List.length_replicate]; omega
  repeat' first
    | refine st ?_
    | ((with_reducible apply go_i); (conv => whnf))
    | ((with_reducible apply k_pn); (· exact hF))
    | ((with_reducible apply k_pc); (· exact hF))
    | (with_reducible apply k_d <;> intro _)
    | (with_reducible apply k_b <;> intro _)
  refine x_loop2 mixed Lt.expr_Eval_l0 Lk.expr_Eval_l0 (fun (i : Nat) (A : List (List D)) => [.d (eI i)]) (fun i A => [.cells [.d (eI op), .d (eI n), .d (eI v.k), .d (eI v.n), .d (.str v.s), .d (.str name), .d d], .cells [.d (eI 0), .d (eI 0), .d (.str [])], .arr A 3 0 false]) (fun i A => i ≤ args.length ∧ A = Lv row args i) (fun i _ => args.length - i) 0 (List.replicate ((es.length : Int)).toNat z3) rfl rfl rfl rfl (fun _ _ _ => ⟨rfl, rfl⟩) rfl ⟨by omega, Lv_zero row args _ hlen⟩ ?_
  repeat' first
    | refine st ?_
    | ((with_reducible apply go_i); (conv => whnf))
    | (with_reducible apply k_d <;> intro _)
    | (with_reducible apply k_b <;> intro _)
  intro i A ⟨h4, h5⟩
  have hAl : A.length = args.length := by rw [h5]; exact Lv_len row args i h4
  have hAm : ∀ e ∈ A, e.length = 3 := by rw [h5]; exact Lv_mem row args i
  have hlr2 : (List.replicate ((es.length : Int)).toNat [D.int .i64 0, D.int .i64 0, D.str []]).length = A.length := by rw [List.length_replicate]; omega
  cases hx : args[i]? with
  | some x =>
    have hlt := (List.getElem?_eq_some_iff.1 hx).1
    have hI := ih' x (List.mem_of_getElem? hx)
    have hset := Lv_set (row := row) hx
    obtain ⟨op', n', v', name', nl', args'⟩ := x
    rw [Ex.av_mk] at hI
    have hg := hget i _ _ _ _ _ _ hx
    have hA := Lv_get (row := row) hlt
    rw [← h5] at hA hset
    repeat' first
      | refine st ?_
      | ((with_reducible apply go_i); (conv => whnf))
      | ((with_reducible apply k_pn); (· exact hI))
      | ((with_reducible apply k_pc); (· exact hI))
      | (with_reducible apply k_d <;> intro _)
      | (with_reducible apply k_b <;> intro _)
    exact ⟨i + 1, _, rfl, rfl, rfl, by omega, by omega, hset⟩
  | none =>
    have hge := List.getElem?_eq_none_iff.1 hx
    rw [Lv_end hge] at h5
    clear ih' hget hF
    -- the values of the arguments
    obtain ⟨l, hl⟩ : ∃ l, l = args.map (ev row) := ⟨_, rfl⟩
    have hll : l.length = args.length := by rw [hl, List.length_map]
    have hs := evs_s row args
    have hn := evs_n row args
    rw [← hl] at h5 hs hn ⊢
    subst h5
    rcases hcnt with ⟨h, k⟩ | ⟨h, k⟩ | ⟨h, k⟩ | ⟨h, k⟩ | ⟨h, k⟩ | ⟨h, k⟩ | ⟨h, k⟩
    · omega
    · obtain ⟨a, rfl⟩ : ∃ a, l = [a] := by
        match l, hll.trans k with
        | [a], _ => exact ⟨a, rfl⟩
      have g0 : (eVs [a])[(0 : Nat)]? = some a.ds := rfl
      rcases h with rfl | rfl | rfl | rfl
      · have hC := C.expr_logic4 a [] (by simp)
        repeat' first
          | refine st ?_
          | ((with_reducible apply go_i); (conv => whnf))
          | ((with_reducible apply k_pn); (· exact hC))
          | ((with_reducible apply k_pc); (· exact hC))
          | (with_reducible apply k_d <;> intro _)
          | (with_reducible apply k_b <;> intro _)
        all_goals rfl
      · have hC := C.expr_arithmetic 18 [a] a a rfl rfl (by simp) hn ⟨by decide, by decide⟩
        repeat' first
          | refine st ?_
          | ((with_reducible apply go_i); (conv => whnf))
          | ((with_reducible apply k_pn); (· exact hC))
          | ((with_reducible apply k_pc); (· exact hC))
          | (with_reducible apply k_d <;> intro _)
          | (with_reducible apply k_b <;> intro _)
        all_goals rfl
      · have hC := C.expr_text 20 [a] (by simp) hs
        repeat' first
          | refine st ?_
          | ((with_reducible apply go_i); (conv => whnf))
          | ((with_reducible apply k_pn); (· exact hC))
          | ((with_reducible apply k_pc); (· exact hC))
          | (with_reducible apply k_d <;> intro _)
          | (with_reducible apply k_b <;> intro _)
        all_goals rfl
      · repeat' first
          | refine st ?_
          | ((with_reducible apply go_i); (conv => whnf))
          | ((with_reducible apply k_pn); (· exact C.value_Bool _))
          | ((with_reducible apply k_pc); (· exact C.value_Bool _))
          | (with_reducible apply k_d <;> intro _)
          | (with_reducible apply k_b <;> intro _)
        all_goals rfl
    · obtain ⟨a, b, rfl⟩ : ∃ a b, l = [a, b] := by
        match l, hll.trans k with
        | [a, b], _ => exact ⟨a, b, rfl⟩
      have g0 : (eVs [a, b])[(0 : Nat)]? = some a.ds := rfl
      have g1 : (eVs [a, b])[(1 : Nat)]? = some b.ds := rfl
      by_cases h19 : op = 19
      · subst h19
        have hC := C.expr_text 19 [a, b] (by simp) hs
        repeat' first
          | refine st ?_
          | ((with_reducible apply go_i); (conv => whnf))
          | ((with_reducible apply k_pn); (· exact hC))
          | ((with_reducible apply k_pc); (· exact hC))
          | (with_reducible apply k_d <;> intro _)
          | (with_reducible apply k_b <;> intro _)
        all_goals rfl
      by_cases h13 : 13 ≤ op
      · have hC := C.expr_arithmetic op [a, b] a b rfl rfl (by simp) hn ⟨h13, by omega⟩
        have e : (if op = 4 then vOf (tNot (vTruth ([a, b].getD 0 vNull))) else if op = 5 ∨ op = 6 then vOf (lgF op ([a, b].getD 0 vNull) ([a, b].drop 1)) else if op = 21 then vBool (decide (([a, b].getD 0 vNull).k = 0)) else if op = 23 then coa [a, b] else if op = 24 then vRel n ([a, b].getD 0 vNull) ([a, b].getD 1 vNull) ([a, b].getD 2 vNull) ([a, b].getD 3 vNull) else if op = 19 ∨ op = 20 then vTxt op [a, b] else if 13 ≤ op ∧ op ≤ 18 then vAri op [a, b] else vOf (vCp op ([a, b].getD 0 vNull) ([a, b].getD 1 vNull))) = vAri op [a, b] := by
          rw [if_neg (by omega), if_neg (by omega), if_neg (by omega), if_neg (by omega), if_neg (by omega), if_neg (by omega), if_pos (by omega)]
        rw [e]
        rcases (show op = 13 ∨ op = 14 ∨ op = 15 ∨ op = 16 ∨ op = 17 by omega) with rfl | rfl | rfl | rfl | rfl
        all_goals clear e
        all_goals repeat' first
          | refine st ?_
          | ((with_reducible apply go_i); (conv => whnf))
          | ((with_reducible apply k_pn); (· exact hC))
          | ((with_reducible apply k_pc); (· exact hC))
          | (with_reducible apply k_d <;> intro _)
          | (with_reducible apply k_b <;> intro _)
        all_goals rfl
      · have e : (if op = 4 then vOf (tNot (vTruth ([a, b].getD 0 vNull))) else if op = 5 ∨ op = 6 then vOf (lgF op ([a, b].getD 0 vNull) ([a, b].drop 1)) else if op = 21 then vBool (decide (([a, b].getD 0 vNull).k = 0)) else if op = 23 then coa [a, b] else if op = 24 then vRel n ([a, b].getD 0 vNull) ([a, b].getD 1 vNull) ([a, b].getD 2 vNull) ([a, b].getD 3 vNull) else if op = 19 ∨ op = 20 then vTxt op [a, b] else if 13 ≤ op ∧ op ≤ 18 then vAri op [a, b] else vOf (vCp op ([a, b].getD 0 vNull) ([a, b].getD 1 vNull))) = vOf (vCp op a b) := by
          rw [if_neg (by omega), if_neg (by omega), if_neg (by omega), if_neg (by omega), if_neg (by omega), if_neg (by omega), if_neg (by omega)]; rfl
        rw [e]
        rcases (show op = 7 ∨ op = 8 ∨ op = 9 ∨ op = 10 ∨ op = 11 ∨ op = 12 by omega) with rfl | rfl | rfl | rfl | rfl | rfl
        all_goals clear e
        all_goals repeat' first
          | refine st ?_
          | ((with_reducible apply go_i); (conv => whnf))
          | ((with_reducible apply k_pn); (· first | exact C.expr_comparison _ _ _ | exact C.value_Of _))
          | ((with_reducible apply k_pc); (· first | exact C.expr_comparison _ _ _ | exact C.value_Of _))
          | (with_reducible apply k_d <;> intro _)
          | (with_reducible apply k_b <;> intro _)
        all_goals rfl
    · obtain ⟨a, r, rfl⟩ : ∃ a r, l = a :: r := by
        match l, hll with
        | [], h => simp at h; omega
        | a :: r, _ => exact ⟨a, r, rfl⟩
      have hC := C.expr_logic op h a r (by simp at hll; omega)
      rcases h with rfl | rfl
      · repeat' first
          | refine st ?_
          | ((with_reducible apply go_i); (conv => whnf))
          | ((with_reducible apply k_pn); (· exact hC))
          | ((with_reducible apply k_pc); (· exact hC))
          | (with_reducible apply k_d <;> intro _)
          | (with_reducible apply k_b <;> intro _)
        all_goals rfl
      · repeat' first
          | refine st ?_
          | ((with_reducible apply go_i); (conv => whnf))
          | ((with_reducible apply k_pn); (· exact hC))
          | ((with_reducible apply k_pc); (· exact hC))
          | (with_reducible apply k_d <;> intro _)
          | (with_reducible apply k_b <;> intro _)
        all_goals rfl
    · omega
    · obtain ⟨rfl⟩ := h
      have hLl := eVs_len l
      have e : (if (23 : Int) = 4 then vOf (tNot (vTruth (l.getD 0 vNull))) else if (23 : Int) = 5 ∨ (23 : Int) = 6 then vOf (lgF 23 (l.getD 0 vNull) (l.drop 1)) else if (23 : Int) = 21 then vBool (decide ((l.getD 0 vNull).k = 0)) else if (23 : Int) = 23 then coa l else if (23 : Int) = 24 then vRel n (l.getD 0 vNull) (l.getD 1 vNull) (l.getD 2 vNull) (l.getD 3 vNull) else if (23 : Int) = 19 ∨ (23 : Int) = 20 then vTxt 23 l else if 13 ≤ (23 : Int) ∧ (23 : Int) ≤ 18 then vAri 23 l else vOf (vCp 23 (l.getD 0 vNull) (l.getD 1 vNull))) = coa l := rfl
      rw [e]
      repeat' first
        | refine st ?_
        | ((with_reducible apply go_i); (conv => whnf))
        | (with_reducible apply k_d <;> intro _)
        | (with_reducible apply k_b <;> intro _)
      refine x_loop1 mixed Lt.expr_Eval_l1 Lk.expr_Eval_l1 (fun (i : Nat) => [.d (eI i)]) (fun i => [.cells [.d (eI 23), .d (eI n), .d (eI v.k), .d (eI v.n), .d (.str v.s), .d (.str name), .d d], .cells [.d (eI 0), .d (eI 0), .d (.str [])], .arr (eVs l) 3 0 false]) (fun i => i ≤ l.length ∧ coa l = coa (l.drop i)) (fun i => l.length - i) 0 rfl rfl rfl rfl (fun _ _ => ⟨rfl, rfl⟩) rfl ⟨by omega, rfl⟩ ?_
      repeat' first
        | refine st ?_
        | ((with_reducible apply go_i); (conv => whnf))
        | (with_reducible apply k_d <;> intro _)
        | (with_reducible apply k_b <;> intro _)
      intro j ⟨h6, h7⟩
      cases hy : l[j]? with
      | some w =>
        have hlt2 := (List.getElem?_eq_some_iff.1 hy).1
        have hg2 := eVs_get hy
        rw [coa_drop hy] at h7
        by_cases hk : w.k = 0
        · rw [if_pos hk] at h7
          repeat' first
            | refine st ?_
            | ((with_reducible apply go_i); (conv => whnf))
            | (with_reducible apply k_d <;> intro _)
            | (with_reducible apply k_b <;> intro _)
          exact ⟨j + 1, rfl, rfl, rfl, by omega, by omega, h7⟩
        · rw [if_neg hk] at h7
          rw [h7]
          repeat' first
            | refine st ?_
            | ((with_reducible apply go_i); (conv => whnf))
            | (with_reducible apply k_d <;> intro _)
            | (with_reducible apply k_b <;> intro _)
          all_goals rfl
      | none =>
        have hge2 := List.getElem?_eq_none_iff.1 hy
        rw [List.drop_eq_nil_of_le hge2] at h7
        rw [h7]
        repeat' first
          | refine st ?_
          | ((with_reducible apply go_i); (conv => whnf))
          | ((with_reducible apply k_pn); (· exact C.value_Null))
          | ((with_reducible apply k_pc); (· exact C.value_Null))
          | (with_reducible apply k_d <;> intro _)
          | (with_reducible apply k_b <;> intro _)
        all_goals rfl
    · obtain ⟨a, b, c, e, rfl⟩ : ∃ a b c e, l = [a, b, c, e] := by
        match l, hll.trans k with
        | [a, b, c, e], _ => exact ⟨a, b, c, e, rfl⟩
      subst h
      have hC := C.expr_related n a b c e
      repeat' first
        | refine st ?_
        | ((with_reducible apply go_i); (conv => whnf))
        | ((with_reducible apply k_pn); (· exact hC))
        | ((with_reducible apply k_pc); (· exact hC))
        | (with_reducible apply k_d <;> intro _)
        | (with_reducible apply k_b <;> intro _)
      all_goals rfl
end Go.Proofs
