/- Texts of this claim, joined. No condition. -/
import Derived.Test.YtdhdhhgdeokiiaaQ3
section
/- The kind of an operator's answer. No condition. -/
set_option linter.unusedSimpArgs false
set_option linter.unusedVariables false
set_option maxRecDepth 10000
set_option maxHeartbeats 4000000
namespace Go.Proofs
open Go.Bi

def res (op : Int) (v : Vl) (l : List Int) : Int × Bool :=
  if op = 1 then (v.k, true)
  else if op = 4 ∨ op = 5 ∨ op = 6 then (3, allK l 3)
  else if op = 7 ∨ op = 8 ∨ op = 9 ∨ op = 10 ∨ op = 11 ∨ op = 12 then (3, (uni l).2)
  else if op = 19 then (2, allK l 2)
  else if op = 20 then (1, allK l 2)
  else if op = 21 then (3, true)
  else if op = 22 then ((uni (l.drop 1)).1, (uni (l.drop 1)).2 && allK (l.take 1) 3)
  else if op = 23 then uni l
  else if op = 24 then (3, allK l 1) else (1, allK l 1)
theorem eIs_drop (l : List Int) (i : Nat) : (eIs l).drop i = eIs (l.drop i) := by simp [eIs]
theorem eIs_take (l : List Int) (i : Nat) : (eIs l).take i = eIs (l.take i) := by simp [eIs]
theorem C.expr_result (op n : Int) (v : Vl) (name : List UInt8) (d0 : D) (l : List Int) (hl : l.length ≤ 1048576) (d : D) (hd : SlD d (eIs l)) (h22 : op = 22 → 1 ≤ l.length) : Pure Try.prog N.expr_result [eX op n v name d0, .d d] (.tup [.d (eI (res op v l).1), .d (.bool (res op v l).2)]) := by
  refine F.expr_result.go mixed rfl ?_
  have h1 := eIs_len l
  have hm := eIs_mem l
  by_cases h22' : op = 22
  · subst h22'
    have hl1 := h22 rfl
    rcases hd with ⟨rfl, he⟩ | rfl
    · rw [he] at h1; simp at h1; omega
    have hU := C.expr_unite (l.drop 1) (by simp; omega) (.sl (eIs (l.drop 1))) sld_sl
    have hA := C.expr_all (l.take 1) (by simp; omega) (.sl (eIs (l.take 1))) sld_sl 3 (by decide)
    have hcut : ((eIs l).drop (1 : Int).toNat).take (((eIs l).length : Int).toNat - (1 : Int).toNat) = eIs (l.drop 1) := by
      rw [← eIs_drop, show (1 : Int).toNat = 1 from rfl, List.take_of_length_le]
      simp
    have hcut2 : ((eIs l).drop ((0 : Nat) : Int).toNat).take ((1 : Int).toNat - ((0 : Nat) : Int).toNat) = eIs (l.take 1) := by
      rw [← eIs_take]; rfl
    rw [show res 22 v l = ((uni (l.drop 1)).1, (uni (l.drop 1)).2 && allK (l.take 1) 3) from rfl]
    obtain ⟨⟨k, b⟩, hkb⟩ : ∃ kb, uni (l.drop 1) = kb := ⟨_, rfl⟩
    rw [hkb] at hU ⊢
    obtain ⟨z, hz⟩ : ∃ z, allK (l.take 1) 3 = z := ⟨_, rfl⟩
    rw [hz] at hA ⊢
    obtain ⟨e1, he1⟩ : ∃ e1, e1 = eIs (l.drop 1) := ⟨_, rfl⟩
    obtain ⟨e2, he2⟩ : ∃ e2, e2 = eIs (l.take 1) := ⟨_, rfl⟩
    rw [← he1] at hU hcut
    rw [← he2] at hA hcut2
    have hel : ((eIs l).length : Int) = l.length := by rw [h1]
    obtain ⟨es, hes⟩ : ∃ es, es = eIs l := ⟨_, rfl⟩
    rw [← hes] at hcut hcut2 hel hm h1 ⊢
    cases b with
    | false =>
      repeat' first
        | refine st ?_
        | ((with_reducible apply go_i); (conv => whnf))
        | (with_reducible apply k_d <;> intro _)
        | (with_reducible apply k_b <;> intro _)
      all_goals (try rw [hcut])
      repeat' first
        | refine st ?_
        | ((with_reducible apply go_i); (conv => whnf))
        | ((with_reducible apply k_pn); (· exact hU))
        | ((with_reducible apply k_pc); (· exact hU))
        | (with_reducible apply k_d <;> intro _)
        | (with_reducible apply k_b <;> intro _)
      all_goals rfl
    | true =>
      repeat' first
        | refine st ?_
        | ((with_reducible apply go_i); (conv => whnf))
        | (with_reducible apply k_d <;> intro _)
        | (with_reducible apply k_b <;> intro _)
      all_goals (try rw [hcut])
      repeat' first
        | refine st ?_
        | ((with_reducible apply go_i); (conv => whnf))
        | ((with_reducible apply k_pn); (· exact hU))
        | ((with_reducible apply k_pc); (· exact hU))
        | (with_reducible apply k_d <;> intro _)
        | (with_reducible apply k_b <;> intro _)
      all_goals (try rw [hcut2])
      repeat' first
        | refine st ?_
        | ((with_reducible apply go_i); (conv => whnf))
        | ((with_reducible apply k_pn); (· exact hA))
        | ((with_reducible apply k_pc); (· exact hA))
        | (with_reducible apply k_d <;> intro _)
        | (with_reducible apply k_b <;> intro _)
      all_goals rfl
  have A3 := C.expr_all l hl d hd 3 (by decide)
  have A2 := C.expr_all l hl d hd 2 (by decide)
  have A1 := C.expr_all l hl d hd 1 (by decide)
  have U := C.expr_unite l (by omega) d hd
  repeat' first
    | refine st ?_
    | ((with_reducible apply go_i); (conv => whnf))
    | ((with_reducible apply k_pn); (· first | exact A3 | exact A2 | exact A1 | exact U))
    | ((with_reducible apply k_pc); (· first | exact A3 | exact A2 | exact A1 | exact U))
    | (with_reducible apply k_d <;> intro _)
    | (with_reducible apply k_b <;> intro _)
  all_goals first
    | (subst_vars; rfl)
    | (simp only [res]; rw [if_neg (by omega), if_neg (by omega), if_neg (by omega), if_neg (by omega), if_neg (by omega), if_neg (by omega), if_neg (by omega), if_neg (by omega), if_neg (by omega)])
theorem C.r11_result2 (n : Int) (v : Vl) (name : List UInt8) (d0 : D) (l ks : List Int) (d : D) (hd : SlD d (eIs l)) (dk : D) (hdk : SlD dk (eIs ks)) (k : Int) (h0 : 0 ≤ n) (hk : ks[n.toNat]? = some k) : Pure Try.prog N.bt_ref11_result [eX 2 n v name d0, .d d, .d dk] (.tup [.d (eI k), .d (.bool true)]) := by
  refine F.bt_ref11_result.go mixed rfl ?_
  have h1 := eIs_len ks
  have hm := eIs_mem ks
  have hg := eIs_get hk
  have hlt := (List.getElem?_eq_some_iff.1 hk).1
  have hn2 : n < (eIs ks).length := by omega
  repeat' first
    | refine st ?_
    | ((with_reducible apply go_i); (conv => whnf))
    | (with_reducible apply k_d <;> intro _)
    | (with_reducible apply k_b <;> intro _)
  all_goals rfl
theorem C.r11_result (op n : Int) (v : Vl) (name : List UInt8) (d0 : D) (l : List Int) (hl : l.length ≤ 1048576) (d : D) (hd : SlD d (eIs l)) (dk : D) (h22 : op = 22 → 1 ≤ l.length) (hop : op = 1 ∨ 4 ≤ op ∧ op ≤ 24) (h2 : op ≠ 2) : Pure Try.prog N.bt_ref11_result [eX op n v name d0, .d d, .d dk] (.tup [.d (eI (res op v l).1), .d (.bool (res op v l).2)]) := by
  refine F.bt_ref11_result.go mixed rfl ?_
  have h1 := eIs_len l
  have hm := eIs_mem l
  by_cases h22' : op = 22
  · subst h22'
    have hl1 := h22 rfl
    rcases hd with ⟨rfl, he⟩ | rfl
    · rw [he] at h1; simp at h1; omega
    have hU := C.r11_Join (l.drop 1) (by simp; omega) (.sl (eIs (l.drop 1))) sld_sl
    have hA := C.r11_all (l.take 1) (by simp; omega) (.sl (eIs (l.take 1))) sld_sl 3
    have hcut : ((eIs l).drop (1 : Int).toNat).take (((eIs l).length : Int).toNat - (1 : Int).toNat) = eIs (l.drop 1) := by
      rw [← eIs_drop, show (1 : Int).toNat = 1 from rfl, List.take_of_length_le]
      simp
    have hcut2 : ((eIs l).drop ((0 : Nat) : Int).toNat).take ((1 : Int).toNat - ((0 : Nat) : Int).toNat) = eIs (l.take 1) := by
      rw [← eIs_take]; rfl
    rw [show res 22 v l = ((uni (l.drop 1)).1, (uni (l.drop 1)).2 && allK (l.take 1) 3) from rfl]
    obtain ⟨⟨k, b⟩, hkb⟩ : ∃ kb, uni (l.drop 1) = kb := ⟨_, rfl⟩
    rw [hkb] at hU ⊢
    obtain ⟨z, hz⟩ : ∃ z, allK (l.take 1) 3 = z := ⟨_, rfl⟩
    rw [hz] at hA ⊢
    obtain ⟨e1, he1⟩ : ∃ e1, e1 = eIs (l.drop 1) := ⟨_, rfl⟩
    obtain ⟨e2, he2⟩ : ∃ e2, e2 = eIs (l.take 1) := ⟨_, rfl⟩
    rw [← he1] at hU hcut
    rw [← he2] at hA hcut2
    have hel : ((eIs l).length : Int) = l.length := by rw [h1]
    obtain ⟨es, hes⟩ : ∃ es, es = eIs l := ⟨_, rfl⟩
    rw [← hes] at hcut hcut2 hel hm h1 ⊢
    cases b with
    | false =>
      repeat' first
        | refine st ?_
        | ((with_reducible apply go_i); (conv => whnf))
        | (with_reducible apply k_d <;> intro _)
        | (with_reducible apply k_b <;> intro _)
      all_goals (try rw [hcut])
      repeat' first
        | refine st ?_
        | ((with_reducible apply go_i); (conv => whnf))
        | ((with_reducible apply k_pn); (· exact hU))
        | ((with_reducible apply k_pc); (· exact hU))
        | (with_reducible apply k_d <;> intro _)
        | (with_reducible apply k_b <;> intro _)
      all_goals rfl
    | true =>
      repeat' first
        | refine st ?_
        | ((with_reducible apply go_i); (conv => whnf))
        | (with_reducible apply k_d <;> intro _)
        | (with_reducible apply k_b <;> intro _)
      all_goals (try rw [hcut])
      repeat' first
        | refine st ?_
        | ((with_reducible apply go_i); (conv => whnf))
        | ((with_reducible apply k_pn); (· exact hU))
        | ((with_reducible apply k_pc); (· exact hU))
        | (with_reducible apply k_d <;> intro _)
        | (with_reducible apply k_b <;> intro _)
      all_goals (try rw [hcut2])
      repeat' first
        | refine st ?_
        | ((with_reducible apply go_i); (conv => whnf))
        | ((with_reducible apply k_pn); (· exact hA))
        | ((with_reducible apply k_pc); (· exact hA))
        | (with_reducible apply k_d <;> intro _)
        | (with_reducible apply k_b <;> intro _)
      all_goals rfl
  have A3 := C.r11_all l (by omega) d hd 3
  have A2 := C.r11_all l (by omega) d hd 2
  have A1 := C.r11_all l (by omega) d hd 1
  have U := C.r11_Join l (by omega) d hd
  repeat' first
    | refine st ?_
    | ((with_reducible apply go_i); (conv => whnf))
    | ((with_reducible apply k_pn); (· first | exact A3 | exact A2 | exact A1 | exact U))
    | ((with_reducible apply k_pc); (· first | exact A3 | exact A2 | exact A1 | exact U))
    | (with_reducible apply k_d <;> intro _)
    | (with_reducible apply k_b <;> intro _)
  all_goals first
    | (subst_vars; rfl)
    | (have : op = 24 := by omega
       subst this; rfl)
end Go.Proofs
end
section
/- Check: the kind of an expression. No condition. -/
set_option linter.unusedSimpArgs false
set_option linter.unusedVariables false
set_option maxRecDepth 10000
set_option maxHeartbeats 4000000
namespace Go.Proofs
open Go.Bi

/-- The first error. -/
def fe : List (Int × Int) → Int
  | [] => 0
  | r :: rs => if r.2 = 0 then fe rs else r.2
def ckF (op n : Int) (v : Vl) (name : List UInt8) (ks : List Int) (k : Nat) (rs : List (Int × Int)) : Int × Int :=
  if (cnt op k).2 = false then (0, 7) else if fmd op n v name k = false then (0, 8)
  else if op = 2 then (if 0 ≤ n ∧ n < ks.length then (ks.getD n.toNat 0, 0) else (0, 13))
  else if fe rs = 0 then (if (res op v (rs.map Prod.fst)).2 then ((res op v (rs.map Prod.fst)).1, 0) else (0, 7)) else (0, fe rs)
mutual
def chk (ks : List Int) : Ex → Int × Int
  | .mk op n v name nl args => ckF op n v name ks args.length (chkL ks args)
def chkL (ks : List Int) : List Ex → List (Int × Int)
  | [] => []
  | e :: es => chk ks e :: chkL ks es
end
theorem chkL_eq (ks : List Int) : ∀ l, chkL ks l = l.map (chk ks)
  | [] => by simp [chkL]
  | e :: es => by simp [chkL, chkL_eq ks es]
theorem chk_mk (ks : List Int) (op n : Int) (v : Vl) (name : List UInt8) (nl : Bool) (args : List Ex) : chk ks (.mk op n v name nl args) = ckF op n v name ks args.length (args.map (chk ks)) := by rw [chk, chkL_eq]
theorem fe_drop {l : List (Int × Int)} {i : Nat} {x : Int × Int} (h : l[i]? = some x) : fe (l.drop i) = if x.2 = 0 then fe (l.drop (i + 1)) else x.2 := by
  obtain ⟨hlt, he⟩ := List.getElem?_eq_some_iff.1 h
  rw [List.drop_eq_getElem_cons hlt, he]; rfl
def Kv (rs : List (Int × Int)) (i : Nat) : List (List D) := eIs ((rs.take i).map Prod.fst)
theorem Kv_len (rs : List (Int × Int)) (i : Nat) (h : i ≤ rs.length) : (Kv rs i).length = i := by
  unfold Kv
  rw [eIs_len, List.length_map, List.length_take]
  omega
theorem Kv_succ {rs : List (Int × Int)} {i : Nat} {x : Int × Int} (h : rs[i]? = some x) : Kv rs i ++ [[eI x.1]] = Kv rs (i + 1) := by
  unfold Kv
  rw [List.take_add_one, h]
  simp [eIs]
theorem Kv_end {rs : List (Int × Int)} {i : Nat} (h : rs.length ≤ i) : Kv rs i = eIs (rs.map Prod.fst) := by
  unfold Kv
  rw [List.take_of_length_le h]
theorem ckF_known {op n : Int} {v : Vl} {name : List UInt8} {ks : List Int} {k : Nat} {rs : List (Int × Int)} (h : fmd op n v name k = true) (h2 : op ≠ 2) : ckF op n v name ks k rs = if fe rs = 0 then (if (res op v (rs.map Prod.fst)).2 then ((res op v (rs.map Prod.fst)).1, 0) else (0, 7)) else (0, fe rs) := by
  have hc := cnt_case (fmd_cnt h)
  unfold ckF
  have : (cnt op k).2 = true := by
    unfold cnt
    repeat' split
    all_goals first | rfl | omega
  rw [this, h, if_neg (by simp), if_neg (by simp), if_neg h2]
theorem C.expr_check (ks : List Int) (hks : ks.length ≤ 1048576) (dk : D) (hdk : SlD dk (eIs ks)) : ∀ e : Ex, e.bk ≤ 1048576 → Pure Try.prog N.expr_check [e.av, .d dk] (.tup [.d (eI (chk ks e).1), .d (eI (chk ks e).2)]) := by
  refine Ex.ind fun op n v name nl args ih hbk => ?_
  obtain ⟨b1, b2, b3, b4⟩ := Ex.bk_bounds hbk
  have ih' : ∀ a ∈ args, Pure Try.prog N.expr_check [a.av, .d dk] (.tup [.d (eI (chk ks a).1), .d (eI (chk ks a).2)]) := fun a ha => ih a ha (b4 a ha)
  clear ih
  rw [Ex.av_mk, chk_mk]
  refine F.expr_check.go mixed rfl ?_
  have hlen := xL_len args
  have hF := C.expr_formed op n v name (ng nl (xL args)) (xL args) sld_ng b2 (by omega)
  rw [hlen] at hF
  have hC := C.expr_counts op args.length
  have hm := xL_mem args
  have hd : SlD (ng nl (xL args)) (xL args) := sld_ng
  have hget : ∀ (i : Nat) (op' n' : Int) (v' : Vl) (name' : List UInt8) (nl' : Bool) (args' : List Ex), args[i]? = some (.mk op' n' v' name' nl' args') → (xL args)[i]? = some (xds op' n' v' name' (ng nl' (xL args'))) := fun i op' n' v' name' nl' args' h => by
    rw [← Ex.ds_mk]; exact xL_get h
  obtain ⟨d, hde⟩ : ∃ d, d = ng nl (xL args) := ⟨_, rfl⟩
  rw [← hde] at hF hd ⊢
  obtain ⟨es, hes⟩ : ∃ es, es = xL args := ⟨_, rfl⟩
  rw [← hes] at hlen hm hd hget
  rw [← hlen] at hC
  obtain ⟨rs, hrs⟩ : ∃ rs, rs = args.map (chk ks) := ⟨_, rfl⟩
  have hrl : rs.length = args.length := by rw [hrs, List.length_map]
  have hrg : ∀ (i : Nat) (x : Ex), args[i]? = some x → rs[i]? = some (chk ks x) := fun i x h => by rw [hrs, List.getElem?_map, h]; rfl
  rw [← hrs]
  cases hk : (cnt op args.length).2 with
  | false =>
    have e : ckF op n v name ks args.length rs = (0, 7) := by unfold ckF; rw [hk, if_pos rfl]
    rw [e]
    rw [hlen, hk, ← hlen] at hC
    repeat' first
      | refine st ?_
      | ((with_reducible apply go_i); (conv => whnf))
      | ((with_reducible apply k_pn); (· exact hC))
      | ((with_reducible apply k_pc); (· exact hC))
      | (with_reducible apply k_d <;> intro _)
      | (with_reducible apply k_b <;> intro _)
    all_goals rfl
  | true =>
  rw [hlen, hk, ← hlen] at hC
  cases hf : fmd op n v name args.length with
  | false =>
    have e : ckF op n v name ks args.length rs = (0, 8) := by unfold ckF; rw [hk, if_neg (by simp), hf, if_pos rfl]
    rw [e]
    rw [hf] at hF
    repeat' first
      | refine st ?_
      | ((with_reducible apply go_i); (conv => whnf))
      | ((with_reducible apply k_pn); (· first | exact hC | exact hF))
      | ((with_reducible apply k_pc); (· first | exact hC | exact hF))
      | (with_reducible apply k_d <;> intro _)
      | (with_reducible apply k_b <;> intro _)
    all_goals rfl
  | true =>
  rw [hf] at hF
  have hkl := eIs_len ks
  have hkm := eIs_mem ks
  by_cases h2 : op = 2
  · subst h2
    by_cases hn : 0 ≤ n ∧ n < ks.length
    · have e : ckF 2 n v name ks args.length rs = (ks.getD n.toNat 0, 0) := by unfold ckF; rw [hk, if_neg (by simp), hf, if_neg (by simp), if_pos rfl, if_pos hn]
      rw [e]
      obtain ⟨n1, n2⟩ := hn
      have hx : ks[n.toNat]? = some (ks.getD n.toNat 0) := by
        rw [List.getD_eq_getElem?_getD, List.getElem?_eq_getElem (by omega)]; rfl
      have hg := eIs_get hx
      have n3 : n < (eIs ks).length := by omega
      repeat' first
        | refine st ?_
        | ((with_reducible apply go_i); (conv => whnf))
        | ((with_reducible apply k_pn); (· first | exact hC | exact hF))
        | ((with_reducible apply k_pc); (· first | exact hC | exact hF))
        | (with_reducible apply k_d <;> intro _)
        | (with_reducible apply k_b <;> intro _)
      all_goals rfl
    · have e : ckF 2 n v name ks args.length rs = (0, 13) := by unfold ckF; rw [hk, if_neg (by simp), hf, if_neg (by simp), if_pos rfl, if_neg hn]
      rw [e]
      by_cases hn0 : n < 0
      · repeat' first
          | refine st ?_
          | ((with_reducible apply go_i); (conv => whnf))
          | ((with_reducible apply k_pn); (· first | exact hC | exact hF))
          | ((with_reducible apply k_pc); (· first | exact hC | exact hF))
          | (with_reducible apply k_d <;> intro _)
          | (with_reducible apply k_b <;> intro _)
        all_goals rfl
      · have n3 : (eIs ks).length ≤ n := by omega
        repeat' first
          | refine st ?_
          | ((with_reducible apply go_i); (conv => whnf))
          | ((with_reducible apply k_pn); (· first | exact hC | exact hF))
          | ((with_reducible apply k_pc); (· first | exact hC | exact hF))
          | (with_reducible apply k_d <;> intro _)
          | (with_reducible apply k_b <;> intro _)
        all_goals rfl
  have hq := ckF_known (ks := ks) (rs := rs) hf h2
  obtain ⟨q, hqe⟩ : ∃ q, q = ckF op n v name ks args.length rs := ⟨_, rfl⟩
  rw [← hqe] at hq ⊢
  have hcnt := cnt_case (fmd_cnt hf)
  repeat' first
    | refine st ?_
    | ((with_reducible apply go_i); (conv => whnf))
    | ((with_reducible apply k_pn); (· first | exact hC | exact hF))
    | ((with_reducible apply k_pc); (· first | exact hC | exact hF))
    | (with_reducible apply k_d <;> intro _)
    | (with_reducible apply k_b <;> intro _)
  refine x_nil 8 1 rfl rfl ?_
  repeat' first
    | refine st ?_
    | ((with_reducible apply go_i); (conv => whnf))
    | (with_reducible apply k_d <;> intro _)
    | (with_reducible apply k_b <;> intro _)
  refine x_loop2 mixed Lt.expr_check_l0 Lk.expr_check_l0 (fun (i : Nat) (w : List (List D) × Bool) => [.arr 1 w.1.length, .d (eI i)]) (fun i w => [.cells [.d (eI op), .d (eI n), .d (eI v.k), .d (eI v.n), .d (.str v.s), .d (.str name), .d d], .arr w.1 1 0 w.2]) (fun i w => i ≤ args.length ∧ w.1 = Kv rs i ∧ w.2 = w.1.isEmpty ∧ fe rs = fe (rs.drop i)) (fun i _ => args.length - i) 0 ([], true) rfl rfl rfl rfl (fun _ _ _ => ⟨rfl, rfl⟩) rfl ⟨by omega, rfl, rfl, rfl⟩ ?_
  repeat' first
    | refine st ?_
    | ((with_reducible apply go_i); (conv => whnf))
    | (with_reducible apply k_d <;> intro _)
    | (with_reducible apply k_b <;> intro _)
  intro i w ⟨h4, h5, h6, h7⟩
  obtain ⟨A, b⟩ := w
  dsimp only at h5 h6 h7 ⊢
  have hAl : A.length = i := by rw [h5]; exact Kv_len rs i (by omega)
  have hAm : ∀ e ∈ A, e.length = 1 := by rw [h5]; exact eIs_mem _
  cases hx : args[i]? with
  | some x =>
    have hlt := (List.getElem?_eq_some_iff.1 hx).1
    have hI := ih' x (List.mem_of_getElem? hx)
    have hr := hrg i x hx
    have hs := Kv_succ hr
    rw [fe_drop hr] at h7
    rw [← h5] at hs
    obtain ⟨⟨k, er⟩, hke⟩ : ∃ ke, ke = chk ks x := ⟨_, rfl⟩
    rw [← hke] at hI hs h7
    obtain ⟨op', n', v', name', nl', args'⟩ := x
    rw [Ex.av_mk] at hI
    have hg := hget i _ _ _ _ _ _ hx
    by_cases her : er = 0
    · rw [if_pos her] at h7
      repeat' first
        | refine st ?_
        | ((with_reducible apply go_i); (conv => whnf))
        | ((with_reducible apply k_pn); (· exact hI))
        | ((with_reducible apply k_pc); (· exact hI))
        | (with_reducible apply k_d <;> intro _)
        | (with_reducible apply k_b <;> intro _)
      exact ⟨i + 1, (A ++ [[eI k]], false), rfl, rfl, rfl, by omega, by omega, hs, by simp, h7⟩
    · rw [if_neg her] at h7
      dsimp only at h7
      rw [h7, if_neg her] at hq
      rw [hq]
      repeat' first
        | refine st ?_
        | ((with_reducible apply go_i); (conv => whnf))
        | ((with_reducible apply k_pn); (· exact hI))
        | ((with_reducible apply k_pc); (· exact hI))
        | (with_reducible apply k_d <;> intro _)
        | (with_reducible apply k_b <;> intro _)
      all_goals rfl
  | none =>
    have hge := List.getElem?_eq_none_iff.1 hx
    rw [List.drop_eq_nil_of_le (by omega)] at h7
    rw [h7, if_pos (show fe [] = 0 from rfl)] at hq
    rw [Kv_end (by omega)] at h5
    clear hrg
    obtain ⟨l, hl⟩ : ∃ l, l = rs.map Prod.fst := ⟨_, rfl⟩
    have hll : l.length = args.length := by rw [hl, List.length_map, hrl]
    rw [← hl] at h5 hq
    have h22 : op = 22 → 1 ≤ l.length := fun e => by omega
    obtain ⟨⟨kr, br⟩, hre⟩ : ∃ r, r = res op v l := ⟨_, rfl⟩
    cases b with
    | true =>
      have hA0 : A = [] := by simpa using h6
      subst hA0
      have hR := C.expr_result op n v name d l (by omega) .nil (.inl ⟨rfl, h5.symm⟩) h22
      rw [← hre] at hR hq
      rw [hq]
      cases br with
      | true =>
        repeat' first
          | refine st ?_
          | ((with_reducible apply go_i); (conv => whnf))
          | ((with_reducible apply k_pn); (· exact hR))
          | ((with_reducible apply k_pc); (· exact hR))
          | (with_reducible apply k_d <;> intro _)
          | (with_reducible apply k_b <;> intro _)
        all_goals rfl
      | false =>
        repeat' first
          | refine st ?_
          | ((with_reducible apply go_i); (conv => whnf))
          | ((with_reducible apply k_pn); (· exact hR))
          | ((with_reducible apply k_pc); (· exact hR))
          | (with_reducible apply k_d <;> intro _)
          | (with_reducible apply k_b <;> intro _)
        all_goals rfl
    | false =>
      have hR := C.expr_result op n v name d l (by omega) (.sl (eIs l)) sld_sl h22
      rw [← hre, ← h5] at hR
      rw [← hre] at hq
      rw [hq]
      cases br with
      | true =>
        repeat' first
          | refine st ?_
          | ((with_reducible apply go_i); (conv => whnf))
          | ((with_reducible apply k_pn); (· exact hR))
          | ((with_reducible apply k_pc); (· exact hR))
          | (with_reducible apply k_d <;> intro _)
          | (with_reducible apply k_b <;> intro _)
        all_goals rfl
      | false =>
        repeat' first
          | refine st ?_
          | ((with_reducible apply go_i); (conv => whnf))
          | ((with_reducible apply k_pn); (· exact hR))
          | ((with_reducible apply k_pc); (· exact hR))
          | (with_reducible apply k_d <;> intro _)
          | (with_reducible apply k_b <;> intro _)
        all_goals rfl
theorem C.expr_Check (ks : List Int) (hks : ks.length ≤ 1048576) (dk : D) (hdk : SlD dk (eIs ks)) (e : Ex) (he : e.bk ≤ 1048576) : Pure Try.prog N.expr_Check [e.av, .d dk] (.tup [.d (eI (if 24 < dep e then (0, 26) else chk ks e).1), .d (eI (if 24 < dep e then ((0, 26) : Int × Int) else chk ks e).2)]) := by
  have hD := C.expr_Depth e he
  have hC := C.expr_check ks hks dk hdk e he
  obtain ⟨kr, hre⟩ : ∃ r, r = chk ks e := ⟨_, rfl⟩
  obtain ⟨dp, hdp⟩ : ∃ dp, dp = dep e := ⟨_, rfl⟩
  rw [← hre] at hC ⊢
  rw [← hdp] at hD ⊢
  obtain ⟨op, n, v, name, nl, args⟩ := e
  rw [Ex.av_mk] at hC hD ⊢
  refine F.expr_Check.go mixed rfl ?_
  by_cases h : 24 < dp
  · rw [if_pos h]
    have h2 : (24 : Int) < ((min 25 dp : Nat) : Int) := by omega
    repeat' first
      | refine st ?_
      | ((with_reducible apply go_i); (conv => whnf))
      | ((with_reducible apply k_pn); (· first | exact hD | exact hC))
      | ((with_reducible apply k_pc); (· first | exact hD | exact hC))
      | (with_reducible apply k_d <;> intro _)
      | (with_reducible apply k_b <;> intro _)
    all_goals rfl
  · rw [if_neg h]
    have h2 : ((min 25 dp : Nat) : Int) ≤ 24 := by omega
    repeat' first
      | refine st ?_
      | ((with_reducible apply go_i); (conv => whnf))
      | ((with_reducible apply k_pn); (· first | exact hD | exact hC))
      | ((with_reducible apply k_pc); (· first | exact hD | exact hC))
      | (with_reducible apply k_d <;> intro _)
      | (with_reducible apply k_b <;> intro _)
    all_goals rfl
end Go.Proofs
end
section
/- The examples of the chapter. No condition. -/
set_option linter.unusedSimpArgs false
set_option linter.unusedVariables false
set_option maxRecDepth 10000
set_option maxHeartbeats 4000000
namespace Go.Proofs
open Go.Bi

def nuE (n : Int) : Ex := .mk 1 0 ⟨1, n, []⟩ [] true []
def noE : Ex := .mk 1 0 vNull [] true []
def aE : Ex := .mk 1 0 ⟨2, 0, [97]⟩ [] true []
def twE (op : Int) (a b : Ex) : Ex := .mk op 0 vNull [] false [a, b]
def isE (a : Ex) : Ex := .mk 21 0 vNull [] false [a]
theorem C.law_num (n : Int) : Pure Try.prog N.bt_law11_num [.d (eI n)] (nuE n).av := by
  rw [nuE, Ex.av_mk]
  refine F.bt_law11_num.go mixed rfl ?_
  repeat' first
    | refine st ?_
    | ((with_reducible apply go_i); (conv => whnf))
    | (with_reducible apply k_d <;> intro _)
    | (with_reducible apply k_b <;> intro _)
  all_goals rfl
theorem C.law_two (op : Int) (a b : Ex) : Pure Try.prog N.bt_law11_two [.d (eI op), a.av, b.av] (twE op a b).av := by
  rw [twE, Ex.av_mk]
  obtain ⟨o1, n1, v1, m1, l1, a1⟩ := a
  obtain ⟨o2, n2, v2, m2, l2, a2⟩ := b
  rw [Ex.av_mk, Ex.av_mk]
  refine F.bt_law11_two.go mixed rfl ?_
  repeat' first
    | refine st ?_
    | ((with_reducible apply go_i); (conv => whnf))
    | (with_reducible apply k_d <;> intro _)
    | (with_reducible apply k_b <;> intro _)
  all_goals (simp only [xL, List.map_cons, List.map_nil, Ex.ds_mk]; rfl)
theorem nuE_av (n : Int) : (nuE n).av = eX 1 0 ⟨1, n, []⟩ [] .nil := by rw [nuE, Ex.av_mk]; rfl
theorem noE_av : noE.av = eX 1 0 vNull [] .nil := by rw [noE, Ex.av_mk]; rfl
theorem aE_av : aE.av = eX 1 0 ⟨2, 0, [97]⟩ [] .nil := by rw [aE, Ex.av_mk]; rfl
theorem twE_av (op : Int) (a b : Ex) : (twE op a b).av = eX op 0 vNull [] (ng false (xL [a, b])) := by rw [twE, Ex.av_mk]
theorem isE_av (a : Ex) : (isE a).av = eX 21 0 vNull [] (.sl [a.ds]) := by rw [isE, Ex.av_mk]; rfl
def ckT (ks : List Int) (e : Ex) : Int × Int := if 24 < dep e then (0, 26) else chk ks e
theorem ck1 : ckT [] (twE 23 noE aE) = (2, 0) := by decide +kernel
theorem ck2 : ckT [] (twE 13 (nuE 1) aE) = (0, 7) := by decide +kernel
theorem ev1 : ev [] (twE 16 (nuE 7) (nuE (-2))) = ⟨1, -3, []⟩ := by decide +kernel
theorem ev2 : ev [] (twE 17 (nuE (-7)) (nuE 2)) = ⟨1, -1, []⟩ := by decide +kernel
theorem ev3 : vTruth (ev [] (twE 7 (nuE 1) noE)) = 1 := by decide +kernel
theorem ev4 : vTruth (ev [] (isE noE)) = 2 := by decide +kernel
theorem ev5 : ev [] (twE 13 (nuE 1) aE) = vNull := by decide +kernel
theorem C.law_awake : Pure Try.prog N.bt_law11_awake [] (.d (.bool true)) := by
  refine F.bt_law11_awake.go mixed rfl ?_
  have n1 := C.law_num 1
  have n7 := C.law_num 7
  have nm2 := C.law_num (-2)
  have nm3 := C.law_num (-3)
  have nm7 := C.law_num (-7)
  have n2 := C.law_num 2
  have nm1 := C.law_num (-1)
  have t1 := C.law_two 23 noE aE
  have t2 := C.law_two 13 (nuE 1) aE
  have t3 := C.law_two 16 (nuE 7) (nuE (-2))
  have t4 := C.law_two 17 (nuE (-7)) (nuE 2)
  have t5 := C.law_two 7 (nuE 1) noE
  have c1 := C.expr_Check [] (by simp) .nil (.inl ⟨rfl, rfl⟩) (twE 23 noE aE) (by decide +kernel)
  have c2 := C.expr_Check [] (by simp) .nil (.inl ⟨rfl, rfl⟩) (twE 13 (nuE 1) aE) (by decide +kernel)
  have e1 := C.expr_Eval [] (by simp) (by simp) .nil (.inl ⟨rfl, rfl⟩) (twE 16 (nuE 7) (nuE (-2))) (by decide +kernel)
  have e2 := C.expr_Eval [] (by simp) (by simp) .nil (.inl ⟨rfl, rfl⟩) (twE 17 (nuE (-7)) (nuE 2)) (by decide +kernel)
  have e3 := C.expr_Eval [] (by simp) (by simp) .nil (.inl ⟨rfl, rfl⟩) (twE 7 (nuE 1) noE) (by decide +kernel)
  have e4 := C.expr_Eval [] (by simp) (by simp) .nil (.inl ⟨rfl, rfl⟩) (isE noE) (by decide +kernel)
  have e5 := C.expr_Eval [] (by simp) (by simp) .nil (.inl ⟨rfl, rfl⟩) (twE 13 (nuE 1) aE) (by decide +kernel)
  rw [show (if 24 < dep (twE 23 noE aE) then ((0, 26) : Int × Int) else chk [] (twE 23 noE aE)) = (2, 0) from ck1] at c1
  rw [show (if 24 < dep (twE 13 (nuE 1) aE) then ((0, 26) : Int × Int) else chk [] (twE 13 (nuE 1) aE)) = (0, 7) from ck2] at c2
  rw [twE_av] at e3
  rw [isE_av] at e4
  replace e3 := C.expr_Truth_of [] .nil _ _ _ _ _ _ e3
  replace e4 := C.expr_Truth_of [] .nil _ _ _ _ _ _ e4
  rw [ev1] at e1
  rw [ev2] at e2
  rw [ev3] at e3
  rw [ev4] at e4
  rw [ev5] at e5
  rw [nuE_av] at n1 n7 nm2 nm3 nm7 n2 nm1
  rw [twE_av] at t1 t2 t3 t4 t5 c1 c2 e1 e2 e5
  simp only [nuE_av, noE_av, aE_av] at t1 t2 t3 t4 t5
  have hno : noE.ds = xds 1 0 vNull [] .nil := by rw [noE, Ex.ds_mk]; rfl
  rw [hno] at e4
  repeat' first
    | refine st ?_
    | ((with_reducible apply go_i); (conv => whnf))
    | ((with_reducible apply k_pn); (· first | exact n1 | exact n7 | exact nm2 | exact nm3 | exact nm7 | exact n2 | exact nm1 | exact t1 | exact t2 | exact t3 | exact t4 | exact t5 | exact c1 | exact c2 | exact e1 | exact e2 | exact e3 | exact e4 | exact e5))
    | ((with_reducible apply k_pc); (· first | exact n1 | exact n7 | exact nm2 | exact nm3 | exact nm7 | exact n2 | exact nm1 | exact t1 | exact t2 | exact t3 | exact t4 | exact t5 | exact c1 | exact c2 | exact e1 | exact e2 | exact e3 | exact e4 | exact e5))
    | (with_reducible apply k_d <;> intro _)
    | (with_reducible apply k_b <;> intro _)
  all_goals rfl
end Go.Proofs
end
section
/- Same: expressions are compared. No condition. -/
set_option linter.unusedSimpArgs false
set_option linter.unusedVariables false
set_option maxRecDepth 10000
set_option maxHeartbeats 4000000
namespace Go.Proofs
open Go.Bi

mutual
def smE : Ex → Ex → Bool
  | .mk op n v name nl args, .mk op' n' v' name' nl' args' => decide (op = op') && decide (n = n') && decide (v = v') && decide (name = name') && smL args args'
def smL : List Ex → List Ex → Bool
  | [], [] => true
  | a :: l, b :: m => smE a b && smL l m
  | [], _ :: _ => false
  | _ :: _, [] => false
end
theorem smL_eq : ∀ l m, smL l m = (decide (l.length = m.length) && (l.zip m).all fun p => smE p.1 p.2)
  | [], [] => by simp [smL]
  | a :: l, b :: m => by
    rw [smL, smL_eq l m]
    simp only [List.length_cons, List.zip_cons_cons, List.all_cons]
    cases smE a b <;> simp
  | [], _ :: _ => by simp [smL]
  | _ :: _, [] => by simp [smL]
theorem smE_mk (op n : Int) (v : Vl) (name : List UInt8) (nl : Bool) (args : List Ex) (op' n' : Int) (v' : Vl) (name' : List UInt8) (nl' : Bool) (args' : List Ex) : smE (.mk op n v name nl args) (.mk op' n' v' name' nl' args') = (decide (op = op') && decide (n = n') && decide (v = v') && decide (name = name') && smL args args') := by rw [smE]
theorem smE_refl : ∀ e, smE e e = true := by
  refine Ex.ind fun op n v name nl args ih => ?_
  rw [smE_mk, smL_eq]
  simp only [decide_true, Bool.true_and, List.all_eq_true]
  intro p hp
  obtain ⟨i, hi, rfl⟩ := List.mem_iff_getElem.1 hp
  rw [List.getElem_zip]
  exact ih _ (List.getElem_mem _)
theorem all_take_succ3 {α : Type} {p : α → Bool} {l : List α} {i : Nat} {x : α} (h : l[i]? = some x) : (l.take (i + 1)).all p = ((l.take i).all p && p x) := by
  rw [List.take_add_one, h]; simp
theorem all_none3 {α : Type} {p : α → Bool} {l : List α} {i : Nat} {x : α} (h : l[i]? = some x) (hx : p x = false) : l.all p = false := by
  rw [Bool.eq_false_iff]
  intro e
  have := List.all_eq_true.1 e x (List.mem_of_getElem? h)
  rw [hx] at this; cases this
theorem xL_get' {args : List Ex} (i : Nat) (op' n' : Int) (v' : Vl) (name' : List UInt8) (nl' : Bool) (args' : List Ex) (h : args[i]? = some (.mk op' n' v' name' nl' args')) : (xL args)[i]? = some (xds op' n' v' name' (ng nl' (xL args'))) := by
  rw [← Ex.ds_mk]; exact xL_get h
theorem C.equalFunc (args args' : List Ex) (hl : args.length ≤ 2097152) (hl' : args'.length ≤ 2097152) (ih : ∀ a ∈ args, ∀ b ∈ args', Pure Try.prog N.expr_Same [a.av, b.av] (.d (.bool (smE a b)))) (d d' : D) (hd : SlD d (xL args)) (hd' : SlD d' (xL args')) : Pure Try.prog N.slices_EqualFunc__api_Expr__api_Expr_api_Expr_api_Expr [.d d, .d d', .d (.fn N.expr_Same)] (.d (.bool (smL args args'))) := by
  refine F.slices_EqualFunc__api_Expr__api_Expr_api_Expr_api_Expr.go mixed rfl ?_
  have hlen := xL_len args
  have hm := xL_mem args
  have hlen' := xL_len args'
  have hm' := xL_mem args'
  have hget := xL_get' (args := args)
  have hget' := xL_get' (args := args')
  obtain ⟨es, hes⟩ : ∃ es, es = xL args := ⟨_, rfl⟩
  rw [← hes] at hlen hm hd hget
  obtain ⟨es', hes'⟩ : ∃ es, es = xL args' := ⟨_, rfl⟩
  rw [← hes'] at hlen' hm' hd' hget'
  obtain ⟨q, hq⟩ : ∃ q, q = smL args args' := ⟨_, rfl⟩
  rw [← hq]
  rw [smL_eq] at hq
  by_cases hll : args.length = args'.length
  rotate_left
  · rw [decide_eq_false hll, Bool.false_and] at hq
    rw [hq]
    repeat' first
      | refine st ?_
      | ((with_reducible apply go_i); (conv => whnf))
      | (with_reducible apply k_d <;> intro _)
      | (with_reducible apply k_b <;> intro _)
    all_goals first | rfl | (exfalso; omega)
  rw [decide_eq_true hll, Bool.true_and] at hq
  have hl2 : es.length = es'.length := by omega
  repeat' first
    | refine st ?_
    | ((with_reducible apply go_i); (conv => whnf))
    | (with_reducible apply k_d <;> intro _)
    | (with_reducible apply k_b <;> intro _)
  refine x_loop1 mixed Lt.slices_EqualFunc__api_Expr__api_Expr_api_Expr_api_Expr_l0 Lk.slices_EqualFunc__api_Expr__api_Expr_api_Expr_api_Expr_l0 (fun (i : Nat) => [.d (eI i)]) (fun i => []) (fun i => i ≤ args.length ∧ ((args.zip args').take i).all (fun p => smE p.1 p.2) = true) (fun i => args.length - i) 0 rfl rfl rfl rfl (fun _ _ => ⟨rfl, rfl⟩) rfl ⟨by omega, rfl⟩ ?_
  repeat' first
    | refine st ?_
    | ((with_reducible apply go_i); (conv => whnf))
    | (with_reducible apply k_d <;> intro _)
    | (with_reducible apply k_b <;> intro _)
  intro i ⟨h4, h5⟩
  cases hx : args[i]? with
  | some x =>
    have hlt := (List.getElem?_eq_some_iff.1 hx).1
    obtain ⟨y, hy⟩ : ∃ y, args'[i]? = some y := ⟨_, List.getElem?_eq_getElem (by omega)⟩
    have hz : (args.zip args')[i]? = some (x, y) := List.getElem?_zip_eq_some.2 ⟨hx, hy⟩
    have hI := ih x (List.mem_of_getElem? hx) y (List.mem_of_getElem? hy)
    have hs := all_take_succ3 (p := fun p : Ex × Ex => smE p.1 p.2) hz
    have hn := all_none3 (p := fun p : Ex × Ex => smE p.1 p.2) hz
    rw [h5, Bool.true_and] at hs
    dsimp only at hs hn
    obtain ⟨b, hb⟩ : ∃ b, b = smE x y := ⟨_, rfl⟩
    rw [← hb] at hI hs hn
    obtain ⟨o1, n1, v1, m1, l1, a1⟩ := x
    obtain ⟨o2, n2, v2, m2, l2, a2⟩ := y
    rw [Ex.av_mk, Ex.av_mk] at hI
    have hg := hget i _ _ _ _ _ _ hx
    have hg' : es'[((i : Nat) : Int).toNat]? = _ := hget' i _ _ _ _ _ _ hy
    have hlt' : (i : Int) < es'.length := by omega
    cases b with
    | true =>
      repeat' first
        | refine st ?_
        | ((with_reducible apply go_i); (conv => whnf))
        | ((with_reducible apply k_pn); (· exact hI))
        | ((with_reducible apply k_pc); (· exact hI))
        | (with_reducible apply k_d <;> intro _)
        | (with_reducible apply k_b <;> intro _)
      exact ⟨i + 1, rfl, rfl, rfl, by omega, by omega, hs⟩
    | false =>
      rw [hn rfl] at hq
      rw [hq]
      repeat' first
        | refine st ?_
        | ((with_reducible apply go_i); (conv => whnf))
        | ((with_reducible apply k_pn); (· exact hI))
        | ((with_reducible apply k_pc); (· exact hI))
        | (with_reducible apply k_d <;> intro _)
        | (with_reducible apply k_b <;> intro _)
      all_goals rfl
  | none =>
    have hge := List.getElem?_eq_none_iff.1 hx
    rw [List.take_of_length_le (by rw [List.length_zip]; omega)] at h5
    rw [h5] at hq
    rw [hq]
    repeat' first
      | refine st ?_
      | ((with_reducible apply go_i); (conv => whnf))
      | (with_reducible apply k_d <;> intro _)
      | (with_reducible apply k_b <;> intro _)
    all_goals rfl
theorem C.expr_Same : ∀ a : Ex, a.bk ≤ 2097152 → ∀ b : Ex, b.bk ≤ 2097152 → Pure Try.prog N.expr_Same [a.av, b.av] (.d (.bool (smE a b))) := by
  refine Ex.ind fun op n v name nl args ih hbk b hbb => ?_
  obtain ⟨op', n', v', name', nl', args'⟩ := b
  obtain ⟨b1, b2, b3, b4⟩ := Ex.bk_bounds hbk
  obtain ⟨c1, c2, c3, c4⟩ := Ex.bk_bounds hbb
  have hE := C.equalFunc args args' b1 c1 (fun a ha b hb => ih a ha (b4 a ha) b (c4 b hb)) (ng nl (xL args)) (ng nl' (xL args')) sld_ng sld_ng
  rw [Ex.av_mk, Ex.av_mk, smE_mk]
  obtain ⟨d, hde⟩ : ∃ d, d = ng nl (xL args) := ⟨_, rfl⟩
  obtain ⟨d', hde'⟩ : ∃ d, d = ng nl' (xL args') := ⟨_, rfl⟩
  rw [← hde, ← hde'] at hE ⊢
  refine F.expr_Same.go mixed rfl ?_
  obtain ⟨q, hq⟩ : ∃ q, q = smL args args' := ⟨_, rfl⟩
  rw [← hq] at hE ⊢
  have hv : decide (v = v') = (decide (v.k = v'.k) && (decide (v.n = v'.n) && decide (v.s = v'.s))) := by
    rw [Bool.eq_iff_iff]
    simp only [decide_eq_true_eq, Bool.and_eq_true, vl_eq]
  rw [hv]
  repeat' first
    | refine st ?_
    | ((with_reducible apply go_i); (conv => whnf))
    | ((with_reducible apply k_pn); (· exact hE))
    | ((with_reducible apply k_pc); (· exact hE))
    | (with_reducible apply k_d <;> intro _)
    | (with_reducible apply k_b <;> intro _)
  all_goals simp_all
theorem C.r11_Same : ∀ a : Ex, a.bk ≤ 2097152 → ∀ b : Ex, b.bk ≤ 2097152 → Pure Try.prog N.bt_ref11_Same [a.av, b.av] (.d (.bool (smE a b))) := by
  refine Ex.ind fun op n v name nl args ih hbk b hbb => ?_
  obtain ⟨op', n', v', name', nl', args'⟩ := b
  obtain ⟨b1, b2, b3, b4⟩ := Ex.bk_bounds hbk
  obtain ⟨c1, c2, c3, c4⟩ := Ex.bk_bounds hbb
  have ih' : ∀ a ∈ args, ∀ b ∈ args', Pure Try.prog N.bt_ref11_Same [a.av, b.av] (.d (.bool (smE a b))) := fun a ha b hb => ih a ha (b4 a ha) b (c4 b hb)
  clear ih
  rw [Ex.av_mk, Ex.av_mk, smE_mk]
  have hd : SlD (ng nl (xL args)) (xL args) := sld_ng
  have hd' : SlD (ng nl' (xL args')) (xL args') := sld_ng
  have hlen := xL_len args
  have hm := xL_mem args
  have hlen' := xL_len args'
  have hm' := xL_mem args'
  have hget := xL_get' (args := args)
  have hget' := xL_get' (args := args')
  obtain ⟨d, hde⟩ : ∃ d, d = ng nl (xL args) := ⟨_, rfl⟩
  obtain ⟨d', hde'⟩ : ∃ d, d = ng nl' (xL args') := ⟨_, rfl⟩
  rw [← hde] at hd ⊢
  rw [← hde'] at hd' ⊢
  obtain ⟨es, hes⟩ : ∃ es, es = xL args := ⟨_, rfl⟩
  rw [← hes] at hlen hm hd hget
  obtain ⟨es', hes'⟩ : ∃ es, es = xL args' := ⟨_, rfl⟩
  rw [← hes'] at hlen' hm' hd' hget'
  refine F.bt_ref11_Same.go mixed rfl ?_
  have hv : decide (v = v') = (decide (v.k = v'.k) && (decide (v.n = v'.n) && decide (v.s = v'.s))) := by
    rw [Bool.eq_iff_iff]
    simp only [decide_eq_true_eq, Bool.and_eq_true, vl_eq]
  by_cases hall : op = op' ∧ n = n' ∧ v = v' ∧ name = name' ∧ args.length = args'.length
  rotate_left
  · have hr : (decide (op = op') && decide (n = n') && decide (v = v') && decide (name = name') && smL args args') = false := by
      rw [Bool.eq_false_iff]
      intro h
      simp only [Bool.and_eq_true, decide_eq_true_eq, smL_eq] at h
      exact hall ⟨h.1.1.1.1, h.1.1.1.2, h.1.1.2, h.1.2, h.2.1⟩
    rw [hr]
    clear hr
    have hlle : ((es.length : Int) = es'.length) ↔ args.length = args'.length := by omega
    rw [vl_eq] at hall
    clear hget hget' ih'
    by_cases g1 : op = op'
    rotate_left
    · repeat' first
        | refine st ?_
        | ((with_reducible apply go_i); (conv => whnf))
        | (with_reducible apply k_d <;> intro _)
        | (with_reducible apply k_b <;> intro _)
      all_goals rfl
    by_cases g2 : n = n'
    rotate_left
    · repeat' first
        | refine st ?_
        | ((with_reducible apply go_i); (conv => whnf))
        | (with_reducible apply k_d <;> intro _)
        | (with_reducible apply k_b <;> intro _)
      all_goals rfl
    by_cases g3 : v.k = v'.k ∧ v.n = v'.n ∧ v.s = v'.s
    rotate_left
    · repeat' first
        | refine st ?_
        | ((with_reducible apply go_i); (conv => whnf))
        | (with_reducible apply k_d <;> intro _)
        | (with_reducible apply k_b <;> intro _)
      all_goals first | rfl | (exfalso; simp_all)
    obtain ⟨g3, g4, g5⟩ := g3
    by_cases g6 : name = name'
    rotate_left
    · repeat' first
        | refine st ?_
        | ((with_reducible apply go_i); (conv => whnf))
        | (with_reducible apply k_d <;> intro _)
        | (with_reducible apply k_b <;> intro _)
      all_goals first | rfl | (exfalso; simp_all)
    have g7 : ¬ (es.length : Int) = es'.length := fun h => hall ⟨g1, g2, ⟨g3, g4, g5⟩, g6, hlle.1 h⟩
    repeat' first
      | refine st ?_
      | ((with_reducible apply go_i); (conv => whnf))
      | (with_reducible apply k_d <;> intro _)
      | (with_reducible apply k_b <;> intro _)
    all_goals first | rfl | (exfalso; simp_all; done) | (exfalso; omega)
  obtain ⟨rfl, rfl, rfl, rfl, hll⟩ := hall
  obtain ⟨q, hq⟩ : ∃ q, q = (decide (op = op) && decide (n = n) && decide (v = v) && decide (name = name) && smL args args') := ⟨_, rfl⟩
  rw [← hq]
  rw [smL_eq, decide_eq_true hll] at hq
  simp only [decide_true, Bool.true_and] at hq
  have hl2 : (es.length : Int) = es'.length := by omega
  have hl3 : es.length = es'.length := by omega
  have r1 : v.s = v.s := rfl
  have r2 : name = name := rfl
  repeat' first
    | refine st ?_
    | ((with_reducible apply go_i); (conv => whnf))
    | (with_reducible apply k_d <;> intro _)
    | (with_reducible apply k_b <;> intro _)
  refine x_loop1 mixed Lt.bt_ref11_Same_l0 Lk.bt_ref11_Same_l0 (fun (i : Nat) => [.d (eI i)]) (fun i => [.cells [.d (eI op), .d (eI n), .d (eI v.k), .d (eI v.n), .d (.str v.s), .d (.str name), .d d], .cells [.d (eI op), .d (eI n), .d (eI v.k), .d (eI v.n), .d (.str v.s), .d (.str name), .d d']]) (fun i => i ≤ args.length ∧ ((args.zip args').take i).all (fun p => smE p.1 p.2) = true) (fun i => args.length - i) 0 rfl rfl rfl rfl (fun _ _ => ⟨rfl, rfl⟩) rfl ⟨by omega, rfl⟩ ?_
  repeat' first
    | refine st ?_
    | ((with_reducible apply go_i); (conv => whnf))
    | (with_reducible apply k_d <;> intro _)
    | (with_reducible apply k_b <;> intro _)
  intro i ⟨h4, h5⟩
  cases hx : args[i]? with
  | some x =>
    have hlt := (List.getElem?_eq_some_iff.1 hx).1
    obtain ⟨y, hy⟩ : ∃ y, args'[i]? = some y := ⟨_, List.getElem?_eq_getElem (by omega)⟩
    have hz : (args.zip args')[i]? = some (x, y) := List.getElem?_zip_eq_some.2 ⟨hx, hy⟩
    have hI := ih' x (List.mem_of_getElem? hx) y (List.mem_of_getElem? hy)
    have hs := all_take_succ3 (p := fun p : Ex × Ex => smE p.1 p.2) hz
    have hn := all_none3 (p := fun p : Ex × Ex => smE p.1 p.2) hz
    rw [h5, Bool.true_and] at hs
    dsimp only at hs hn
    obtain ⟨b, hb⟩ : ∃ b, b = smE x y := ⟨_, rfl⟩
    rw [← hb] at hI hs hn
    obtain ⟨o1, n1, v1, m1, l1, a1⟩ := x
    obtain ⟨o2, n2, v2, m2, l2, a2⟩ := y
    rw [Ex.av_mk, Ex.av_mk] at hI
    have hg := hget i _ _ _ _ _ _ hx
    have hg' : es'[((i : Nat) : Int).toNat]? = _ := hget' i _ _ _ _ _ _ hy
    have hlt' : (i : Int) < es'.length := by omega
    cases b with
    | true =>
      repeat' first
        | refine st ?_
        | ((with_reducible apply go_i); (conv => whnf))
        | ((with_reducible apply k_pn); (· exact hI))
        | ((with_reducible apply k_pc); (· exact hI))
        | (with_reducible apply k_d <;> intro _)
        | (with_reducible apply k_b <;> intro _)
      exact ⟨i + 1, rfl, rfl, rfl, by omega, by omega, hs⟩
    | false =>
      rw [hn rfl] at hq
      rw [hq]
      repeat' first
        | refine st ?_
        | ((with_reducible apply go_i); (conv => whnf))
        | ((with_reducible apply k_pn); (· exact hI))
        | ((with_reducible apply k_pc); (· exact hI))
        | (with_reducible apply k_d <;> intro _)
        | (with_reducible apply k_b <;> intro _)
      all_goals rfl
  | none =>
    have hge := List.getElem?_eq_none_iff.1 hx
    rw [List.take_of_length_le (by rw [List.length_zip]; omega)] at h5
    rw [h5] at hq
    rw [hq]
    repeat' first
      | refine st ?_
      | ((with_reducible apply go_i); (conv => whnf))
      | (with_reducible apply k_d <;> intro _)
      | (with_reducible apply k_b <;> intro _)
    all_goals rfl
theorem L.ExprCompares (a b : Ex) (ha : a.bk ≤ 1048576) (hb : b.bk ≤ 1048576) : Pure Try.prog N.bt_law11_ExprCompares [a.av, b.av] (.d (.bool true)) := by
  have h1 := C.expr_Same a (by omega) b (by omega)
  have h2 := C.r11_Same a (by omega) b (by omega)
  have h3 := C.expr_Same a (by omega) a (by omega)
  have h4 := C.expr_Depth a ha
  have h5 := C.r11_Depth a ha
  rw [smE_refl] at h3
  obtain ⟨q, hq⟩ : ∃ q, q = smE a b := ⟨_, rfl⟩
  rw [← hq] at h1 h2
  obtain ⟨dp, hdp⟩ : ∃ dp, dp = dep a := ⟨_, rfl⟩
  rw [← hdp] at h4 h5
  obtain ⟨op, n, v, name, nl, args⟩ := a
  obtain ⟨op', n', v', name', nl', args'⟩ := b
  rw [Ex.av_mk] at h1 h2 h3 h4 h5 ⊢
  rw [Ex.av_mk] at h1 h2 ⊢
  refine F.bt_law11_ExprCompares.go mixed rfl ?_
  repeat' first
    | refine st ?_
    | ((with_reducible apply go_i); (conv => whnf))
    | ((with_reducible apply k_pn); (· first | exact h1 | exact h2 | exact h3 | exact h4 | exact h5 | exact C.law_awake))
    | ((with_reducible apply k_pc); (· first | exact h1 | exact h2 | exact h3 | exact h4 | exact h5 | exact C.law_awake))
    | (with_reducible apply k_d <;> intro _)
    | (with_reducible apply k_b <;> intro _)
  all_goals simp_all
end Go.Proofs
end
section
/- Ranges of expressions; what is shifted by nothing is the same; All, the program's and the reference's; lists compared. No condition. -/
set_option linter.unusedSimpArgs false
set_option linter.unusedVariables false
set_option maxRecDepth 10000
set_option maxHeartbeats 4000000
namespace Go.Proofs
open Go.Bi

/-- The numbers of an expression are numbers of the program. -/
inductive Ex.Rg : Ex → Prop
  | mk {op n : Int} {v : Vl} {nm : List UInt8} {nl : Bool} {args : List Ex} (h1 : IntKind.i64.min ≤ n) (h2 : n ≤ IntKind.i64.max) (h : ∀ a ∈ args, Ex.Rg a) : Ex.Rg (.mk op n v nm nl args)
theorem wt_exr' {t : TypeId} {ds : List D} (h : WT Try.prog t ds) : (t = T.ex → ∃ e : Ex, ds = e.ds ∧ e.Rg) ∧ (t = T.exs → ∃ nl args, ds = [ng nl (xL args)] ∧ ∀ a ∈ args, Ex.Rg a) := by
  induction h with
  | int h => exact ⟨fun e => (by subst e; rw [Try.underlying26] at h; cases h), fun e => (by subst e; rw [Try.underlying24] at h; cases h)⟩
  | bool h => exact ⟨fun e => (by subst e; rw [Try.underlying26] at h; cases h), fun e => (by subst e; rw [Try.underlying24] at h; cases h)⟩
  | str h => exact ⟨fun e => (by subst e; rw [Try.underlying26] at h; cases h), fun e => (by subst e; rw [Try.underlying24] at h; cases h)⟩
  | nil h => exact ⟨fun e => (by subst e; rw [Try.underlying26] at h; cases h), fun e => ⟨true, [], rfl, by simp⟩⟩
  | @sl t e es h hl hs he ih =>
    refine ⟨fun e => (by subst e; rw [Try.underlying26] at h; cases h), fun e' => ?_⟩
    subst e'
    rw [Try.underlying24] at h
    cases h
    have hq : ∃ l, es = xL l ∧ ∀ a ∈ l, Ex.Rg a := by
      clear he hs hl
      induction es with
      | nil => exact ⟨[], rfl, by simp⟩
      | cons x es ihh =>
        obtain ⟨n, hn, hr⟩ := (ih x (by simp)).1 rfl
        obtain ⟨ks, hk, hrs⟩ := ihh fun y hy => ih y (by simp [hy])
        refine ⟨n :: ks, by rw [hn, hk]; rfl, fun a ha => ?_⟩
        rcases List.mem_cons.1 ha with rfl | ha
        · exact hr
        · exact hrs a ha
    obtain ⟨l, rfl, hlr⟩ := hq
    exact ⟨false, l, rfl, hlr⟩
  | @st t fs ds h hl hf ih =>
    refine ⟨fun e => ?_, fun e => (by subst e; rw [Try.underlying24] at h; cases h)⟩
    subst e
    rw [Try.underlying26] at h
    cases h
    rw [cells_ex] at hl
    match ds, hl with
    | [d0, d1, d2, d3, d4, d5, d6], _ =>
      have h0 := hf _ (List.mem_cons_self ..)
      have h1 := hf _ (List.mem_cons_of_mem _ (List.mem_cons_self ..))
      have h2 := hf _ (List.mem_cons_of_mem _ (List.mem_cons_of_mem _ (List.mem_cons_self ..)))
      have h3 := hf _ (List.mem_cons_of_mem _ (List.mem_cons_of_mem _ (List.mem_cons_of_mem _ (List.mem_cons_self ..))))
      have h4 := (ih _ (List.mem_cons_of_mem _ (List.mem_cons_of_mem _ (List.mem_cons_of_mem _ (List.mem_cons_of_mem _ (List.mem_cons_self ..)))))).2 rfl
      dsimp only at h0 h1 h2 h3 h4
      rw [cells_int] at h0 h1
      rw [cells_val] at h2
      rw [cells_str] at h3
      rw [cells_exs] at h4
      obtain ⟨a, ha⟩ := wt_int h0
      obtain ⟨b, hb, hb1, hb2⟩ := h1.int' Try.underlying3
      obtain ⟨v, hv⟩ := wt_val h2
      obtain ⟨s, hs⟩ := wt_str h3
      obtain ⟨nl, args, hx, hr⟩ := h4
      simp at ha hb hs hx
      refine ⟨.mk a b v s nl args, ?_, .mk hb1 hb2 hr⟩
      rw [Ex.ds_mk, ha, hb, hs, hx]
      have hv : [d2, d3, d4] = [eI v.k, eI v.n, .str v.s] := hv
      simp only [List.cons.injEq, and_true] at hv
      rw [hv.1, hv.2.1, hv.2.2]
theorem wt_exr {ds : List D} (h : WT Try.prog T.ex ds) : ∃ e : Ex, ds = e.ds ∧ e.Rg := (wt_exr' h).1 rfl
theorem wt_exsr {ds : List D} (h : WT Try.prog T.exs ds) : ∃ nl args, ds = [ng nl (xL args)] ∧ ∀ a ∈ args, Ex.Rg a := (wt_exr' h).2 rfl
theorem bulk_ng (nl : Bool) (l : List (List D)) : bulkD (ng nl l) = bulkLL l + 1 := by
  unfold ng
  split
  · rename_i h
    simp only [Bool.and_eq_true, List.isEmpty_iff] at h
    rw [h.2]; rfl
  · rfl
theorem bulk_map (f : Ex → Ex) (l : List Ex) (h : ∀ a ∈ l, (f a).bk ≤ a.bk) : bulkLL (xL (l.map f)) ≤ bulkLL (xL l) := by
  induction l with
  | nil => exact Nat.le_refl _
  | cons a l ih =>
    have h1 := h a (by simp)
    have h2 := ih fun x hx => h x (by simp [hx])
    unfold Ex.bk at h1
    simp only [List.map_cons, xL, bulkLL] at h2 ⊢
    omega
theorem shf_bk (k : Int) : ∀ e : Ex, (shf k e).bk ≤ e.bk := by
  refine Ex.ind fun op n v nm nl args ih => ?_
  have h := bulk_map (shf k) args ih
  rw [shf_mk, Ex.bk, Ex.bk, Ex.ds_mk, Ex.ds_mk]
  simp only [bulkL, bulkD, bulk_ng]
  omega
theorem shf0_same : ∀ e : Ex, e.Rg → smE (shf 0 e) e = true := by
  refine Ex.ind fun op n v nm nl args ih hr => ?_
  cases hr with
  | mk h1 h2 h =>
    have hn : (if op = 2 then w64 (n + 0) else n) = n := by
      split
      · rw [Int.add_zero]
        have e1 : IntKind.i64.min = -9223372036854775808 := rfl
        have e2 : IntKind.i64.max = 9223372036854775807 := rfl
        show IntKind.i64.wrap n = n
        rw [IntKind.wrap_i64]
        omega
      · rfl
    rw [shf_mk, smE_mk, smL_eq, hn]
    simp only [decide_true, Bool.true_and, List.length_map, List.all_eq_true]
    intro p hp
    obtain ⟨i, hi, rfl⟩ := List.mem_iff_getElem.1 hp
    rw [List.getElem_zip, List.getElem_map]
    dsimp only
    have hm := List.getElem_mem (l := args) (n := i) (by rw [List.length_zip, List.length_map] at hi; omega)
    exact ih _ hm (h _ hm)
theorem rg_cj : ∀ e : Ex, e.Rg → ∀ x ∈ cj e, x.Rg := by
  refine Ex.ind fun op n v nm nl args ih he x hx => ?_
  rw [cj_mk] at hx
  split at hx
  · obtain ⟨a, ha, hxa⟩ := List.mem_flatMap.1 hx
    cases he with
    | mk h1 h2 h => exact ih a ha (h a ha) x hxa
  · cases List.mem_singleton.1 hx
    exact he

theorem C.r11_List (l m : List Ex) (hlen : l.length = m.length) (hl : l.length ≤ 1048576) (h : ∀ (i : Nat) (x y : Ex), l[i]? = some x → m[i]? = some y → Pure Try.prog N.bt_ref11_Same [x.av, y.av] (.d (.bool true))) (d d' : D) (hd : SlD d (xL l)) (hd' : SlD d' (xL m)) : Pure Try.prog N.bt_ref11_List [.d d, .d d'] (.d (.bool true)) := by
  have h1 := xL_len l
  have hm := xL_mem l
  have h1' := xL_len m
  have hm' := xL_mem m
  have hg0 := xL_get' (args := l)
  have hg1 := xL_get' (args := m)
  obtain ⟨es, hes⟩ : ∃ es, es = xL l := ⟨_, rfl⟩
  obtain ⟨es', hes'⟩ : ∃ es, es = xL m := ⟨_, rfl⟩
  rw [← hes] at h1 hm hd hg0
  rw [← hes'] at h1' hm' hd' hg1
  have hee : (es.length : Int) = es'.length := by omega
  refine F.bt_ref11_List.go mixed rfl ?_
  repeat' first
    | refine st ?_
    | ((with_reducible apply go_i); (conv => whnf))
    | (with_reducible apply k_d <;> intro _)
    | (with_reducible apply k_b <;> intro _)
  refine x_loop1 mixed Lt.bt_ref11_List_l0 Lk.bt_ref11_List_l0 (fun (i : Nat) => [.d (eI i)]) (fun i => []) (fun i => i ≤ l.length) (fun i => l.length - i) 0 rfl rfl rfl rfl (fun _ _ => ⟨rfl, rfl⟩) rfl (by omega) ?_
  repeat' first
    | refine st ?_
    | ((with_reducible apply go_i); (conv => whnf))
    | (with_reducible apply k_d <;> intro _)
    | (with_reducible apply k_b <;> intro _)
  intro i h4
  cases hx : l[i]? with
  | some x =>
    have hlt := (List.getElem?_eq_some_iff.1 hx).1
    obtain ⟨y, hy⟩ : ∃ y, m[i]? = some y := ⟨_, List.getElem?_eq_getElem (by omega)⟩
    have hS := h i x y hx hy
    obtain ⟨o1, n1, v1, m1, l1, a1⟩ := x
    obtain ⟨o2, n2, v2, m2, l2, a2⟩ := y
    rw [Ex.av_mk, Ex.av_mk] at hS
    have hg := hg0 _ _ _ _ _ _ _ hx
    have hg' : es'[((i : Nat) : Int).toNat]? = _ := hg1 i _ _ _ _ _ _ hy
    have hlt' : (i : Int) < es'.length := by omega
    repeat' first
      | refine st ?_
      | ((with_reducible apply go_i); (conv => whnf))
      | ((with_reducible apply k_pn); (· exact hS))
      | ((with_reducible apply k_pc); (· exact hS))
      | (with_reducible apply k_d <;> intro _)
      | (with_reducible apply k_b <;> intro _)
    exact ⟨i + 1, rfl, rfl, rfl, by omega, by omega⟩
  | none =>
    have hge := List.getElem?_eq_none_iff.1 hx
    repeat' first
      | refine st ?_
      | ((with_reducible apply go_i); (conv => whnf))
      | (with_reducible apply k_d <;> intro _)
      | (with_reducible apply k_b <;> intro _)
    all_goals rfl
end Go.Proofs
end
section
/- All, the program's and the reference's. No condition. -/
set_option linter.unusedSimpArgs false
set_option linter.unusedVariables false
set_option maxRecDepth 10000
set_option maxHeartbeats 4000000
namespace Go.Proofs
open Go.Bi

def allX (nl : Bool) : List Ex → Ex
  | [] => .mk 1 0 (vBool true) [] true []
  | [x] => x
  | l => .mk 5 0 vNull [] nl l
theorem allX_two {nl : Bool} {l : List Ex} (h : 2 ≤ l.length) : allX nl l = .mk 5 0 vNull [] nl l := by
  match l, h with
  | _ :: _ :: _, _ => rfl
theorem C.predicate_constant (v : Vl) : Pure Try.prog N.predicate_constant [eV v] (eX 1 0 v [] .nil) := by
  refine F.predicate_constant.go mixed rfl ?_
  repeat' first
    | refine st ?_
    | ((with_reducible apply go_i); (conv => whnf))
    | (with_reducible apply k_d <;> intro _)
    | (with_reducible apply k_b <;> intro _)
  all_goals rfl
theorem C.predicate_All (l : List Ex) (hb : ∀ x ∈ l, x.bk ≤ 1048576) (hl : l.length ≤ 1048576) (d : D) (hd : SlD d (xL l)) : Pure Try.prog N.predicate_All [.d d] (allX false (l.map (shf 0))).av := by
  have h1 := xL_len l
  have hm := xL_mem l
  by_cases h0 : l.length = 0
  · have hle : l = [] := List.eq_nil_of_length_eq_zero h0
    subst hle
    rw [show (allX false (List.map (shf 0) [])).av = eX 1 0 (vBool true) [] .nil by rw [List.map_nil, allX, Ex.av_mk]; rfl]
    have hB := C.value_Bool true
    have hC := C.predicate_constant (vBool true)
    refine F.predicate_All.go mixed rfl ?_
    obtain ⟨es, hes⟩ : ∃ es, es = xL ([] : List Ex) := ⟨_, rfl⟩
    rw [← hes] at h1 hm hd
    repeat' first
      | refine st ?_
      | ((with_reducible apply go_i); (conv => whnf))
      | ((with_reducible apply k_pn); (· first | exact hB | exact hC))
      | ((with_reducible apply k_pc); (· first | exact hB | exact hC))
      | (with_reducible apply k_d <;> intro _)
      | (with_reducible apply k_b <;> intro _)
    all_goals rfl
  by_cases hone : l.length = 1
  · match l, hone with
    | [x], _ =>
      have hS := C.expr_Shift x (hb x (by simp)) 0
      rw [List.map_cons, List.map_nil, allX]
      have hg := xL_get (l := [x]) (i := 0) rfl
      obtain ⟨z, hz⟩ : ∃ z, z = shf 0 x := ⟨_, rfl⟩
      rw [← hz] at hS ⊢
      obtain ⟨es, hes⟩ : ∃ es, es = xL [x] := ⟨_, rfl⟩
      rw [← hes] at h1 hm hd hg
      have h1 : es.length = 1 := h1
      obtain ⟨o1, n1, v1, m1, l1, a1⟩ := x
      obtain ⟨o2, n2, v2, m2, l2, a2⟩ := z
      rw [Ex.av_mk, Ex.av_mk] at hS
      rw [Ex.av_mk]
      rw [Ex.ds_mk] at hg
      refine F.predicate_All.go mixed rfl ?_
      repeat' first
        | refine st ?_
        | ((with_reducible apply go_i); (conv => whnf))
        | ((with_reducible apply k_pn); (· exact hS))
        | ((with_reducible apply k_pc); (· exact hS))
        | (with_reducible apply k_d <;> intro _)
        | (with_reducible apply k_b <;> intro _)
      all_goals rfl
  rw [allX_two (by rw [List.length_map]; omega), Ex.av_mk]
  obtain ⟨R, hR⟩ : ∃ R, R = xL (l.map (shf 0)) := ⟨_, rfl⟩
  rw [← hR]
  rw [show ng false R = .sl R by unfold ng; simp]
  have hg0 := xL_get' (args := l)
  obtain ⟨es, hes⟩ : ∃ es, es = xL l := ⟨_, rfl⟩
  rw [← hes] at h1 hm hd hg0
  refine F.predicate_All.go mixed rfl ?_
  repeat' first
    | refine st ?_
    | ((with_reducible apply go_i); (conv => whnf))
    | (with_reducible apply k_d <;> intro _)
    | (with_reducible apply k_b <;> intro _)
  refine x_nilc 1 6 7 rfl rfl rfl ?_
  refine x_loop2 mixed Lt.predicate_All_l0 Lk.predicate_All_l0 (fun (i : Nat) (w : List (List D) × Bool) => [.d (eI i)]) (fun i w => [.cells [.d (eI 0), .d (eI 0), .d (eI 0), .d (eI 0), .d (.str []), .d (.str []), .d .nil], .cells [.d (eI 5), .d (eI 0), .d (eI 0), .d (eI 0), .d (.str []), .d (.str []), .arr 2 w.1.length], .arr w.1 7 0 w.2]) (fun i w => i ≤ l.length ∧ w.1 = Mt (shf 0) l i ∧ w.2 = w.1.isEmpty) (fun i _ => l.length - i) 0 ([], true) rfl rfl rfl rfl (fun _ _ _ => ⟨rfl, rfl⟩) rfl ⟨by omega, rfl, rfl⟩ ?_
  repeat' first
    | refine st ?_
    | ((with_reducible apply go_i); (conv => whnf))
    | (with_reducible apply k_d <;> intro _)
    | (with_reducible apply k_b <;> intro _)
  intro i w ⟨h4, h5, h6⟩
  obtain ⟨A, b⟩ := w
  dsimp only at h5 h6 ⊢
  have hAl : A.length = i := by rw [h5]; exact Mt_len _ l i (by omega)
  have hAm : ∀ e ∈ A, e.length = 7 := by rw [h5]; exact Mt_mem _ _ _
  cases hx : l[i]? with
  | some x =>
    have hlt := (List.getElem?_eq_some_iff.1 hx).1
    have hs := Mt_succ (φ := shf 0) hx
    have hS := C.expr_Shift x (hb x (List.mem_of_getElem? hx)) 0
    rw [← h5] at hs
    obtain ⟨z, hz⟩ : ∃ z, z = shf 0 x := ⟨_, rfl⟩
    rw [← hz] at hs hS
    obtain ⟨o1, n1, v1, m1, l1, a1⟩ := x
    obtain ⟨o2, n2, v2, m2, l2, a2⟩ := z
    have hg := hg0 _ _ _ _ _ _ _ hx
    rw [Ex.ds_mk] at hs
    rw [Ex.av_mk, Ex.av_mk] at hS
    repeat' first
      | refine st ?_
      | ((with_reducible apply go_i); (conv => whnf))
      | ((with_reducible apply k_pn); (· exact hS))
      | ((with_reducible apply k_pc); (· exact hS))
      | (with_reducible apply k_d <;> intro _)
      | (with_reducible apply k_b <;> intro _)
    exact ⟨i + 1, (A ++ [xds o2 n2 v2 m2 (ng l2 (xL a2))], false), rfl, rfl, rfl, by omega, by omega, hs, by simp⟩
  | none =>
    have hge := List.getElem?_eq_none_iff.1 hx
    rw [Mt_end hge, ← hR] at h5
    have h7 : b = false := by rw [h6, List.isEmpty_eq_false_iff]; intro h; rw [h] at hAl; simp at hAl; omega
    rw [← h5]
    rw [h7]
    repeat' first
      | refine st ?_
      | ((with_reducible apply go_i); (conv => whnf))
      | (with_reducible apply k_d <;> intro _)
      | (with_reducible apply k_b <;> intro _)
    all_goals rfl
theorem C.r12_All (nl : Bool) (l : List Ex) (hl : l.length ≤ 1048576) : Pure Try.prog N.bt_ref12_All [.d (ng nl (xL l))] (allX nl l).av := by
  have h1 := xL_len l
  have hm := xL_mem l
  have hd : SlD (ng nl (xL l)) (xL l) := sld_ng
  by_cases h0 : l.length = 0
  · have hle : l = [] := List.eq_nil_of_length_eq_zero h0
    subst hle
    rw [show (allX nl []).av = eX 1 0 (vBool true) [] .nil by rw [allX, Ex.av_mk]; rfl]
    have hB := C.r7_Bool true
    refine F.bt_ref12_All.go mixed rfl ?_
    obtain ⟨d, hde⟩ : ∃ d, d = ng nl (xL ([] : List Ex)) := ⟨_, rfl⟩
    obtain ⟨es, hes⟩ : ∃ es, es = xL ([] : List Ex) := ⟨_, rfl⟩
    rw [← hde] at hd ⊢
    rw [← hes] at h1 hm hd
    repeat' first
      | refine st ?_
      | ((with_reducible apply go_i); (conv => whnf))
      | ((with_reducible apply k_pn); (· exact hB))
      | ((with_reducible apply k_pc); (· exact hB))
      | (with_reducible apply k_d <;> intro _)
      | (with_reducible apply k_b <;> intro _)
    all_goals rfl
  by_cases hone : l.length = 1
  · match l, hone with
    | [x], _ =>
      have hg := xL_get (l := [x]) (i := 0) rfl
      obtain ⟨d, hde⟩ : ∃ d, d = ng nl (xL [x]) := ⟨_, rfl⟩
      obtain ⟨es, hes⟩ : ∃ es, es = xL [x] := ⟨_, rfl⟩
      rw [← hde] at hd ⊢
      rw [← hes] at h1 hm hd hg
      have h1 : es.length = 1 := h1
      rw [allX]
      obtain ⟨o1, n1, v1, m1, l1, a1⟩ := x
      rw [Ex.av_mk]
      rw [Ex.ds_mk] at hg
      refine F.bt_ref12_All.go mixed rfl ?_
      repeat' first
        | refine st ?_
        | ((with_reducible apply go_i); (conv => whnf))
        | (with_reducible apply k_d <;> intro _)
        | (with_reducible apply k_b <;> intro _)
      all_goals rfl
  rw [allX_two (by omega), Ex.av_mk]
  obtain ⟨d, hde⟩ : ∃ d, d = ng nl (xL l) := ⟨_, rfl⟩
  obtain ⟨es, hes⟩ : ∃ es, es = xL l := ⟨_, rfl⟩
  rw [← hde] at hd ⊢
  rw [← hes] at h1 hm hd
  refine F.bt_ref12_All.go mixed rfl ?_
  repeat' first
    | refine st ?_
    | ((with_reducible apply go_i); (conv => whnf))
    | (with_reducible apply k_d <;> intro _)
    | (with_reducible apply k_b <;> intro _)
  all_goals first | rfl | (exfalso; omega)
theorem allX_same {nl : Bool} {l : List Ex} (h : ∀ x ∈ l, x.Rg) : smE (allX false (l.map (shf 0))) (allX nl l) = true := by
  match l with
  | [] => exact smE_refl _
  | [x] => exact shf0_same x (h x (by simp))
  | a :: b :: t =>
    rw [allX_two (by simp), allX_two (by simp), smE_mk, smL_eq]
    simp only [decide_true, Bool.true_and, List.length_map, List.all_eq_true]
    intro p hp
    obtain ⟨i, hi, rfl⟩ := List.mem_iff_getElem.1 hp
    rw [List.getElem_zip, List.getElem_map]
    dsimp only
    exact shf0_same _ (h _ (List.getElem_mem _))
theorem allX_bk {nl : Bool} {l : List Ex} (h : bulkLL (xL l) ≤ 1048576) : (allX nl l).bk ≤ 2097152 := by
  match l with
  | [] => exact (by decide +kernel : (allX true []).bk ≤ 2097152)
  | [x] =>
    simp only [allX, Ex.bk]
    simp only [xL, List.map_cons, List.map_nil, bulkLL] at h
    omega
  | a :: b :: t =>
    rw [allX_two (by simp), Ex.bk, Ex.ds_mk]
    simp only [bulkL, bulkD, bulk_ng]
    have e0 : vNull.s.length = 0 := rfl
    simp
    omega
end Go.Proofs
end
section
/- The window: the program's and the reference's. No condition. -/
set_option linter.unusedSimpArgs false
set_option linter.unusedVariables false
set_option maxRecDepth 10000
set_option maxHeartbeats 4000000
namespace Go.Proofs
open Go.Bi

def nar (r : Int × Int) (c : Cd) : Int × Int :=
  if c.op = 7 then (max r.1 c.v.n, min r.2 c.v.n) else if c.op = 9 then (r.1, min r.2 (c.v.n - 1)) else if c.op = 10 then (r.1, min r.2 c.v.n) else if c.op = 11 then (max r.1 (c.v.n + 1), r.2) else (max r.1 c.v.n, r.2)
theorem C.span_meet0 (a b : Int) (c : Cd) (hc : cmpOp c.op = true) (hn : nSm c.v.n) : CallSpec Try.prog N.ppredicate_span_meet [.ptr 0 0, .d (eI c.op), .d (eI c.v.n)] [.cells [.d (eI a), .d (eI b)]] (fun r os => r = .tup [] ∧ os = [.cells [.d (eI (nar (a, b) c).1), .d (eI (nar (a, b) c).2)]]) := by
  obtain ⟨op, col, k, n, s⟩ := c
  dsimp only at hc hn ⊢
  unfold cmpOp at hc
  have hc := of_decide_eq_true hc
  unfold nSm at hn
  obtain ⟨n1, n2⟩ := hn
  refine F.ppredicate_span_meet.goX mixed rfl ?_
  unfold nar
  dsimp only
  rcases hc with rfl | rfl | rfl | rfl | rfl
  · rw [if_pos rfl]
    repeat' first
      | refine st ?_
      | ((with_reducible apply go_i); (conv => whnf))
      | (with_reducible apply k_d <;> intro _)
      | (with_reducible apply k_b <;> intro _)
    all_goals exact ⟨rfl, rfl⟩
  · rw [if_neg (by decide), if_pos rfl]
    repeat' first
      | refine st ?_
      | ((with_reducible apply go_i); (conv => whnf))
      | (with_reducible apply k_d <;> intro _)
      | (with_reducible apply k_b <;> intro _)
    all_goals exact ⟨rfl, rfl⟩
  · rw [if_neg (by decide), if_neg (by decide), if_pos rfl]
    repeat' first
      | refine st ?_
      | ((with_reducible apply go_i); (conv => whnf))
      | (with_reducible apply k_d <;> intro _)
      | (with_reducible apply k_b <;> intro _)
    all_goals exact ⟨rfl, rfl⟩
  · rw [if_neg (by decide), if_neg (by decide), if_neg (by decide), if_pos rfl]
    repeat' first
      | refine st ?_
      | ((with_reducible apply go_i); (conv => whnf))
      | (with_reducible apply k_d <;> intro _)
      | (with_reducible apply k_b <;> intro _)
    all_goals exact ⟨rfl, rfl⟩
  · rw [if_neg (by decide), if_neg (by decide), if_neg (by decide), if_neg (by decide)]
    repeat' first
      | refine st ?_
      | ((with_reducible apply go_i); (conv => whnf))
      | (with_reducible apply k_d <;> intro _)
      | (with_reducible apply k_b <;> intro _)
    all_goals exact ⟨rfl, rfl⟩
theorem C.span_meet (a b : Int) (c : Cd) (hc : cmpOp c.op = true) (hn : nSm c.v.n) {os : List AO} {id : Nat} (ho : os[id]? = some (.cells [.d (eI a), .d (eI b)])) : CallSpec Try.prog N.ppredicate_span_meet [.ptr id 0, .d (eI c.op), .d (eI c.v.n)] os (fun r os' => r = .tup [] ∧ os' = os.set id (.cells [.d (eI (nar (a, b) c).1), .d (eI (nar (a, b) c).2)])) :=
  lift1 (fun id => [.ptr id 0, .d (eI c.op), .d (eI c.v.n)]) (C.span_meet0 a b c hc hn) (fun _ => rfl) (fun _ => rfl) (fun _ => rfl) (fun id n => rfl) (by simp [AV.bnd2, AV.bnd1]) (by simp [AO.bnd, AV.bnd1]) ho
theorem C.span_empty0 (a b : Int) : CallSpec Try.prog N.ppredicate_span_empty [.ptr 0 0] [.cells [.d (eI a), .d (eI b)]] (fun r os => r = .d (.bool (decide (b < a))) ∧ os = [.cells [.d (eI a), .d (eI b)]]) := by
  refine F.ppredicate_span_empty.goX mixed rfl ?_
  repeat' first
    | refine st ?_
    | ((with_reducible apply go_i); (conv => whnf))
    | (with_reducible apply k_d <;> intro _)
    | (with_reducible apply k_b <;> intro _)
  all_goals exact ⟨rfl, rfl⟩
theorem C.span_empty (a b : Int) {os : List AO} {id : Nat} (ho : os[id]? = some (.cells [.d (eI a), .d (eI b)])) : CallSpec Try.prog N.ppredicate_span_empty [.ptr id 0] os (fun r os' => r = .d (.bool (decide (b < a))) ∧ os' = os.set id (.cells [.d (eI a), .d (eI b)])) :=
  lift1 (fun id => [.ptr id 0]) (C.span_empty0 a b) (fun _ => rfl) (fun _ => rfl) (fun _ => rfl) (fun id n => rfl) (by simp [AV.bnd2, AV.bnd1]) (by simp [AO.bnd, AV.bnd1]) ho

def wf (f t : Int) : List Cd → Int × Int → Int × Int → Option ((Int × Int) × (Int × Int))
  | [], a, b => some (a, b)
  | c :: l, a, b => if c.col ≠ f ∧ c.col ≠ t then wf f t l a b else if c.v.k ≠ 1 then none else wf f t l (if c.col = f then nar a c else a) (if c.col = t then nar b c else b)
def bd (col : Int) : List Cd → Int × Int → Option (Int × Int)
  | [], r => some r
  | c :: l, r => if c.col = col then (if c.v.k ≠ 1 then none else bd col l (nar r c)) else bd col l r
theorem wf_bd (f t : Int) : ∀ (l : List Cd) (a b : Int × Int), wf f t l a b = match bd f l a, bd t l b with
    | some a', some b' => some (a', b')
    | _, _ => none
  | [], a, b => rfl
  | c :: l, a, b => by
    unfold wf bd
    by_cases h1 : c.col = f
    · by_cases h2 : c.col = t
      · by_cases h3 : c.v.k = 1
        · simp only [h1, h3, ne_eq, not_true, false_and, if_false, if_true]
          rw [← h1, if_pos h2, if_pos h2]
          exact wf_bd _ t l _ _
        · simp only [h1, h3, ne_eq, not_true, not_false_iff, false_and, if_false, if_true]
      · by_cases h3 : c.v.k = 1
        · simp only [h1, h3, ne_eq, not_true, false_and, if_false, if_true]
          rw [← h1, if_neg h2, if_neg h2]
          exact wf_bd _ t l _ _
        · simp only [h1, h3, ne_eq, not_true, not_false_iff, false_and, if_false, if_true]
    · by_cases h2 : c.col = t
      · by_cases h3 : c.v.k = 1
        · rw [if_neg (fun h => h.2 h2), if_neg (fun h => h h3), if_neg h1, if_neg h1, if_pos h2, if_pos h2, if_neg (fun h => h h3)]
          exact wf_bd f t l _ _
        · rw [if_neg (fun h => h.2 h2), if_pos h3, if_neg h1, if_pos h2, if_pos h3]
          cases bd f l a <;> rfl
      · rw [if_pos ⟨h1, h2⟩, if_neg h1, if_neg h2]
        exact wf_bd f t l _ _
theorem wf_drop {f t : Int} {l : List Cd} {i : Nat} {c : Cd} {a b : Int × Int} (h : l[i]? = some c) : wf f t (l.drop i) a b = if c.col ≠ f ∧ c.col ≠ t then wf f t (l.drop (i + 1)) a b else if c.v.k ≠ 1 then none else wf f t (l.drop (i + 1)) (if c.col = f then nar a c else a) (if c.col = t then nar b c else b) := by
  obtain ⟨hlt, he⟩ := List.getElem?_eq_some_iff.1 h
  rw [List.drop_eq_getElem_cons hlt, he, wf]
def wout : Option ((Int × Int) × (Int × Int)) → (Int × Int) × Bool
  | none => ((0, 0), false)
  | some (a, b) => if a.2 < a.1 ∨ b.2 < b.1 ∨ b.2 ≤ a.1 then ((0, 0), false) else if a.2 < b.1 then ((a.2, b.1), true) else ((a.1, b.2), true)
def win (e : Ex) (f t : Int) : (Int × Int) × Bool := wout (wf f t (conds e) (0, 1099511627775) (1, 1099511627776))
def winA (r : (Int × Int) × Bool) : AV := .tup [.agg [.d (eI r.1.1), .d (eI r.1.2)], .d (.bool r.2)]
theorem C.predicate_Window (e : Ex) (he : e.bk ≤ 1048576) (f t : Int) : Pure Try.prog N.predicate_Window [e.av, .d (eI f), .d (eI t)] (winA (win e f t)) := by
  have hJ := C.predicate_Conditions e he
  have hok : ∀ c ∈ conds e, cmpOp c.op = true ∧ nSm c.v.n := fun c hc => ⟨(conds_ok hc).1, valid_n (conds_ok hc).2.2⟩
  have hcl := conds_len e
  unfold win
  obtain ⟨J, hJe⟩ : ∃ J, J = conds e := ⟨_, rfl⟩
  rw [← hJe] at hJ hok hcl ⊢
  have h1 := eDs_len J
  have hm := eDs_mem J
  have hsl : SlD (nsl (eDs J)) (eDs J) := sld_nsl
  obtain ⟨dj, hdj⟩ : ∃ d, d = nsl (eDs J) := ⟨_, rfl⟩
  rw [← hdj] at hJ hsl
  obtain ⟨q, hq⟩ : ∃ q, q = wf f t J (0, 1099511627775) (1, 1099511627776) := ⟨_, rfl⟩
  rw [← hq]
  obtain ⟨op, n, v, nm, nl, args⟩ := e
  rw [Ex.av_mk] at hJ ⊢
  obtain ⟨da, hda⟩ : ∃ d, d = ng nl (xL args) := ⟨_, rfl⟩
  rw [← hda] at hJ ⊢
  refine F.predicate_Window.go mixed rfl ?_
  repeat' first
    | refine st ?_
    | ((with_reducible apply go_i); (conv => whnf))
    | ((with_reducible apply k_pn); (· exact hJ))
    | ((with_reducible apply k_pc); (· exact hJ))
    | (with_reducible apply k_d <;> intro _)
    | (with_reducible apply k_b <;> intro _)
  refine x_loop3 mixed Lt.predicate_Window_l0 Lk.predicate_Window_l0 (fun (i : Nat) (a b : Int × Int) => [.d (eI i)]) (fun i a b => [.cells [.d (eI op), .d (eI n), .d (eI v.k), .d (eI v.n), .d (.str v.s), .d (.str nm), .d da], .cells [.d (eI 0), .d (eI 0)], .cells [.d (eI a.1), .d (eI a.2)], .cells [.d (eI b.1), .d (eI b.2)]]) (fun i a b => i ≤ J.length ∧ q = wf f t (J.drop i) a b) (fun i _ _ => J.length - i) 0 (0, 1099511627775) (1, 1099511627776) rfl rfl rfl rfl (fun _ _ _ _ => ⟨rfl, rfl⟩) rfl ⟨by omega, hq⟩ ?_
  repeat' first
    | refine st ?_
    | ((with_reducible apply go_i); (conv => whnf))
    | (with_reducible apply k_d <;> intro _)
    | (with_reducible apply k_b <;> intro _)
  intro i a b ⟨h4, h5⟩
  obtain ⟨a1, a2⟩ := a
  obtain ⟨b1, b2⟩ := b
  cases hx : J[i]? with
  | some c =>
    have hlt := (List.getElem?_eq_some_iff.1 hx).1
    have hg := eDs_get hx
    obtain ⟨k1, k2⟩ := hok c (List.mem_of_getElem? hx)
    rw [wf_drop hx] at h5
    have hM1 : ∀ (os : List AO), os[2]? = some (.cells [.d (eI a1), .d (eI a2)]) → CallSpec Try.prog N.ppredicate_span_meet [.ptr 2 0, .d (eI c.op), .d (eI c.v.n)] os (fun r os' => r = .tup [] ∧ os' = os.set 2 (.cells [.d (eI (nar (a1, a2) c).1), .d (eI (nar (a1, a2) c).2)])) := fun os ho => C.span_meet a1 a2 c k1 k2 ho
    have hM2 : ∀ (os : List AO), os[3]? = some (.cells [.d (eI b1), .d (eI b2)]) → CallSpec Try.prog N.ppredicate_span_meet [.ptr 3 0, .d (eI c.op), .d (eI c.v.n)] os (fun r os' => r = .tup [] ∧ os' = os.set 3 (.cells [.d (eI (nar (b1, b2) c).1), .d (eI (nar (b1, b2) c).2)])) := fun os ho => C.span_meet b1 b2 c k1 k2 ho
    obtain ⟨A, hA⟩ : ∃ A, A = nar (a1, a2) c := ⟨_, rfl⟩
    obtain ⟨B, hB⟩ : ∃ B, B = nar (b1, b2) c := ⟨_, rfl⟩
    rw [← hA] at hM1 h5
    rw [← hB] at hM2 h5
    obtain ⟨cop, col, ck, cn, cs⟩ := c
    dsimp only at h5 hM1 hM2
    have r1 : cs = cs := rfl
    by_cases g1 : col = f
    · rw [if_neg (fun h => h.1 g1)] at h5
      by_cases g3 : ck = 1
      · rw [if_neg (fun h => h g3), if_pos g1] at h5
        by_cases g2 : col = t
        · rw [if_pos g2] at h5
          repeat' first
            | refine st ?_
            | ((with_reducible apply go_i); (conv => whnf))
            | ((with_reducible apply k_nc); (· first | exact hM1 _ rfl | exact hM2 _ rfl); (try rintro _ _ ⟨rfl, rfl⟩))
            | ((with_reducible apply k_pr); (· first | exact hM1 _ rfl | exact hM2 _ rfl))
            | ((with_reducible apply k_cs); (· first | exact hM1 _ rfl | exact hM2 _ rfl); (try rintro _ _ ⟨rfl, rfl⟩))
            | ((with_reducible apply k_cal); refine st ?_; (with_reducible apply k_chk); (· exact rfl); refine st ?_; (with_reducible apply k_cs); (· first | exact hM1 _ rfl | exact hM2 _ rfl); (try rintro _ _ ⟨rfl, rfl⟩))
            | (with_reducible apply k_d <;> intro _)
            | (with_reducible apply k_b <;> intro _)
          exact ⟨i + 1, A, B, rfl, rfl, rfl, by omega, by omega, h5⟩
        · rw [if_neg g2] at h5
          repeat' first
            | refine st ?_
            | ((with_reducible apply go_i); (conv => whnf))
            | ((with_reducible apply k_nc); (· first | exact hM1 _ rfl | exact hM2 _ rfl); (try rintro _ _ ⟨rfl, rfl⟩))
            | ((with_reducible apply k_pr); (· first | exact hM1 _ rfl | exact hM2 _ rfl))
            | ((with_reducible apply k_cs); (· first | exact hM1 _ rfl | exact hM2 _ rfl); (try rintro _ _ ⟨rfl, rfl⟩))
            | ((with_reducible apply k_cal); refine st ?_; (with_reducible apply k_chk); (· exact rfl); refine st ?_; (with_reducible apply k_cs); (· first | exact hM1 _ rfl | exact hM2 _ rfl); (try rintro _ _ ⟨rfl, rfl⟩))
            | (with_reducible apply k_d <;> intro _)
            | (with_reducible apply k_b <;> intro _)
          exact ⟨i + 1, A, (b1, b2), rfl, rfl, rfl, by omega, by omega, h5⟩
      · rw [if_pos g3] at h5
        rw [h5]
        repeat' first
          | refine st ?_
          | ((with_reducible apply go_i); (conv => whnf))
          | (with_reducible apply k_d <;> intro _)
          | (with_reducible apply k_b <;> intro _)
        all_goals rfl
    · by_cases g2 : col = t
      · rw [if_neg (fun h => h.2 g2)] at h5
        by_cases g3 : ck = 1
        · rw [if_neg (fun h => h g3), if_neg g1, if_pos g2] at h5
          repeat' first
            | refine st ?_
            | ((with_reducible apply go_i); (conv => whnf))
            | ((with_reducible apply k_nc); (· first | exact hM2 _ rfl); (try rintro _ _ ⟨rfl, rfl⟩))
            | ((with_reducible apply k_pr); (· first | exact hM2 _ rfl))
            | ((with_reducible apply k_cs); (· first | exact hM2 _ rfl); (try rintro _ _ ⟨rfl, rfl⟩))
            | ((with_reducible apply k_cal); refine st ?_; (with_reducible apply k_chk); (· exact rfl); refine st ?_; (with_reducible apply k_cs); (· first | exact hM2 _ rfl); (try rintro _ _ ⟨rfl, rfl⟩))
            | (with_reducible apply k_d <;> intro _)
            | (with_reducible apply k_b <;> intro _)
          exact ⟨i + 1, (a1, a2), B, rfl, rfl, rfl, by omega, by omega, h5⟩
        · rw [if_pos g3] at h5
          rw [h5]
          repeat' first
            | refine st ?_
            | ((with_reducible apply go_i); (conv => whnf))
            | (with_reducible apply k_d <;> intro _)
            | (with_reducible apply k_b <;> intro _)
          all_goals rfl
      · rw [if_pos ⟨g1, g2⟩] at h5
        repeat' first
          | refine st ?_
          | ((with_reducible apply go_i); (conv => whnf))
          | (with_reducible apply k_d <;> intro _)
          | (with_reducible apply k_b <;> intro _)
        exact ⟨i + 1, (a1, a2), (b1, b2), rfl, rfl, rfl, by omega, by omega, h5⟩
  | none =>
    have hge := List.getElem?_eq_none_iff.1 hx
    rw [List.drop_eq_nil_of_le hge] at h5
    have h5 : q = some ((a1, a2), (b1, b2)) := h5
    rw [h5]
    have hE1 : ∀ (os : List AO), os[2]? = some (.cells [.d (eI a1), .d (eI a2)]) → CallSpec Try.prog N.ppredicate_span_empty [.ptr 2 0] os (fun r os' => r = .d (.bool (decide (a2 < a1))) ∧ os' = os.set 2 (.cells [.d (eI a1), .d (eI a2)])) := fun os ho => C.span_empty a1 a2 ho
    have hE2 : ∀ (os : List AO), os[3]? = some (.cells [.d (eI b1), .d (eI b2)]) → CallSpec Try.prog N.ppredicate_span_empty [.ptr 3 0] os (fun r os' => r = .d (.bool (decide (b2 < b1))) ∧ os' = os.set 3 (.cells [.d (eI b1), .d (eI b2)])) := fun os ho => C.span_empty b1 b2 ho
    unfold wout
    dsimp only
    by_cases z : a2 < a1 ∨ b2 < b1 ∨ b2 ≤ a1
    · rw [if_pos z]
      repeat' first
        | refine st ?_
        | ((with_reducible apply go_i); (conv => whnf))
        | ((with_reducible apply k_nc); (· first | exact hE1 _ rfl | exact hE2 _ rfl); (try rintro _ _ ⟨rfl, rfl⟩))
        | ((with_reducible apply k_pr); (· first | exact hE1 _ rfl | exact hE2 _ rfl))
        | ((with_reducible apply k_cs); (· first | exact hE1 _ rfl | exact hE2 _ rfl); (try rintro _ _ ⟨rfl, rfl⟩))
        | ((with_reducible apply k_cal); refine st ?_; (with_reducible apply k_chk); (· exact rfl); refine st ?_; (with_reducible apply k_cs); (· first | exact hE1 _ rfl | exact hE2 _ rfl); (try rintro _ _ ⟨rfl, rfl⟩))
        | (with_reducible apply k_d <;> intro _)
        | (with_reducible apply k_b <;> intro _)
      all_goals first | rfl | (exfalso; omega)
    · rw [if_neg z]
      by_cases z2 : a2 < b1
      · rw [if_pos z2]
        repeat' first
          | refine st ?_
          | ((with_reducible apply go_i); (conv => whnf))
          | ((with_reducible apply k_nc); (· first | exact hE1 _ rfl | exact hE2 _ rfl); (try rintro _ _ ⟨rfl, rfl⟩))
          | ((with_reducible apply k_pr); (· first | exact hE1 _ rfl | exact hE2 _ rfl))
          | ((with_reducible apply k_cs); (· first | exact hE1 _ rfl | exact hE2 _ rfl); (try rintro _ _ ⟨rfl, rfl⟩))
          | ((with_reducible apply k_cal); refine st ?_; (with_reducible apply k_chk); (· exact rfl); refine st ?_; (with_reducible apply k_cs); (· first | exact hE1 _ rfl | exact hE2 _ rfl); (try rintro _ _ ⟨rfl, rfl⟩))
          | (with_reducible apply k_d <;> intro _)
          | (with_reducible apply k_b <;> intro _)
        all_goals first | rfl | (exfalso; omega)
      · rw [if_neg z2]
        repeat' first
          | refine st ?_
          | ((with_reducible apply go_i); (conv => whnf))
          | ((with_reducible apply k_nc); (· first | exact hE1 _ rfl | exact hE2 _ rfl); (try rintro _ _ ⟨rfl, rfl⟩))
          | ((with_reducible apply k_pr); (· first | exact hE1 _ rfl | exact hE2 _ rfl))
          | ((with_reducible apply k_cs); (· first | exact hE1 _ rfl | exact hE2 _ rfl); (try rintro _ _ ⟨rfl, rfl⟩))
          | ((with_reducible apply k_cal); refine st ?_; (with_reducible apply k_chk); (· exact rfl); refine st ?_; (with_reducible apply k_cs); (· first | exact hE1 _ rfl | exact hE2 _ rfl); (try rintro _ _ ⟨rfl, rfl⟩))
          | (with_reducible apply k_d <;> intro _)
          | (with_reducible apply k_b <;> intro _)
        all_goals first | rfl | (exfalso; omega)
end Go.Proofs
end
section
/- The window: the reference's. No condition. -/
set_option linter.unusedSimpArgs false
set_option linter.unusedVariables false
set_option maxRecDepth 10000
set_option maxHeartbeats 4000000
namespace Go.Proofs
open Go.Bi

def onC (col : Int) (l : List Cd) : List Cd := l.filter fun c => decide (c.col = col)
theorem onC_len (col : Int) (l : List Cd) : (onC col l).length ≤ l.length := List.length_filter_le _ _
theorem onC_succ {col : Int} {l : List Cd} {i : Nat} {c : Cd} (h : l[i]? = some c) : onC col (l.take (i + 1)) = if c.col = col then onC col (l.take i) ++ [c] else onC col (l.take i) := by
  unfold onC
  rw [List.take_add_one, h, List.filter_append]
  by_cases hc : c.col = col
  · rw [if_pos hc]; simp [hc]
  · rw [if_neg hc]; simp [hc]
theorem C.r12_on (l : List Cd) (hl : l.length ≤ 1048576) (d : D) (hd : SlD d (eDs l)) (col : Int) : Pure Try.prog N.bt_ref12_on [.d d, .d (eI col)] (.d (.sl (eDs (onC col l)))) := by
  refine F.bt_ref12_on.go mixed rfl ?_
  have h1 := eDs_len l
  have hm := eDs_mem l
  obtain ⟨R, hR⟩ : ∃ R, R = eDs (onC col l) := ⟨_, rfl⟩
  rw [← hR]
  repeat' first
    | refine st ?_
    | ((with_reducible apply go_i); (conv => whnf))
    | (with_reducible apply k_d <;> intro _)
    | (with_reducible apply k_b <;> intro _)
  refine x_loop2 mixed Lt.bt_ref12_on_l0 Lk.bt_ref12_on_l0 (fun (i : Nat) (A : List (List D)) => [.arr 0 A.length, .d (eI i)]) (fun i A => [.arr A 5 0 false]) (fun i A => i ≤ l.length ∧ A = eDs (onC col (l.take i))) (fun i _ => l.length - i) 0 [] rfl rfl rfl rfl (fun _ _ _ => ⟨rfl, rfl⟩) rfl ⟨by omega, rfl⟩ ?_
  repeat' first
    | refine st ?_
    | ((with_reducible apply go_i); (conv => whnf))
    | (with_reducible apply k_d <;> intro _)
    | (with_reducible apply k_b <;> intro _)
  intro i A ⟨h4, h5⟩
  have hAl : A.length ≤ 1048576 := by
    rw [h5, eDs_len]
    have := onC_len col (l.take i)
    rw [List.length_take] at this
    omega
  have hAm : ∀ e ∈ A, e.length = 5 := by rw [h5]; exact eDs_mem _
  cases hx : l[i]? with
  | some x =>
    have hlt := (List.getElem?_eq_some_iff.1 hx).1
    have hg := eDs_get hx
    have hs := onC_succ (col := col) hx
    by_cases hc : x.col = col
    · rw [if_pos hc] at hs
      have r1 : x.v.s = x.v.s := rfl
      repeat' first
        | refine st ?_
        | ((with_reducible apply go_i); (conv => whnf))
        | (with_reducible apply k_d <;> intro _)
        | (with_reducible apply k_b <;> intro _)
      exact ⟨i + 1, A ++ [x.ds], rfl, rfl, rfl, by omega, by omega, by rw [hs, ← eDs_app, h5]⟩
    · rw [if_neg hc] at hs
      repeat' first
        | refine st ?_
        | ((with_reducible apply go_i); (conv => whnf))
        | (with_reducible apply k_d <;> intro _)
        | (with_reducible apply k_b <;> intro _)
      exact ⟨i + 1, A, rfl, rfl, rfl, by omega, by omega, by rw [hs]; exact h5⟩
  | none =>
    have hge := List.getElem?_eq_none_iff.1 hx
    rw [List.take_of_length_le hge, ← hR] at h5
    rw [← h5]
    repeat' first
      | refine st ?_
      | ((with_reducible apply go_i); (conv => whnf))
      | (with_reducible apply k_d <;> intro _)
      | (with_reducible apply k_b <;> intro _)
    all_goals rfl
theorem C.r12_narrowed (r : Int × Int) (c : Cd) (hc : cmpOp c.op = true) (hn : nSm c.v.n) : Pure Try.prog N.bt_ref12_narrowed [.agg [.d (eI r.1), .d (eI r.2)], c.av] (.agg [.d (eI (nar r c).1), .d (eI (nar r c).2)]) := by
  obtain ⟨a, b⟩ := r
  obtain ⟨op, col, k, n, s⟩ := c
  dsimp only at hc hn ⊢
  unfold cmpOp at hc
  have hc := of_decide_eq_true hc
  unfold nSm at hn
  obtain ⟨n1, n2⟩ := hn
  unfold nar
  dsimp only
  show Pure Try.prog N.bt_ref12_narrowed [.agg [.d (eI a), .d (eI b)], .agg [.d (eI op), .d (eI col), .d (eI k), .d (eI n), .d (.str s)]] _
  refine F.bt_ref12_narrowed.go mixed rfl ?_
  rcases hc with rfl | rfl | rfl | rfl | rfl
  · rw [if_pos rfl]
    repeat' first
      | refine st ?_
      | ((with_reducible apply go_i); (conv => whnf))
      | (with_reducible apply k_d <;> intro _)
      | (with_reducible apply k_b <;> intro _)
    all_goals rfl
  · rw [if_neg (by decide), if_pos rfl]
    repeat' first
      | refine st ?_
      | ((with_reducible apply go_i); (conv => whnf))
      | (with_reducible apply k_d <;> intro _)
      | (with_reducible apply k_b <;> intro _)
    all_goals rfl
  · rw [if_neg (by decide), if_neg (by decide), if_pos rfl]
    repeat' first
      | refine st ?_
      | ((with_reducible apply go_i); (conv => whnf))
      | (with_reducible apply k_d <;> intro _)
      | (with_reducible apply k_b <;> intro _)
    all_goals rfl
  · rw [if_neg (by decide), if_neg (by decide), if_neg (by decide), if_pos rfl]
    repeat' first
      | refine st ?_
      | ((with_reducible apply go_i); (conv => whnf))
      | (with_reducible apply k_d <;> intro _)
      | (with_reducible apply k_b <;> intro _)
    all_goals rfl
  · rw [if_neg (by decide), if_neg (by decide), if_neg (by decide), if_neg (by decide)]
    repeat' first
      | refine st ?_
      | ((with_reducible apply go_i); (conv => whnf))
      | (with_reducible apply k_d <;> intro _)
      | (with_reducible apply k_b <;> intro _)
    all_goals rfl
def bdF : List Cd → Int × Int → (Int × Int) × Bool
  | [], r => (r, true)
  | c :: l, r => if c.v.k ≠ 1 then (r, false) else bdF l (nar r c)
theorem bd_bdF (col : Int) : ∀ (l : List Cd) (r : Int × Int), bd col l r = if (bdF (onC col l) r).2 then some (bdF (onC col l) r).1 else none
  | [], r => rfl
  | c :: l, r => by
    unfold bd
    by_cases h : c.col = col
    · rw [if_pos h, show onC col (c :: l) = c :: onC col l by unfold onC; simp [h], bdF]
      by_cases h2 : c.v.k = 1
      · simp only [h2, ne_eq, not_true, if_false]
        exact bd_bdF col l _
      · simp [h2]
    · rw [if_neg h, show onC col (c :: l) = onC col l by unfold onC; simp [h], bd_bdF col l]
theorem bdF_drop {l : List Cd} {i : Nat} {c : Cd} {r : Int × Int} (h : l[i]? = some c) : bdF (l.drop i) r = if c.v.k ≠ 1 then (r, false) else bdF (l.drop (i + 1)) (nar r c) := by
  obtain ⟨hlt, he⟩ := List.getElem?_eq_some_iff.1 h
  rw [List.drop_eq_getElem_cons hlt, he, bdF]
theorem C.r12_bounds (l : List Cd) (hl : l.length ≤ 1048576) (hok : ∀ c ∈ l, cmpOp c.op = true ∧ nSm c.v.n) (d : D) (hd : SlD d (eDs l)) (col lo hi : Int) : Pure Try.prog N.bt_ref12_bounds [.d d, .d (eI col), .d (eI lo), .d (eI hi)] (winA (bdF (onC col l) (lo, hi))) := by
  have hO := C.r12_on l hl d hd col
  have hl2 := onC_len col l
  have hok2 : ∀ c ∈ onC col l, cmpOp c.op = true ∧ nSm c.v.n := fun c hc => hok c (List.mem_filter.1 hc).1
  obtain ⟨J, hJ⟩ : ∃ J, J = onC col l := ⟨_, rfl⟩
  rw [← hJ] at hO hl2 hok2 ⊢
  have h1 := eDs_len J
  have hm := eDs_mem J
  obtain ⟨q, hq⟩ : ∃ q, q = bdF J (lo, hi) := ⟨_, rfl⟩
  rw [← hq]
  refine F.bt_ref12_bounds.go mixed rfl ?_
  repeat' first
    | refine st ?_
    | ((with_reducible apply go_i); (conv => whnf))
    | ((with_reducible apply k_pn); (· exact hO))
    | ((with_reducible apply k_pc); (· exact hO))
    | (with_reducible apply k_d <;> intro _)
    | (with_reducible apply k_b <;> intro _)
  refine x_loop2 mixed Lt.bt_ref12_bounds_l0 Lk.bt_ref12_bounds_l0 (fun (i : Nat) (r : Int × Int) => [.d (eI i)]) (fun i r => [.cells [.d (eI 0), .d (eI 0)], .cells [.d (eI r.1), .d (eI r.2)]]) (fun i r => i ≤ J.length ∧ q = bdF (J.drop i) r) (fun i _ => J.length - i) 0 (lo, hi) rfl rfl rfl rfl (fun _ _ _ => ⟨rfl, rfl⟩) rfl ⟨by omega, hq⟩ ?_
  repeat' first
    | refine st ?_
    | ((with_reducible apply go_i); (conv => whnf))
    | (with_reducible apply k_d <;> intro _)
    | (with_reducible apply k_b <;> intro _)
  intro i r ⟨h4, h5⟩
  obtain ⟨a, b⟩ := r
  cases hx : J[i]? with
  | some c =>
    have hlt := (List.getElem?_eq_some_iff.1 hx).1
    have hg := eDs_get hx
    obtain ⟨k1, k2⟩ := hok2 c (List.mem_of_getElem? hx)
    have hN := C.r12_narrowed (a, b) c k1 k2
    rw [bdF_drop hx] at h5
    obtain ⟨A, hA⟩ : ∃ A, A = nar (a, b) c := ⟨_, rfl⟩
    rw [← hA] at hN h5
    have r1 : c.v.s = c.v.s := rfl
    by_cases g3 : c.v.k = 1
    · rw [if_neg (fun h => h g3)] at h5
      repeat' first
        | refine st ?_
        | ((with_reducible apply go_i); (conv => whnf))
        | ((with_reducible apply k_pn); (· exact hN))
        | ((with_reducible apply k_pc); (· exact hN))
        | (with_reducible apply k_d <;> intro _)
        | (with_reducible apply k_b <;> intro _)
      exact ⟨i + 1, A, rfl, rfl, rfl, by omega, by omega, h5⟩
    · rw [if_pos g3] at h5
      rw [h5]
      repeat' first
        | refine st ?_
        | ((with_reducible apply go_i); (conv => whnf))
        | (with_reducible apply k_d <;> intro _)
        | (with_reducible apply k_b <;> intro _)
      all_goals rfl
  | none =>
    have hge := List.getElem?_eq_none_iff.1 hx
    rw [List.drop_eq_nil_of_le hge] at h5
    have h5 : q = ((a, b), true) := h5
    rw [h5]
    repeat' first
      | refine st ?_
      | ((with_reducible apply go_i); (conv => whnf))
      | (with_reducible apply k_d <;> intro _)
      | (with_reducible apply k_b <;> intro _)
    all_goals rfl
theorem C.r12_Window (e : Ex) (he : e.bk ≤ 1048576) (f t : Int) : Pure Try.prog N.bt_ref12_Window [e.av, .d (eI f), .d (eI t)] (winA (win e f t)) := by
  have hJ := C.r12_Conditions e he
  have hok : ∀ c ∈ conds e, cmpOp c.op = true ∧ nSm c.v.n := fun c hc => ⟨(conds_ok hc).1, valid_n (conds_ok hc).2.2⟩
  have hcl := conds_len e
  unfold win
  rw [wf_bd, bd_bdF, bd_bdF]
  obtain ⟨J, hJe⟩ : ∃ J, J = conds e := ⟨_, rfl⟩
  rw [← hJe] at hJ hok hcl ⊢
  have hB1 := C.r12_bounds J (by omega) hok (.sl (eDs J)) (.inr rfl) f 0 1099511627775
  have hB2 := C.r12_bounds J (by omega) hok (.sl (eDs J)) (.inr rfl) t 1 1099511627776
  obtain ⟨⟨⟨a1, a2⟩, i1⟩, hA⟩ : ∃ A, A = bdF (onC f J) (0, 1099511627775) := ⟨_, rfl⟩
  obtain ⟨⟨⟨b1, b2⟩, i2⟩, hB⟩ : ∃ A, A = bdF (onC t J) (1, 1099511627776) := ⟨_, rfl⟩
  rw [← hA] at hB1 ⊢
  rw [← hB] at hB2 ⊢
  dsimp only [winA] at hB1 hB2 ⊢
  obtain ⟨op, n, v, nm, nl, args⟩ := e
  rw [Ex.av_mk] at hJ ⊢
  obtain ⟨da, hda⟩ : ∃ d, d = ng nl (xL args) := ⟨_, rfl⟩
  rw [← hda] at hJ ⊢
  refine F.bt_ref12_Window.go mixed rfl ?_
  cases i1 with
  | false =>
    repeat' first
      | refine st ?_
      | ((with_reducible apply go_i); (conv => whnf))
      | ((with_reducible apply k_pn); (· first | exact hJ | exact hB1 | exact hB2))
      | ((with_reducible apply k_pc); (· first | exact hJ | exact hB1 | exact hB2))
      | (with_reducible apply k_d <;> intro _)
      | (with_reducible apply k_b <;> intro _)
    all_goals rfl
  | true =>
    cases i2 with
    | false =>
      repeat' first
        | refine st ?_
        | ((with_reducible apply go_i); (conv => whnf))
        | ((with_reducible apply k_pn); (· first | exact hJ | exact hB1 | exact hB2))
        | ((with_reducible apply k_pc); (· first | exact hJ | exact hB1 | exact hB2))
        | (with_reducible apply k_d <;> intro _)
        | (with_reducible apply k_b <;> intro _)
      all_goals rfl
    | true =>
      rw [if_pos rfl, if_pos rfl]
      dsimp only
      unfold wout
      dsimp only
      by_cases z : a2 < a1 ∨ b2 < b1 ∨ b2 ≤ a1
      · rw [if_pos z]
        repeat' first
          | refine st ?_
          | ((with_reducible apply go_i); (conv => whnf))
          | ((with_reducible apply k_pn); (· first | exact hJ | exact hB1 | exact hB2))
          | ((with_reducible apply k_pc); (· first | exact hJ | exact hB1 | exact hB2))
          | (with_reducible apply k_d <;> intro _)
          | (with_reducible apply k_b <;> intro _)
        all_goals first | rfl | (exfalso; omega)
      · rw [if_neg z]
        by_cases z2 : a2 < b1
        · rw [if_pos z2]
          repeat' first
            | refine st ?_
            | ((with_reducible apply go_i); (conv => whnf))
            | ((with_reducible apply k_pn); (· first | exact hJ | exact hB1 | exact hB2))
            | ((with_reducible apply k_pc); (· first | exact hJ | exact hB1 | exact hB2))
            | (with_reducible apply k_d <;> intro _)
            | (with_reducible apply k_b <;> intro _)
          all_goals first | rfl | (exfalso; omega)
        · rw [if_neg z2]
          repeat' first
            | refine st ?_
            | ((with_reducible apply go_i); (conv => whnf))
            | ((with_reducible apply k_pn); (· first | exact hJ | exact hB1 | exact hB2))
            | ((with_reducible apply k_pc); (· first | exact hJ | exact hB1 | exact hB2))
            | (with_reducible apply k_d <;> intro _)
            | (with_reducible apply k_b <;> intro _)
          all_goals first | rfl | (exfalso; omega)
end Go.Proofs
end
section
/- Conditions on texts. No condition. -/
set_option linter.unusedSimpArgs false
set_option linter.unusedVariables false
set_option maxRecDepth 10000
set_option maxHeartbeats 4000000
namespace Go.Proofs
open Go.Bi

theorem cmpB_anti (a b : List UInt8) : cmpB b a = - cmpB a b := by
  obtain ⟨h1, h2, h3, h4⟩ := cmpB_less a b
  obtain ⟨g1, g2, g3, g4⟩ := cmpB_less b a
  have e1 : (cmpB b a < 0) ↔ (0 < cmpB a b) := by rw [← decide_eq_decide, ← g1, ← h2]
  have e2 : (0 < cmpB b a) ↔ (cmpB a b < 0) := by rw [← decide_eq_decide, ← g2, ← h1]
  omega
theorem cmpB_trans : ∀ {a b c : List UInt8}, cmpB a b < 0 → cmpB b c < 0 → cmpB a c < 0
  | [], [], _, h, _ => by simp [cmpB, Lib.compareBytes] at h
  | [], _ :: _, [], _, h => by simp [cmpB, Lib.compareBytes] at h
  | [], _ :: _, _ :: _, _, _ => by simp [cmpB, Lib.compareBytes]
  | _ :: _, [], _, h, _ => by simp [cmpB, Lib.compareBytes] at h
  | _ :: _, _ :: _, [], _, h => by simp [cmpB, Lib.compareBytes] at h
  | x :: a, y :: b, z :: c, h1, h2 => by
    simp only [cmpB, Lib.compareBytes] at h1 h2 ⊢
    have t : ∀ p q : UInt8, p < q ↔ p.toNat < q.toNat := fun p q => UInt8.lt_iff_toNat_lt
    simp only [t] at h1 h2 ⊢
    split at h1
    · split at h2
      · rw [if_pos (by omega)]; omega
      · split at h2
        · omega
        · rw [if_pos (by omega)]; omega
    · split at h1
      · omega
      · split at h2
        · rw [if_pos (by omega)]; omega
        · split at h2
          · omega
          · rw [if_neg (by omega), if_neg (by omega)]
            exact cmpB_trans h1 h2
theorem cmpB_nil (a : List UInt8) : ¬ cmpB a [] < 0 := by cases a <;> simp [cmpB, Lib.compareBytes]
theorem cmpB_eq {a b : List UInt8} : cmpB a b = 0 ↔ a = b := (cmpB_less a b).2.2.1

structure Lm where
  t : List UInt8
  st : Bool
  is : Bool
def tig (a b : Lm) (s : Int) : Lm := if a.is = false ∨ 0 < s * cmpB b.t a.t ∨ (s * cmpB b.t a.t = 0 ∧ b.st = true) then b else a
def loA (op : Int) : Bool := decide (op = 11 ∨ op = 12 ∨ op = 7)
def hiA (op : Int) : Bool := decide (op = 9 ∨ op = 10 ∨ op = 7)
def stA (op : Int) : Bool := decide (op = 11 ∨ op = 9)
def lmC (c : Cd) : Lm := ⟨c.v.s, stA c.op, true⟩
def txS (p : Lm × Lm) (c : Cd) : Lm × Lm := (if loA c.op then tig p.1 (lmC c) 1 else p.1, if hiA c.op then tig p.2 (lmC c) (-1) else p.2)
def lm0 : Lm := ⟨[], false, false⟩
def txO (p : Lm × Lm) : Bool := if p.2.is = true ∧ p.2.st = true ∧ p.2.t = [] then false else if p.1.is = false ∨ p.2.is = false then true else decide (cmpB p.1.t p.2.t < 0 ∨ (cmpB p.1.t p.2.t = 0 ∧ p.1.st = false ∧ p.2.st = false))
def txP (l : List Cd) : Bool := txO (l.foldl txS (lm0, lm0))
def tx2 (a b : Cd) : Bool := decide (b.op = 9 ∧ b.v.s = []) || (decide (loA a.op = true ∧ hiA b.op = true) && decide (0 < cmpB a.v.s b.v.s ∨ (a.v.s = b.v.s ∧ (a.op = 11 ∨ b.op = 9))))
/-- Below the lower limit. -/
def domL (x lo : Lm) : Prop := cmpB x.t lo.t < 0 ∨ (x.t = lo.t ∧ (x.st = true → lo.st = true))
def domH (x hi : Lm) : Prop := cmpB hi.t x.t < 0 ∨ (x.t = hi.t ∧ (x.st = true → hi.st = true))
theorem domL_trans {x y z : Lm} (h1 : domL x y) (h2 : domL y z) : domL x z := by
  rcases h1 with h1 | ⟨h1, h1'⟩
  · rcases h2 with h2 | ⟨h2, h2'⟩
    · exact .inl (cmpB_trans h1 h2)
    · exact .inl (by rw [← h2]; exact h1)
  · rcases h2 with h2 | ⟨h2, h2'⟩
    · exact .inl (by rw [h1]; exact h2)
    · exact .inr ⟨h1.trans h2, fun h => h2' (h1' h)⟩
theorem domH_trans {x y z : Lm} (h1 : domH x y) (h2 : domH y z) : domH x z := by
  rcases h1 with h1 | ⟨h1, h1'⟩
  · rcases h2 with h2 | ⟨h2, h2'⟩
    · exact .inl (cmpB_trans h2 h1)
    · exact .inl (by rw [← h2]; exact h1)
  · rcases h2 with h2 | ⟨h2, h2'⟩
    · exact .inl (by rw [h1]; exact h2)
    · exact .inr ⟨h1.trans h2, fun h => h2' (h1' h)⟩
theorem tigL {a b : Lm} (ha : a.is = true) : (tig a b 1 = b ∧ domL a b) ∨ (tig a b 1 = a ∧ domL b a) := by
  unfold tig
  have hn := cmpB_anti a.t b.t
  have he := cmpB_eq (a := b.t) (b := a.t)
  split
  · rename_i h
    left
    refine ⟨rfl, ?_⟩
    rcases h with h | h | ⟨h, h'⟩
    · rw [ha] at h; cases h
    · exact .inl (by omega)
    · exact .inr ⟨(he.1 (by omega)).symm, fun _ => h'⟩
  · rename_i h
    right
    refine ⟨rfl, ?_⟩
    simp only [not_or, not_and, Bool.not_eq_true] at h
    obtain ⟨_, h1, h2⟩ := h
    rcases (show cmpB b.t a.t < 0 ∨ 0 ≤ cmpB b.t a.t by omega) with g | g
    · exact .inl g
    · exact .inr ⟨he.1 (by omega), fun h => by rw [h2 (by omega)] at h; cases h⟩
theorem tigH {a b : Lm} (ha : a.is = true) : (tig a b (-1) = b ∧ domH a b) ∨ (tig a b (-1) = a ∧ domH b a) := by
  unfold tig
  have hn := cmpB_anti a.t b.t
  have he := cmpB_eq (a := b.t) (b := a.t)
  split
  · rename_i h
    left
    refine ⟨rfl, ?_⟩
    rcases h with h | h | ⟨h, h'⟩
    · rw [ha] at h; cases h
    · exact .inl (by omega)
    · exact .inr ⟨(he.1 (by omega)).symm, fun _ => h'⟩
  · rename_i h
    right
    refine ⟨rfl, ?_⟩
    simp only [not_or, not_and, Bool.not_eq_true] at h
    obtain ⟨_, h1, h2⟩ := h
    rcases (show cmpB a.t b.t < 0 ∨ 0 ≤ cmpB a.t b.t by omega) with g | g
    · exact .inl g
    · exact .inr ⟨he.1 (by omega), fun h => by rw [h2 (by omega)] at h; cases h⟩
def InvL (l : List Cd) (lo : Lm) : Prop := (lo.is = false ∧ ∀ a ∈ l, loA a.op = false) ∨ (lo.is = true ∧ (∃ a ∈ l, loA a.op = true ∧ lmC a = lo) ∧ ∀ a ∈ l, loA a.op = true → domL (lmC a) lo)
def InvH (l : List Cd) (hi : Lm) : Prop := (hi.is = false ∧ ∀ a ∈ l, hiA a.op = false) ∨ (hi.is = true ∧ (∃ a ∈ l, hiA a.op = true ∧ lmC a = hi) ∧ ∀ a ∈ l, hiA a.op = true → domH (lmC a) hi)
theorem InvL_step {l : List Cd} {lo : Lm} {c : Cd} (h : InvL l lo) : InvL (l ++ [c]) (if loA c.op then tig lo (lmC c) 1 else lo) := by
  cases hc : loA c.op with
  | false =>
    rw [if_neg (by simp)]
    rcases h with ⟨h1, h2⟩ | ⟨h1, ⟨a, ha, hb⟩, h3⟩
    · exact .inl ⟨h1, fun a ha => by rcases List.mem_append.1 ha with h | h; exact h2 a h; simp at h; subst h; exact hc⟩
    · exact .inr ⟨h1, ⟨a, by simp [ha], hb⟩, fun a ha hl => by rcases List.mem_append.1 ha with h | h; exact h3 a h hl; simp at h; subst h; rw [hc] at hl; cases hl⟩
  | true =>
    rw [if_pos rfl]
    rcases h with ⟨h1, h2⟩ | ⟨h1, ⟨a, ha, hb⟩, h3⟩
    · have : tig lo (lmC c) 1 = lmC c := by unfold tig; rw [if_pos (.inl h1)]
      rw [this]
      refine .inr ⟨rfl, ⟨c, by simp, hc, rfl⟩, fun a ha hl => ?_⟩
      rcases List.mem_append.1 ha with h | h
      · rw [h2 a h] at hl; cases hl
      · simp at h; subst h; exact .inr ⟨rfl, id⟩
    · rcases tigL (a := lo) (b := lmC c) h1 with ⟨e, hd⟩ | ⟨e, hd⟩
      · rw [e]
        refine .inr ⟨rfl, ⟨c, by simp, hc, rfl⟩, fun a ha hl => ?_⟩
        rcases List.mem_append.1 ha with h | h
        · exact domL_trans (h3 a h hl) hd
        · simp at h; subst h; exact .inr ⟨rfl, id⟩
      · rw [e]
        refine .inr ⟨h1, ⟨a, by simp [ha], hb⟩, fun a ha hl => ?_⟩
        rcases List.mem_append.1 ha with h | h
        · exact h3 a h hl
        · simp at h; subst h; exact hd
theorem InvH_step {l : List Cd} {hi : Lm} {c : Cd} (h : InvH l hi) : InvH (l ++ [c]) (if hiA c.op then tig hi (lmC c) (-1) else hi) := by
  cases hc : hiA c.op with
  | false =>
    rw [if_neg (by simp)]
    rcases h with ⟨h1, h2⟩ | ⟨h1, ⟨a, ha, hb⟩, h3⟩
    · exact .inl ⟨h1, fun a ha => by rcases List.mem_append.1 ha with h | h; exact h2 a h; simp at h; subst h; exact hc⟩
    · exact .inr ⟨h1, ⟨a, by simp [ha], hb⟩, fun a ha hl => by rcases List.mem_append.1 ha with h | h; exact h3 a h hl; simp at h; subst h; rw [hc] at hl; cases hl⟩
  | true =>
    rw [if_pos rfl]
    rcases h with ⟨h1, h2⟩ | ⟨h1, ⟨a, ha, hb⟩, h3⟩
    · have : tig hi (lmC c) (-1) = lmC c := by unfold tig; rw [if_pos (.inl h1)]
      rw [this]
      refine .inr ⟨rfl, ⟨c, by simp, hc, rfl⟩, fun a ha hl => ?_⟩
      rcases List.mem_append.1 ha with h | h
      · rw [h2 a h] at hl; cases hl
      · simp at h; subst h; exact .inr ⟨rfl, id⟩
    · rcases tigH (a := hi) (b := lmC c) h1 with ⟨e, hd⟩ | ⟨e, hd⟩
      · rw [e]
        refine .inr ⟨rfl, ⟨c, by simp, hc, rfl⟩, fun a ha hl => ?_⟩
        rcases List.mem_append.1 ha with h | h
        · exact domH_trans (h3 a h hl) hd
        · simp at h; subst h; exact .inr ⟨rfl, id⟩
      · rw [e]
        refine .inr ⟨h1, ⟨a, by simp [ha], hb⟩, fun a ha hl => ?_⟩
        rcases List.mem_append.1 ha with h | h
        · exact h3 a h hl
        · simp at h; subst h; exact hd
theorem inv_fold : ∀ (l pre : List Cd) (p : Lm × Lm), InvL pre p.1 → InvH pre p.2 → InvL (pre ++ l) (l.foldl txS p).1 ∧ InvH (pre ++ l) (l.foldl txS p).2
  | [], pre, p, h1, h2 => by simpa using ⟨h1, h2⟩
  | c :: l, pre, p, h1, h2 => by
    have := inv_fold l (pre ++ [c]) (txS p c) (InvL_step h1) (InvH_step h2)
    simpa using this
theorem stA_lo {op : Int} (h : loA op = true) : stA op = true ↔ op = 11 := by
  unfold loA at h; unfold stA
  have := of_decide_eq_true h
  rw [decide_eq_true_eq]
  omega
theorem stA_hi {op : Int} (h : hiA op = true) : stA op = true ↔ op = 9 := by
  unfold hiA at h; unfold stA
  have := of_decide_eq_true h
  rw [decide_eq_true_eq]
  omega
theorem tx2_iff (a b : Cd) : tx2 a b = true ↔ (b.op = 9 ∧ b.v.s = []) ∨ (loA a.op = true ∧ hiA b.op = true ∧ (0 < cmpB a.v.s b.v.s ∨ (a.v.s = b.v.s ∧ (a.op = 11 ∨ b.op = 9)))) := by
  unfold tx2
  rw [Bool.or_eq_true, Bool.and_eq_true, decide_eq_true_eq, decide_eq_true_eq, decide_eq_true_eq]
  constructor
  · rintro (h | ⟨⟨h1, h2⟩, h3⟩)
    · exact .inl h
    · exact .inr ⟨h1, h2, h3⟩
  · rintro (h | ⟨h1, h2, h3⟩)
    · exact .inl h
    · exact .inr ⟨⟨h1, h2⟩, h3⟩
theorem hiA9 : hiA 9 = true := by decide
theorem txP_eq (l : List Cd) : txP l = !(l.any fun a => l.any fun b => tx2 a b) := by
  obtain ⟨hL, hH⟩ := inv_fold l [] (lm0, lm0) (.inl ⟨rfl, by simp⟩) (.inl ⟨rfl, by simp⟩)
  rw [List.nil_append] at hL hH
  unfold txP
  obtain ⟨⟨lo, hi⟩, hp⟩ : ∃ p, p = l.foldl txS (lm0, lm0) := ⟨_, rfl⟩
  rw [← hp] at hL hH ⊢
  dsimp only at hL hH
  rw [Bool.eq_iff_iff]
  have hany : ((!(l.any fun a => l.any fun b => tx2 a b)) = true) ↔ ∀ a ∈ l, ∀ b ∈ l, ¬ tx2 a b = true := by simp
  rw [hany]
  have A : hi.is = true ∧ hi.st = true ∧ hi.t = [] ↔ ∃ b ∈ l, b.op = 9 ∧ b.v.s = [] := by
    constructor
    · rintro ⟨h1, h2, h3⟩
      rcases hH with ⟨g, _⟩ | ⟨_, ⟨b, hb, hb1, hb2⟩, _⟩
      · rw [h1] at g; cases g
      · refine ⟨b, hb, ?_, ?_⟩
        · rw [← hb2] at h2; exact (stA_hi hb1).1 h2
        · rw [← hb2] at h3; exact h3
    · rintro ⟨b, hb, hb1, hb2⟩
      have hA : hiA b.op = true := by rw [hb1]; exact hiA9
      rcases hH with ⟨_, g⟩ | ⟨g1, _, g3⟩
      · rw [g b hb] at hA; cases hA
      · rcases g3 b hb hA with g | ⟨g, g'⟩
        · simp only [lmC] at g
          rw [hb2] at g
          exact absurd g (cmpB_nil _)
        · simp only [lmC] at g g'
          rw [hb2] at g
          exact ⟨g1, g' ((stA_hi hA).2 hb1), g.symm⟩
  unfold txO
  dsimp only
  by_cases hA : hi.is = true ∧ hi.st = true ∧ hi.t = []
  · rw [if_pos hA]
    obtain ⟨b, hb, hb'⟩ := A.1 hA
    simp only [Bool.false_eq_true, false_iff]
    intro h
    exact h b hb b hb ((tx2_iff b b).2 (.inl hb'))
  · rw [if_neg hA]
    have hA' : ∀ b ∈ l, ¬ (b.op = 9 ∧ b.v.s = []) := fun b hb h => hA (A.2 ⟨b, hb, h⟩)
    by_cases hN : lo.is = false ∨ hi.is = false
    · rw [if_pos hN]
      simp only [true_iff]
      intro a ha b hb h
      rcases (tx2_iff a b).1 h with h | ⟨h1, h2, _⟩
      · exact hA' b hb h
      · rcases hN with hN | hN
        · rcases hL with ⟨_, g⟩ | ⟨g, _⟩
          · rw [g a ha] at h1; cases h1
          · rw [hN] at g; cases g
        · rcases hH with ⟨_, g⟩ | ⟨g, _⟩
          · rw [g b hb] at h2; cases h2
          · rw [hN] at g; cases g
    · rw [if_neg hN]
      simp only [not_or, Bool.not_eq_false] at hN
      rcases hL with ⟨g, _⟩ | ⟨_, ⟨a, ha, ha1, ha2⟩, ga⟩
      · rw [hN.1] at g; cases g
      rcases hH with ⟨g, _⟩ | ⟨_, ⟨b, hb, hb1, hb2⟩, gb⟩
      · rw [hN.2] at g; cases g
      rw [decide_eq_true_eq]
      have e1 : lo.t = a.v.s := by rw [← ha2]; rfl
      have e2 : hi.t = b.v.s := by rw [← hb2]; rfl
      have e3 : lo.st = stA a.op := by rw [← ha2]; rfl
      have e4 : hi.st = stA b.op := by rw [← hb2]; rfl
      constructor
      · intro h x hx y hy hxy
        rcases (tx2_iff x y).1 hxy with h' | ⟨x1, y1, h'⟩
        · exact hA' y hy h'
        have dx := ga x hx x1
        have dy := gb y hy y1
        unfold domL at dx
        unfold domH at dy
        simp only [lmC] at dx dy
        have ax := cmpB_anti x.v.s lo.t
        have ay := cmpB_anti hi.t y.v.s
        have axy := cmpB_anti x.v.s y.v.s
        -- x ≤ lo ≤ hi ≤ y
        rcases h with h | ⟨h, s1, s2⟩
        · -- strictly below
          have : cmpB x.v.s y.v.s < 0 := by
            have k1 : cmpB x.v.s hi.t < 0 := by
              rcases dx with dx | ⟨dx, _⟩
              · exact cmpB_trans dx h
              · rw [dx]; exact h
            rcases dy with dy | ⟨dy, _⟩
            · exact cmpB_trans k1 dy
            · rw [dy]; exact k1
          rcases h' with h' | ⟨h', _⟩
          · omega
          · have := cmpB_eq.2 h'; omega
        · have h := cmpB_eq.1 h
          rcases dx with dx | ⟨dx, dx'⟩
          · have k1 : cmpB x.v.s y.v.s < 0 := by
              rw [h] at dx
              rcases dy with dy | ⟨dy, _⟩
              · exact cmpB_trans dx dy
              · rw [dy]; exact dx
            rcases h' with h' | ⟨h', _⟩
            · omega
            · have := cmpB_eq.2 h'; omega
          · rcases dy with dy | ⟨dy, dy'⟩
            · have k1 : cmpB x.v.s y.v.s < 0 := by rw [dx, h]; exact dy
              rcases h' with h' | ⟨h', _⟩
              · omega
              · have := cmpB_eq.2 h'; omega
            · have k0 : x.v.s = y.v.s := by rw [dx, dy, h]
              rcases h' with h' | ⟨_, h'⟩
              · have := cmpB_eq.2 k0; omega
              · rcases h' with h' | h'
                · have := dx' ((stA_lo x1).2 h')
                  rw [s1] at this; cases this
                · have := dy' ((stA_hi y1).2 h')
                  rw [s2] at this; cases this
      · intro h
        have hab := h a ha b hb
        rw [tx2_iff] at hab
        rw [e1, e2, e3, e4]
        rcases (cmpB_less a.v.s b.v.s).2.2.2 with g | g | g
        · left; omega
        · right
          refine ⟨g, ?_, ?_⟩
          · rw [Bool.eq_false_iff]
            intro s
            exact hab (.inr ⟨ha1, hb1, .inr ⟨cmpB_eq.1 g, .inl ((stA_lo ha1).1 s)⟩⟩)
          · rw [Bool.eq_false_iff]
            intro s
            exact hab (.inr ⟨ha1, hb1, .inr ⟨cmpB_eq.1 g, .inr ((stA_hi hb1).1 s)⟩⟩)
        · exact absurd (.inr ⟨ha1, hb1, .inl (by omega)⟩) hab
end Go.Proofs
end
