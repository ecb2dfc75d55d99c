/- Check: the kind of an expression. No condition. -/
import Derived.Test.YtdhdhhgdeokiiaaE11
import Derived.Test.YtdhdhhgdeokiiaaE12
import Derived.Test.YtdhdhhgdeokiiaaE7
set_option linter.unusedSimpArgs false
set_option linter.unusedVariables false
set_option maxRecDepth 10000
set_option maxHeartbeats 4000000
namespace Go.Proofs
open Go.Bi

/-- The first error. -/
def fe : List (Int × Int) → Int
  | [] => 0
  | r :: rs => if r.2 = 0 then fe rs else r.2
def ckF (op n : Int) (v : Vl) (name : List UInt8) (ks : List Int) (k : Nat) (rs : List (Int × Int)) : Int × Int :=
  if (cnt op k).2 = false then (0, 7) else if fmd op n v name k = false then (0, 8)
  else if op = 2 then (if 0 ≤ n ∧ n < ks.length then (ks.getD n.toNat 0, 0) else (0, 13))
  else if fe rs = 0 then (if (res op v (rs.map Prod.fst)).2 then ((res op v (rs.map Prod.fst)).1, 0) else (0, 7)) else (0, fe rs)
mutual
def chk (ks : List Int) : Ex → Int × Int
  | .mk op n v name nl args => ckF op n v name ks args.length (chkL ks args)
def chkL (ks : List Int) : List Ex → List (Int × Int)
  | [] => []
  | e :: es => chk ks e :: chkL ks es
end
theorem chkL_eq (ks : List Int) : ∀ l, chkL ks l = l.map (chk ks)
  | [] => by simp [chkL]
  | e :: es => by simp [chkL, chkL_eq ks es]
theorem chk_mk (ks : List Int) (op n : Int) (v : Vl) (name : List UInt8) (nl : Bool) (args : List Ex) : chk ks (.mk op n v name nl args) = ckF op n v name ks args.length (args.map (chk ks)) := by rw [chk, chkL_eq]
theorem fe_drop {l : List (Int × Int)} {i : Nat} {x : Int × Int} (h : l[i]? = some x) : fe (l.drop i) = if x.2 = 0 then fe (l.drop (i + 1)) else x.2 := by
  obtain ⟨hlt, he⟩ := List.getElem?_eq_some_iff.1 h
  rw [List.drop_eq_getElem_cons hlt, he]; rfl
def Kv (rs : List (Int × Int)) (i : Nat) : List (List D) := eIs ((rs.take i).map Prod.fst)
theorem Kv_len (rs : List (Int × Int)) (i : Nat) (h : i ≤ rs.length) : (Kv rs i).length = i := by
  unfold Kv
  rw [eIs_len, List.length_map, List.length_take]
  omega
theorem Kv_succ {rs : List (Int × Int)} {i : Nat} {x : Int × Int} (h : rs[i]? = some x) : Kv rs i ++ [[eI x.1]] = Kv rs (i + 1) := by
  unfold Kv
  rw [List.take_add_one, h]
  simp [eIs]
theorem Kv_end {rs : List (Int × Int)} {i : Nat} (h : rs.length ≤ i) : Kv rs i = eIs (rs.map Prod.fst) := by
  unfold Kv
  rw [List.take_of_length_le h]
theorem ckF_known {op n : Int} {v : Vl} {name : List UInt8} {ks : List Int} {k : Nat} {rs : List (Int × Int)} (h : fmd op n v name k = true) (h2 : op ≠ 2) : ckF op n v name ks k rs = if fe rs = 0 then (if (res op v (rs.map Prod.fst)).2 then ((res op v (rs.map Prod.fst)).1, 0) else (0, 7)) else (0, fe rs) := by
  have hc := cnt_case (fmd_cnt h)
  unfold ckF
  have : (cnt op k).2 = true := by
    unfold cnt
    repeat' split
    all_goals first | rfl | omega
  rw [this, h, if_neg (by simp), if_neg (by simp), if_neg h2]
theorem C.expr_check (ks : List Int) (hks : ks.length ≤ 1048576) (dk : D) (hdk : SlD dk (eIs ks)) : ∀ e : Ex, e.bk ≤ 1048576 → Pure Try.prog N.expr_check [e.av, .d dk] (.tup [.d (eI (chk ks e).1), .d (eI (chk ks e).2)]) := by
  refine Ex.ind fun op n v name nl args ih hbk => ?_
  obtain ⟨b1, b2, b3, b4⟩ := Ex.bk_bounds hbk
  have ih' : ∀ a ∈ args, Pure Try.prog N.expr_check [a.av, .d dk] (.tup [.d (eI (chk ks a).1), .d (eI (chk ks a).2)]) := fun a ha => ih a ha (b4 a ha)
  clear ih
  rw [Ex.av_mk, chk_mk]
  refine F.expr_check.go mixed rfl ?_
  have hlen := xL_len args
  have hF := C.expr_formed op n v name (ng nl (xL args)) (xL args) sld_ng b2 (by omega)
  rw [hlen] at hF
  have hC := C.expr_counts op args.length
  have hm := xL_mem args
  have hd : SlD (ng nl (xL args)) (xL args) := sld_ng
  have hget : ∀ (i : Nat) (op' n' : Int) (v' : Vl) (name' : List UInt8) (nl' : Bool) (args' : List Ex), args[i]? = some (.mk op' n' v' name' nl' args') → (xL args)[i]? = some (xds op' n' v' name' (ng nl' (xL args'))) := fun i op' n' v' name' nl' args' h => by
    rw [← Ex.ds_mk]; exact xL_get h
  obtain ⟨d, hde⟩ : ∃ d, d = ng nl (xL args) := ⟨_, rfl⟩
  rw [← hde] at hF hd ⊢
  obtain ⟨es, hes⟩ : ∃ es, es = xL args := ⟨_, rfl⟩
  rw [← hes] at hlen hm hd hget
  rw [← hlen] at hC
  obtain ⟨rs, hrs⟩ : ∃ rs, rs = args.map (chk ks) := ⟨_, rfl⟩
  have hrl : rs.length = args.length := by rw [hrs, List.length_map]
  have hrg : ∀ (i : Nat) (x : Ex), args[i]? = some x → rs[i]? = some (chk ks x) := fun i x h => by rw [hrs, List.getElem?_map, h]; rfl
  rw [← hrs]
  cases hk : (cnt op args.length).2 with
  | false =>
    have e : ckF op n v name ks args.length rs = (0, 7) := by unfold ckF; rw [hk, if_pos rfl]
    rw [e]
    rw [hlen, hk, ← hlen] at hC
    repeat' first
      | refine st ?_
      | ((with_reducible apply go_i); (conv => whnf))
      | ((with_reducible apply k_pn); (· exact hC))
      | ((with_reducible apply k_pc); (· exact hC))
      | (with_reducible apply k_d <;> intro _)
      | (with_reducible apply k_b <;> intro _)
    all_goals rfl
  | true =>
  rw [hlen, hk, ← hlen] at hC
  cases hf : fmd op n v name args.length with
  | false =>
    have e : ckF op n v name ks args.length rs = (0, 8) := by unfold ckF; rw [hk, if_neg (by simp), hf, if_pos rfl]
    rw [e]
    rw [hf] at hF
    repeat' first
      | refine st ?_
      | ((with_reducible apply go_i); (conv => whnf))
      | ((with_reducible apply k_pn); (· first | exact hC | exact hF))
      | ((with_reducible apply k_pc); (· first | exact hC | exact hF))
      | (with_reducible apply k_d <;> intro _)
      | (with_reducible apply k_b <;> intro _)
    all_goals rfl
  | true =>
  rw [hf] at hF
  have hkl := eIs_len ks
  have hkm := eIs_mem ks
  by_cases h2 : op = 2
  · subst h2
    by_cases hn : 0 ≤ n ∧ n < ks.length
    · have e : ckF 2 n v name ks args.length rs = (ks.getD n.toNat 0, 0) := by unfold ckF; rw [hk, if_neg (by simp), hf, if_neg (by simp), if_pos rfl, if_pos hn]
      rw [e]
      obtain ⟨n1, n2⟩ := hn
      have hx : ks[n.toNat]? = some (ks.getD n.toNat 0) := by
        rw [List.getD_eq_getElem?_getD, List.getElem?_eq_getElem (by omega)]; rfl
      have hg := eIs_get hx
      have n3 : n < (eIs ks).length := by omega
      repeat' first
        | refine st ?_
        | ((with_reducible apply go_i); (conv => whnf))
        | ((with_reducible apply k_pn); (· first | exact hC | exact hF))
        | ((with_reducible apply k_pc); (· first | exact hC | exact hF))
        | (with_reducible apply k_d <;> intro _)
        | (with_reducible apply k_b <;> intro _)
      all_goals rfl
    · have e : ckF 2 n v name ks args.length rs = (0, 13) := by unfold ckF; rw [hk, if_neg (by simp), hf, if_neg (by simp), if_pos rfl, if_neg hn]
      rw [e]
      by_cases hn0 : n < 0
      · repeat' first
          | refine st ?_
          | ((with_reducible apply go_i); (conv => whnf))
          | ((with_reducible apply k_pn); (· first | exact hC | exact hF))
          | ((with_reducible apply k_pc); (· first | exact hC | exact hF))
          | (with_reducible apply k_d <;> intro _)
          | (with_reducible apply k_b <;> intro _)
        all_goals rfl
      · have n3 : (eIs ks).length ≤ n := by omega
        repeat' first
          | refine st ?_
          | ((with_reducible apply go_i); (conv => whnf))
          | ((with_reducible apply k_pn); (· first | exact hC | exact hF))
          | ((with_reducible apply k_pc); (· first | exact hC | exact hF))
          | (with_reducible apply k_d <;> intro _)
          | (with_reducible apply k_b <;> intro _)
        all_goals rfl
  have hq := ckF_known (ks := ks) (rs := rs) hf h2
  obtain ⟨q, hqe⟩ : ∃ q, q = ckF op n v name ks args.length rs := ⟨_, rfl⟩
  rw [← hqe] at hq ⊢
  have hcnt := cnt_case (fmd_cnt hf)
  repeat' first
    | refine st ?_
    | ((with_reducible apply go_i); (conv => whnf))
    | ((with_reducible apply k_pn); (· first | exact hC | exact hF))
    | ((with_reducible apply k_pc); (· first | exact hC | exact hF))
    | (with_reducible apply k_d <;> intro _)
    | (with_reducible apply k_b <;> intro _)
  refine x_nil 8 1 rfl rfl ?_
  repeat' first
    | refine st ?_
    | ((with_reducible apply go_i); (conv => whnf))
    | (with_reducible apply k_d <;> intro _)
    | (with_reducible apply k_b <;> intro _)
  refine x_loop2 mixed Lt.expr_check_l0 Lk.expr_check_l0 (fun (i : Nat) (w : List (List D) × Bool) => [.arr 1 w.1.length, .d (eI i)]) (fun i w => [.cells [.d (eI op), .d (eI n), .d (eI v.k), .d (eI v.n), .d (.str v.s), .d (.str name), .d d], .arr w.1 1 0 w.2]) (fun i w => i ≤ args.length ∧ w.1 = Kv rs i ∧ w.2 = w.1.isEmpty ∧ fe rs = fe (rs.drop i)) (fun i _ => args.length - i) 0 ([], true) rfl rfl rfl rfl (fun _ _ _ => ⟨rfl, rfl⟩) rfl ⟨by omega, rfl, rfl, rfl⟩ ?_
  repeat' first
    | refine st ?_
    | ((with_reducible apply go_i); (conv => whnf))
    | (with_reducible apply k_d <;> intro _)
    | (with_reducible apply k_b <;> intro _)
  intro i w ⟨h4, h5, h6, h7⟩
  obtain ⟨A, b⟩ := w
  dsimp only at h5 h6 h7 ⊢
  have hAl : A.length = i := by rw [h5]; exact Kv_len rs i (by omega)
  have hAm : ∀ e ∈ A, e.length = 1 := by rw [h5]; exact eIs_mem _
  cases hx : args[i]? with
  | some x =>
    have hlt := (List.getElem?_eq_some_iff.1 hx).1
    have hI := ih' x (List.mem_of_getElem? hx)
    have hr := hrg i x hx
    have hs := Kv_succ hr
    rw [fe_drop hr] at h7
    rw [← h5] at hs
    obtain ⟨⟨k, er⟩, hke⟩ : ∃ ke, ke = chk ks x := ⟨_, rfl⟩
    rw [← hke] at hI hs h7
    obtain ⟨op', n', v', name', nl', args'⟩ := x
    rw [Ex.av_mk] at hI
    have hg := hget i _ _ _ _ _ _ hx
    by_cases her : er = 0
    · rw [if_pos her] at h7
      repeat' first
        | refine st ?_
        | ((with_reducible apply go_i); (conv => whnf))
        | ((with_reducible apply k_pn); (· exact hI))
        | ((with_reducible apply k_pc); (· exact hI))
        | (with_reducible apply k_d <;> intro _)
        | (with_reducible apply k_b <;> intro _)
      exact ⟨i + 1, (A ++ [[eI k]], false), rfl, rfl, rfl, by omega, by omega, hs, by simp, h7⟩
    · rw [if_neg her] at h7
      dsimp only at h7
      rw [h7, if_neg her] at hq
      rw [hq]
      repeat' first
        | refine st ?_
        | ((with_reducible apply go_i); (conv => whnf))
        | ((with_reducible apply k_pn); (· exact hI))
        | ((with_reducible apply k_pc); (· exact hI))
        | (with_reducible apply k_d <;> intro _)
        | (with_reducible apply k_b <;> intro _)
      all_goals rfl
  | none =>
    have hge := List.getElem?_eq_none_iff.1 hx
    rw [List.drop_eq_nil_of_le (by omega)] at h7
    rw [h7, if_pos (show fe [] = 0 from rfl)] at hq
    rw [Kv_end (by omega)] at h5
    clear hrg
    obtain ⟨l, hl⟩ : ∃ l, l = rs.map Prod.fst := ⟨_, rfl⟩
    have hll : l.length = args.length := by rw [hl, List.length_map, hrl]
    rw [← hl] at h5 hq
    have h22 : op = 22 → 1 ≤ l.length := fun e => by omega
    obtain ⟨⟨kr, br⟩, hre⟩ : ∃ r, r = res op v l := ⟨_, rfl⟩
    cases b with
    | true =>
      have hA0 : A = [] := by simpa using h6
      subst hA0
      have hR := C.expr_result op n v name d l (by omega) .nil (.inl ⟨rfl, h5.symm⟩) h22
      rw [← hre] at hR hq
      rw [hq]
      cases br with
      | true =>
        repeat' first
          | refine st ?_
          | ((with_reducible apply go_i); (conv => whnf))
          | ((with_reducible apply k_pn); (· exact hR))
          | ((with_reducible apply k_pc); (· exact hR))
          | (with_reducible apply k_d <;> intro _)
          | (with_reducible apply k_b <;> intro _)
        all_goals rfl
      | false =>
        repeat' first
          | refine st ?_
          | ((with_reducible apply go_i); (conv => whnf))
          | ((with_reducible apply k_pn); (· exact hR))
          | ((with_reducible apply k_pc); (· exact hR))
          | (with_reducible apply k_d <;> intro _)
          | (with_reducible apply k_b <;> intro _)
        all_goals rfl
    | false =>
      have hR := C.expr_result op n v name d l (by omega) (.sl (eIs l)) sld_sl h22
      rw [← hre, ← h5] at hR
      rw [← hre] at hq
      rw [hq]
      cases br with
      | true =>
        repeat' first
          | refine st ?_
          | ((with_reducible apply go_i); (conv => whnf))
          | ((with_reducible apply k_pn); (· exact hR))
          | ((with_reducible apply k_pc); (· exact hR))
          | (with_reducible apply k_d <;> intro _)
          | (with_reducible apply k_b <;> intro _)
        all_goals rfl
      | false =>
        repeat' first
          | refine st ?_
          | ((with_reducible apply go_i); (conv => whnf))
          | ((with_reducible apply k_pn); (· exact hR))
          | ((with_reducible apply k_pc); (· exact hR))
          | (with_reducible apply k_d <;> intro _)
          | (with_reducible apply k_b <;> intro _)
        all_goals rfl
theorem C.expr_Check (ks : List Int) (hks : ks.length ≤ 1048576) (dk : D) (hdk : SlD dk (eIs ks)) (e : Ex) (he : e.bk ≤ 1048576) : Pure Try.prog N.expr_Check [e.av, .d dk] (.tup [.d (eI (if 24 < dep e then (0, 26) else chk ks e).1), .d (eI (if 24 < dep e then ((0, 26) : Int × Int) else chk ks e).2)]) := by
  have hD := C.expr_Depth e he
  have hC := C.expr_check ks hks dk hdk e he
  obtain ⟨kr, hre⟩ : ∃ r, r = chk ks e := ⟨_, rfl⟩
  obtain ⟨dp, hdp⟩ : ∃ dp, dp = dep e := ⟨_, rfl⟩
  rw [← hre] at hC ⊢
  rw [← hdp] at hD ⊢
  obtain ⟨op, n, v, name, nl, args⟩ := e
  rw [Ex.av_mk] at hC hD ⊢
  refine F.expr_Check.go mixed rfl ?_
  by_cases h : 24 < dp
  · rw [if_pos h]
    have h2 : (24 : Int) < ((min 25 dp : Nat) : Int) := by omega
    repeat' first
      | refine st ?_
      | ((with_reducible apply go_i); (conv => whnf))
      | ((with_reducible apply k_pn); (· first | exact hD | exact hC))
      | ((with_reducible apply k_pc); (· first | exact hD | exact hC))
      | (with_reducible apply k_d <;> intro _)
      | (with_reducible apply k_b <;> intro _)
    all_goals rfl
  · rw [if_neg h]
    have h2 : ((min 25 dp : Nat) : Int) ≤ 24 := by omega
    repeat' first
      | refine st ?_
      | ((with_reducible apply go_i); (conv => whnf))
      | ((with_reducible apply k_pn); (· first | exact hD | exact hC))
      | ((with_reducible apply k_pc); (· first | exact hD | exact hC))
      | (with_reducible apply k_d <;> intro _)
      | (with_reducible apply k_b <;> intro _)
    all_goals rfl
end Go.Proofs
