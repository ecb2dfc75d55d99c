/- The reference's Check. No condition. -/
import Derived.Test.YtdhdhhgdeokiiaaE13
set_option linter.unusedSimpArgs false
set_option linter.unusedVariables false
set_option maxRecDepth 10000
set_option maxHeartbeats 4000000
namespace Go.Proofs
open Go.Bi

theorem C.r11_check (ks : List Int) (hks : ks.length ≤ 1048576) (dk : D) (hdk : SlD dk (eIs ks)) : ∀ e : Ex, e.bk ≤ 1048576 → Pure Try.prog N.bt_ref11_check [e.av, .d dk] (.tup [.d (eI (chk ks e).1), .d (eI (chk ks e).2)]) := by
  refine Ex.ind fun op n v name nl args ih hbk => ?_
  obtain ⟨b1, b2, b3, b4⟩ := Ex.bk_bounds hbk
  have ih' : ∀ a ∈ args, Pure Try.prog N.bt_ref11_check [a.av, .d dk] (.tup [.d (eI (chk ks a).1), .d (eI (chk ks a).2)]) := fun a ha => ih a ha (b4 a ha)
  clear ih
  rw [Ex.av_mk, chk_mk]
  refine F.bt_ref11_check.go mixed rfl ?_
  have hlen := xL_len args
  have hF := C.r11_Formed op n v name (ng nl (xL args)) (xL args) sld_ng b2 (by omega)
  rw [hlen] at hF
  have hC := C.r11_Arity op
  have hac := (ary_cnt op args.length (by omega)).2
  have hm := xL_mem args
  have hd : SlD (ng nl (xL args)) (xL args) := sld_ng
  have hget : ∀ (i : Nat) (op' n' : Int) (v' : Vl) (name' : List UInt8) (nl' : Bool) (args' : List Ex), args[i]? = some (.mk op' n' v' name' nl' args') → (xL args)[i]? = some (xds op' n' v' name' (ng nl' (xL args'))) := fun i op' n' v' name' nl' args' h => by
    rw [← Ex.ds_mk]; exact xL_get h
  obtain ⟨d, hde⟩ : ∃ d, d = ng nl (xL args) := ⟨_, rfl⟩
  rw [← hde] at hF hd ⊢
  obtain ⟨es, hes⟩ : ∃ es, es = xL args := ⟨_, rfl⟩
  rw [← hes] at hlen hm hd hget
  obtain ⟨rs, hrs⟩ : ∃ rs, rs = args.map (chk ks) := ⟨_, rfl⟩
  have hrl : rs.length = args.length := by rw [hrs, List.length_map]
  have hrg : ∀ (i : Nat) (x : Ex), args[i]? = some x → rs[i]? = some (chk ks x) := fun i x h => by rw [hrs, List.getElem?_map, h]; rfl
  rw [← hrs]
  cases hk : (cnt op args.length).2 with
  | false =>
    have e : ckF op n v name ks args.length rs = (0, 7) := by unfold ckF; rw [hk, if_pos rfl]
    rw [e]
    rw [hk] at hac
    have hac : (ary op).1 < 0 := by
      have := of_decide_eq_false hac.symm
      omega
    repeat' first
      | refine st ?_
      | ((with_reducible apply go_i); (conv => whnf))
      | ((with_reducible apply k_pn); (· exact hC))
      | ((with_reducible apply k_pc); (· exact hC))
      | (with_reducible apply k_d <;> intro _)
      | (with_reducible apply k_b <;> intro _)
    all_goals rfl
  | true =>
  rw [hk] at hac
  have hac : ¬ (ary op).1 < 0 := of_decide_eq_true hac.symm
  cases hf : fmd op n v name args.length with
  | false =>
    have e : ckF op n v name ks args.length rs = (0, 8) := by unfold ckF; rw [hk, if_neg (by simp), hf, if_pos rfl]
    rw [e]
    rw [hf] at hF
    repeat' first
      | refine st ?_
      | ((with_reducible apply go_i); (conv => whnf))
      | ((with_reducible apply k_pn); (· first | exact hC | exact hF))
      | ((with_reducible apply k_pc); (· first | exact hC | exact hF))
      | (with_reducible apply k_d <;> intro _)
      | (with_reducible apply k_b <;> intro _)
    all_goals rfl
  | true =>
  rw [hf] at hF
  have hkl := eIs_len ks
  have hkm := eIs_mem ks
  have hcnt := cnt_case (fmd_cnt hf)
  obtain ⟨q, hqe⟩ : ∃ q, q = ckF op n v name ks args.length rs := ⟨_, rfl⟩
  rw [← hqe]
  have hq2 : op = 2 → q = if 0 ≤ n ∧ n < ks.length then (ks.getD n.toNat 0, 0) else (0, 13) := fun h2 => by
    rw [hqe]; unfold ckF; rw [hk, if_neg (by simp), hf, if_neg (by simp), if_pos h2]
  have hqo : op ≠ 2 → _ := fun h2 => hqe.trans (ckF_known hf h2)
  clear hqe
  by_cases h2 : op = 2
  · have hq := hq2 h2
    subst h2
    by_cases hn : 0 ≤ n ∧ n < ks.length
    · rw [if_pos hn] at hq
      obtain ⟨n1, n2⟩ := hn
      have hx : ks[n.toNat]? = some (ks.getD n.toNat 0) := by
        rw [List.getD_eq_getElem?_getD, List.getElem?_eq_getElem (by omega)]; rfl
      have n3 : n < (eIs ks).length := by omega
      have n4 : ¬ (eIs ks).length ≤ n := by omega
      have ha0 : args = [] := List.length_eq_zero_iff.1 (by omega)
      subst ha0
      have hR := C.r11_result2 n v name d [] ks (.sl (eIs [])) sld_sl dk hdk _ n1 hx
      have hlen0 : es.length = 0 := hlen
      have hes0 : es = [] := List.length_eq_zero_iff.1 hlen0
      rw [hq]
      obtain ⟨z, hz⟩ : ∃ z, z = ks.getD n.toNat 0 := ⟨_, rfl⟩
      rw [← hz] at hR ⊢
      repeat' first
        | refine st ?_
        | ((with_reducible apply go_i); (conv => whnf))
        | ((with_reducible apply k_pn); (· first | exact hC | exact hF))
        | ((with_reducible apply k_pc); (· first | exact hC | exact hF))
        | (with_reducible apply k_d <;> intro _)
        | (with_reducible apply k_b <;> intro _)
      refine x_loop1 mixed Lt.bt_ref11_check_l0 Lk.bt_ref11_check_l0 (fun (i : Nat) => [.arr 1 0, .d (eI i)]) (fun i => [.cells [.d (eI 2), .d (eI n), .d (eI v.k), .d (eI v.n), .d (.str v.s), .d (.str name), .d d], .arr [] 1 0 false]) (fun i => i = 0) (fun i => 0) 0 rfl rfl rfl rfl (fun _ _ => ⟨rfl, rfl⟩) rfl rfl ?_
      repeat' first
        | refine st ?_
        | ((with_reducible apply go_i); (conv => whnf))
        | (with_reducible apply k_d <;> intro _)
        | (with_reducible apply k_b <;> intro _)
      intro i hi
      subst hi
      have h0 : es.length ≤ ((0 : Nat) : Int) := by omega
      have h00 : ([] : List (List D)).length = 0 := rfl
      have hm0 : ∀ e ∈ ([] : List (List D)), e.length = 1 := by intro e he; cases he
      repeat' first
        | refine st ?_
        | ((with_reducible apply go_i); (conv => whnf))
        | ((with_reducible apply k_pn); (· exact hR))
        | ((with_reducible apply k_pc); (· exact hR))
        | (with_reducible apply k_d <;> intro _)
        | (with_reducible apply k_b <;> intro _)
      all_goals rfl
    · rw [if_neg hn] at hq
      rw [hq]
      by_cases hn0 : n < 0
      · repeat' first
          | refine st ?_
          | ((with_reducible apply go_i); (conv => whnf))
          | ((with_reducible apply k_pn); (· first | exact hC | exact hF))
          | ((with_reducible apply k_pc); (· first | exact hC | exact hF))
          | (with_reducible apply k_d <;> intro _)
          | (with_reducible apply k_b <;> intro _)
        all_goals rfl
      · have n3 : (eIs ks).length ≤ n := by omega
        repeat' first
          | refine st ?_
          | ((with_reducible apply go_i); (conv => whnf))
          | ((with_reducible apply k_pn); (· first | exact hC | exact hF))
          | ((with_reducible apply k_pc); (· first | exact hC | exact hF))
          | (with_reducible apply k_d <;> intro _)
          | (with_reducible apply k_b <;> intro _)
        all_goals rfl
  have hq := hqo h2
  repeat' first
    | refine st ?_
    | ((with_reducible apply go_i); (conv => whnf))
    | ((with_reducible apply k_pn); (· first | exact hC | exact hF))
    | ((with_reducible apply k_pc); (· first | exact hC | exact hF))
    | (with_reducible apply k_d <;> intro _)
    | (with_reducible apply k_b <;> intro _)
  refine x_loop2 mixed Lt.bt_ref11_check_l0 Lk.bt_ref11_check_l0 (fun (i : Nat) (A : List (List D)) => [.arr 1 A.length, .d (eI i)]) (fun i A => [.cells [.d (eI op), .d (eI n), .d (eI v.k), .d (eI v.n), .d (.str v.s), .d (.str name), .d d], .arr A 1 0 false]) (fun i A => i ≤ args.length ∧ A = Kv rs i ∧ fe rs = fe (rs.drop i)) (fun i _ => args.length - i) 0 [] rfl rfl rfl rfl (fun _ _ _ => ⟨rfl, rfl⟩) rfl ⟨by omega, rfl, rfl⟩ ?_
  repeat' first
    | refine st ?_
    | ((with_reducible apply go_i); (conv => whnf))
    | (with_reducible apply k_d <;> intro _)
    | (with_reducible apply k_b <;> intro _)
  intro i A ⟨h4, h5, h7⟩
  have hAl : A.length = i := by rw [h5]; exact Kv_len rs i (by omega)
  have hAm : ∀ e ∈ A, e.length = 1 := by rw [h5]; exact eIs_mem _
  cases hx : args[i]? with
  | some x =>
    have hlt := (List.getElem?_eq_some_iff.1 hx).1
    have hI := ih' x (List.mem_of_getElem? hx)
    have hr := hrg i x hx
    have hs := Kv_succ hr
    rw [fe_drop hr] at h7
    rw [← h5] at hs
    obtain ⟨⟨k, er⟩, hke⟩ : ∃ ke, ke = chk ks x := ⟨_, rfl⟩
    rw [← hke] at hI hs h7
    obtain ⟨op', n', v', name', nl', args'⟩ := x
    rw [Ex.av_mk] at hI
    have hg := hget i _ _ _ _ _ _ hx
    by_cases her : er = 0
    · rw [if_pos her] at h7
      repeat' first
        | refine st ?_
        | ((with_reducible apply go_i); (conv => whnf))
        | ((with_reducible apply k_pn); (· exact hI))
        | ((with_reducible apply k_pc); (· exact hI))
        | (with_reducible apply k_d <;> intro _)
        | (with_reducible apply k_b <;> intro _)
      exact ⟨i + 1, A ++ [[eI k]], rfl, rfl, rfl, by omega, by omega, hs, h7⟩
    · rw [if_neg her] at h7
      dsimp only at h7
      rw [h7, if_neg her] at hq
      rw [hq]
      repeat' first
        | refine st ?_
        | ((with_reducible apply go_i); (conv => whnf))
        | ((with_reducible apply k_pn); (· exact hI))
        | ((with_reducible apply k_pc); (· exact hI))
        | (with_reducible apply k_d <;> intro _)
        | (with_reducible apply k_b <;> intro _)
      all_goals rfl
  | none =>
    have hge := List.getElem?_eq_none_iff.1 hx
    rw [List.drop_eq_nil_of_le (by omega)] at h7
    rw [h7, if_pos (show fe [] = 0 from rfl)] at hq
    rw [Kv_end (by omega)] at h5
    clear hrg
    obtain ⟨l, hl⟩ : ∃ l, l = rs.map Prod.fst := ⟨_, rfl⟩
    have hll : l.length = args.length := by rw [hl, List.length_map, hrl]
    rw [← hl] at h5 hq
    have h22 : op = 22 → 1 ≤ l.length := fun e => by omega
    obtain ⟨⟨kr, br⟩, hre⟩ : ∃ r, r = res op v l := ⟨_, rfl⟩
    have hR := C.r11_result op n v name d l (by omega) (.sl (eIs l)) sld_sl dk h22 (by omega) h2
    rw [← hre, ← h5] at hR
    rw [← hre] at hq
    rw [hq]
    cases br with
    | true =>
      repeat' first
        | refine st ?_
        | ((with_reducible apply go_i); (conv => whnf))
        | ((with_reducible apply k_pn); (· exact hR))
        | ((with_reducible apply k_pc); (· exact hR))
        | (with_reducible apply k_d <;> intro _)
        | (with_reducible apply k_b <;> intro _)
      all_goals rfl
    | false =>
      repeat' first
        | refine st ?_
        | ((with_reducible apply go_i); (conv => whnf))
        | ((with_reducible apply k_pn); (· exact hR))
        | ((with_reducible apply k_pc); (· exact hR))
        | (with_reducible apply k_d <;> intro _)
        | (with_reducible apply k_b <;> intro _)
      all_goals rfl
theorem C.r11_Check (ks : List Int) (hks : ks.length ≤ 1048576) (dk : D) (hdk : SlD dk (eIs ks)) (e : Ex) (he : e.bk ≤ 1048576) : Pure Try.prog N.bt_ref11_Check [e.av, .d dk] (.tup [.d (eI (if 24 < dep e then (0, 26) else chk ks e).1), .d (eI (if 24 < dep e then ((0, 26) : Int × Int) else chk ks e).2)]) := by
  have hD := C.r11_depth e he
  have hC := C.r11_check ks hks dk hdk e he
  obtain ⟨kr, hre⟩ : ∃ r, r = chk ks e := ⟨_, rfl⟩
  obtain ⟨dp, hdp⟩ : ∃ dp, dp = dep e := ⟨_, rfl⟩
  rw [← hre] at hC ⊢
  rw [← hdp] at hD ⊢
  obtain ⟨op, n, v, name, nl, args⟩ := e
  rw [Ex.av_mk] at hC hD ⊢
  refine F.bt_ref11_Check.go mixed rfl ?_
  by_cases h : 24 < dp
  · rw [if_pos h]
    have h2 : (24 : Int) < (dp : Int) := by omega
    repeat' first
      | refine st ?_
      | ((with_reducible apply go_i); (conv => whnf))
      | ((with_reducible apply k_pn); (· first | exact hD | exact hC))
      | ((with_reducible apply k_pc); (· first | exact hD | exact hC))
      | (with_reducible apply k_d <;> intro _)
      | (with_reducible apply k_b <;> intro _)
    all_goals rfl
  · rw [if_neg h]
    have h2 : (dp : Int) ≤ 24 := by omega
    repeat' first
      | refine st ?_
      | ((with_reducible apply go_i); (conv => whnf))
      | ((with_reducible apply k_pn); (· first | exact hD | exact hC))
      | ((with_reducible apply k_pc); (· first | exact hD | exact hC))
      | (with_reducible apply k_d <;> intro _)
      | (with_reducible apply k_b <;> intro _)
    all_goals rfl
end Go.Proofs
