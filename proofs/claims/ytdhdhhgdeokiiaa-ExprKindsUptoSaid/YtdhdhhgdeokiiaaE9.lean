/- The reference's Eval and Truth. No condition. -/
import Derived.Test.YtdhdhhgdeokiiaaE7
set_option linter.unusedSimpArgs false
set_option linter.unusedVariables false
set_option maxRecDepth 10000
set_option maxHeartbeats 4000000
namespace Go.Proofs
open Go.Bi

theorem evOp_1 (op n : Int) (v : Vl) (l row : List Vl) (h : op = 1 ∨ op = 2) (hv : op = 1 → vValid v = true) : evOp op n v l row = vLf op n v row := by
  rcases h with rfl | rfl
  · unfold evOp vLf vOrN
    simp [hv rfl]
  · rfl
theorem C.r11_chosen22 (l : List Vl) (a b c : Vl) (h : l = [a, b, c]) : Pure Try.prog N.bt_ref11_chosen [.d (eI 22), .d (.sl (eVs l))] (eV (if vTruth a = 2 then b else c)) := by
  refine F.bt_ref11_chosen.go mixed rfl ?_
  subst h
  have hm := eVs_mem [a, b, c]
  have hg0 : (eVs [a, b, c])[(0 : Nat)]? = some a.ds := rfl
  have hg1 : (eVs [a, b, c])[(1 : Nat)]? = some b.ds := rfl
  have hg2 : (eVs [a, b, c])[(2 : Nat)]? = some c.ds := rfl
  have hln : (eVs [a, b, c]).length = 3 := rfl
  obtain ⟨es, hes⟩ : ∃ es, es = eVs [a, b, c] := ⟨_, rfl⟩
  rw [← hes] at hm hg0 hg1 hg2 hln ⊢
  by_cases ht : vTruth a = 2
  · rw [if_pos ht]
    repeat' first
      | refine st ?_
      | ((with_reducible apply go_i); (conv => whnf))
      | ((with_reducible apply k_pn); (· exact C.r7_Truth _))
      | ((with_reducible apply k_pc); (· exact C.r7_Truth _))
      | (with_reducible apply k_d <;> intro _)
      | (with_reducible apply k_b <;> intro _)
    all_goals rfl
  · rw [if_neg ht]
    repeat' first
      | refine st ?_
      | ((with_reducible apply go_i); (conv => whnf))
      | ((with_reducible apply k_pn); (· exact C.r7_Truth _))
      | ((with_reducible apply k_pc); (· exact C.r7_Truth _))
      | (with_reducible apply k_d <;> intro _)
      | (with_reducible apply k_b <;> intro _)
    all_goals rfl
theorem coa_drop' {l : List Vl} {i : Nat} {v : Vl} (h : l[i]? = some v) : coa (l.drop i) = if v.k = 0 then coa (l.drop (i + 1)) else v := by
  obtain ⟨hlt, he⟩ := List.getElem?_eq_some_iff.1 h
  rw [List.drop_eq_getElem_cons hlt, he]; rfl
theorem C.r11_chosen23 (l : List Vl) (hl : l.length ≤ 1048576) : Pure Try.prog N.bt_ref11_chosen [.d (eI 23), .d (.sl (eVs l))] (eV (coa l)) := by
  refine F.bt_ref11_chosen.go mixed rfl ?_
  have hm := eVs_mem l
  have hLl := eVs_len l
  repeat' first
    | refine st ?_
    | ((with_reducible apply go_i); (conv => whnf))
    | (with_reducible apply k_d <;> intro _)
    | (with_reducible apply k_b <;> intro _)
  refine x_loop1 mixed Lt.bt_ref11_chosen_l0 Lk.bt_ref11_chosen_l0 (fun (i : Nat) => [.d (eI i)]) (fun i => [.cells [.d (eI 0), .d (eI 0), .d (.str [])]]) (fun i => i ≤ l.length ∧ coa l = coa (l.drop i)) (fun i => l.length - i) 0 rfl rfl rfl rfl (fun _ _ => ⟨rfl, rfl⟩) rfl ⟨by omega, rfl⟩ ?_
  repeat' first
    | refine st ?_
    | ((with_reducible apply go_i); (conv => whnf))
    | (with_reducible apply k_d <;> intro _)
    | (with_reducible apply k_b <;> intro _)
  intro j ⟨h6, h7⟩
  cases hy : l[j]? with
  | some w =>
    have hlt2 := (List.getElem?_eq_some_iff.1 hy).1
    have hg2 := eVs_get hy
    rw [coa_drop' hy] at h7
    by_cases hk : w.k = 0
    · rw [if_pos hk] at h7
      repeat' first
        | refine st ?_
        | ((with_reducible apply go_i); (conv => whnf))
        | (with_reducible apply k_d <;> intro _)
        | (with_reducible apply k_b <;> intro _)
      exact ⟨j + 1, rfl, rfl, rfl, by omega, by omega, h7⟩
    · rw [if_neg hk] at h7
      rw [h7]
      repeat' first
        | refine st ?_
        | ((with_reducible apply go_i); (conv => whnf))
        | (with_reducible apply k_d <;> intro _)
        | (with_reducible apply k_b <;> intro _)
      all_goals rfl
  | none =>
    have hge2 := List.getElem?_eq_none_iff.1 hy
    rw [List.drop_eq_nil_of_le hge2] at h7
    rw [h7]
    repeat' first
      | refine st ?_
      | ((with_reducible apply go_i); (conv => whnf))
      | ((with_reducible apply k_pn); (· exact C.r7_Null))
      | ((with_reducible apply k_pc); (· exact C.r7_Null))
      | (with_reducible apply k_d <;> intro _)
      | (with_reducible apply k_b <;> intro _)
    all_goals rfl
def Av (row : List Vl) (args : List Ex) (i : Nat) : List (List D) := eVs ((args.take i).map (ev row))
theorem Av_len (row : List Vl) (args : List Ex) (i : Nat) (h : i ≤ args.length) : (Av row args i).length = i := by
  unfold Av
  rw [eVs_len, List.length_map, List.length_take]
  omega
theorem Av_succ {row : List Vl} {args : List Ex} {i : Nat} {x : Ex} (h : args[i]? = some x) : Av row args i ++ [(ev row x).ds] = Av row args (i + 1) := by
  unfold Av
  rw [List.take_add_one, h]
  simp [eVs]
theorem Av_end {row : List Vl} {args : List Ex} {i : Nat} (h : args.length ≤ i) : Av row args i = eVs (args.map (ev row)) := by
  unfold Av
  rw [List.take_of_length_le h]
theorem C.r11_Eval (row : List Vl) (hr : row.length ≤ 1048576) (hrs : ∀ v ∈ row, v.s.length ≤ 1048576) (dr : D) (hdr : SlD dr (eVs row)) : ∀ e : Ex, e.bk ≤ 1048576 → Pure Try.prog N.bt_ref11_Eval [e.av, .d dr] (eV (ev row e)) := by
  refine Ex.ind fun op n v name nl args ih hbk => ?_
  obtain ⟨b1, b2, b3, b4⟩ := Ex.bk_bounds hbk
  have ih' : ∀ a ∈ args, Pure Try.prog N.bt_ref11_Eval [a.av, .d dr] (eV (ev row a)) := fun a ha => ih a ha (b4 a ha)
  clear ih
  rw [Ex.av_mk]
  refine F.bt_ref11_Eval.go mixed rfl ?_
  have hlen := xL_len args
  have hF := C.r11_Formed op n v name (ng nl (xL args)) (xL args) sld_ng b2 (by omega)
  rw [hlen] at hF
  have hm := xL_mem args
  have hd : SlD (ng nl (xL args)) (xL args) := sld_ng
  have hget : ∀ (i : Nat) (op' n' : Int) (v' : Vl) (name' : List UInt8) (nl' : Bool) (args' : List Ex), args[i]? = some (.mk op' n' v' name' nl' args') → (xL args)[i]? = some (xds op' n' v' name' (ng nl' (xL args'))) := fun i op' n' v' name' nl' args' h => by
    rw [← Ex.ds_mk]; exact xL_get h
  obtain ⟨d, hde⟩ : ∃ d, d = ng nl (xL args) := ⟨_, rfl⟩
  rw [← hde] at hF hd ⊢
  obtain ⟨es, hes⟩ : ∃ es, es = xL args := ⟨_, rfl⟩
  rw [← hes] at hlen hm hd hget
  rw [ev_mk]
  cases hf : fmd op n v name args.length with
  | false =>
    rw [hf] at hF
    repeat' first
      | refine st ?_
      | ((with_reducible apply go_i); (conv => whnf))
      | ((with_reducible apply k_pn); (· first | exact hF | exact C.r7_Null))
      | ((with_reducible apply k_pc); (· first | exact hF | exact C.r7_Null))
      | (with_reducible apply k_d <;> intro _)
      | (with_reducible apply k_b <;> intro _)
    all_goals rfl
  | true =>
  rw [hf] at hF
  rw [if_pos rfl]
  have hcnt := cnt_case (fmd_cnt hf)
  repeat' first
    | refine st ?_
    | ((with_reducible apply go_i); (conv => whnf))
    | ((with_reducible apply k_pn); (· exact hF))
    | ((with_reducible apply k_pc); (· exact hF))
    | (with_reducible apply k_d <;> intro _)
    | (with_reducible apply k_b <;> intro _)
  refine x_loop2 mixed Lt.bt_ref11_Eval_l0 Lk.bt_ref11_Eval_l0 (fun (i : Nat) (A : List (List D)) => [.arr 2 A.length, .d (eI i)]) (fun i A => [.cells [.d (eI op), .d (eI n), .d (eI v.k), .d (eI v.n), .d (.str v.s), .d (.str name), .d d], .cells [.d (eI 0), .d (eI 0), .d (.str [])], .arr A 3 0 false]) (fun i A => i ≤ args.length ∧ A = Av row args i) (fun i _ => args.length - i) 0 [] rfl rfl rfl rfl (fun _ _ _ => ⟨rfl, rfl⟩) rfl ⟨by omega, rfl⟩ ?_
  repeat' first
    | refine st ?_
    | ((with_reducible apply go_i); (conv => whnf))
    | (with_reducible apply k_d <;> intro _)
    | (with_reducible apply k_b <;> intro _)
  intro i A ⟨h4, h5⟩
  have hAl : A.length = i := by rw [h5]; exact Av_len row args i h4
  have hAm : ∀ e ∈ A, e.length = 3 := by rw [h5]; exact eVs_mem _
  cases hx : args[i]? with
  | some x =>
    have hlt := (List.getElem?_eq_some_iff.1 hx).1
    have hI := ih' x (List.mem_of_getElem? hx)
    have hset := Av_succ (row := row) hx
    obtain ⟨op', n', v', name', nl', args'⟩ := x
    rw [Ex.av_mk] at hI
    have hg := hget i _ _ _ _ _ _ hx
    rw [← h5] at hset
    repeat' first
      | refine st ?_
      | ((with_reducible apply go_i); (conv => whnf))
      | ((with_reducible apply k_pn); (· exact hI))
      | ((with_reducible apply k_pc); (· exact hI))
      | (with_reducible apply k_d <;> intro _)
      | (with_reducible apply k_b <;> intro _)
    exact ⟨i + 1, _, rfl, rfl, rfl, by omega, by omega, hset⟩
  | none =>
    have hge := List.getElem?_eq_none_iff.1 hx
    rw [Av_end hge] at h5
    clear ih' hget hF
    obtain ⟨l, hl⟩ : ∃ l, l = args.map (ev row) := ⟨_, rfl⟩
    have hll : l.length = args.length := by rw [hl, List.length_map]
    have hs := evs_s row args
    have hn := evs_n row args
    rw [← hl] at h5 hs hn ⊢
    subst h5
    by_cases h12 : op = 1 ∨ op = 2
    · rw [evOp_1 op n v l row h12 (fun e => by subst e; exact fmd_1v hf)]
      have hC := C.r11_leaf op n v name d b2 row hr hrs dr hdr
      rcases h12 with rfl | rfl
      · repeat' first
          | refine st ?_
          | ((with_reducible apply go_i); (conv => whnf))
          | ((with_reducible apply k_pn); (· exact hC))
          | ((with_reducible apply k_pc); (· exact hC))
          | (with_reducible apply k_d <;> intro _)
          | (with_reducible apply k_b <;> intro _)
        all_goals rfl
      · repeat' first
          | refine st ?_
          | ((with_reducible apply go_i); (conv => whnf))
          | ((with_reducible apply k_pn); (· exact hC))
          | ((with_reducible apply k_pc); (· exact hC))
          | (with_reducible apply k_d <;> intro _)
          | (with_reducible apply k_b <;> intro _)
        all_goals rfl
    rcases hcnt with ⟨h, k⟩ | ⟨h, k⟩ | ⟨h, k⟩ | ⟨h, k⟩ | ⟨h, k⟩ | ⟨h, k⟩ | ⟨h, k⟩
    · exact absurd h h12
    · obtain ⟨a, rfl⟩ : ∃ a, l = [a] := by
        match l, hll.trans k with
        | [a], _ => exact ⟨a, rfl⟩
      have g0 : (eVs [a])[(0 : Nat)]? = some a.ds := rfl
      rcases h with rfl | rfl | rfl | rfl
      · repeat' first
          | refine st ?_
          | ((with_reducible apply go_i); (conv => whnf))
          | ((with_reducible apply k_pn); (· first | exact C.r7_Truth _ | exact C.r7_Not _ | exact C.r7_Of _))
          | ((with_reducible apply k_pc); (· first | exact C.r7_Truth _ | exact C.r7_Not _ | exact C.r7_Of _))
          | (with_reducible apply k_d <;> intro _)
          | (with_reducible apply k_b <;> intro _)
        all_goals rfl
      · have hA := C.r11_are [a] (by simp) (.sl (eVs [a])) sld_sl 1
        obtain ⟨na1, na2⟩ := hn a (by simp)
        have e : evOp 18 n v [a] row = if isK [a] 1 then vInt (0 - a.n) else vNull := rfl
        rw [e]
        cases hk : isK [a] 1 with
        | true =>
          rw [hk] at hA
          repeat' first
            | refine st ?_
            | ((with_reducible apply go_i); (conv => whnf))
            | ((with_reducible apply k_pn); (· first | exact hA | exact C.r7_Int _))
            | ((with_reducible apply k_pc); (· first | exact hA | exact C.r7_Int _))
            | (with_reducible apply k_d <;> intro _)
            | (with_reducible apply k_b <;> intro _)
          all_goals rfl
        | false =>
          rw [hk] at hA
          repeat' first
            | refine st ?_
            | ((with_reducible apply go_i); (conv => whnf))
            | ((with_reducible apply k_pn); (· first | exact hA | exact C.r7_Null))
            | ((with_reducible apply k_pc); (· first | exact hA | exact C.r7_Null))
            | (with_reducible apply k_d <;> intro _)
            | (with_reducible apply k_b <;> intro _)
          all_goals rfl
      · have hC := C.r11_texts20 a (hs a (by simp))
        repeat' first
          | refine st ?_
          | ((with_reducible apply go_i); (conv => whnf))
          | ((with_reducible apply k_pn); (· exact hC))
          | ((with_reducible apply k_pc); (· exact hC))
          | (with_reducible apply k_d <;> intro _)
          | (with_reducible apply k_b <;> intro _)
        all_goals rfl
      · repeat' first
          | refine st ?_
          | ((with_reducible apply go_i); (conv => whnf))
          | ((with_reducible apply k_pn); (· exact C.r7_Bool _))
          | ((with_reducible apply k_pc); (· exact C.r7_Bool _))
          | (with_reducible apply k_d <;> intro _)
          | (with_reducible apply k_b <;> intro _)
        all_goals rfl
    · obtain ⟨a, b, rfl⟩ : ∃ a b, l = [a, b] := by
        match l, hll.trans k with
        | [a, b], _ => exact ⟨a, b, rfl⟩
      have g0 : (eVs [a, b])[(0 : Nat)]? = some a.ds := rfl
      have g1 : (eVs [a, b])[(1 : Nat)]? = some b.ds := rfl
      by_cases h19 : op = 19
      · subst h19
        have hC := C.r11_texts19 a b (hs a (by simp)) (hs b (by simp))
        repeat' first
          | refine st ?_
          | ((with_reducible apply go_i); (conv => whnf))
          | ((with_reducible apply k_pn); (· exact hC))
          | ((with_reducible apply k_pc); (· exact hC))
          | (with_reducible apply k_d <;> intro _)
          | (with_reducible apply k_b <;> intro _)
        all_goals rfl
      by_cases h13 : 13 ≤ op
      · have hA := C.r11_are [a, b] (by simp) (.sl (eVs [a, b])) sld_sl 1
        have hC := C.r11_computed op a.n b.n (hn a (by simp)) (hn b (by simp))
        have e : evOp op n v [a, b] row = if isK [a, b] 1 then vBin op a.n b.n else vNull := by
          unfold evOp
          rw [if_neg (by omega), if_neg (by omega), if_neg (by omega), if_neg (by omega), if_neg (by omega), if_neg (by omega), if_neg (by omega), if_neg (by omega), if_neg (by omega), if_pos (by omega)]
          unfold vAri vAr
          rw [if_neg (show ¬ op = 18 by omega)]
          rfl
        rw [e]
        clear e
        cases hk : isK [a, b] 1 with
        | true =>
          rw [hk] at hA
          rcases (show op = 13 ∨ op = 14 ∨ op = 15 ∨ op = 16 ∨ op = 17 by omega) with rfl | rfl | rfl | rfl | rfl
          all_goals repeat' first
            | refine st ?_
            | ((with_reducible apply go_i); (conv => whnf))
            | ((with_reducible apply k_pn); (· first | exact hA | exact hC))
            | ((with_reducible apply k_pc); (· first | exact hA | exact hC))
            | (with_reducible apply k_d <;> intro _)
            | (with_reducible apply k_b <;> intro _)
          all_goals rfl
        | false =>
          rw [hk] at hA
          rcases (show op = 13 ∨ op = 14 ∨ op = 15 ∨ op = 16 ∨ op = 17 by omega) with rfl | rfl | rfl | rfl | rfl
          all_goals repeat' first
            | refine st ?_
            | ((with_reducible apply go_i); (conv => whnf))
            | ((with_reducible apply k_pn); (· first | exact hA | exact C.r7_Null))
            | ((with_reducible apply k_pc); (· first | exact hA | exact C.r7_Null))
            | (with_reducible apply k_d <;> intro _)
            | (with_reducible apply k_b <;> intro _)
          all_goals rfl
      · have e : evOp op n v [a, b] row = vOf (vCp op a b) := by
          unfold evOp
          rw [if_neg (by omega), if_neg (by omega), if_neg (by omega), if_neg (by omega), if_neg (by omega), if_neg (by omega), if_neg (by omega), if_neg (by omega), if_neg (by omega), if_neg (by omega)]
          rfl
        rw [e]
        clear e
        rcases (show op = 7 ∨ op = 8 ∨ op = 9 ∨ op = 10 ∨ op = 11 ∨ op = 12 by omega) with rfl | rfl | rfl | rfl | rfl | rfl
        all_goals repeat' first
          | refine st ?_
          | ((with_reducible apply go_i); (conv => whnf))
          | ((with_reducible apply k_pn); (· first | exact C.r11_compared _ _ _ | exact C.r7_Of _))
          | ((with_reducible apply k_pc); (· first | exact C.r11_compared _ _ _ | exact C.r7_Of _))
          | (with_reducible apply k_d <;> intro _)
          | (with_reducible apply k_b <;> intro _)
        all_goals rfl
    · obtain ⟨a, r, rfl⟩ : ∃ a r, l = a :: r := by
        match l, hll with
        | [], h => simp at h; omega
        | a :: r, _ => exact ⟨a, r, rfl⟩
      have hC := C.r11_logic op a r (by simp at hll; omega)
      rcases h with rfl | rfl
      · repeat' first
          | refine st ?_
          | ((with_reducible apply go_i); (conv => whnf))
          | ((with_reducible apply k_pn); (· exact hC))
          | ((with_reducible apply k_pc); (· exact hC))
          | (with_reducible apply k_d <;> intro _)
          | (with_reducible apply k_b <;> intro _)
        all_goals rfl
      · repeat' first
          | refine st ?_
          | ((with_reducible apply go_i); (conv => whnf))
          | ((with_reducible apply k_pn); (· exact hC))
          | ((with_reducible apply k_pc); (· exact hC))
          | (with_reducible apply k_d <;> intro _)
          | (with_reducible apply k_b <;> intro _)
        all_goals rfl
    · obtain ⟨a, b, c, e⟩ : ∃ a b c, l = [a, b, c] := by
        match l, hll.trans k with
        | [a, b, c], _ => exact ⟨a, b, c, rfl⟩
      subst h
      have hC := C.r11_chosen22 l a b c e
      have e2 : evOp 22 n v l row = if vTruth a = 2 then b else c := by rw [e]; rfl
      rw [e2]
      repeat' first
        | refine st ?_
        | ((with_reducible apply go_i); (conv => whnf))
        | ((with_reducible apply k_pn); (· exact hC))
        | ((with_reducible apply k_pc); (· exact hC))
        | (with_reducible apply k_d <;> intro _)
        | (with_reducible apply k_b <;> intro _)
      all_goals rfl
    · obtain ⟨rfl, _⟩ := h
      have hC := C.r11_chosen23 l (by omega)
      have e : evOp 23 n v l row = coa l := rfl
      rw [e]
      repeat' first
        | refine st ?_
        | ((with_reducible apply go_i); (conv => whnf))
        | ((with_reducible apply k_pn); (· exact hC))
        | ((with_reducible apply k_pc); (· exact hC))
        | (with_reducible apply k_d <;> intro _)
        | (with_reducible apply k_b <;> intro _)
      all_goals rfl
    · obtain ⟨a, b, c, e, rfl⟩ : ∃ a b c e, l = [a, b, c, e] := by
        match l, hll.trans k with
        | [a, b, c, e], _ => exact ⟨a, b, c, e, rfl⟩
      subst h
      have hC := C.r11_related n a b c e
      repeat' first
        | refine st ?_
        | ((with_reducible apply go_i); (conv => whnf))
        | ((with_reducible apply k_pn); (· exact hC))
        | ((with_reducible apply k_pc); (· exact hC))
        | (with_reducible apply k_d <;> intro _)
        | (with_reducible apply k_b <;> intro _)
      all_goals rfl
theorem C.r11_Truth (row : List Vl) (hr : row.length ≤ 1048576) (hrs : ∀ v ∈ row, v.s.length ≤ 1048576) (dr : D) (hdr : SlD dr (eVs row)) (e : Ex) (he : e.bk ≤ 1048576) : Pure Try.prog N.bt_ref11_Truth [e.av, .d dr] (.d (eI (vTruth (ev row e)))) := by
  have h := C.r11_Eval row hr hrs dr hdr e he
  obtain ⟨op, n, v, name, nl, args⟩ := e
  rw [Ex.av_mk] at h ⊢
  refine F.bt_ref11_Truth.go mixed rfl ?_
  repeat' first
    | refine st ?_
    | ((with_reducible apply go_i); (conv => whnf))
    | ((with_reducible apply k_pn); (· first | exact h | exact C.r7_Truth _))
    | ((with_reducible apply k_pc); (· first | exact h | exact C.r7_Truth _))
    | (with_reducible apply k_d <;> intro _)
    | (with_reducible apply k_b <;> intro _)
end Go.Proofs
