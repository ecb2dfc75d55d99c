/- ExprKinds: what is accepted has the kind that Check returns. No condition. -/
import Derived.Test.YtdhdhhgdeokiiaaE17
set_option linter.unusedSimpArgs false
set_option linter.unusedVariables false
set_option maxRecDepth 10000
set_option maxHeartbeats 4000000
namespace Go.Proofs
open Go.Bi

def fitB (v : Vl) (k : Int) : Bool := vValid v && (decide (v.k = 0) || decide (v.k = k))
def fits (row : List Vl) (ks : List Int) : Bool := decide (row.length = ks.length) && (row.zip ks).all fun p => fitB p.1 p.2
theorem all_take_succ2 {α : Type} {p : α → Bool} {l : List α} {i : Nat} {x : α} (h : l[i]? = some x) : (l.take (i + 1)).all p = ((l.take i).all p && p x) := by
  rw [List.take_add_one, h]; simp
theorem all_none2 {α : Type} {p : α → Bool} {l : List α} {i : Nat} {x : α} (h : l[i]? = some x) (hx : p x = false) : l.all p = false := by
  rw [Bool.eq_false_iff]
  intro e
  have := List.all_eq_true.1 e x (List.mem_of_getElem? h)
  rw [hx] at this; cases this
theorem C.r8_Fits (row : List Vl) (ks : List Int) (hr : row.length ≤ 1048576) (hk : ks.length ≤ 1048576) (hrs : ∀ v ∈ row, v.s.length ≤ 1048576) (dr : D) (hdr : SlD dr (eVs row)) (dk : D) (hdk : SlD dk (eIs ks)) : Pure Try.prog N.bt_ref08_Fits [.d dr, .d dk] (.d (.bool (fits row ks))) := by
  refine F.bt_ref08_Fits.go mixed rfl ?_
  have h1 := eVs_len row
  have hm := eVs_mem row
  have h2 := eIs_len ks
  have hm2 := eIs_mem ks
  obtain ⟨q, hq⟩ : ∃ q, q = fits row ks := ⟨_, rfl⟩
  rw [← hq]
  by_cases hl : row.length = ks.length
  rotate_left
  · have : q = false := by rw [hq, fits, decide_eq_false hl]; rfl
    rw [this]
    repeat' first
      | refine st ?_
      | ((with_reducible apply go_i); (conv => whnf))
      | (with_reducible apply k_d <;> intro _)
      | (with_reducible apply k_b <;> intro _)
    all_goals first | rfl | (exfalso; omega)
  unfold fits at hq
  rw [decide_eq_true hl, Bool.true_and] at hq
  have hl2 : (eVs row).length = (eIs ks).length := by omega
  repeat' first
    | refine st ?_
    | ((with_reducible apply go_i); (conv => whnf))
    | (with_reducible apply k_d <;> intro _)
    | (with_reducible apply k_b <;> intro _)
  refine x_loop1 mixed Lt.bt_ref08_Fits_l0 Lk.bt_ref08_Fits_l0 (fun (i : Nat) => [.d (eI i)]) (fun i => []) (fun i => i ≤ row.length ∧ ((row.zip ks).take i).all (fun p => fitB p.1 p.2) = true) (fun i => row.length - i) 0 rfl rfl rfl rfl (fun _ _ => ⟨rfl, rfl⟩) rfl ⟨by omega, rfl⟩ ?_
  repeat' first
    | refine st ?_
    | ((with_reducible apply go_i); (conv => whnf))
    | (with_reducible apply k_d <;> intro _)
    | (with_reducible apply k_b <;> intro _)
  intro i ⟨h4, h5⟩
  cases hx : row[i]? with
  | some v =>
    have hlt := (List.getElem?_eq_some_iff.1 hx).1
    obtain ⟨k, hkx⟩ : ∃ k, ks[i]? = some k := ⟨_, List.getElem?_eq_getElem (by omega)⟩
    have hz : (row.zip ks)[i]? = some (v, k) := List.getElem?_zip_eq_some.2 ⟨hx, hkx⟩
    have hg := eVs_get hx
    have hg2 := eIs_get hkx
    have hV := C.r7_Valid v (Nat.le_trans (hrs v (List.mem_of_getElem? hx)) (by omega))
    have hs := all_take_succ2 (p := fun p => fitB p.1 p.2) hz
    rw [h5, Bool.true_and] at hs
    dsimp only at hs
    cases hv : vValid v with
    | false =>
      rw [hv] at hV
      have hb : fitB v k = false := by rw [fitB, hv]; rfl
      have hf := all_none2 (p := fun p => fitB p.1 p.2) hz hb
      rw [hf] at hq
      repeat' first
        | refine st ?_
        | ((with_reducible apply go_i); (conv => whnf))
        | ((with_reducible apply k_pn); (· exact hV))
        | ((with_reducible apply k_pc); (· exact hV))
        | (with_reducible apply k_d <;> intro _)
        | (with_reducible apply k_b <;> intro _)
      all_goals (rw [hq])
    | true =>
      rw [hv] at hV
      by_cases hk0 : v.k = 0
      · have hb : fitB v k = true := by rw [fitB, hv, decide_eq_true hk0]; rfl
        repeat' first
          | refine st ?_
          | ((with_reducible apply go_i); (conv => whnf))
          | ((with_reducible apply k_pn); (· exact hV))
          | ((with_reducible apply k_pc); (· exact hV))
          | (with_reducible apply k_d <;> intro _)
          | (with_reducible apply k_b <;> intro _)
        exact ⟨i + 1, rfl, rfl, rfl, by omega, by omega, hs.trans hb⟩
      · by_cases hkk : v.k = k
        · have hb : fitB v k = true := by rw [fitB, hv, decide_eq_true hkk]; simp
          repeat' first
            | refine st ?_
            | ((with_reducible apply go_i); (conv => whnf))
            | ((with_reducible apply k_pn); (· exact hV))
            | ((with_reducible apply k_pc); (· exact hV))
            | (with_reducible apply k_d <;> intro _)
            | (with_reducible apply k_b <;> intro _)
          exact ⟨i + 1, rfl, rfl, rfl, by omega, by omega, hs.trans hb⟩
        · have hb : fitB v k = false := by rw [fitB, hv, decide_eq_false hkk, decide_eq_false hk0]; rfl
          have hf := all_none2 (p := fun p => fitB p.1 p.2) hz hb
          rw [hf] at hq
          repeat' first
            | refine st ?_
            | ((with_reducible apply go_i); (conv => whnf))
            | ((with_reducible apply k_pn); (· exact hV))
            | ((with_reducible apply k_pc); (· exact hV))
            | (with_reducible apply k_d <;> intro _)
            | (with_reducible apply k_b <;> intro _)
          all_goals (rw [hq])
  | none =>
    have hge := List.getElem?_eq_none_iff.1 hx
    rw [List.take_of_length_le (by rw [List.length_zip]; omega)] at h5
    rw [h5] at hq
    repeat' first
      | refine st ?_
      | ((with_reducible apply go_i); (conv => whnf))
      | (with_reducible apply k_d <;> intro _)
      | (with_reducible apply k_b <;> intro _)
    all_goals (rw [hq])
theorem uniF_mem : ∀ (l : List Int) (k r : Int), uniF k l = (r, true) → (k = 0 ∨ k = r) ∧ ∀ x ∈ l, x = 0 ∨ x = r
  | [], k, r, h => by
    simp only [uniF, Prod.mk.injEq] at h
    exact ⟨.inr h.1, by simp⟩
  | y :: l, k, r, h => by
    unfold uniF at h
    by_cases hy : y = 0
    · rw [if_pos hy] at h
      obtain ⟨h1, h2⟩ := uniF_mem l k r h
      exact ⟨h1, fun x hx => by rcases List.mem_cons.1 hx with rfl | hx; exact .inl hy; exact h2 x hx⟩
    · rw [if_neg hy] at h
      by_cases hk : k ≠ 0 ∧ k ≠ y
      · rw [if_pos hk] at h; simp at h
      · rw [if_neg hk] at h
        obtain ⟨h1, h2⟩ := uniF_mem l y r h
        exact ⟨by omega, fun x hx => by rcases List.mem_cons.1 hx with rfl | hx; exact h1; exact h2 x hx⟩
theorem fe_zero : ∀ {l : List (Int × Int)}, fe l = 0 → ∀ x ∈ l, x.2 = 0
  | [], _, x, hx => by cases hx
  | y :: l, h, x, hx => by
    unfold fe at h
    by_cases hy : y.2 = 0
    · rw [if_pos hy] at h
      rcases List.mem_cons.1 hx with rfl | hx
      · exact hy
      · exact fe_zero h x hx
    · rw [if_neg hy] at h; exact absurd h hy
theorem vOrN_k (v : Vl) : (vOrN v).k = v.k ∨ (vOrN v).k = 0 := by
  unfold vOrN
  split
  · exact .inl rfl
  · exact .inr rfl
theorem vOf_k (t : Int) : (vOf t).k = 3 ∨ (vOf t).k = 0 := by
  unfold vOf
  split
  · exact .inl rfl
  · split
    · exact .inl rfl
    · exact .inr rfl
/-- Values that have kinds, one by one. -/
def Knd (l : List Vl) (ks : List Int) : Prop := l.length = ks.length ∧ ∀ i, (h : i < l.length) → (h2 : i < ks.length) → l[i].k = ks[i] ∨ l[i].k = 0
theorem Knd.all {l : List Vl} {ks : List Int} (h : Knd l ks) {r : Int} (hr : ∀ x ∈ ks, x = 0 ∨ x = r) : ∀ v ∈ l, v.k = r ∨ v.k = 0 := by
  intro v hv
  obtain ⟨i, hi, rfl⟩ := List.mem_iff_getElem.1 hv
  have h2 : i < ks.length := by have := h.1; omega
  have h3 := h.2 i hi h2
  have h4 := hr ks[i] (List.getElem_mem h2)
  omega
theorem coa_k {l : List Vl} {r : Int} (h : ∀ v ∈ l, v.k = r ∨ v.k = 0) : (coa l).k = r ∨ (coa l).k = 0 := by
  induction l with
  | nil => exact .inr rfl
  | cons v l ih =>
    unfold coa
    split
    · exact ih fun x hx => h x (by simp [hx])
    · exact h v (by simp)
theorem getD_k {l : List Vl} {r : Int} (h : ∀ v ∈ l, v.k = r ∨ v.k = 0) (i : Nat) : (l.getD i vNull).k = r ∨ (l.getD i vNull).k = 0 := by
  rw [List.getD_eq_getElem?_getD]
  cases hx : l[i]? with
  | none => exact .inr rfl
  | some v => exact h v (List.mem_of_getElem? hx)
theorem evOp_k {op n : Int} {v : Vl} {l row : List Vl} {ks : List Int} (hop : op ≠ 2) (hK : Knd l ks) (hc : (cnt op l.length).1 = true) (h : (res op v ks).2 = true) : (evOp op n v l row).k = (res op v ks).1 ∨ (evOp op n v l row).k = 0 := by
  have hcnt := cnt_case hc
  by_cases h1 : op = 1
  · subst h1; exact .inl rfl
  rcases hcnt with ⟨k, e⟩ | ⟨k, e⟩ | ⟨k, e⟩ | ⟨k, e⟩ | ⟨k, e⟩ | ⟨k, e⟩ | ⟨k, e⟩
  · omega
  · rcases k with rfl | rfl | rfl | rfl
    · exact vOf_k _
    · show (vAri 18 l).k = 1 ∨ (vAri 18 l).k = 0
      unfold vAri vAr vNeg
      repeat' split
      all_goals first | exact vOrN_k _ | (exfalso; omega) | exact .inr rfl
    · show (vTxt 20 l).k = 1 ∨ (vTxt 20 l).k = 0
      unfold vTxt
      repeat' split
      all_goals first | exact vOrN_k _ | exact .inr rfl | (exfalso; omega)
    · exact .inl rfl
  · by_cases h19 : op = 19
    · subst h19
      show (vTxt 19 l).k = 2 ∨ (vTxt 19 l).k = 0
      unfold vTxt
      repeat' split
      all_goals first | exact vOrN_k _ | exact .inr rfl | (exfalso; omega)
    · by_cases h13 : 13 ≤ op
      · have e1 : evOp op n v l row = vAri op l := by
          unfold evOp
          rw [if_neg (by omega), if_neg (by omega), if_neg (by omega), if_neg (by omega), if_neg (by omega), if_neg (by omega), if_neg (by omega), if_neg (by omega), if_neg (by omega), if_pos (by omega)]
        have e2 : (res op v ks).1 = 1 := by
          unfold res
          rw [if_neg (by omega), if_neg (by omega), if_neg (by omega), if_neg (by omega), if_neg (by omega), if_neg (by omega), if_neg (by omega), if_neg (by omega), if_neg (by omega)]
        rw [e1, e2]
        unfold vAri vAr vNeg vBin vPr
        repeat' split
        all_goals first | exact vOrN_k _ | exact .inr rfl
      · have e1 : evOp op n v l row = vOf (vCp op (l.getD 0 vNull) (l.getD 1 vNull)) := by
          unfold evOp
          rw [if_neg (by omega), if_neg (by omega), if_neg (by omega), if_neg (by omega), if_neg (by omega), if_neg (by omega), if_neg (by omega), if_neg (by omega), if_neg (by omega), if_neg (by omega)]
        have e2 : (res op v ks).1 = 3 := by
          unfold res
          rw [if_neg (by omega), if_neg (by omega), if_pos (by omega)]
        rw [e1, e2]
        exact vOf_k _
  · rcases k with rfl | rfl
    · exact vOf_k _
    · exact vOf_k _
  · subst k
    obtain ⟨a, b, c, rfl⟩ : ∃ a b c, l = [a, b, c] := by
      match l, e with
      | [a, b, c], _ => exact ⟨a, b, c, rfl⟩
    obtain ⟨x, y, z, rfl⟩ : ∃ a b c, ks = [a, b, c] := by
      match ks, hK.1 with
      | [a, b, c], _ => exact ⟨a, b, c, rfl⟩
    have h' : ((uni [y, z]).2 && allK [x] 3) = true := h
    rw [Bool.and_eq_true] at h'
    obtain ⟨⟨r, t⟩, hr⟩ : ∃ q, uni [y, z] = q := ⟨_, rfl⟩
    rw [hr] at h'
    have ht : t = true := h'.1
    subst ht
    have hu := (uniF_mem _ _ _ hr).2
    show (if vTruth a = 2 then b else c).k = (uni [y, z]).1 ∨ (if vTruth a = 2 then b else c).k = 0
    rw [hr]
    have hb : b.k = y ∨ b.k = 0 := hK.2 1 (by simp) (by simp)
    have hc : c.k = z ∨ c.k = 0 := hK.2 2 (by simp) (by simp)
    have hy := hu y (by simp)
    have hz := hu z (by simp)
    dsimp only
    split <;> omega
  · obtain ⟨rfl, _⟩ := k
    obtain ⟨⟨r, t⟩, hr⟩ : ∃ q, uni ks = q := ⟨_, rfl⟩
    have ht : t = true := by have : (uni ks).2 = true := h; rw [hr] at this; exact this
    subst ht
    show (coa l).k = (uni ks).1 ∨ (coa l).k = 0
    rw [hr]
    exact coa_k (hK.all (uniF_mem _ _ _ hr).2)
  · subst k
    show (vRel n (l.getD 0 vNull) (l.getD 1 vNull) (l.getD 2 vNull) (l.getD 3 vNull)).k = 3 ∨ (vRel n (l.getD 0 vNull) (l.getD 1 vNull) (l.getD 2 vNull) (l.getD 3 vNull)).k = 0
    unfold vRel
    split
    · exact .inl rfl
    · exact .inr rfl
theorem ev_kind (row : List Vl) (ks : List Int) (hf : fits row ks = true) : ∀ e : Ex, (chk ks e).2 = 0 → (ev row e).k = (chk ks e).1 ∨ (ev row e).k = 0 := by
  unfold fits at hf
  rw [Bool.and_eq_true] at hf
  have hlen := of_decide_eq_true hf.1
  have hall := List.all_eq_true.1 hf.2
  refine Ex.ind fun op n v name nl args ih h => ?_
  rw [chk_mk] at h ⊢
  rw [ev_mk]
  cases hfm : fmd op n v name args.length with
  | false => exact .inr rfl
  | true =>
  rw [if_pos rfl]
  by_cases h2 : op = 2
  · subst h2
    have hk : (cnt 2 args.length).2 = true := rfl
    unfold ckF at h ⊢
    rw [hk, if_neg (by simp), hfm, if_neg (by simp), if_pos rfl] at h ⊢
    by_cases hn : 0 ≤ n ∧ n < ks.length
    · rw [if_pos hn]
      show (vCol row n).k = ks.getD n.toNat 0 ∨ (vCol row n).k = 0
      have hx : n.toNat < row.length := by omega
      have hy : n.toNat < ks.length := by omega
      have hz := hall (row[n.toNat], ks[n.toNat]) (List.mem_iff_getElem.2 ⟨n.toNat, by rw [List.length_zip]; omega, by rw [List.getElem_zip]⟩)
      dsimp only [fitB] at hz
      rw [Bool.and_eq_true, Bool.or_eq_true, decide_eq_true_eq, decide_eq_true_eq] at hz
      have e1 : vCol row n = row[n.toNat] := by
        unfold vCol vAt
        rw [if_neg (by omega), List.getD_eq_getElem?_getD, List.getElem?_eq_getElem hx]
        show vOrN row[n.toNat] = _
        rw [vOrN, if_pos hz.1]
      have e2 : ks.getD n.toNat 0 = ks[n.toNat] := by rw [List.getD_eq_getElem?_getD, List.getElem?_eq_getElem hy]; rfl
      rw [e1, e2]
      exact hz.2.symm
    · rw [if_neg hn] at h; cases h
  rw [ckF_known hfm h2] at h ⊢
  by_cases hfe : fe (args.map (chk ks)) = 0
  rotate_left
  · rw [if_neg hfe] at h; exact absurd h hfe
  rw [if_pos hfe] at h ⊢
  cases hr : (res op v ((args.map (chk ks)).map Prod.fst)).2 with
  | false => rw [hr] at h; simp at h
  | true =>
    rw [if_pos rfl]
    refine evOp_k h2 ⟨by simp, fun i hi hj => ?_⟩ (by rw [List.length_map]; exact fmd_cnt hfm) hr
    rw [List.getElem_map, List.getElem_map, List.getElem_map]
    exact ih _ (List.getElem_mem _) (fe_zero hfe _ (List.mem_map.2 ⟨_, List.getElem_mem _, rfl⟩))
theorem L.ExprKinds (e : Ex) (he : e.bk ≤ 1048576) (ks : List Int) (hk : ks.length ≤ 1048576) (dk : D) (hdk : SlD dk (eIs ks)) (row : List Vl) (hr : row.length ≤ 1048576) (hrs : ∀ v ∈ row, v.s.length ≤ 1048576) (dr : D) (hdr : SlD dr (eVs row)) : Pure Try.prog N.bt_law11_ExprKinds [e.av, .d dk, .d dr] (.d (.bool true)) := by
  have h1 := C.expr_Eval row hr hrs dr hdr e he
  have h2 := C.expr_Check ks hk dk hdk e he
  have h3 := C.r8_Fits row ks hr hk hrs dr hdr dk hdk
  have hV := C.r7_Valid (ev row e) (Nat.le_trans (ev_s row e) (by omega))
  rw [ev_valid] at hV
  have hK := ev_kind row ks
  obtain ⟨kr, hre⟩ : ∃ r, r = if 24 < dep e then ((0, 26) : Int × Int) else chk ks e := ⟨_, rfl⟩
  rw [← hre] at h2
  have hres : kr.2 = 0 → fits row ks = true → (ev row e).k = kr.1 ∨ (ev row e).k = 0 := fun ha hb => by
    rw [hre] at ha ⊢
    split at ha
    · cases ha
    · rename_i hd
      rw [if_neg hd]
      exact hK hb e ha
  clear hre hK
  obtain ⟨w, hw⟩ : ∃ w, w = ev row e := ⟨_, rfl⟩
  rw [← hw] at h1 hV hres
  obtain ⟨k, f⟩ := kr
  dsimp only at h2 hres
  obtain ⟨op, n, v, name, nl, args⟩ := e
  rw [Ex.av_mk] at h1 h2 ⊢
  refine F.bt_law11_ExprKinds.go mixed rfl ?_
  by_cases hf : f = 0
  rotate_left
  · repeat' first
      | refine st ?_
      | ((with_reducible apply go_i); (conv => whnf))
      | ((with_reducible apply k_pn); (· first | exact h2 | exact C.law_awake))
      | ((with_reducible apply k_pc); (· first | exact h2 | exact C.law_awake))
      | (with_reducible apply k_d <;> intro _)
      | (with_reducible apply k_b <;> intro _)
    all_goals simp_all
  subst hf
  cases hb : fits row ks with
  | false =>
    rw [hb] at h3
    repeat' first
      | refine st ?_
      | ((with_reducible apply go_i); (conv => whnf))
      | ((with_reducible apply k_pn); (· first | exact h2 | exact h3 | exact C.law_awake))
      | ((with_reducible apply k_pc); (· first | exact h2 | exact h3 | exact C.law_awake))
      | (with_reducible apply k_d <;> intro _)
      | (with_reducible apply k_b <;> intro _)
    all_goals simp_all
  | true =>
    rw [hb] at h3
    have hwk := hres rfl hb
    by_cases hkk : w.k = k
    · repeat' first
        | refine st ?_
        | ((with_reducible apply go_i); (conv => whnf))
        | ((with_reducible apply k_pn); (· first | exact h2 | exact h3 | exact h1 | exact hV | exact C.law_awake))
        | ((with_reducible apply k_pc); (· first | exact h2 | exact h3 | exact h1 | exact hV | exact C.law_awake))
        | (with_reducible apply k_d <;> intro _)
        | (with_reducible apply k_b <;> intro _)
      all_goals simp_all
    · have hk0 : w.k = 0 := by omega
      repeat' first
        | refine st ?_
        | ((with_reducible apply go_i); (conv => whnf))
        | ((with_reducible apply k_pn); (· first | exact h2 | exact h3 | exact h1 | exact hV | exact C.law_awake))
        | ((with_reducible apply k_pc); (· first | exact h2 | exact h3 | exact h1 | exact hV | exact C.law_awake))
        | (with_reducible apply k_d <;> intro _)
        | (with_reducible apply k_b <;> intro _)
      all_goals simp_all
end Go.Proofs
