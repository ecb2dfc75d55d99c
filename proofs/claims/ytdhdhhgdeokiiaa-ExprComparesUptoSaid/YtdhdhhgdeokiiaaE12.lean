/- The kind of an operator's answer. No condition. -/
import Derived.Test.YtdhdhhgdeokiiaaE10
set_option linter.unusedSimpArgs false
set_option linter.unusedVariables false
set_option maxRecDepth 10000
set_option maxHeartbeats 4000000
namespace Go.Proofs
open Go.Bi

def res (op : Int) (v : Vl) (l : List Int) : Int × Bool :=
  if op = 1 then (v.k, true)
  else if op = 4 ∨ op = 5 ∨ op = 6 then (3, allK l 3)
  else if op = 7 ∨ op = 8 ∨ op = 9 ∨ op = 10 ∨ op = 11 ∨ op = 12 then (3, (uni l).2)
  else if op = 19 then (2, allK l 2)
  else if op = 20 then (1, allK l 2)
  else if op = 21 then (3, true)
  else if op = 22 then ((uni (l.drop 1)).1, (uni (l.drop 1)).2 && allK (l.take 1) 3)
  else if op = 23 then uni l
  else if op = 24 then (3, allK l 1) else (1, allK l 1)
theorem eIs_drop (l : List Int) (i : Nat) : (eIs l).drop i = eIs (l.drop i) := by simp [eIs]
theorem eIs_take (l : List Int) (i : Nat) : (eIs l).take i = eIs (l.take i) := by simp [eIs]
theorem C.expr_result (op n : Int) (v : Vl) (name : List UInt8) (d0 : D) (l : List Int) (hl : l.length ≤ 1048576) (d : D) (hd : SlD d (eIs l)) (h22 : op = 22 → 1 ≤ l.length) : Pure Try.prog N.expr_result [eX op n v name d0, .d d] (.tup [.d (eI (res op v l).1), .d (.bool (res op v l).2)]) := by
  refine F.expr_result.go mixed rfl ?_
  have h1 := eIs_len l
  have hm := eIs_mem l
  by_cases h22' : op = 22
  · subst h22'
    have hl1 := h22 rfl
    rcases hd with ⟨rfl, he⟩ | rfl
    · rw [he] at h1; simp at h1; omega
    have hU := C.expr_unite (l.drop 1) (by simp; omega) (.sl (eIs (l.drop 1))) sld_sl
    have hA := C.expr_all (l.take 1) (by simp; omega) (.sl (eIs (l.take 1))) sld_sl 3 (by decide)
    have hcut : ((eIs l).drop (1 : Int).toNat).take (((eIs l).length : Int).toNat - (1 : Int).toNat) = eIs (l.drop 1) := by
      rw [← eIs_drop, show (1 : Int).toNat = 1 from rfl, List.take_of_length_le]
      simp
    have hcut2 : ((eIs l).drop ((0 : Nat) : Int).toNat).take ((1 : Int).toNat - ((0 : Nat) : Int).toNat) = eIs (l.take 1) := by
      rw [← eIs_take]; rfl
    rw [show res 22 v l = ((uni (l.drop 1)).1, (uni (l.drop 1)).2 && allK (l.take 1) 3) from rfl]
    obtain ⟨⟨k, b⟩, hkb⟩ : ∃ kb, uni (l.drop 1) = kb := ⟨_, rfl⟩
    rw [hkb] at hU ⊢
    obtain ⟨z, hz⟩ : ∃ z, allK (l.take 1) 3 = z := ⟨_, rfl⟩
    rw [hz] at hA ⊢
    obtain ⟨e1, he1⟩ : ∃ e1, e1 = eIs (l.drop 1) := ⟨_, rfl⟩
    obtain ⟨e2, he2⟩ : ∃ e2, e2 = eIs (l.take 1) := ⟨_, rfl⟩
    rw [← he1] at hU hcut
    rw [← he2] at hA hcut2
    have hel : ((eIs l).length : Int) = l.length := by rw [h1]
    obtain ⟨es, hes⟩ : ∃ es, es = eIs l := ⟨_, rfl⟩
    rw [← hes] at hcut hcut2 hel hm h1 ⊢
    cases b with
    | false =>
      repeat' first
        | refine st ?_
        | ((with_reducible apply go_i); (conv => whnf))
        | (with_reducible apply k_d <;> intro _)
        | (with_reducible apply k_b <;> intro _)
      all_goals (try rw [hcut])
      repeat' first
        | refine st ?_
        | ((with_reducible apply go_i); (conv => whnf))
        | ((with_reducible apply k_pn); (· exact hU))
        | ((with_reducible apply k_pc); (· exact hU))
        | (with_reducible apply k_d <;> intro _)
        | (with_reducible apply k_b <;> intro _)
      all_goals rfl
    | true =>
      repeat' first
        | refine st ?_
        | ((with_reducible apply go_i); (conv => whnf))
        | (with_reducible apply k_d <;> intro _)
        | (with_reducible apply k_b <;> intro _)
      all_goals (try rw [hcut])
      repeat' first
        | refine st ?_
        | ((with_reducible apply go_i); (conv => whnf))
        | ((with_reducible apply k_pn); (· exact hU))
        | ((with_reducible apply k_pc); (· exact hU))
        | (with_reducible apply k_d <;> intro _)
        | (with_reducible apply k_b <;> intro _)
      all_goals (try rw [hcut2])
      repeat' first
        | refine st ?_
        | ((with_reducible apply go_i); (conv => whnf))
        | ((with_reducible apply k_pn); (· exact hA))
        | ((with_reducible apply k_pc); (· exact hA))
        | (with_reducible apply k_d <;> intro _)
        | (with_reducible apply k_b <;> intro _)
      all_goals rfl
  have A3 := C.expr_all l hl d hd 3 (by decide)
  have A2 := C.expr_all l hl d hd 2 (by decide)
  have A1 := C.expr_all l hl d hd 1 (by decide)
  have U := C.expr_unite l (by omega) d hd
  repeat' first
    | refine st ?_
    | ((with_reducible apply go_i); (conv => whnf))
    | ((with_reducible apply k_pn); (· first | exact A3 | exact A2 | exact A1 | exact U))
    | ((with_reducible apply k_pc); (· first | exact A3 | exact A2 | exact A1 | exact U))
    | (with_reducible apply k_d <;> intro _)
    | (with_reducible apply k_b <;> intro _)
  all_goals first
    | (subst_vars; rfl)
    | (simp only [res]; rw [if_neg (by omega), if_neg (by omega), if_neg (by omega), if_neg (by omega), if_neg (by omega), if_neg (by omega), if_neg (by omega), if_neg (by omega), if_neg (by omega)])
theorem C.r11_result2 (n : Int) (v : Vl) (name : List UInt8) (d0 : D) (l ks : List Int) (d : D) (hd : SlD d (eIs l)) (dk : D) (hdk : SlD dk (eIs ks)) (k : Int) (h0 : 0 ≤ n) (hk : ks[n.toNat]? = some k) : Pure Try.prog N.bt_ref11_result [eX 2 n v name d0, .d d, .d dk] (.tup [.d (eI k), .d (.bool true)]) := by
  refine F.bt_ref11_result.go mixed rfl ?_
  have h1 := eIs_len ks
  have hm := eIs_mem ks
  have hg := eIs_get hk
  have hlt := (List.getElem?_eq_some_iff.1 hk).1
  have hn2 : n < (eIs ks).length := by omega
  repeat' first
    | refine st ?_
    | ((with_reducible apply go_i); (conv => whnf))
    | (with_reducible apply k_d <;> intro _)
    | (with_reducible apply k_b <;> intro _)
  all_goals rfl
theorem C.r11_result (op n : Int) (v : Vl) (name : List UInt8) (d0 : D) (l : List Int) (hl : l.length ≤ 1048576) (d : D) (hd : SlD d (eIs l)) (dk : D) (h22 : op = 22 → 1 ≤ l.length) (hop : op = 1 ∨ 4 ≤ op ∧ op ≤ 24) (h2 : op ≠ 2) : Pure Try.prog N.bt_ref11_result [eX op n v name d0, .d d, .d dk] (.tup [.d (eI (res op v l).1), .d (.bool (res op v l).2)]) := by
  refine F.bt_ref11_result.go mixed rfl ?_
  have h1 := eIs_len l
  have hm := eIs_mem l
  by_cases h22' : op = 22
  · subst h22'
    have hl1 := h22 rfl
    rcases hd with ⟨rfl, he⟩ | rfl
    · rw [he] at h1; simp at h1; omega
    have hU := C.r11_Join (l.drop 1) (by simp; omega) (.sl (eIs (l.drop 1))) sld_sl
    have hA := C.r11_all (l.take 1) (by simp; omega) (.sl (eIs (l.take 1))) sld_sl 3
    have hcut : ((eIs l).drop (1 : Int).toNat).take (((eIs l).length : Int).toNat - (1 : Int).toNat) = eIs (l.drop 1) := by
      rw [← eIs_drop, show (1 : Int).toNat = 1 from rfl, List.take_of_length_le]
      simp
    have hcut2 : ((eIs l).drop ((0 : Nat) : Int).toNat).take ((1 : Int).toNat - ((0 : Nat) : Int).toNat) = eIs (l.take 1) := by
      rw [← eIs_take]; rfl
    rw [show res 22 v l = ((uni (l.drop 1)).1, (uni (l.drop 1)).2 && allK (l.take 1) 3) from rfl]
    obtain ⟨⟨k, b⟩, hkb⟩ : ∃ kb, uni (l.drop 1) = kb := ⟨_, rfl⟩
    rw [hkb] at hU ⊢
    obtain ⟨z, hz⟩ : ∃ z, allK (l.take 1) 3 = z := ⟨_, rfl⟩
    rw [hz] at hA ⊢
    obtain ⟨e1, he1⟩ : ∃ e1, e1 = eIs (l.drop 1) := ⟨_, rfl⟩
    obtain ⟨e2, he2⟩ : ∃ e2, e2 = eIs (l.take 1) := ⟨_, rfl⟩
    rw [← he1] at hU hcut
    rw [← he2] at hA hcut2
    have hel : ((eIs l).length : Int) = l.length := by rw [h1]
    obtain ⟨es, hes⟩ : ∃ es, es = eIs l := ⟨_, rfl⟩
    rw [← hes] at hcut hcut2 hel hm h1 ⊢
    cases b with
    | false =>
      repeat' first
        | refine st ?_
        | ((with_reducible apply go_i); (conv => whnf))
        | (with_reducible apply k_d <;> intro _)
        | (with_reducible apply k_b <;> intro _)
      all_goals (try rw [hcut])
      repeat' first
        | refine st ?_
        | ((with_reducible apply go_i); (conv => whnf))
        | ((with_reducible apply k_pn); (· exact hU))
        | ((with_reducible apply k_pc); (· exact hU))
        | (with_reducible apply k_d <;> intro _)
        | (with_reducible apply k_b <;> intro _)
      all_goals rfl
    | true =>
      repeat' first
        | refine st ?_
        | ((with_reducible apply go_i); (conv => whnf))
        | (with_reducible apply k_d <;> intro _)
        | (with_reducible apply k_b <;> intro _)
      all_goals (try rw [hcut])
      repeat' first
        | refine st ?_
        | ((with_reducible apply go_i); (conv => whnf))
        | ((with_reducible apply k_pn); (· exact hU))
        | ((with_reducible apply k_pc); (· exact hU))
        | (with_reducible apply k_d <;> intro _)
        | (with_reducible apply k_b <;> intro _)
      all_goals (try rw [hcut2])
      repeat' first
        | refine st ?_
        | ((with_reducible apply go_i); (conv => whnf))
        | ((with_reducible apply k_pn); (· exact hA))
        | ((with_reducible apply k_pc); (· exact hA))
        | (with_reducible apply k_d <;> intro _)
        | (with_reducible apply k_b <;> intro _)
      all_goals rfl
  have A3 := C.r11_all l (by omega) d hd 3
  have A2 := C.r11_all l (by omega) d hd 2
  have A1 := C.r11_all l (by omega) d hd 1
  have U := C.r11_Join l (by omega) d hd
  repeat' first
    | refine st ?_
    | ((with_reducible apply go_i); (conv => whnf))
    | ((with_reducible apply k_pn); (· first | exact A3 | exact A2 | exact A1 | exact U))
    | ((with_reducible apply k_pc); (· first | exact A3 | exact A2 | exact A1 | exact U))
    | (with_reducible apply k_d <;> intro _)
    | (with_reducible apply k_b <;> intro _)
  all_goals first
    | (subst_vars; rfl)
    | (have : op = 24 := by omega
       subst this; rfl)
end Go.Proofs
