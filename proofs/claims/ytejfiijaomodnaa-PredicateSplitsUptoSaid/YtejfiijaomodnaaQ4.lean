/- Texts of this claim, joined. No condition. -/
import Derived.Test.YtejfiijaomodnaaQ3
section
/- ExprColumns, as a contract over data. No condition. -/
set_option linter.unusedSimpArgs false
set_option linter.unusedVariables false
set_option maxRecDepth 10000
set_option maxHeartbeats 4000000
namespace Go.Proofs
open Go.Bi

theorem eVs_app (a b : List Vl) : eVs (a ++ b) = eVs a ++ eVs b := by simp [eVs]
theorem eVs_set (l : List Vl) (i : Nat) (v : Vl) : (eVs l).set i v.ds = eVs (l.set i v) := by simp [eVs]
def mixA (row other : List Vl) (i : Nat) : List Vl := other ++ (row.take i).drop other.length
theorem mixA_len (row other : List Vl) (i : Nat) (hi : i ≤ row.length) : (mixA row other i).length = max other.length i := by
  unfold mixA
  rw [List.length_append, List.length_drop, List.length_take]
  omega
theorem mixA_succ {row other : List Vl} {i : Nat} {v : Vl} (h : row[i]? = some v) : mixA row other (i + 1) = if other.length ≤ i then mixA row other i ++ [v] else mixA row other i := by
  have hi := (List.getElem?_eq_some_iff.1 h).1
  unfold mixA
  rw [List.take_add_one, h]
  split
  · rw [List.drop_append_of_le_length (by rw [List.length_take]; omega), List.append_assoc]; rfl
  · rw [List.drop_eq_nil_of_le (by simp; omega), List.drop_eq_nil_of_le (by rw [List.length_take]; omega)]
/-- What is small so far. -/
def SmB (nb : Nat) (ks : List Int) (i : Nat) (b : Bool) : Prop := b = true → nb ≤ 1000 ∧ ∀ (j : Nat) y, j < i → ks[j]? = some y → 0 ≤ y ∧ y < 1048576
theorem SmB.next {nb : Nat} {ks : List Int} {i : Nat} {b b' : Bool} {c : Int} (h : SmB nb ks i b) (hx : ks[i]? = some c) (hb : b' = true → b = true ∧ 0 ≤ c ∧ c < 1048576) : SmB nb ks (i + 1) b' := by
  intro e
  obtain ⟨h1, h2, h3⟩ := hb e
  obtain ⟨g1, g2⟩ := h h1
  refine ⟨g1, fun j y hj hy => ?_⟩
  rcases Nat.lt_succ_iff_lt_or_eq.1 hj with h | rfl
  · exact g2 j y h hy
  · rw [hx] at hy; cases hy; exact ⟨h2, h3⟩
def sA (n : Nat) (i : Nat) (es : List (List D)) : AV := if i < n then .arr 1 es.length else .d (.sl es)
def oA (n : Nat) (i : Nat) (es : List (List D)) : AO := .arr es 3 (if i < n then 0 else es.length) false
theorem sA_t {n i : Nat} {es : List (List D)} (h : i < n) : sA n i es = .arr 1 es.length := if_pos h
theorem sA_f {n i : Nat} {es : List (List D)} (h : ¬ i < n) : sA n i es = .d (.sl es) := if_neg h
theorem oA_t {n i : Nat} {es : List (List D)} (h : i < n) : oA n i es = .arr es 3 0 false := by rw [oA, if_pos h]
theorem oA_f {n i : Nat} {es : List (List D)} (h : ¬ i < n) : oA n i es = .arr es 3 es.length false := by rw [oA, if_neg h]
theorem L.ExprColumns (e : Ex) (he : e.bk ≤ 1048576) (row other before : List Vl) (hb : row.length + other.length + before.length ≤ 1048576) (hr : ∀ v ∈ row, v.s.length ≤ 1048576) (ho : ∀ v ∈ other, v.s.length ≤ 1048576) (hbf : ∀ v ∈ before, v.s.length ≤ 1048576)
    (dr : D) (hdr : SlD dr (eVs row)) (dO : D) (hdo : SlD dO (eVs other)) (db : D) (hdb : SlD db (eVs before)) : Pure Try.prog N.bt_law11_ExprColumns [e.av, .d dr, .d dO, .d db] (.d (.bool true)) := by
  have c1 := C.expr_Columns e he
  have hsl := colsD_sl e
  have hcl := cols_len e
  have hM : ∀ mix : List Vl, row.length ≤ mix.length → mix.length ≤ 1048576 → (∀ v ∈ mix, v.s.length ≤ 1048576) → Pure Try.prog N.expr_Eval [e.av, .d (.sl (eVs (mixM row mix (cols e))))] (eV (ev row e)) := fun mix h1 h2 h3 => by
    have := C.expr_Eval (mixM row mix (cols e)) (by rw [mixM_len]; exact h2) (mixM_mem hr (by simp [vNull]) _ _ h3) _ sld_sl e he
    rwa [ev_col e fun c hc => mixM_col h1 (cols e) c ((cols_mem e c).2 hc)] at this
  have c2 := C.expr_Eval row (by omega) hr dr hdr e he
  have c3 := C.expr_Shift e he before.length
  have c4 := C.r8_Concat before row (by omega) db dr hdb hdr
  have c5 : (before.length ≤ 1000 ∧ ∀ (j : Nat) y, (cols e)[j]? = some y → 0 ≤ y ∧ y < 1048576) → Pure Try.prog N.expr_Eval [(shf before.length e).av, .d (.sl (eVs (before ++ row)))] (eV (ev row e)) := fun ⟨h1, h2⟩ => by
    have := C.expr_Eval (before ++ row) (by rw [List.length_append]; omega) (fun v hv => by
      rcases List.mem_append.1 hv with hv | hv
      · exact hbf v hv
      · exact hr v hv) _ sld_sl (shf before.length e) (by have := shf_bk2 before.length e; omega)
    rwa [ev_shf (row := row) e fun c hc => by
      obtain ⟨j, hj⟩ := List.getElem?_of_mem ((cols_mem e c).2 hc)
      obtain ⟨q1, q2⟩ := h2 j c hj
      rw [w64_small (by omega) (by omega)]
      unfold vCol
      rw [vAt_app before row q1]] at this
  obtain ⟨ks, hks⟩ : ∃ k, k = cols e := ⟨_, rfl⟩
  rw [← hks] at hsl hcl c5
  simp only [← hks] at hM
  obtain ⟨dc, hdc⟩ : ∃ d, d = colsD e := ⟨_, rfl⟩
  rw [← hdc] at c1 hsl
  have hkl := eIs_len ks
  obtain ⟨z, hz⟩ : ∃ z, z = ev row e := ⟨_, rfl⟩
  rw [← hz] at c2 c5
  simp only [← hz] at hM
  obtain ⟨s1, hs1⟩ : ∃ s, s = shf before.length e := ⟨_, rfl⟩
  rw [← hs1] at c3 c5
  clear hs1 hz hks hdc
  have hrl := eVs_len row
  have hrm := eVs_mem row
  have hol := eVs_len other
  have hom := eVs_mem other
  have hbl := eVs_len before
  have hbm := eVs_mem before
  obtain ⟨op, k, v, nm, nl, args⟩ := e
  obtain ⟨o1, n1, v1, m1, l1, a1⟩ := s1
  simp only [Ex.av_mk] at c1 c2 c3 c5 hM ⊢
  obtain ⟨da, hda⟩ : ∃ d, d = ng nl (xL args) := ⟨_, rfl⟩
  rw [← hda] at c1 c2 c3 ⊢
  simp only [← hda] at hM
  refine F.bt_law11_ExprColumns.go mixed rfl ?_
  have r0 : v.k = v.k := rfl
  have r1 : v.s = v.s := rfl
  have r2 : nm = nm := rfl
  repeat' first
    | refine st ?_
    | ((with_reducible apply go_i); (conv => whnf))
    | ((with_reducible apply k_pn); (· exact c1))
    | ((with_reducible apply k_pc); (· exact c1))
    | (with_reducible apply k_d <;> intro _)
    | (with_reducible apply k_b <;> intro _)
  refine x_loop2 mixed Lt.bt_law11_ExprColumns_l0 Lk.bt_law11_ExprColumns_l0 (fun (i : Nat) (es : List (List D)) => [.arr 1 es.length, .d (eI i)]) (fun i es => [.cells [.d (eI op), .d (eI k), .d (eI v.k), .d (eI v.n), .d (.str v.s), .d (.str nm), .d da], .arr es 3 0 false]) (fun i es => i ≤ row.length ∧ es = eVs (mixA row other i)) (fun i _ => row.length - i) 0 (eVs other) rfl rfl rfl (by simp) (fun _ _ _ => ⟨rfl, rfl⟩) rfl ⟨Nat.zero_le _, by simp [mixA]⟩ ?_
  repeat' first
    | refine st ?_
    | ((with_reducible apply go_i); (conv => whnf))
    | (with_reducible apply k_d <;> intro _)
    | (with_reducible apply k_b <;> intro _)
  intro i es ⟨h1, h2⟩
  have hel : es.length = max other.length i := by rw [h2, eVs_len, mixA_len _ _ _ h1]
  have hem : ∀ e ∈ es, e.length = 3 := by rw [h2]; exact eVs_mem _
  cases hx : row[i]? with
  | some x =>
    have hlt := (List.getElem?_eq_some_iff.1 hx).1
    have hg := eVs_get hx
    have hs := mixA_succ (other := other) hx
    obtain ⟨xk, xn, xs⟩ := x
    by_cases hge : other.length ≤ i
    · rw [if_pos hge] at hs
      repeat' first
        | refine st ?_
        | ((with_reducible apply go_i); (conv => whnf))
        | (with_reducible apply k_d <;> intro _)
        | (with_reducible apply k_b <;> intro _)
      exact ⟨i + 1, es ++ [[eI xk, eI xn, .str xs]], rfl, rfl, rfl, by omega, by omega, by rw [hs, eVs_app, h2]; rfl⟩
    · rw [if_neg hge] at hs
      repeat' first
        | refine st ?_
        | ((with_reducible apply go_i); (conv => whnf))
        | (with_reducible apply k_d <;> intro _)
        | (with_reducible apply k_b <;> intro _)
      exact ⟨i + 1, es, rfl, rfl, rfl, by omega, by omega, by rw [hs, h2]⟩
  | none =>
    have hge := List.getElem?_eq_none_iff.1 hx
    have hml := mixA_len row other i h1
    have hmm : ∀ v ∈ mixA row other i, v.s.length ≤ 1048576 := fun v hv => by
      rcases List.mem_append.1 hv with hv | hv
      · exact ho v hv
      · exact hr v (List.mem_of_mem_take (List.mem_of_mem_drop hv))
    obtain ⟨mix, hmix⟩ : ∃ m, m = mixA row other i := ⟨_, rfl⟩
    rw [← hmix] at h2 hml hmm
    have hMm := hM mix (by omega) (by omega) hmm
    clear hM hmix
    have zr0 : z.k = z.k := rfl
    have zr1 : z.n = z.n := rfl
    have zr2 : z.s = z.s := rfl
    by_cases hk0 : ks.length = 0
    · repeat' first
        | refine st ?_
        | ((with_reducible apply go_i); (conv => whnf))
        | (with_reducible apply k_d <;> intro _)
        | (with_reducible apply k_b <;> intro _)
      refine x_frz 10 rfl rfl rfl ?_
      repeat' first
        | refine st ?_
        | ((with_reducible apply go_i); (conv => whnf))
        | (with_reducible apply k_d <;> intro _)
        | (with_reducible apply k_b <;> intro _)
      refine x_loopW2 mixed [12, 41, 10] [1, 3, 4, 9, 40] (fun (i : Nat) (w : List (List D) × Bool) => [.d (.bool w.2), .d (eI i), sA ks.length i w.1]) (fun i w => [.cells [.d (eI op), .d (eI k), .d (eI v.k), .d (eI v.n), .d (.str v.s), .d (.str nm), .d da], oA ks.length i w.1]) (fun i w => i ≤ ks.length ∧ w.1 = eVs (mixM row mix (ks.take i)) ∧ SmB before.length ks i w.2) (fun i _ => ks.length - i) 0 (es, decide (((eVs before).length : Int) ≤ 1000)) rfl rfl (by dsimp only; rw [sA_f (by omega)]; rfl) (by dsimp only; rw [oA_f (by omega)]; rfl) (by dsimp only; rw [sA_f (by omega), oA_f (by omega)]; exact ⟨rfl, rfl⟩) rfl ⟨Nat.zero_le _, h2, fun e => ⟨by have := of_decide_eq_true e; omega, fun j y hj => by omega⟩⟩ ?_
      repeat' first
        | refine st ?_
        | ((with_reducible apply go_i); (conv => whnf))
        | (with_reducible apply k_d <;> intro _)
        | (with_reducible apply k_b <;> intro _)
      intro i2 w ⟨h4, h5, h6⟩
      obtain ⟨es2, b⟩ := w
      dsimp only at h5 h6 ⊢
      cases hy : ks[i2]? with
      | some c =>
        have hlt2 := (List.getElem?_eq_some_iff.1 hy).1
        exfalso; omega
      | none =>
        have hge2 := List.getElem?_eq_none_iff.1 hy
        rw [List.take_of_length_le hge2] at h5
        rw [sA_f (by omega), oA_f (by omega)]
        rw [← h5] at hMm
        cases b with
        | false =>
          repeat' first
            | refine st ?_
            | ((with_reducible apply go_i); (conv => whnf))
            | ((with_reducible apply k_pn); (· first | exact hMm | exact c2 | exact C.law_awake))
            | ((with_reducible apply k_pc); (· first | exact hMm | exact c2 | exact C.law_awake))
            | (with_reducible apply k_d <;> intro _)
            | (with_reducible apply k_b <;> intro _)
          all_goals rfl
        | true =>
          obtain ⟨g1, g2⟩ := h6 rfl
          have c6 := c5 ⟨g1, fun j y hj => g2 j y (by have := (List.getElem?_eq_some_iff.1 hj).1; omega) hj⟩
          rw [← hbl] at c3
          repeat' first
            | refine st ?_
            | ((with_reducible apply go_i); (conv => whnf))
            | ((with_reducible apply k_pn); (· first | exact hMm | exact c2 | exact c3 | exact c4 | exact c6 | exact C.law_awake))
            | ((with_reducible apply k_pc); (· first | exact hMm | exact c2 | exact c3 | exact c4 | exact c6 | exact C.law_awake))
            | (with_reducible apply k_d <;> intro _)
            | (with_reducible apply k_b <;> intro _)
          all_goals rfl
    · repeat' first
        | refine st ?_
        | ((with_reducible apply go_i); (conv => whnf))
        | (with_reducible apply k_d <;> intro _)
        | (with_reducible apply k_b <;> intro _)
      refine x_loopW2 mixed [12, 41, 10] [1, 3, 4, 9, 40] (fun (i : Nat) (w : List (List D) × Bool) => [.d (.bool w.2), .d (eI i), sA ks.length i w.1]) (fun i w => [.cells [.d (eI op), .d (eI k), .d (eI v.k), .d (eI v.n), .d (.str v.s), .d (.str nm), .d da], oA ks.length i w.1]) (fun i w => i ≤ ks.length ∧ w.1 = eVs (mixM row mix (ks.take i)) ∧ SmB before.length ks i w.2) (fun i _ => ks.length - i) 0 (es, decide (((eVs before).length : Int) ≤ 1000)) rfl rfl (by dsimp only; rw [sA_t (by omega)]; rfl) (by dsimp only; rw [oA_t (by omega)]; rfl) (by dsimp only; rw [sA_t (by omega), oA_t (by omega)]; exact ⟨rfl, rfl⟩) rfl ⟨Nat.zero_le _, h2, fun e => ⟨by have := of_decide_eq_true e; omega, fun j y hj => by omega⟩⟩ ?_
      repeat' first
        | refine st ?_
        | ((with_reducible apply go_i); (conv => whnf))
        | (with_reducible apply k_d <;> intro _)
        | (with_reducible apply k_b <;> intro _)
      intro i2 w ⟨h4, h5, h6⟩
      obtain ⟨es2, b⟩ := w
      dsimp only at h5 h6 ⊢
      cases hy : ks[i2]? with
      | some c =>
        have hlt2 := (List.getElem?_eq_some_iff.1 hy).1
        have hgy := eIs_get hy
        have hnx : mixM row mix (ks.take (i2 + 1)) = updM row (mixM row mix (ks.take i2)) c := foldl_take_succ (updM row) mix ks i2 c hy
        have hl2 := mixM_len row (ks.take i2) mix
        have hes : es2.length = mix.length := by rw [h5, eVs_len, hl2]
        have hem2 : ∀ e ∈ es2, e.length = 3 := by rw [h5]; exact eVs_mem _
        rw [sA_t hlt2, oA_t hlt2]
        have pos : c < 0 ∨ (0 ≤ c ∧ c < row.length) ∨ (0 ≤ c ∧ ¬ c < row.length ∧ c < mix.length) ∨ (0 ≤ c ∧ ¬ c < row.length ∧ ¬ c < mix.length) := by omega
        rcases pos with p1 | ⟨p1, p2⟩ | ⟨p1, p2, p3⟩ | ⟨p1, p2, p3⟩
        · have hu : eVs (mixM row mix (ks.take (i2 + 1))) = es2 := by rw [hnx, updM, if_neg (by omega), if_neg (by omega), h5]
          have p4 : ¬ 0 ≤ c := by omega
          cases b with
          | false =>
            repeat' first
              | refine st ?_
              | ((with_reducible apply go_i); (conv => whnf))
              | (with_reducible apply k_d <;> intro _)
              | (with_reducible apply k_b <;> intro _)
            refine ⟨i2 + 1, (es2, false), by omega, ⟨by omega, hu.symm, h6.next hy (fun e => by cases e)⟩, ?_⟩
            by_cases hn : i2 + 1 < ks.length
            · rw [sA_t hn, oA_t hn]
              exact WeakL.keep rfl rfl rfl 2 rfl rfl rfl rfl rfl
            · rw [sA_f hn, oA_f hn]
              exact WeakL.frz 10 rfl rfl rfl (WeakL.keep rfl rfl rfl 2 rfl rfl rfl rfl rfl)
          | true =>
            repeat' first
              | refine st ?_
              | ((with_reducible apply go_i); (conv => whnf))
              | (with_reducible apply k_d <;> intro _)
              | (with_reducible apply k_b <;> intro _)
            refine ⟨i2 + 1, (es2, false), by omega, ⟨by omega, hu.symm, h6.next hy (fun e => by cases e)⟩, ?_⟩
            by_cases hn : i2 + 1 < ks.length
            · rw [sA_t hn, oA_t hn]
              exact WeakL.keep rfl rfl rfl 2 rfl rfl rfl rfl rfl
            · rw [sA_f hn, oA_f hn]
              exact WeakL.frz 10 rfl rfl rfl (WeakL.keep rfl rfl rfl 2 rfl rfl rfl rfl rfl)
        · obtain ⟨⟨xk, xn, xs⟩, hxr⟩ : ∃ q, row[c.toNat]? = some q := ⟨_, List.getElem?_eq_getElem (by omega)⟩
          have hva : vAt row c = ⟨xk, xn, xs⟩ := by have := vAt_get (l := row) (i := c) (by omega) (by omega); rw [hxr] at this; exact (Option.some.inj this).symm
          have hg4 : (eVs row)[c.toNat]? = some [eI xk, eI xn, .str xs] := eVs_get hxr
          have hc2 : c.toNat < (mixM row mix (ks.take i2)).length := by omega
          obtain ⟨⟨qk, qn, qs⟩, hq⟩ : ∃ q, (mixM row mix (ks.take i2))[c.toNat]? = some q := ⟨_, List.getElem?_eq_getElem hc2⟩
          have hg3 : es2[c.toNat]? = some [eI qk, eI qn, .str qs] := by rw [h5]; exact eVs_get hq
          have hu : es2.set c.toNat [eI xk, eI xn, .str xs] = eVs (mixM row mix (ks.take (i2 + 1))) := by rw [hnx, updM, if_pos ⟨p1, p2⟩, hva, ← eVs_set, h5]
          cases b with
          | false =>
            repeat' first
              | refine st ?_
              | ((with_reducible apply go_i); (conv => whnf))
              | (with_reducible apply k_d <;> intro _)
              | (with_reducible apply k_b <;> intro _)
            refine ⟨i2 + 1, (es2.set c.toNat [eI xk, eI xn, .str xs], false), by omega, ⟨by omega, hu, h6.next hy (fun e => by cases e)⟩, ?_⟩
            by_cases hn : i2 + 1 < ks.length
            · rw [sA_t hn, oA_t hn]
              exact WeakL.keep rfl (by dsimp only; rw [List.length_set]; rfl) rfl 2 rfl rfl rfl rfl rfl
            · rw [sA_f hn, oA_f hn]
              exact WeakL.frz 10 rfl rfl (by simp) (WeakL.keep rfl rfl rfl 2 rfl rfl rfl rfl rfl)
          | true =>
            repeat' first
              | refine st ?_
              | ((with_reducible apply go_i); (conv => whnf))
              | (with_reducible apply k_d <;> intro _)
              | (with_reducible apply k_b <;> intro _)
            refine ⟨i2 + 1, (es2.set c.toNat [eI xk, eI xn, .str xs], decide (c < 1048576)), by omega, ⟨by omega, hu, h6.next hy (fun e => ⟨rfl, by omega, of_decide_eq_true e⟩)⟩, ?_⟩
            by_cases hn : i2 + 1 < ks.length
            · rw [sA_t hn, oA_t hn]
              exact WeakL.keep rfl (by dsimp only; rw [List.length_set]; rfl) rfl 2 rfl rfl rfl rfl rfl
            · rw [sA_f hn, oA_f hn]
              exact WeakL.frz 10 rfl rfl (by simp) (WeakL.keep rfl rfl rfl 2 rfl rfl rfl rfl rfl)
        · have hc2 : c.toNat < (mixM row mix (ks.take i2)).length := by omega
          obtain ⟨⟨qk, qn, qs⟩, hq⟩ : ∃ q, (mixM row mix (ks.take i2))[c.toNat]? = some q := ⟨_, List.getElem?_eq_getElem hc2⟩
          have hg3 : es2[c.toNat]? = some [eI qk, eI qn, .str qs] := by rw [h5]; exact eVs_get hq
          have hu : es2.set c.toNat [eI 0, eI 0, .str []] = eVs (mixM row mix (ks.take (i2 + 1))) := by rw [hnx, updM, if_neg (by omega), if_pos (by omega), ← eVs_set, h5]; rfl
          have hN := C.r7_Null
          cases b with
          | false =>
            repeat' first
              | refine st ?_
              | ((with_reducible apply go_i); (conv => whnf))
              | ((with_reducible apply k_pn); (· exact hN))
              | ((with_reducible apply k_pc); (· exact hN))
              | (with_reducible apply k_d <;> intro _)
              | (with_reducible apply k_b <;> intro _)
            refine ⟨i2 + 1, (es2.set c.toNat [eI 0, eI 0, .str []], false), by omega, ⟨by omega, hu, h6.next hy (fun e => by cases e)⟩, ?_⟩
            by_cases hn : i2 + 1 < ks.length
            · rw [sA_t hn, oA_t hn]
              exact WeakL.keep rfl (by dsimp only; rw [List.length_set]; rfl) rfl 2 rfl rfl rfl rfl rfl
            · rw [sA_f hn, oA_f hn]
              exact WeakL.frz 10 rfl rfl (by simp) (WeakL.keep rfl rfl rfl 2 rfl rfl rfl rfl rfl)
          | true =>
            repeat' first
              | refine st ?_
              | ((with_reducible apply go_i); (conv => whnf))
              | ((with_reducible apply k_pn); (· exact hN))
              | ((with_reducible apply k_pc); (· exact hN))
              | (with_reducible apply k_d <;> intro _)
              | (with_reducible apply k_b <;> intro _)
            refine ⟨i2 + 1, (es2.set c.toNat [eI 0, eI 0, .str []], decide (c < 1048576)), by omega, ⟨by omega, hu, h6.next hy (fun e => ⟨rfl, by omega, of_decide_eq_true e⟩)⟩, ?_⟩
            by_cases hn : i2 + 1 < ks.length
            · rw [sA_t hn, oA_t hn]
              exact WeakL.keep rfl (by dsimp only; rw [List.length_set]; rfl) rfl 2 rfl rfl rfl rfl rfl
            · rw [sA_f hn, oA_f hn]
              exact WeakL.frz 10 rfl rfl (by simp) (WeakL.keep rfl rfl rfl 2 rfl rfl rfl rfl rfl)
        · have hu : eVs (mixM row mix (ks.take (i2 + 1))) = es2 := by rw [hnx, updM, if_neg (by omega), if_neg (by omega), h5]
          cases b with
          | false =>
            repeat' first
              | refine st ?_
              | ((with_reducible apply go_i); (conv => whnf))
              | (with_reducible apply k_d <;> intro _)
              | (with_reducible apply k_b <;> intro _)
            refine ⟨i2 + 1, (es2, false), by omega, ⟨by omega, hu.symm, h6.next hy (fun e => by cases e)⟩, ?_⟩
            by_cases hn : i2 + 1 < ks.length
            · rw [sA_t hn, oA_t hn]
              exact WeakL.keep rfl rfl rfl 2 rfl rfl rfl rfl rfl
            · rw [sA_f hn, oA_f hn]
              exact WeakL.frz 10 rfl rfl rfl (WeakL.keep rfl rfl rfl 2 rfl rfl rfl rfl rfl)
          | true =>
            repeat' first
              | refine st ?_
              | ((with_reducible apply go_i); (conv => whnf))
              | (with_reducible apply k_d <;> intro _)
              | (with_reducible apply k_b <;> intro _)
            refine ⟨i2 + 1, (es2, decide (c < 1048576)), by omega, ⟨by omega, hu.symm, h6.next hy (fun e => ⟨rfl, by omega, of_decide_eq_true e⟩)⟩, ?_⟩
            by_cases hn : i2 + 1 < ks.length
            · rw [sA_t hn, oA_t hn]
              exact WeakL.keep rfl rfl rfl 2 rfl rfl rfl rfl rfl
            · rw [sA_f hn, oA_f hn]
              exact WeakL.frz 10 rfl rfl rfl (WeakL.keep rfl rfl rfl 2 rfl rfl rfl rfl rfl)
      | none =>
        have hge2 := List.getElem?_eq_none_iff.1 hy
        rw [List.take_of_length_le hge2] at h5
        rw [sA_f (by omega), oA_f (by omega)]
        rw [← h5] at hMm
        cases b with
        | false =>
          repeat' first
            | refine st ?_
            | ((with_reducible apply go_i); (conv => whnf))
            | ((with_reducible apply k_pn); (· first | exact hMm | exact c2 | exact C.law_awake))
            | ((with_reducible apply k_pc); (· first | exact hMm | exact c2 | exact C.law_awake))
            | (with_reducible apply k_d <;> intro _)
            | (with_reducible apply k_b <;> intro _)
          all_goals rfl
        | true =>
          obtain ⟨g1, g2⟩ := h6 rfl
          have c6 := c5 ⟨g1, fun j y hj => g2 j y (by have := (List.getElem?_eq_some_iff.1 hj).1; omega) hj⟩
          rw [← hbl] at c3
          repeat' first
            | refine st ?_
            | ((with_reducible apply go_i); (conv => whnf))
            | ((with_reducible apply k_pn); (· first | exact hMm | exact c2 | exact c3 | exact c4 | exact c6 | exact C.law_awake))
            | ((with_reducible apply k_pc); (· first | exact hMm | exact c2 | exact c3 | exact c4 | exact c6 | exact C.law_awake))
            | (with_reducible apply k_d <;> intro _)
            | (with_reducible apply k_b <;> intro _)
          all_goals rfl
end Go.Proofs
end
section
/- The reference's Eval and Truth. No condition. -/
set_option linter.unusedSimpArgs false
set_option linter.unusedVariables false
set_option maxRecDepth 10000
set_option maxHeartbeats 4000000
namespace Go.Proofs
open Go.Bi

theorem evOp_1 (op n : Int) (v : Vl) (l row : List Vl) (h : op = 1 ∨ op = 2) (hv : op = 1 → vValid v = true) : evOp op n v l row = vLf op n v row := by
  rcases h with rfl | rfl
  · unfold evOp vLf vOrN
    simp [hv rfl]
  · rfl
theorem coa_drop' {l : List Vl} {i : Nat} {v : Vl} (h : l[i]? = some v) : coa (l.drop i) = if v.k = 0 then coa (l.drop (i + 1)) else v := by
  obtain ⟨hlt, he⟩ := List.getElem?_eq_some_iff.1 h
  rw [List.drop_eq_getElem_cons hlt, he]; rfl
def Av (row : List Vl) (args : List Ex) (i : Nat) : List (List D) := eVs ((args.take i).map (ev row))
theorem Av_len (row : List Vl) (args : List Ex) (i : Nat) (h : i ≤ args.length) : (Av row args i).length = i := by
  unfold Av
  rw [eVs_len, List.length_map, List.length_take]
  omega
theorem Av_succ {row : List Vl} {args : List Ex} {i : Nat} {x : Ex} (h : args[i]? = some x) : Av row args i ++ [(ev row x).ds] = Av row args (i + 1) := by
  unfold Av
  rw [List.take_add_one, h]
  simp [eVs]
theorem Av_end {row : List Vl} {args : List Ex} {i : Nat} (h : args.length ≤ i) : Av row args i = eVs (args.map (ev row)) := by
  unfold Av
  rw [List.take_of_length_le h]
end Go.Proofs
end
section
/- Conditions: what a conjunct states. No condition. -/
set_option linter.unusedSimpArgs false
set_option linter.unusedVariables false
set_option maxRecDepth 10000
set_option maxHeartbeats 4000000
namespace Go.Proofs
open Go.Bi

structure Cd where
  op : Int
  col : Int
  v : Vl
abbrev Cd.ds (c : Cd) : List D := [eI c.op, eI c.col, eI c.v.k, eI c.v.n, .str c.v.s]
abbrev Cd.av (c : Cd) : AV := .agg [.d (eI c.op), .d (eI c.col), .d (eI c.v.k), .d (eI c.v.n), .d (.str c.v.s)]
def eDs (l : List Cd) : List (List D) := l.map Cd.ds
theorem eDs_len (l : List Cd) : (eDs l).length = l.length := by simp [eDs]
theorem eDs_get {l : List Cd} {i : Nat} {c : Cd} (h : l[i]? = some c) : (eDs l)[i]? = some c.ds := by simp [eDs, h]
theorem eDs_mem (l : List Cd) : ∀ e ∈ eDs l, e.length = 5 := by
  intro e he
  obtain ⟨x, _, rfl⟩ := List.mem_map.1 he
  rfl
theorem eDs_app (l : List Cd) (c : Cd) : eDs l ++ [c.ds] = eDs (l ++ [c]) := by simp [eDs]
def cd0 : Cd := ⟨0, 0, vNull⟩
def mir (op : Int) : Int := if op = 9 then 11 else if op = 11 then 9 else if op = 10 then 12 else if op = 12 then 10 else op
def cmpOp (op : Int) : Bool := decide (op = 7 ∨ op = 9 ∨ op = 10 ∨ op = 11 ∨ op = 12)
def condP (op aop an : Int) (av : Vl) (bop bn : Int) (bv : Vl) : Option Cd :=
  if aop = 1 then (if bop = 2 ∧ av.k ≠ 0 ∧ vValid av = true then some ⟨mir op, bn, av⟩ else none)
  else if aop = 2 ∧ bop = 1 ∧ bv.k ≠ 0 ∧ vValid bv = true then some ⟨op, an, bv⟩ else none
def cond : Ex → Option Cd
  | .mk op _ _ _ _ [.mk aop an av _ _ _, .mk bop bn bv _ _ _] => if cmpOp op then condP op aop an av bop bn bv else none
  | _ => none
theorem cond_len {op n : Int} {v : Vl} {nm : List UInt8} {nl : Bool} {args : List Ex} (h : args.length ≠ 2) : cond (.mk op n v nm nl args) = none := by
  match args with
  | [] => rfl
  | [a] => cases a; rfl
  | [a, b] => exact absurd rfl h
  | a :: b :: c :: l => cases a; cases b; rfl
theorem cond_op {op n : Int} {v : Vl} {nm : List UInt8} {nl : Bool} {args : List Ex} (h : cmpOp op = false) : cond (.mk op n v nm nl args) = none := by
  match args with
  | [] => rfl
  | [a] => cases a; rfl
  | [.mk aop an av _ _ _, .mk bop bn bv _ _ _] => rw [cond, h]; rfl
  | a :: b :: c :: l => cases a; cases b; rfl
/-- What 'condition' returns. -/
def cdO (o : Option Cd) : AV := .tup [(o.getD cd0).av, .d (.bool o.isSome)]
theorem cond_ok {e : Ex} {c : Cd} (h : cond e = some c) : cmpOp c.op = true ∧ c.v.k ≠ 0 ∧ vValid c.v = true := by
  obtain ⟨op, n, v, nm, nl, args⟩ := e
  match args with
  | [] => cases h
  | [a] => cases a; cases h
  | a :: b :: c :: l => cases a; cases b; cases h
  | [.mk aop an av _ _ _, .mk bop bn bv _ _ _] =>
    rw [cond] at h
    cases hc : cmpOp op with
    | false => rw [hc] at h; cases h
    | true =>
      rw [hc, if_pos rfl] at h
      unfold condP at h
      have hm : cmpOp (mir op) = true := by
        unfold cmpOp at hc ⊢
        unfold mir
        have := of_decide_eq_true hc
        rcases this with rfl | rfl | rfl | rfl | rfl <;> decide
      split at h
      · split at h
        · rename_i h1; cases h; exact ⟨hm, h1.2.1, h1.2.2⟩
        · cases h
      · split at h
        · rename_i h1; cases h; exact ⟨hc, h1.2.2.1, h1.2.2.2⟩
        · cases h
theorem C.predicate_mirrored (op : Int) : Pure Try.prog N.predicate_mirrored [.d (eI op)] (.d (eI (mir op))) := by
  refine F.predicate_mirrored.go mixed rfl ?_
  obtain ⟨q, hq⟩ : ∃ q, q = mir op := ⟨_, rfl⟩
  rw [← hq]
  unfold mir at hq
  repeat' first
    | refine st ?_
    | ((with_reducible apply go_i); (conv => whnf))
    | (with_reducible apply k_d <;> intro _)
    | (with_reducible apply k_b <;> intro _)
  all_goals (simp_all)
theorem C.predicate_condition (e : Ex) (he : e.bk ≤ 1048576) : Pure Try.prog N.predicate_condition [e.av] (cdO (cond e)) := by
  obtain ⟨op, n, v, nm, nl, args⟩ := e
  obtain ⟨b1, b2, b3, b4⟩ := Ex.bk_bounds he
  rw [Ex.av_mk]
  have h1 := xL_len args
  have hm := xL_mem args
  obtain ⟨da, hda⟩ : ∃ d, d = ng nl (xL args) := ⟨_, rfl⟩
  have hsd : SlD da (xL args) := by rw [hda]; exact sld_ng
  rw [← hda]
  refine F.predicate_condition.go mixed rfl ?_
  cases hc : cmpOp op with
  | false =>
    rw [cond_op hc]
    unfold cmpOp at hc
    have hc := of_decide_eq_false hc
    repeat' first
      | refine st ?_
      | ((with_reducible apply go_i); (conv => whnf))
      | (with_reducible apply k_d <;> intro _)
      | (with_reducible apply k_b <;> intro _)
    all_goals first | rfl | (exfalso; omega)
  | true =>
    by_cases h2 : args.length = 2
    rotate_left
    · rw [cond_len h2]
      unfold cmpOp at hc
      have hc := of_decide_eq_true hc
      repeat' first
        | refine st ?_
        | ((with_reducible apply go_i); (conv => whnf))
        | (with_reducible apply k_d <;> intro _)
        | (with_reducible apply k_b <;> intro _)
      all_goals first | rfl | (exfalso; omega)
    match args, h2 with
    | [a, b], _ =>
      obtain ⟨aop, an, av, am, al, aa⟩ := a
      obtain ⟨bop, bn, bv, bm, bl, ba⟩ := b
      have ba' := b4 _ (List.mem_cons_self ..)
      have bb' := b4 _ (List.mem_cons_of_mem _ (List.mem_cons_self ..))
      have ca := Ex.bk_bounds ba'
      have cb := Ex.bk_bounds bb'
      rw [cond, hc, if_pos rfl]
      unfold cmpOp at hc
      have hc := of_decide_eq_true hc
      obtain ⟨es, hes⟩ : ∃ es, es = xL [.mk aop an av am al aa, .mk bop bn bv bm bl ba] := ⟨_, rfl⟩
      have g0 : es[0]? = some (xds aop an av am (ng al (xL aa))) := by rw [hes, ← Ex.ds_mk]; rfl
      have g1 : es[1]? = some (xds bop bn bv bm (ng bl (xL ba))) := by rw [hes, ← Ex.ds_mk]; rfl
      rw [← hes] at hsd h1 hm
      obtain ⟨d1, hd1⟩ : ∃ d, d = ng al (xL aa) := ⟨_, rfl⟩
      obtain ⟨d2, hd2⟩ : ∃ d, d = ng bl (xL ba) := ⟨_, rfl⟩
      rw [← hd1] at g0
      rw [← hd2] at g1
      have h1 : es.length = 2 := h1
      have q0 : av.s = av.s := rfl
      have q1 : bv.s = bv.s := rfl
      have hM := C.predicate_mirrored op
      have hVa := C.value_Valid av (by omega)
      have hVb := C.value_Valid bv (by omega)
      obtain ⟨o, ho⟩ : ∃ o, o = condP op aop an av bop bn bv := ⟨_, rfl⟩
      rw [← ho]
      unfold condP at ho
      by_cases a1 : aop = 1
      · rw [if_pos a1] at ho
        cases hv : vValid av with
        | false =>
          rw [hv] at hVa
          rw [if_neg (by rw [hv]; simp)] at ho
          subst ho
          repeat' first
            | refine st ?_
            | ((with_reducible apply go_i); (conv => whnf))
            | ((with_reducible apply k_pn); (· first | exact hM | exact hVa))
            | ((with_reducible apply k_pc); (· first | exact hM | exact hVa))
            | (with_reducible apply k_d <;> intro _)
            | (with_reducible apply k_b <;> intro _)
          all_goals first | rfl | (exfalso; omega)
        | true =>
          rw [hv] at hVa
          by_cases z : bop = 2 ∧ av.k ≠ 0
          · obtain ⟨z1, z2⟩ := z
            rw [if_pos ⟨z1, z2, hv⟩] at ho
            subst ho
            repeat' first
              | refine st ?_
              | ((with_reducible apply go_i); (conv => whnf))
              | ((with_reducible apply k_pn); (· first | exact hM | exact hVa))
              | ((with_reducible apply k_pc); (· first | exact hM | exact hVa))
              | (with_reducible apply k_d <;> intro _)
              | (with_reducible apply k_b <;> intro _)
            all_goals first | rfl | (exfalso; omega)
          · rw [if_neg (fun h => z ⟨h.1, h.2.1⟩)] at ho
            subst ho
            repeat' first
              | refine st ?_
              | ((with_reducible apply go_i); (conv => whnf))
              | ((with_reducible apply k_pn); (· first | exact hM | exact hVa))
              | ((with_reducible apply k_pc); (· first | exact hM | exact hVa))
              | (with_reducible apply k_d <;> intro _)
              | (with_reducible apply k_b <;> intro _)
            all_goals first | rfl | (exfalso; omega) | (exfalso; simp_all; done)
      · rw [if_neg a1] at ho
        cases hv : vValid bv with
        | false =>
          rw [hv] at hVb
          rw [if_neg (by rw [hv]; simp)] at ho
          subst ho
          repeat' first
            | refine st ?_
            | ((with_reducible apply go_i); (conv => whnf))
            | ((with_reducible apply k_pn); (· first | exact hM | exact hVb))
            | ((with_reducible apply k_pc); (· first | exact hM | exact hVb))
            | (with_reducible apply k_d <;> intro _)
            | (with_reducible apply k_b <;> intro _)
          all_goals first | rfl | (exfalso; omega)
        | true =>
          rw [hv] at hVb
          by_cases z : aop = 2 ∧ bop = 1 ∧ bv.k ≠ 0
          · obtain ⟨z0, z1, z2⟩ := z
            rw [if_pos ⟨z0, z1, z2, hv⟩] at ho
            subst ho
            repeat' first
              | refine st ?_
              | ((with_reducible apply go_i); (conv => whnf))
              | ((with_reducible apply k_pn); (· first | exact hM | exact hVb))
              | ((with_reducible apply k_pc); (· first | exact hM | exact hVb))
              | (with_reducible apply k_d <;> intro _)
              | (with_reducible apply k_b <;> intro _)
            all_goals first | rfl | (exfalso; omega)
          · rw [if_neg (fun h => z ⟨h.1, h.2.1, h.2.2.1⟩)] at ho
            subst ho
            repeat' first
              | refine st ?_
              | ((with_reducible apply go_i); (conv => whnf))
              | ((with_reducible apply k_pn); (· first | exact hM | exact hVb))
              | ((with_reducible apply k_pc); (· first | exact hM | exact hVb))
              | (with_reducible apply k_d <;> intro _)
              | (with_reducible apply k_b <;> intro _)
            all_goals first | rfl | (exfalso; omega) | (exfalso; simp_all; done)
def plainX (op : Int) (v : Vl) : Bool := decide (op = 1) && (vValid v && !decide (v.k = 0))
end Go.Proofs
end
section
/- Conditions and conjuncts of whole predicates. No condition. -/
set_option linter.unusedSimpArgs false
set_option linter.unusedVariables false
set_option maxRecDepth 10000
set_option maxHeartbeats 4000000
namespace Go.Proofs
open Go.Bi

def okA (sz : Nat) (k : Nat) (A : List (List D)) : Prop := A.length + k ≤ 2097152 ∧ ∀ e ∈ A, e.length = sz
def addC (A : List (List D)) (x : Ex) : List (List D) := A ++ (cond x).toList.map Cd.ds
theorem addC_fold (l : List Ex) : ∀ A, l.foldl addC A = A ++ eDs (l.filterMap cond) := by
  induction l with
  | nil => intro A; simp [eDs]
  | cons x l ih =>
    intro A
    rw [List.foldl_cons, ih, List.filterMap_cons, addC, List.append_assoc]
    cases cond x <;> simp [eDs]
def conds (e : Ex) : List Cd := (cj e).filterMap cond
theorem conds_len (e : Ex) : (conds e).length ≤ e.bk := Nat.le_trans (List.length_filterMap_le _ _) (cj_len e)
theorem conds_ok {e : Ex} {c : Cd} (h : c ∈ conds e) : cmpOp c.op = true ∧ c.v.k ≠ 0 ∧ vValid c.v = true := by
  obtain ⟨x, _, hx⟩ := List.mem_filterMap.1 h
  exact cond_ok hx
theorem C.Conditions_c1 (x : Ex) (hx : x.bk ≤ 1048576) (k : Nat) (A : List (List D)) (hA : okA 5 (k + 1) A) : okA 5 k (addC A x) ∧ CallSpec Try.prog N.predicate_Conditions_c1 [x.av, .ptr 0 0] [.cells [.arr 1 A.length], .arr A 5 0 A.isEmpty] (fun r os => r = .tup [] ∧ os = [.cells [.arr 1 (addC A x).length], .arr (addC A x) 5 0 (addC A x).isEmpty]) := by
  obtain ⟨k1, k2⟩ := hA
  have hC := C.predicate_condition x hx
  unfold addC
  cases hc : cond x with
  | none =>
    rw [hc] at hC
    simp only [Option.toList_none, List.map_nil, List.append_nil]
    refine ⟨⟨by omega, k2⟩, ?_⟩
    obtain ⟨op, n, v, nm, nl, args⟩ := x
    rw [Ex.av_mk] at hC ⊢
    refine F.predicate_Conditions_c1.goX mixed rfl ?_
    repeat' first
      | refine st ?_
      | ((with_reducible apply go_i); (conv => whnf))
      | ((with_reducible apply k_pn); (· exact hC))
      | ((with_reducible apply k_pc); (· exact hC))
      | (with_reducible apply k_d <;> intro _)
      | (with_reducible apply k_b <;> intro _)
    all_goals exact ⟨rfl, rfl⟩
  | some c =>
    rw [hc] at hC
    simp only [Option.toList_some, List.map_cons, List.map_nil]
    refine ⟨⟨by simp; omega, fun e he => ?_⟩, ?_⟩
    · rcases List.mem_append.1 he with h | h
      · exact k2 e h
      · simp at h; subst h; rfl
    obtain ⟨op, n, v, nm, nl, args⟩ := x
    obtain ⟨cop, col, cv⟩ := c
    rw [Ex.av_mk] at hC ⊢
    refine F.predicate_Conditions_c1.goX mixed rfl ?_
    obtain ⟨b, hb⟩ : ∃ b, b = A.isEmpty := ⟨_, rfl⟩
    rw [← hb]
    have e1 : (A ++ [Cd.ds ⟨cop, col, cv⟩]).isEmpty = false := by simp
    rw [e1]
    repeat' first
      | refine st ?_
      | ((with_reducible apply go_i); (conv => whnf))
      | ((with_reducible apply k_pn); (· exact hC))
      | ((with_reducible apply k_pc); (· exact hC))
      | (with_reducible apply k_d <;> intro _)
      | (with_reducible apply k_b <;> intro _)
    all_goals first | exact ⟨rfl, rfl⟩ | skip
theorem C.predicate_Conditions (e : Ex) (he : e.bk ≤ 1048576) : Pure Try.prog N.predicate_Conditions [e.av] (.d (nsl (eDs (conds e)))) := by
  have hl := cj_len e
  have hE := (C.each_l N.predicate_Conditions_c1 5 addC (okA 5) C.Conditions_c1 e he 0 [] ⟨by simp; omega, by simp⟩).2
  rw [addC_fold, List.nil_append] at hE
  obtain ⟨R, hR⟩ : ∃ R, R = eDs (conds e) := ⟨_, rfl⟩
  rw [show eDs ((cj e).filterMap cond) = R from hR.symm] at hE
  rw [← hR]
  have hB : ∀ (E : List AV), (∀ c ∈ E, ∃ x, c = .d x) → CallSpec Try.prog N.predicate_each [e.av, .clo N.predicate_Conditions_c1 [1]] [.cells E, .cells [.d .nil]] (fun r os => r = .tup [] ∧ os = [.cells E, .cells [.arr 2 R.length], .arr R 5 0 R.isEmpty]) := by
    intro E hEE
    refine CallSpec.nilc 1 0 5 rfl (cs := [.d .nil]) rfl rfl ?_
    have := CallSpec.frame (K := fun r os => r = .tup [] ∧ os = [.cells E, .cells [.arr 2 R.length], .arr R 5 0 R.isEmpty]) hE [1, 2] [.cells E, .cells [.arr 2 0], .arr [] 5 0 true] rfl (by decide) (fun i o h => by
      match i, h with
      | 0, h => cases h; rfl
      | 1, h => cases h; rfl
      | i + 2, h => simp at h) (fun a ha => by
        simp only [List.mem_cons, List.not_mem_nil, or_false] at ha
        rcases ha with rfl | rfl
        · exact bnd_ds _ _
        · simp [AV.bnd2, AV.bnd1]) (fun o ho => by
        simp only [List.mem_cons, List.not_mem_nil, or_false] at ho
        rcases ho with rfl | rfl <;> simp [AO.bnd, AV.bnd1]) (by rintro r bs' ⟨rfl, rfl⟩; exact ⟨rfl, rfl⟩)
    rw [List.map_cons, List.map_cons, List.map_nil, Ex.av, mG_ds] at this
    exact this
  obtain ⟨op, n, v, nm, nl, args⟩ := e
  rw [Ex.av_mk] at hB ⊢
  refine F.predicate_Conditions.go mixed rfl ?_
  have hB' := hB ((xds op n v nm (ng nl (xL args))).map .d) (fun c hc => by
    obtain ⟨y, _, rfl⟩ := List.mem_map.1 hc
    exact ⟨y, rfl⟩)
  obtain ⟨b, hb⟩ : ∃ b, b = R.isEmpty := ⟨_, rfl⟩
  rw [← hb] at hB'
  unfold nsl
  rw [← hb]
  cases b with
  | true =>
    repeat' first
      | refine st ?_
      | ((with_reducible apply go_i); (conv => whnf))
      | ((with_reducible apply k_nc); (· first | exact hB'); (try rintro _ _ ⟨rfl, rfl⟩))
      | ((with_reducible apply k_pr); (· first | exact hB'))
      | ((with_reducible apply k_cs); (· first | exact hB'); (try rintro _ _ ⟨rfl, rfl⟩))
      | ((with_reducible apply k_cal); refine st ?_; (with_reducible apply k_chk); (· exact rfl); refine st ?_; (with_reducible apply k_cs); (· first | exact hB'); (try rintro _ _ ⟨rfl, rfl⟩))
      | (with_reducible apply k_d <;> intro _)
      | (with_reducible apply k_b <;> intro _)
    all_goals rfl
  | false =>
    repeat' first
      | refine st ?_
      | ((with_reducible apply go_i); (conv => whnf))
      | ((with_reducible apply k_nc); (· first | exact hB'); (try rintro _ _ ⟨rfl, rfl⟩))
      | ((with_reducible apply k_pr); (· first | exact hB'))
      | ((with_reducible apply k_cs); (· first | exact hB'); (try rintro _ _ ⟨rfl, rfl⟩))
      | ((with_reducible apply k_cal); refine st ?_; (with_reducible apply k_chk); (· exact rfl); refine st ?_; (with_reducible apply k_cs); (· first | exact hB'); (try rintro _ _ ⟨rfl, rfl⟩))
      | (with_reducible apply k_d <;> intro _)
      | (with_reducible apply k_b <;> intro _)
    all_goals rfl
end Go.Proofs
end
section
/- Conjuncts, conditions of the reference, equations. No condition. -/
set_option linter.unusedSimpArgs false
set_option linter.unusedVariables false
set_option maxRecDepth 10000
set_option maxHeartbeats 4000000
namespace Go.Proofs
open Go.Bi

theorem each_use {g : FuncId} {sz : Nat} (hsz : Nat.blt 0 sz = true) {R : List (List D)} {ds : List D} (hE : CallSpec Try.prog N.predicate_each [.agg (ds.map .d), .clo g [0]] [.cells [.arr 1 0], .arr [] sz 0 true] (fun r os => r = .tup [] ∧ os = [.cells [.arr 1 R.length], .arr R sz 0 R.isEmpty])) (E : List AV) (hEE : ∀ c ∈ E, ∃ x, c = .d x) :
    CallSpec Try.prog N.predicate_each [.agg (ds.map .d), .clo g [1]] [.cells E, .cells [.d .nil]] (fun r os => r = .tup [] ∧ os = [.cells E, .cells [.arr 2 R.length], .arr R sz 0 R.isEmpty]) := by
  refine CallSpec.nilc 1 0 sz hsz (cs := [.d .nil]) rfl rfl ?_
  have := CallSpec.frame (K := fun r os => r = .tup [] ∧ os = [.cells E, .cells [.arr 2 R.length], .arr R sz 0 R.isEmpty]) hE [1, 2] [.cells E, .cells [.arr 2 0], .arr [] sz 0 true] rfl (by decide) (fun i o h => by
    match i, h with
    | 0, h => cases h; rfl
    | 1, h => cases h; rfl
    | i + 2, h => simp at h) (fun a ha => by
      simp only [List.mem_cons, List.not_mem_nil, or_false] at ha
      rcases ha with rfl | rfl
      · exact bnd_ds _ _
      · simp [AV.bnd2, AV.bnd1]) (fun o ho => by
      simp only [List.mem_cons, List.not_mem_nil, or_false] at ho
      rcases ho with rfl | rfl <;> simp [AO.bnd, AV.bnd1]) (by rintro r bs' ⟨rfl, rfl⟩; exact ⟨rfl, rfl⟩)
  rw [List.map_cons, List.map_cons, List.map_nil, mG_ds] at this
  exact this
theorem each_uses {g : FuncId} {sz : Nat} (hsz : Nat.blt 0 sz = true) {R : List (List D)} {ds : List D} {z : D} (hE : CallSpec Try.prog N.predicate_each [.agg (ds.map .d), .clo g [0, 1]] [.cells [.d z], .cells [.arr 2 0], .arr [] sz 0 true] (fun r os => r = .tup [] ∧ os = [.cells [.d z], .cells [.arr 2 R.length], .arr R sz 0 R.isEmpty])) (E : List AV) (hEE : ∀ c ∈ E, ∃ x, c = .d x) :
    CallSpec Try.prog N.predicate_each [.agg (ds.map .d), .clo g [1, 2]] [.cells E, .cells [.d z], .cells [.d .nil]] (fun r os => r = .tup [] ∧ os = [.cells E, .cells [.d z], .cells [.arr 3 R.length], .arr R sz 0 R.isEmpty]) := by
  refine CallSpec.nilc 2 0 sz hsz (cs := [.d .nil]) rfl rfl ?_
  have := CallSpec.frame (K := fun r os => r = .tup [] ∧ os = [.cells E, .cells [.d z], .cells [.arr 3 R.length], .arr R sz 0 R.isEmpty]) hE [1, 2, 3] [.cells E, .cells [.d z], .cells [.arr 3 0], .arr [] sz 0 true] rfl (by decide) (fun i o h => by
    match i, h with
    | 0, h => cases h; rfl
    | 1, h => cases h; rfl
    | 2, h => cases h; rfl
    | i + 3, h => simp at h) (fun a ha => by
      simp only [List.mem_cons, List.not_mem_nil, or_false] at ha
      rcases ha with rfl | rfl
      · exact bnd_ds _ _
      · simp [AV.bnd2, AV.bnd1]) (fun o ho => by
      simp only [List.mem_cons, List.not_mem_nil, or_false] at ho
      rcases ho with rfl | rfl | rfl <;> simp [AO.bnd, AV.bnd1]) (by rintro r bs' ⟨rfl, rfl⟩; exact ⟨rfl, rfl⟩)
  rw [List.map_cons, List.map_cons, List.map_nil, mG_ds] at this
  exact this
theorem all_d (ds : List D) : ∀ c ∈ ds.map AV.d, ∃ x, c = .d x := fun c hc => by
  obtain ⟨y, _, rfl⟩ := List.mem_map.1 hc
  exact ⟨y, rfl⟩

/-! ### Conjuncts -/
def addX (A : List (List D)) (x : Ex) : List (List D) := A ++ [(shf 0 x).ds]
theorem addX_fold (l : List Ex) : ∀ A, l.foldl addX A = A ++ xL (l.map (shf 0)) := by
  induction l with
  | nil => intro A; simp [xL]
  | cons x l ih =>
    intro A
    rw [List.foldl_cons, ih, addX, List.append_assoc]
    simp [xL]
theorem shf_ds_len (k : Int) (x : Ex) : (shf k x).ds.length = 7 := by
  obtain ⟨op, n, v, nm, nl, args⟩ := x
  rw [shf_mk, Ex.ds_mk]; rfl
theorem C.Conjuncts_c1 (x : Ex) (hx : x.bk ≤ 1048576) (k : Nat) (A : List (List D)) (hA : okA 7 (k + 1) A) : okA 7 k (addX A x) ∧ CallSpec Try.prog N.predicate_Conjuncts_c1 [x.av, .ptr 0 0] [.cells [.arr 1 A.length], .arr A 7 0 A.isEmpty] (fun r os => r = .tup [] ∧ os = [.cells [.arr 1 (addX A x).length], .arr (addX A x) 7 0 (addX A x).isEmpty]) := by
  obtain ⟨k1, k2⟩ := hA
  have hC := C.expr_Shift x hx 0
  have h7 := shf_ds_len 0 x
  unfold addX
  refine ⟨⟨by simp; omega, fun e he => ?_⟩, ?_⟩
  · rcases List.mem_append.1 he with h | h
    · exact k2 e h
    · simp at h; subst h; exact h7
  obtain ⟨z, hz⟩ : ∃ z, z = shf 0 x := ⟨_, rfl⟩
  rw [← hz] at hC ⊢
  obtain ⟨op, n, v, nm, nl, args⟩ := x
  obtain ⟨o2, n2, v2, m2, l2, a2⟩ := z
  rw [Ex.av_mk, Ex.av_mk] at hC
  rw [Ex.av_mk, Ex.ds_mk]
  have e1 : (A ++ [xds o2 n2 v2 m2 (ng l2 (xL a2))]).isEmpty = false := by simp
  rw [e1]
  obtain ⟨b, hb⟩ : ∃ b, b = A.isEmpty := ⟨_, rfl⟩
  rw [← hb]
  have g1 : 0 ≤ (A.length : Int) ∧ (A.length : Int) < ((A ++ [[eI 0, eI 0, eI 0, eI 0, .str [], .str [], .nil]]).length : Nat) := by simp; omega
  have g2 : (A ++ [[eI 0, eI 0, eI 0, eI 0, .str [], .str [], .nil]])[(A.length : Int).toNat]? = some [eI 0, eI 0, eI 0, eI 0, .str [], .str [], .nil] := by simp
  have g3 : (A ++ [[eI 0, eI 0, eI 0, eI 0, .str [], .str [], .nil]]).set (A.length : Int).toNat (xds o2 n2 v2 m2 (ng l2 (xL a2))) = A ++ [xds o2 n2 v2 m2 (ng l2 (xL a2))] := by simp
  refine F.predicate_Conjuncts_c1.goX mixed rfl ?_
  repeat' first
    | refine st ?_
    | ((with_reducible apply go_i); (conv => whnf))
    | ((with_reducible apply k_pn); (· exact hC))
    | ((with_reducible apply k_pc); (· exact hC))
    | (with_reducible apply k_d <;> intro _)
    | (with_reducible apply k_b <;> intro _)
  all_goals exact ⟨rfl, by simp⟩
theorem C.predicate_Conjuncts (e : Ex) (he : e.bk ≤ 1048576) : Pure Try.prog N.predicate_Conjuncts [e.av] (.d (nsl (xL ((cj e).map (shf 0))))) := by
  have hl := cj_len e
  have hE := (C.each_l N.predicate_Conjuncts_c1 7 addX (okA 7) C.Conjuncts_c1 e he 0 [] ⟨by simp; omega, by simp⟩).2
  rw [addX_fold, List.nil_append] at hE
  obtain ⟨R, hR⟩ : ∃ R, R = xL ((cj e).map (shf 0)) := ⟨_, rfl⟩
  rw [← hR] at hE ⊢
  obtain ⟨op, n, v, nm, nl, args⟩ := e
  have hB := each_use rfl hE ((xds op n v nm (ng nl (xL args))).map .d) (all_d _)
  rw [Ex.ds_mk] at hB
  rw [Ex.av_mk]
  refine F.predicate_Conjuncts.go mixed rfl ?_
  obtain ⟨b, hb⟩ : ∃ b, b = R.isEmpty := ⟨_, rfl⟩
  rw [← hb] at hB
  unfold nsl
  rw [← hb]
  cases b with
  | true =>
    repeat' first
      | refine st ?_
      | ((with_reducible apply go_i); (conv => whnf))
      | ((with_reducible apply k_nc); (· first | exact hB); (try rintro _ _ ⟨rfl, rfl⟩))
      | ((with_reducible apply k_pr); (· first | exact hB))
      | ((with_reducible apply k_cs); (· first | exact hB); (try rintro _ _ ⟨rfl, rfl⟩))
      | ((with_reducible apply k_cal); refine st ?_; (with_reducible apply k_chk); (· exact rfl); refine st ?_; (with_reducible apply k_cs); (· first | exact hB); (try rintro _ _ ⟨rfl, rfl⟩))
      | (with_reducible apply k_d <;> intro _)
      | (with_reducible apply k_b <;> intro _)
    all_goals rfl
  | false =>
    repeat' first
      | refine st ?_
      | ((with_reducible apply go_i); (conv => whnf))
      | ((with_reducible apply k_nc); (· first | exact hB); (try rintro _ _ ⟨rfl, rfl⟩))
      | ((with_reducible apply k_pr); (· first | exact hB))
      | ((with_reducible apply k_cs); (· first | exact hB); (try rintro _ _ ⟨rfl, rfl⟩))
      | ((with_reducible apply k_cal); refine st ?_; (with_reducible apply k_chk); (· exact rfl); refine st ?_; (with_reducible apply k_cs); (· first | exact hB); (try rintro _ _ ⟨rfl, rfl⟩))
      | (with_reducible apply k_d <;> intro _)
      | (with_reducible apply k_b <;> intro _)
    all_goals rfl
theorem fmd_and {n : Int} {v : Vl} {nm : List UInt8} {k : Nat} : fmd 5 n v nm k = isAnd 5 n v nm k := by
  have hc : (cnt 5 (k : Int)).1 = decide (2 ≤ k) := by
    unfold cnt
    simp
    omega
  unfold fmd isAnd
  rw [hc, Bool.eq_iff_iff]
  simp
  constructor
  · rintro ⟨⟨h1, h2⟩, h3, h4⟩; exact ⟨h1, h3, h2, h4⟩
  · rintro ⟨h1, h3, h2, h4⟩; exact ⟨⟨h1, h2⟩, h3, h4⟩
theorem C.r12_Conjuncts : ∀ e : Ex, e.bk ≤ 1048576 → Pure Try.prog N.bt_ref12_Conjuncts [e.av] (.d (.sl (xL (cj e)))) := by
  refine Ex.ind fun op n v nm nl args ih hb => ?_
  obtain ⟨b1, b2, b3, b4⟩ := Ex.bk_bounds hb
  have h1 := xL_len args
  have hm := xL_mem args
  have hF := C.r11_Formed op n v nm (ng nl (xL args)) (xL args) sld_ng b2 (by omega)
  rw [h1] at hF
  rw [cj_mk, Ex.av_mk]
  obtain ⟨da, hda⟩ : ∃ d, d = ng nl (xL args) := ⟨_, rfl⟩
  have hsd : SlD da (xL args) := by rw [hda]; exact sld_ng
  rw [← hda] at hF ⊢
  have r1 : v.s = v.s := rfl
  have r2 : nm = nm := rfl
  by_cases h5 : op = 5
  rotate_left
  · have : isAnd op n v nm args.length = false := by unfold isAnd; rw [decide_eq_false (fun h => h5 h.1)]
    rw [this, if_neg (by simp)]
    refine F.bt_ref12_Conjuncts.go mixed rfl ?_
    rw [show xL [Ex.mk op n v nm nl args] = [xds op n v nm da] by rw [xL, List.map_cons, List.map_nil, Ex.ds_mk, hda]]
    repeat' first
      | refine st ?_
      | ((with_reducible apply go_i); (conv => whnf))
      | (with_reducible apply k_d <;> intro _)
      | (with_reducible apply k_b <;> intro _)
    all_goals rfl
  subst h5
  rw [fmd_and] at hF
  cases hA : isAnd 5 n v nm args.length with
  | false =>
    rw [hA] at hF
    rw [if_neg (by simp)]
    refine F.bt_ref12_Conjuncts.go mixed rfl ?_
    rw [show xL [Ex.mk 5 n v nm nl args] = [xds 5 n v nm da] by rw [xL, List.map_cons, List.map_nil, Ex.ds_mk, hda]]
    repeat' first
      | refine st ?_
      | ((with_reducible apply go_i); (conv => whnf))
      | ((with_reducible apply k_pn); (· exact hF))
      | ((with_reducible apply k_pc); (· exact hF))
      | (with_reducible apply k_d <;> intro _)
      | (with_reducible apply k_b <;> intro _)
    all_goals rfl
  | true =>
    rw [hA] at hF
    rw [if_pos rfl]
    refine F.bt_ref12_Conjuncts.go mixed rfl ?_
    obtain ⟨R, hR⟩ : ∃ R, R = xL (args.flatMap cj) := ⟨_, rfl⟩
    rw [← hR]
    have hbl := Ex.bk_mk 5 n v nm nl args
    repeat' first
      | refine st ?_
      | ((with_reducible apply go_i); (conv => whnf))
      | ((with_reducible apply k_pn); (· exact hF))
      | ((with_reducible apply k_pc); (· exact hF))
      | (with_reducible apply k_d <;> intro _)
      | (with_reducible apply k_b <;> intro _)
    refine x_loop2 mixed Lt.bt_ref12_Conjuncts_l0 Lk.bt_ref12_Conjuncts_l0 (fun (i : Nat) (A : List (List D)) => [.arr 1 A.length, .d (eI i)]) (fun i A => [.cells [.d (eI 5), .d (eI n), .d (eI v.k), .d (eI v.n), .d (.str v.s), .d (.str nm), .d da], .arr A 7 0 false]) (fun i A => i ≤ args.length ∧ A = xL ((args.take i).flatMap cj)) (fun i _ => args.length - i) 0 [] rfl rfl rfl rfl (fun _ _ _ => ⟨rfl, rfl⟩) rfl ⟨by omega, rfl⟩ ?_
    repeat' first
      | refine st ?_
      | ((with_reducible apply go_i); (conv => whnf))
      | (with_reducible apply k_d <;> intro _)
      | (with_reducible apply k_b <;> intro _)
    intro i A ⟨h4, h5⟩
    have hAl : A.length ≤ 1048576 := by
      rw [h5, xL_len]
      have := cjt_len args i
      omega
    have hAm : ∀ e ∈ A, e.length = 7 := by rw [h5]; exact xL_mem _
    cases hx : args[i]? with
    | some x =>
      have hlt := (List.getElem?_eq_some_iff.1 hx).1
      have hg := xL_get hx
      have hi := ih x (List.mem_of_getElem? hx) (b4 x (List.mem_of_getElem? hx))
      have hcl := cj_len x
      have hbx := b4 x (List.mem_of_getElem? hx)
      have hs : A ++ xL (cj x) = xL ((args.take (i + 1)).flatMap cj) := by rw [cjt_succ hx, h5]; simp [xL]
      obtain ⟨B, hB⟩ : ∃ B, B = xL (cj x) := ⟨_, rfl⟩
      have hBl : B.length ≤ 1048576 := by rw [hB, xL_len]; omega
      have hBm : ∀ e ∈ B, e.length = 7 := by rw [hB]; exact xL_mem _
      rw [← hB] at hi hs
      obtain ⟨o1, n1, v1, m1, l1, a1⟩ := x
      rw [Ex.ds_mk] at hg
      rw [Ex.av_mk] at hi
      repeat' first
        | refine st ?_
        | ((with_reducible apply go_i); (conv => whnf))
        | ((with_reducible apply k_pn); (· exact hi))
        | ((with_reducible apply k_pc); (· exact hi))
        | (with_reducible apply k_d <;> intro _)
        | (with_reducible apply k_b <;> intro _)
      exact ⟨i + 1, A ++ B, rfl, rfl, by cases B <;> rfl, by omega, by omega, hs⟩
    | none =>
      have hge := List.getElem?_eq_none_iff.1 hx
      rw [List.take_of_length_le hge, ← hR] at h5
      rw [← h5]
      repeat' first
        | refine st ?_
        | ((with_reducible apply go_i); (conv => whnf))
        | (with_reducible apply k_d <;> intro _)
        | (with_reducible apply k_b <;> intro _)
      all_goals rfl
theorem condt_succ {l : List Ex} {i : Nat} {x : Ex} (h : l[i]? = some x) : (l.take (i + 1)).filterMap cond = (l.take i).filterMap cond ++ (cond x).toList := by
  rw [List.take_add_one, h, List.filterMap_append]
  congr 1
end Go.Proofs
end
section
/- Equations, the program's and the reference's. No condition. -/
set_option linter.unusedSimpArgs false
set_option linter.unusedVariables false
set_option maxRecDepth 10000
set_option maxHeartbeats 4000000
namespace Go.Proofs
open Go.Bi

def pds (p : Int × Int) : List D := [eI p.1, eI p.2]
def pDs (l : List (Int × Int)) : List (List D) := l.map pds
theorem pDs_len (l : List (Int × Int)) : (pDs l).length = l.length := by simp [pDs]
theorem pDs_get {l : List (Int × Int)} {i : Nat} {p : Int × Int} (h : l[i]? = some p) : (pDs l)[i]? = some [eI p.1, eI p.2] := by simp [pDs, h, pds]
theorem pDs_mem (l : List (Int × Int)) : ∀ e ∈ pDs l, e.length = 2 := by
  intro e he
  obtain ⟨x, _, rfl⟩ := List.mem_map.1 he
  rfl
def eqP (s op aop an bop bn : Int) : Option (Int × Int) :=
  if op = 7 ∧ aop = 2 ∧ bop = 2 ∧ min an bn < s ∧ s ≤ max an bn then some (min an bn, max an bn) else none
def eqn (s : Int) : Ex → Option (Int × Int)
  | .mk op _ _ _ _ [.mk aop an _ _ _ _, .mk bop bn _ _ _ _] => eqP s op aop an bop bn
  | _ => none
theorem eqn_len {s op n : Int} {v : Vl} {nm : List UInt8} {nl : Bool} {args : List Ex} (h : args.length ≠ 2) : eqn s (.mk op n v nm nl args) = none := by
  match args with
  | [] => rfl
  | [a] => cases a; rfl
  | [a, b] => exact absurd rfl h
  | a :: b :: c :: l => cases a; cases b; rfl
def addP (s : Int) (A : List (List D)) (x : Ex) : List (List D) := A ++ (eqn s x).toList.map pds
def eqs (s : Int) (e : Ex) : List (Int × Int) := (cj e).filterMap (eqn s)
theorem addP_fold (s : Int) (l : List Ex) : ∀ A, l.foldl (addP s) A = A ++ pDs (l.filterMap (eqn s)) := by
  induction l with
  | nil => intro A; simp [pDs]
  | cons x l ih =>
    intro A
    rw [List.foldl_cons, ih, List.filterMap_cons, addP, List.append_assoc]
    cases eqn s x <;> simp [pDs]
theorem eqs_len (s : Int) (e : Ex) : (eqs s e).length ≤ e.bk := Nat.le_trans (List.length_filterMap_le _ _) (cj_len e)
theorem eqt_succ {s : Int} {l : List Ex} {i : Nat} {x : Ex} (h : l[i]? = some x) : (l.take (i + 1)).filterMap (eqn s) = (l.take i).filterMap (eqn s) ++ (eqn s x).toList := by
  rw [List.take_add_one, h, List.filterMap_append]
  congr 1
end Go.Proofs
end
section
/- Same: expressions are compared. No condition. -/
set_option linter.unusedSimpArgs false
set_option linter.unusedVariables false
set_option maxRecDepth 10000
set_option maxHeartbeats 4000000
namespace Go.Proofs
open Go.Bi

mutual
def smE : Ex → Ex → Bool
  | .mk op n v name nl args, .mk op' n' v' name' nl' args' => decide (op = op') && decide (n = n') && decide (v = v') && decide (name = name') && smL args args'
def smL : List Ex → List Ex → Bool
  | [], [] => true
  | a :: l, b :: m => smE a b && smL l m
  | [], _ :: _ => false
  | _ :: _, [] => false
end
theorem smL_eq : ∀ l m, smL l m = (decide (l.length = m.length) && (l.zip m).all fun p => smE p.1 p.2)
  | [], [] => by simp [smL]
  | a :: l, b :: m => by
    rw [smL, smL_eq l m]
    simp only [List.length_cons, List.zip_cons_cons, List.all_cons]
    cases smE a b <;> simp
  | [], _ :: _ => by simp [smL]
  | _ :: _, [] => by simp [smL]
theorem smE_mk (op n : Int) (v : Vl) (name : List UInt8) (nl : Bool) (args : List Ex) (op' n' : Int) (v' : Vl) (name' : List UInt8) (nl' : Bool) (args' : List Ex) : smE (.mk op n v name nl args) (.mk op' n' v' name' nl' args') = (decide (op = op') && decide (n = n') && decide (v = v') && decide (name = name') && smL args args') := by rw [smE]
theorem smE_refl : ∀ e, smE e e = true := by
  refine Ex.ind fun op n v name nl args ih => ?_
  rw [smE_mk, smL_eq]
  simp only [decide_true, Bool.true_and, List.all_eq_true]
  intro p hp
  obtain ⟨i, hi, rfl⟩ := List.mem_iff_getElem.1 hp
  rw [List.getElem_zip]
  exact ih _ (List.getElem_mem _)
theorem all_take_succ3 {α : Type} {p : α → Bool} {l : List α} {i : Nat} {x : α} (h : l[i]? = some x) : (l.take (i + 1)).all p = ((l.take i).all p && p x) := by
  rw [List.take_add_one, h]; simp
theorem all_none3 {α : Type} {p : α → Bool} {l : List α} {i : Nat} {x : α} (h : l[i]? = some x) (hx : p x = false) : l.all p = false := by
  rw [Bool.eq_false_iff]
  intro e
  have := List.all_eq_true.1 e x (List.mem_of_getElem? h)
  rw [hx] at this; cases this
theorem xL_get' {args : List Ex} (i : Nat) (op' n' : Int) (v' : Vl) (name' : List UInt8) (nl' : Bool) (args' : List Ex) (h : args[i]? = some (.mk op' n' v' name' nl' args')) : (xL args)[i]? = some (xds op' n' v' name' (ng nl' (xL args'))) := by
  rw [← Ex.ds_mk]; exact xL_get h
theorem C.r11_Same : ∀ a : Ex, a.bk ≤ 2097152 → ∀ b : Ex, b.bk ≤ 2097152 → Pure Try.prog N.bt_ref11_Same [a.av, b.av] (.d (.bool (smE a b))) := by
  refine Ex.ind fun op n v name nl args ih hbk b hbb => ?_
  obtain ⟨op', n', v', name', nl', args'⟩ := b
  obtain ⟨b1, b2, b3, b4⟩ := Ex.bk_bounds hbk
  obtain ⟨c1, c2, c3, c4⟩ := Ex.bk_bounds hbb
  have ih' : ∀ a ∈ args, ∀ b ∈ args', Pure Try.prog N.bt_ref11_Same [a.av, b.av] (.d (.bool (smE a b))) := fun a ha b hb => ih a ha (b4 a ha) b (c4 b hb)
  clear ih
  rw [Ex.av_mk, Ex.av_mk, smE_mk]
  have hd : SlD (ng nl (xL args)) (xL args) := sld_ng
  have hd' : SlD (ng nl' (xL args')) (xL args') := sld_ng
  have hlen := xL_len args
  have hm := xL_mem args
  have hlen' := xL_len args'
  have hm' := xL_mem args'
  have hget := xL_get' (args := args)
  have hget' := xL_get' (args := args')
  obtain ⟨d, hde⟩ : ∃ d, d = ng nl (xL args) := ⟨_, rfl⟩
  obtain ⟨d', hde'⟩ : ∃ d, d = ng nl' (xL args') := ⟨_, rfl⟩
  rw [← hde] at hd ⊢
  rw [← hde'] at hd' ⊢
  obtain ⟨es, hes⟩ : ∃ es, es = xL args := ⟨_, rfl⟩
  rw [← hes] at hlen hm hd hget
  obtain ⟨es', hes'⟩ : ∃ es, es = xL args' := ⟨_, rfl⟩
  rw [← hes'] at hlen' hm' hd' hget'
  refine F.bt_ref11_Same.go mixed rfl ?_
  have hv : decide (v = v') = (decide (v.k = v'.k) && (decide (v.n = v'.n) && decide (v.s = v'.s))) := by
    rw [Bool.eq_iff_iff]
    simp only [decide_eq_true_eq, Bool.and_eq_true, vl_eq]
  by_cases hall : op = op' ∧ n = n' ∧ v = v' ∧ name = name' ∧ args.length = args'.length
  rotate_left
  · have hr : (decide (op = op') && decide (n = n') && decide (v = v') && decide (name = name') && smL args args') = false := by
      rw [Bool.eq_false_iff]
      intro h
      simp only [Bool.and_eq_true, decide_eq_true_eq, smL_eq] at h
      exact hall ⟨h.1.1.1.1, h.1.1.1.2, h.1.1.2, h.1.2, h.2.1⟩
    rw [hr]
    clear hr
    have hlle : ((es.length : Int) = es'.length) ↔ args.length = args'.length := by omega
    rw [vl_eq] at hall
    clear hget hget' ih'
    by_cases g1 : op = op'
    rotate_left
    · repeat' first
        | refine st ?_
        | ((with_reducible apply go_i); (conv => whnf))
        | (with_reducible apply k_d <;> intro _)
        | (with_reducible apply k_b <;> intro _)
      all_goals rfl
    by_cases g2 : n = n'
    rotate_left
    · repeat' first
        | refine st ?_
        | ((with_reducible apply go_i); (conv => whnf))
        | (with_reducible apply k_d <;> intro _)
        | (with_reducible apply k_b <;> intro _)
      all_goals rfl
    by_cases g3 : v.k = v'.k ∧ v.n = v'.n ∧ v.s = v'.s
    rotate_left
    · repeat' first
        | refine st ?_
        | ((with_reducible apply go_i); (conv => whnf))
        | (with_reducible apply k_d <;> intro _)
        | (with_reducible apply k_b <;> intro _)
      all_goals first | rfl | (exfalso; simp_all)
    obtain ⟨g3, g4, g5⟩ := g3
    by_cases g6 : name = name'
    rotate_left
    · repeat' first
        | refine st ?_
        | ((with_reducible apply go_i); (conv => whnf))
        | (with_reducible apply k_d <;> intro _)
        | (with_reducible apply k_b <;> intro _)
      all_goals first | rfl | (exfalso; simp_all)
    have g7 : ¬ (es.length : Int) = es'.length := fun h => hall ⟨g1, g2, ⟨g3, g4, g5⟩, g6, hlle.1 h⟩
    repeat' first
      | refine st ?_
      | ((with_reducible apply go_i); (conv => whnf))
      | (with_reducible apply k_d <;> intro _)
      | (with_reducible apply k_b <;> intro _)
    all_goals first | rfl | (exfalso; simp_all; done) | (exfalso; omega)
  obtain ⟨rfl, rfl, rfl, rfl, hll⟩ := hall
  obtain ⟨q, hq⟩ : ∃ q, q = (decide (op = op) && decide (n = n) && decide (v = v) && decide (name = name) && smL args args') := ⟨_, rfl⟩
  rw [← hq]
  rw [smL_eq, decide_eq_true hll] at hq
  simp only [decide_true, Bool.true_and] at hq
  have hl2 : (es.length : Int) = es'.length := by omega
  have hl3 : es.length = es'.length := by omega
  have r1 : v.s = v.s := rfl
  have r2 : name = name := rfl
  repeat' first
    | refine st ?_
    | ((with_reducible apply go_i); (conv => whnf))
    | (with_reducible apply k_d <;> intro _)
    | (with_reducible apply k_b <;> intro _)
  refine x_loop1 mixed Lt.bt_ref11_Same_l0 Lk.bt_ref11_Same_l0 (fun (i : Nat) => [.d (eI i)]) (fun i => [.cells [.d (eI op), .d (eI n), .d (eI v.k), .d (eI v.n), .d (.str v.s), .d (.str name), .d d], .cells [.d (eI op), .d (eI n), .d (eI v.k), .d (eI v.n), .d (.str v.s), .d (.str name), .d d']]) (fun i => i ≤ args.length ∧ ((args.zip args').take i).all (fun p => smE p.1 p.2) = true) (fun i => args.length - i) 0 rfl rfl rfl rfl (fun _ _ => ⟨rfl, rfl⟩) rfl ⟨by omega, rfl⟩ ?_
  repeat' first
    | refine st ?_
    | ((with_reducible apply go_i); (conv => whnf))
    | (with_reducible apply k_d <;> intro _)
    | (with_reducible apply k_b <;> intro _)
  intro i ⟨h4, h5⟩
  cases hx : args[i]? with
  | some x =>
    have hlt := (List.getElem?_eq_some_iff.1 hx).1
    obtain ⟨y, hy⟩ : ∃ y, args'[i]? = some y := ⟨_, List.getElem?_eq_getElem (by omega)⟩
    have hz : (args.zip args')[i]? = some (x, y) := List.getElem?_zip_eq_some.2 ⟨hx, hy⟩
    have hI := ih' x (List.mem_of_getElem? hx) y (List.mem_of_getElem? hy)
    have hs := all_take_succ3 (p := fun p : Ex × Ex => smE p.1 p.2) hz
    have hn := all_none3 (p := fun p : Ex × Ex => smE p.1 p.2) hz
    rw [h5, Bool.true_and] at hs
    dsimp only at hs hn
    obtain ⟨b, hb⟩ : ∃ b, b = smE x y := ⟨_, rfl⟩
    rw [← hb] at hI hs hn
    obtain ⟨o1, n1, v1, m1, l1, a1⟩ := x
    obtain ⟨o2, n2, v2, m2, l2, a2⟩ := y
    rw [Ex.av_mk, Ex.av_mk] at hI
    have hg := hget i _ _ _ _ _ _ hx
    have hg' : es'[((i : Nat) : Int).toNat]? = _ := hget' i _ _ _ _ _ _ hy
    have hlt' : (i : Int) < es'.length := by omega
    cases b with
    | true =>
      repeat' first
        | refine st ?_
        | ((with_reducible apply go_i); (conv => whnf))
        | ((with_reducible apply k_pn); (· exact hI))
        | ((with_reducible apply k_pc); (· exact hI))
        | (with_reducible apply k_d <;> intro _)
        | (with_reducible apply k_b <;> intro _)
      exact ⟨i + 1, rfl, rfl, rfl, by omega, by omega, hs⟩
    | false =>
      rw [hn rfl] at hq
      rw [hq]
      repeat' first
        | refine st ?_
        | ((with_reducible apply go_i); (conv => whnf))
        | ((with_reducible apply k_pn); (· exact hI))
        | ((with_reducible apply k_pc); (· exact hI))
        | (with_reducible apply k_d <;> intro _)
        | (with_reducible apply k_b <;> intro _)
      all_goals rfl
  | none =>
    have hge := List.getElem?_eq_none_iff.1 hx
    rw [List.take_of_length_le (by rw [List.length_zip]; omega)] at h5
    rw [h5] at hq
    rw [hq]
    repeat' first
      | refine st ?_
      | ((with_reducible apply go_i); (conv => whnf))
      | (with_reducible apply k_d <;> intro _)
      | (with_reducible apply k_b <;> intro _)
    all_goals rfl
end Go.Proofs
end
section
/- Ranges of expressions; what is shifted by nothing is the same; All, the program's and the reference's; lists compared. No condition. -/
set_option linter.unusedSimpArgs false
set_option linter.unusedVariables false
set_option maxRecDepth 10000
set_option maxHeartbeats 4000000
namespace Go.Proofs
open Go.Bi

/-- The numbers of an expression are numbers of the program. -/
inductive Ex.Rg : Ex → Prop
  | mk {op n : Int} {v : Vl} {nm : List UInt8} {nl : Bool} {args : List Ex} (h1 : IntKind.i64.min ≤ n) (h2 : n ≤ IntKind.i64.max) (h : ∀ a ∈ args, Ex.Rg a) : Ex.Rg (.mk op n v nm nl args)
theorem wt_exr' {t : TypeId} {ds : List D} (h : WT Try.prog t ds) : (t = T.ex → ∃ e : Ex, ds = e.ds ∧ e.Rg) ∧ (t = T.exs → ∃ nl args, ds = [ng nl (xL args)] ∧ ∀ a ∈ args, Ex.Rg a) := by
  induction h with
  | int h => exact ⟨fun e => (by subst e; rw [Try.underlying26] at h; cases h), fun e => (by subst e; rw [Try.underlying24] at h; cases h)⟩
  | bool h => exact ⟨fun e => (by subst e; rw [Try.underlying26] at h; cases h), fun e => (by subst e; rw [Try.underlying24] at h; cases h)⟩
  | str h => exact ⟨fun e => (by subst e; rw [Try.underlying26] at h; cases h), fun e => (by subst e; rw [Try.underlying24] at h; cases h)⟩
  | nil h => exact ⟨fun e => (by subst e; rw [Try.underlying26] at h; cases h), fun e => ⟨true, [], rfl, by simp⟩⟩
  | @sl t e es h hl hs he ih =>
    refine ⟨fun e => (by subst e; rw [Try.underlying26] at h; cases h), fun e' => ?_⟩
    subst e'
    rw [Try.underlying24] at h
    cases h
    have hq : ∃ l, es = xL l ∧ ∀ a ∈ l, Ex.Rg a := by
      clear he hs hl
      induction es with
      | nil => exact ⟨[], rfl, by simp⟩
      | cons x es ihh =>
        obtain ⟨n, hn, hr⟩ := (ih x (by simp)).1 rfl
        obtain ⟨ks, hk, hrs⟩ := ihh fun y hy => ih y (by simp [hy])
        refine ⟨n :: ks, by rw [hn, hk]; rfl, fun a ha => ?_⟩
        rcases List.mem_cons.1 ha with rfl | ha
        · exact hr
        · exact hrs a ha
    obtain ⟨l, rfl, hlr⟩ := hq
    exact ⟨false, l, rfl, hlr⟩
  | @st t fs ds h hl hf ih =>
    refine ⟨fun e => ?_, fun e => (by subst e; rw [Try.underlying24] at h; cases h)⟩
    subst e
    rw [Try.underlying26] at h
    cases h
    rw [cells_ex] at hl
    match ds, hl with
    | [d0, d1, d2, d3, d4, d5, d6], _ =>
      have h0 := hf _ (List.mem_cons_self ..)
      have h1 := hf _ (List.mem_cons_of_mem _ (List.mem_cons_self ..))
      have h2 := hf _ (List.mem_cons_of_mem _ (List.mem_cons_of_mem _ (List.mem_cons_self ..)))
      have h3 := hf _ (List.mem_cons_of_mem _ (List.mem_cons_of_mem _ (List.mem_cons_of_mem _ (List.mem_cons_self ..))))
      have h4 := (ih _ (List.mem_cons_of_mem _ (List.mem_cons_of_mem _ (List.mem_cons_of_mem _ (List.mem_cons_of_mem _ (List.mem_cons_self ..)))))).2 rfl
      dsimp only at h0 h1 h2 h3 h4
      rw [cells_int] at h0 h1
      rw [cells_val] at h2
      rw [cells_str] at h3
      rw [cells_exs] at h4
      obtain ⟨a, ha⟩ := wt_int h0
      obtain ⟨b, hb, hb1, hb2⟩ := h1.int' Try.underlying3
      obtain ⟨v, hv⟩ := wt_val h2
      obtain ⟨s, hs⟩ := wt_str h3
      obtain ⟨nl, args, hx, hr⟩ := h4
      simp at ha hb hs hx
      refine ⟨.mk a b v s nl args, ?_, .mk hb1 hb2 hr⟩
      rw [Ex.ds_mk, ha, hb, hs, hx]
      have hv : [d2, d3, d4] = [eI v.k, eI v.n, .str v.s] := hv
      simp only [List.cons.injEq, and_true] at hv
      rw [hv.1, hv.2.1, hv.2.2]
theorem wt_exr {ds : List D} (h : WT Try.prog T.ex ds) : ∃ e : Ex, ds = e.ds ∧ e.Rg := (wt_exr' h).1 rfl
theorem wt_exsr {ds : List D} (h : WT Try.prog T.exs ds) : ∃ nl args, ds = [ng nl (xL args)] ∧ ∀ a ∈ args, Ex.Rg a := (wt_exr' h).2 rfl
theorem bulk_ng (nl : Bool) (l : List (List D)) : bulkD (ng nl l) = bulkLL l + 1 := by
  unfold ng
  split
  · rename_i h
    simp only [Bool.and_eq_true, List.isEmpty_iff] at h
    rw [h.2]; rfl
  · rfl
theorem bulk_map (f : Ex → Ex) (l : List Ex) (h : ∀ a ∈ l, (f a).bk ≤ a.bk) : bulkLL (xL (l.map f)) ≤ bulkLL (xL l) := by
  induction l with
  | nil => exact Nat.le_refl _
  | cons a l ih =>
    have h1 := h a (by simp)
    have h2 := ih fun x hx => h x (by simp [hx])
    unfold Ex.bk at h1
    simp only [List.map_cons, xL, bulkLL] at h2 ⊢
    omega
theorem shf_bk (k : Int) : ∀ e : Ex, (shf k e).bk ≤ e.bk := by
  refine Ex.ind fun op n v nm nl args ih => ?_
  have h := bulk_map (shf k) args ih
  rw [shf_mk, Ex.bk, Ex.bk, Ex.ds_mk, Ex.ds_mk]
  simp only [bulkL, bulkD, bulk_ng]
  omega
theorem shf0_same : ∀ e : Ex, e.Rg → smE (shf 0 e) e = true := by
  refine Ex.ind fun op n v nm nl args ih hr => ?_
  cases hr with
  | mk h1 h2 h =>
    have hn : (if op = 2 then w64 (n + 0) else n) = n := by
      split
      · rw [Int.add_zero]
        have e1 : IntKind.i64.min = -9223372036854775808 := rfl
        have e2 : IntKind.i64.max = 9223372036854775807 := rfl
        show IntKind.i64.wrap n = n
        rw [IntKind.wrap_i64]
        omega
      · rfl
    rw [shf_mk, smE_mk, smL_eq, hn]
    simp only [decide_true, Bool.true_and, List.length_map, List.all_eq_true]
    intro p hp
    obtain ⟨i, hi, rfl⟩ := List.mem_iff_getElem.1 hp
    rw [List.getElem_zip, List.getElem_map]
    dsimp only
    have hm := List.getElem_mem (l := args) (n := i) (by rw [List.length_zip, List.length_map] at hi; omega)
    exact ih _ hm (h _ hm)
theorem rg_cj : ∀ e : Ex, e.Rg → ∀ x ∈ cj e, x.Rg := by
  refine Ex.ind fun op n v nm nl args ih he x hx => ?_
  rw [cj_mk] at hx
  split at hx
  · obtain ⟨a, ha, hxa⟩ := List.mem_flatMap.1 hx
    cases he with
    | mk h1 h2 h => exact ih a ha (h a ha) x hxa
  · cases List.mem_singleton.1 hx
    exact he

theorem C.r11_List (l m : List Ex) (hlen : l.length = m.length) (hl : l.length ≤ 1048576) (h : ∀ (i : Nat) (x y : Ex), l[i]? = some x → m[i]? = some y → Pure Try.prog N.bt_ref11_Same [x.av, y.av] (.d (.bool true))) (d d' : D) (hd : SlD d (xL l)) (hd' : SlD d' (xL m)) : Pure Try.prog N.bt_ref11_List [.d d, .d d'] (.d (.bool true)) := by
  have h1 := xL_len l
  have hm := xL_mem l
  have h1' := xL_len m
  have hm' := xL_mem m
  have hg0 := xL_get' (args := l)
  have hg1 := xL_get' (args := m)
  obtain ⟨es, hes⟩ : ∃ es, es = xL l := ⟨_, rfl⟩
  obtain ⟨es', hes'⟩ : ∃ es, es = xL m := ⟨_, rfl⟩
  rw [← hes] at h1 hm hd hg0
  rw [← hes'] at h1' hm' hd' hg1
  have hee : (es.length : Int) = es'.length := by omega
  refine F.bt_ref11_List.go mixed rfl ?_
  repeat' first
    | refine st ?_
    | ((with_reducible apply go_i); (conv => whnf))
    | (with_reducible apply k_d <;> intro _)
    | (with_reducible apply k_b <;> intro _)
  refine x_loop1 mixed Lt.bt_ref11_List_l0 Lk.bt_ref11_List_l0 (fun (i : Nat) => [.d (eI i)]) (fun i => []) (fun i => i ≤ l.length) (fun i => l.length - i) 0 rfl rfl rfl rfl (fun _ _ => ⟨rfl, rfl⟩) rfl (by omega) ?_
  repeat' first
    | refine st ?_
    | ((with_reducible apply go_i); (conv => whnf))
    | (with_reducible apply k_d <;> intro _)
    | (with_reducible apply k_b <;> intro _)
  intro i h4
  cases hx : l[i]? with
  | some x =>
    have hlt := (List.getElem?_eq_some_iff.1 hx).1
    obtain ⟨y, hy⟩ : ∃ y, m[i]? = some y := ⟨_, List.getElem?_eq_getElem (by omega)⟩
    have hS := h i x y hx hy
    obtain ⟨o1, n1, v1, m1, l1, a1⟩ := x
    obtain ⟨o2, n2, v2, m2, l2, a2⟩ := y
    rw [Ex.av_mk, Ex.av_mk] at hS
    have hg := hg0 _ _ _ _ _ _ _ hx
    have hg' : es'[((i : Nat) : Int).toNat]? = _ := hg1 i _ _ _ _ _ _ hy
    have hlt' : (i : Int) < es'.length := by omega
    repeat' first
      | refine st ?_
      | ((with_reducible apply go_i); (conv => whnf))
      | ((with_reducible apply k_pn); (· exact hS))
      | ((with_reducible apply k_pc); (· exact hS))
      | (with_reducible apply k_d <;> intro _)
      | (with_reducible apply k_b <;> intro _)
    exact ⟨i + 1, rfl, rfl, rfl, by omega, by omega⟩
  | none =>
    have hge := List.getElem?_eq_none_iff.1 hx
    repeat' first
      | refine st ?_
      | ((with_reducible apply go_i); (conv => whnf))
      | (with_reducible apply k_d <;> intro _)
      | (with_reducible apply k_b <;> intro _)
    all_goals rfl
end Go.Proofs
end
section
/- Substitute: the program's and the reference's; Same of expressions of any size. No condition. -/
set_option linter.unusedSimpArgs false
set_option linter.unusedVariables false
set_option maxRecDepth 10000
set_option maxHeartbeats 4000000
namespace Go.Proofs
open Go.Bi

/-- Lists and texts of an expression are short. -/
inductive Ex.Lb (B : Nat) : Ex → Prop
  | mk {op n : Int} {v : Vl} {nm : List UInt8} {nl : Bool} {args : List Ex} (h1 : args.length ≤ B) (h2 : v.s.length ≤ B) (h3 : nm.length ≤ B) (h : ∀ a ∈ args, Ex.Lb B a) : Ex.Lb B (.mk op n v nm nl args)
theorem Lb.bounds {B : Nat} {op n : Int} {v : Vl} {nm : List UInt8} {nl : Bool} {args : List Ex} (h : (Ex.mk op n v nm nl args).Lb B) : args.length ≤ B ∧ v.s.length ≤ B ∧ nm.length ≤ B ∧ ∀ a ∈ args, a.Lb B := by
  cases h with
  | mk h1 h2 h3 h => exact ⟨h1, h2, h3, h⟩
theorem lb_bk {B : Nat} : ∀ e : Ex, e.bk ≤ B → e.Lb B := by
  refine Ex.ind fun op n v nm nl args ih hb => ?_
  obtain ⟨b1, b2, b3, b4⟩ := Ex.bk_bounds hb
  exact .mk b1 b2 b3 fun a ha => ih a ha (b4 a ha)
theorem C.r11_SameL : ∀ a : Ex, a.Lb 2097152 → ∀ b : Ex, b.Lb 2097152 → Pure Try.prog N.bt_ref11_Same [a.av, b.av] (.d (.bool (smE a b))) := by
  refine Ex.ind fun op n v name nl args ih hbk b hbb => ?_
  obtain ⟨op', n', v', name', nl', args'⟩ := b
  obtain ⟨b1, b2, b3, b4⟩ := Lb.bounds hbk
  obtain ⟨c1, c2, c3, c4⟩ := Lb.bounds hbb
  have ih' : ∀ a ∈ args, ∀ b ∈ args', Pure Try.prog N.bt_ref11_Same [a.av, b.av] (.d (.bool (smE a b))) := fun a ha b hb => ih a ha (b4 a ha) b (c4 b hb)
  clear ih
  rw [Ex.av_mk, Ex.av_mk, smE_mk]
  have hd : SlD (ng nl (xL args)) (xL args) := sld_ng
  have hd' : SlD (ng nl' (xL args')) (xL args') := sld_ng
  have hlen := xL_len args
  have hm := xL_mem args
  have hlen' := xL_len args'
  have hm' := xL_mem args'
  have hget := xL_get' (args := args)
  have hget' := xL_get' (args := args')
  obtain ⟨d, hde⟩ : ∃ d, d = ng nl (xL args) := ⟨_, rfl⟩
  obtain ⟨d', hde'⟩ : ∃ d, d = ng nl' (xL args') := ⟨_, rfl⟩
  rw [← hde] at hd ⊢
  rw [← hde'] at hd' ⊢
  obtain ⟨es, hes⟩ : ∃ es, es = xL args := ⟨_, rfl⟩
  rw [← hes] at hlen hm hd hget
  obtain ⟨es', hes'⟩ : ∃ es, es = xL args' := ⟨_, rfl⟩
  rw [← hes'] at hlen' hm' hd' hget'
  refine F.bt_ref11_Same.go mixed rfl ?_
  have hv : decide (v = v') = (decide (v.k = v'.k) && (decide (v.n = v'.n) && decide (v.s = v'.s))) := by
    rw [Bool.eq_iff_iff]
    simp only [decide_eq_true_eq, Bool.and_eq_true, vl_eq]
  by_cases hall : op = op' ∧ n = n' ∧ v = v' ∧ name = name' ∧ args.length = args'.length
  rotate_left
  · have hr : (decide (op = op') && decide (n = n') && decide (v = v') && decide (name = name') && smL args args') = false := by
      rw [Bool.eq_false_iff]
      intro h
      simp only [Bool.and_eq_true, decide_eq_true_eq, smL_eq] at h
      exact hall ⟨h.1.1.1.1, h.1.1.1.2, h.1.1.2, h.1.2, h.2.1⟩
    rw [hr]
    clear hr
    have hlle : ((es.length : Int) = es'.length) ↔ args.length = args'.length := by omega
    rw [vl_eq] at hall
    clear hget hget' ih'
    by_cases g1 : op = op'
    rotate_left
    · repeat' first
        | refine st ?_
        | ((with_reducible apply go_i); (conv => whnf))
        | (with_reducible apply k_d <;> intro _)
        | (with_reducible apply k_b <;> intro _)
      all_goals rfl
    by_cases g2 : n = n'
    rotate_left
    · repeat' first
        | refine st ?_
        | ((with_reducible apply go_i); (conv => whnf))
        | (with_reducible apply k_d <;> intro _)
        | (with_reducible apply k_b <;> intro _)
      all_goals rfl
    by_cases g3 : v.k = v'.k ∧ v.n = v'.n ∧ v.s = v'.s
    rotate_left
    · repeat' first
        | refine st ?_
        | ((with_reducible apply go_i); (conv => whnf))
        | (with_reducible apply k_d <;> intro _)
        | (with_reducible apply k_b <;> intro _)
      all_goals first | rfl | (exfalso; simp_all)
    obtain ⟨g3, g4, g5⟩ := g3
    by_cases g6 : name = name'
    rotate_left
    · repeat' first
        | refine st ?_
        | ((with_reducible apply go_i); (conv => whnf))
        | (with_reducible apply k_d <;> intro _)
        | (with_reducible apply k_b <;> intro _)
      all_goals first | rfl | (exfalso; simp_all)
    have g7 : ¬ (es.length : Int) = es'.length := fun h => hall ⟨g1, g2, ⟨g3, g4, g5⟩, g6, hlle.1 h⟩
    repeat' first
      | refine st ?_
      | ((with_reducible apply go_i); (conv => whnf))
      | (with_reducible apply k_d <;> intro _)
      | (with_reducible apply k_b <;> intro _)
    all_goals first | rfl | (exfalso; simp_all; done) | (exfalso; omega)
  obtain ⟨rfl, rfl, rfl, rfl, hll⟩ := hall
  obtain ⟨q, hq⟩ : ∃ q, q = (decide (op = op) && decide (n = n) && decide (v = v) && decide (name = name) && smL args args') := ⟨_, rfl⟩
  rw [← hq]
  rw [smL_eq, decide_eq_true hll] at hq
  simp only [decide_true, Bool.true_and] at hq
  have hl2 : (es.length : Int) = es'.length := by omega
  have hl3 : es.length = es'.length := by omega
  have r1 : v.s = v.s := rfl
  have r2 : name = name := rfl
  repeat' first
    | refine st ?_
    | ((with_reducible apply go_i); (conv => whnf))
    | (with_reducible apply k_d <;> intro _)
    | (with_reducible apply k_b <;> intro _)
  refine x_loop1 mixed Lt.bt_ref11_Same_l0 Lk.bt_ref11_Same_l0 (fun (i : Nat) => [.d (eI i)]) (fun i => [.cells [.d (eI op), .d (eI n), .d (eI v.k), .d (eI v.n), .d (.str v.s), .d (.str name), .d d], .cells [.d (eI op), .d (eI n), .d (eI v.k), .d (eI v.n), .d (.str v.s), .d (.str name), .d d']]) (fun i => i ≤ args.length ∧ ((args.zip args').take i).all (fun p => smE p.1 p.2) = true) (fun i => args.length - i) 0 rfl rfl rfl rfl (fun _ _ => ⟨rfl, rfl⟩) rfl ⟨by omega, rfl⟩ ?_
  repeat' first
    | refine st ?_
    | ((with_reducible apply go_i); (conv => whnf))
    | (with_reducible apply k_d <;> intro _)
    | (with_reducible apply k_b <;> intro _)
  intro i ⟨h4, h5⟩
  cases hx : args[i]? with
  | some x =>
    have hlt := (List.getElem?_eq_some_iff.1 hx).1
    obtain ⟨y, hy⟩ : ∃ y, args'[i]? = some y := ⟨_, List.getElem?_eq_getElem (by omega)⟩
    have hz : (args.zip args')[i]? = some (x, y) := List.getElem?_zip_eq_some.2 ⟨hx, hy⟩
    have hI := ih' x (List.mem_of_getElem? hx) y (List.mem_of_getElem? hy)
    have hs := all_take_succ3 (p := fun p : Ex × Ex => smE p.1 p.2) hz
    have hn := all_none3 (p := fun p : Ex × Ex => smE p.1 p.2) hz
    rw [h5, Bool.true_and] at hs
    dsimp only at hs hn
    obtain ⟨b, hb⟩ : ∃ b, b = smE x y := ⟨_, rfl⟩
    rw [← hb] at hI hs hn
    obtain ⟨o1, n1, v1, m1, l1, a1⟩ := x
    obtain ⟨o2, n2, v2, m2, l2, a2⟩ := y
    rw [Ex.av_mk, Ex.av_mk] at hI
    have hg := hget i _ _ _ _ _ _ hx
    have hg' : es'[((i : Nat) : Int).toNat]? = _ := hget' i _ _ _ _ _ _ hy
    have hlt' : (i : Int) < es'.length := by omega
    cases b with
    | true =>
      repeat' first
        | refine st ?_
        | ((with_reducible apply go_i); (conv => whnf))
        | ((with_reducible apply k_pn); (· exact hI))
        | ((with_reducible apply k_pc); (· exact hI))
        | (with_reducible apply k_d <;> intro _)
        | (with_reducible apply k_b <;> intro _)
      exact ⟨i + 1, rfl, rfl, rfl, by omega, by omega, hs⟩
    | false =>
      rw [hn rfl] at hq
      rw [hq]
      repeat' first
        | refine st ?_
        | ((with_reducible apply go_i); (conv => whnf))
        | ((with_reducible apply k_pn); (· exact hI))
        | ((with_reducible apply k_pc); (· exact hI))
        | (with_reducible apply k_d <;> intro _)
        | (with_reducible apply k_b <;> intro _)
      all_goals rfl
  | none =>
    have hge := List.getElem?_eq_none_iff.1 hx
    rw [List.take_of_length_le (by rw [List.length_zip]; omega)] at h5
    rw [h5] at hq
    rw [hq]
    repeat' first
      | refine st ?_
      | ((with_reducible apply go_i); (conv => whnf))
      | (with_reducible apply k_d <;> intro _)
      | (with_reducible apply k_b <;> intro _)
    all_goals rfl
theorem C.expr_mappedF (g : FuncId) (φ : Ex → Ex) (hg : ∀ x : Ex, Pure Try.prog g [x.av] (φ x).av) : ∀ e : Ex, e.bk ≤ 1048576 → Pure Try.prog N.expr_mapped [e.av, .d (.fn g)] (mapX φ e).av := by
  refine Ex.ind fun op n v nm nl args ih hb => ?_
  obtain ⟨b1, b2, b3, b4⟩ := Ex.bk_bounds hb
  obtain ⟨Z, hZ⟩ : ∃ Z, Z = (mapX φ (.mk op n v nm nl args)).av := ⟨_, rfl⟩
  rw [← hZ]
  rw [mapX_mk] at hZ
  rw [Ex.av_mk]
  refine F.expr_mapped.go mixed rfl ?_
  have h1 := xL_len args
  have hm := xL_mem args
  obtain ⟨da, hda⟩ : ∃ d, d = ng nl (xL args) := ⟨_, rfl⟩
  have hsd : SlD da (xL args) := by rw [hda]; exact sld_ng
  rw [← hda]
  have r0 : v.k = v.k := rfl
  have r1 : v.s = v.s := rfl
  have r2 : nm = nm := rfl
  repeat' first
    | refine st ?_
    | ((with_reducible apply go_i); (conv => whnf))
    | (with_reducible apply k_d <;> intro _)
    | (with_reducible apply k_b <;> intro _)
  refine x_nil 5 7 rfl rfl ?_
  repeat' first
    | refine st ?_
    | ((with_reducible apply go_i); (conv => whnf))
    | (with_reducible apply k_d <;> intro _)
    | (with_reducible apply k_b <;> intro _)
  refine x_loop2 mixed Lt.expr_mapped_l0 Lk.expr_mapped_l0 (fun (i : Nat) (w : List (List D) × Bool) => [.arr 2 w.1.length, .d (eI i)]) (fun i w => [.cells [.d (eI op), .d (eI n), .d (eI v.k), .d (eI v.n), .d (.str v.s), .d (.str nm), .d da], .cells [.d (eI 0), .d (eI 0), .d (eI 0), .d (eI 0), .d (.str []), .d (.str []), .d .nil], .arr w.1 7 0 w.2]) (fun i w => i ≤ args.length ∧ w.1 = Mt (mapX φ) args i ∧ w.2 = w.1.isEmpty) (fun i _ => args.length - i) 0 ([], true) rfl rfl rfl rfl (fun _ _ _ => ⟨rfl, rfl⟩) rfl ⟨by omega, rfl, rfl⟩ ?_
  repeat' first
    | refine st ?_
    | ((with_reducible apply go_i); (conv => whnf))
    | (with_reducible apply k_d <;> intro _)
    | (with_reducible apply k_b <;> intro _)
  intro i w ⟨h4, h5, h6⟩
  obtain ⟨A, b⟩ := w
  dsimp only at h5 h6 ⊢
  have hAl : A.length = i := by rw [h5]; exact Mt_len _ args i (by omega)
  have hAm : ∀ e ∈ A, e.length = 7 := by rw [h5]; exact Mt_mem _ _ _
  cases hx : args[i]? with
  | some x =>
    have hlt := (List.getElem?_eq_some_iff.1 hx).1
    have hs := Mt_succ (φ := mapX φ) hx
    have hg := xL_get hx
    have hi := ih x (List.mem_of_getElem? hx) (b4 x (List.mem_of_getElem? hx))
    rw [← h5] at hs
    obtain ⟨z, hz⟩ : ∃ z, z = mapX φ x := ⟨_, rfl⟩
    rw [← hz] at hs hi
    obtain ⟨o1, n1, v1, m1, l1, a1⟩ := x
    obtain ⟨o2, n2, v2, m2, l2, a2⟩ := z
    rw [Ex.ds_mk] at hg hs
    simp only [Ex.av_mk] at hi
    repeat' first
      | refine st ?_
      | ((with_reducible apply go_i); (conv => whnf))
      | ((with_reducible apply k_pn); (· exact hi))
      | ((with_reducible apply k_pc); (· exact hi))
      | (with_reducible apply k_d <;> intro _)
      | (with_reducible apply k_b <;> intro _)
    exact ⟨i + 1, (A ++ [xds o2 n2 v2 m2 (ng l2 (xL a2))], false), rfl, rfl, rfl, by omega, by omega, hs, by simp⟩
  | none =>
    have hge := List.getElem?_eq_none_iff.1 hx
    rw [Mt_end hge] at h5
    have hx' : (Ex.mk op n v nm true (args.map (mapX φ))).av = eX op n v nm (if A.isEmpty then .nil else .sl A) := by rw [Ex.av_mk, ng_true, ← h5]
    have hφ := hg (.mk op n v nm true (args.map (mapX φ)))
    rw [← h6] at hx'
    by_cases h2 : op = 2
    · rw [if_pos h2] at hZ
      obtain ⟨z, hz⟩ : ∃ z, z = φ (.mk op n v nm true (args.map (mapX φ))) := ⟨_, rfl⟩
      rw [← hz] at hZ hφ
      rw [hx'] at hφ
      obtain ⟨o2, n2, v2, m2, l2, a2⟩ := z
      simp only [Ex.av_mk] at hZ hφ
      rw [hZ]
      cases b with
      | true =>
        rw [if_pos rfl] at hφ
        repeat' first
          | refine st ?_
          | ((with_reducible apply go_i); (conv => whnf))
          | ((with_reducible apply k_pn); (· exact hφ))
          | ((with_reducible apply k_pc); (· exact hφ))
          | (with_reducible apply k_d <;> intro _)
          | (with_reducible apply k_b <;> intro _)
        all_goals rfl
      | false =>
        rw [if_neg (by simp)] at hφ
        repeat' first
          | refine st ?_
          | ((with_reducible apply go_i); (conv => whnf))
          | ((with_reducible apply k_pn); (· exact hφ))
          | ((with_reducible apply k_pc); (· exact hφ))
          | (with_reducible apply k_d <;> intro _)
          | (with_reducible apply k_b <;> intro _)
        all_goals rfl
    · rw [if_neg h2, hx'] at hZ
      rw [hZ]
      cases b with
      | true =>
        repeat' first
          | refine st ?_
          | ((with_reducible apply go_i); (conv => whnf))
          | (with_reducible apply k_d <;> intro _)
          | (with_reducible apply k_b <;> intro _)
        all_goals rfl
      | false =>
        repeat' first
          | refine st ?_
          | ((with_reducible apply go_i); (conv => whnf))
          | (with_reducible apply k_d <;> intro _)
          | (with_reducible apply k_b <;> intro _)
        all_goals rfl

def cpX (e : Ex) : Ex := mapX id e
def nulE : Ex := .mk 0 0 vNull [] true []
def inC (l : List Ex) (n : Int) (v : Vl) (nm : List UInt8) (k : Nat) : Bool := decide (k = 0 ∧ nm = [] ∧ (v.k = 0 ∧ v.n = 0 ∧ v.s = []) ∧ 0 ≤ n ∧ n < l.length)
def subC (l : List Ex) : Ex → Ex
  | .mk op n v nm nl args => if inC l n v nm args.length then cpX (l.getD n.toNat nulE) else .mk op n v nm nl args
theorem C.Sub_c1_c1 (x : Ex) : Pure Try.prog N.expr_Substitute_c1_c1 [x.av] (id x).av := by
  obtain ⟨op, n, v, nm, nl, args⟩ := x
  show Pure Try.prog _ _ (Ex.mk op n v nm nl args).av
  rw [Ex.av_mk]
  refine F.expr_Substitute_c1_c1.go mixed rfl ?_
  repeat' first
    | refine st ?_
    | ((with_reducible apply go_i); (conv => whnf))
    | (with_reducible apply k_d <;> intro _)
    | (with_reducible apply k_b <;> intro _)
  all_goals rfl
theorem C.Sub_c1 (l : List Ex) (hl : l.length ≤ 1048576) (hlb : ∀ a ∈ l, a.bk ≤ 1048576) (dl : D) (hdl : SlD dl (xL l)) (x : Ex) : CallSpec Try.prog N.expr_Substitute_c1 [x.av, .ptr 0 0] [.cells [.d dl]] (fun r os => r = (subC l x).av ∧ os = [.cells [.d dl]]) := by
  obtain ⟨op, n, v, nm, nl, args⟩ := x
  obtain ⟨Z, hZ⟩ : ∃ Z, Z = (subC l (.mk op n v nm nl args)).av := ⟨_, rfl⟩
  rw [← hZ]
  rw [subC] at hZ
  rw [Ex.av_mk]
  have h1 := xL_len args
  have hm := xL_mem args
  have h2 := xL_len l
  have hm2 := xL_mem l
  obtain ⟨da, hda⟩ : ∃ d, d = ng nl (xL args) := ⟨_, rfl⟩
  have hsd : SlD da (xL args) := by rw [hda]; exact sld_ng
  cases hc : inC l n v nm args.length with
  | true =>
    rw [hc, if_pos rfl] at hZ
    obtain ⟨c1, c2, ⟨c3, c4, c5⟩, c6, c7⟩ := of_decide_eq_true hc
    obtain ⟨m, rfl⟩ : ∃ m : Nat, n = m := ⟨n.toNat, by omega⟩
    have hlm : m < l.length := by omega
    have hx : l[m]? = some l[m] := List.getElem?_eq_getElem hlm
    have hgd : l.getD (m : Int).toNat nulE = l[m] := by rw [Int.toNat_natCast, List.getD_eq_getElem?_getD, hx]; rfl
    rw [hgd] at hZ
    have hM := C.expr_mappedF N.expr_Substitute_c1_c1 id C.Sub_c1_c1 l[m] (hlb _ (List.getElem_mem _))
    have hg := xL_get hx
    obtain ⟨y, hy⟩ : ∃ y, y = l[m] := ⟨_, rfl⟩
    rw [← hy] at hM hg hZ
    unfold cpX at hZ
    obtain ⟨z, hz⟩ : ∃ z, z = mapX id y := ⟨_, rfl⟩
    rw [← hz] at hM hZ
    obtain ⟨o1, n1, v1, m1, l1, a1⟩ := y
    obtain ⟨o2, n2, v2, m2, l2, a2⟩ := z
    rw [Ex.ds_mk] at hg
    rw [Ex.av_mk, Ex.av_mk] at hM
    rw [Ex.av_mk] at hZ
    rw [hZ, ← hda]
    clear hda
    subst c2
    refine F.expr_Substitute_c1.goX mixed rfl ?_
    repeat' first
      | refine st ?_
      | ((with_reducible apply go_i); (conv => whnf))
      | ((with_reducible apply k_pn); (· exact hM))
      | ((with_reducible apply k_pc); (· exact hM))
      | (with_reducible apply k_d <;> intro _)
      | (with_reducible apply k_b <;> intro _)
    all_goals exact ⟨rfl, rfl⟩
  | false =>
    rw [hc, if_neg (by decide), Ex.av_mk, ← hda] at hZ
    rw [hZ, ← hda]
    have hno : ¬ (args.length = 0 ∧ nm = [] ∧ (v.k = 0 ∧ v.n = 0 ∧ v.s = []) ∧ 0 ≤ n ∧ n < l.length) := of_decide_eq_false hc
    clear hda hZ hc
    refine F.expr_Substitute_c1.goX mixed rfl ?_
    by_cases g1 : args.length = 0
    rotate_left
    · repeat' first
        | refine st ?_
        | ((with_reducible apply go_i); (conv => whnf))
        | (with_reducible apply k_d <;> intro _)
        | (with_reducible apply k_b <;> intro _)
      all_goals exact ⟨rfl, rfl⟩
    by_cases g2 : nm = []
    rotate_left
    · repeat' first
        | refine st ?_
        | ((with_reducible apply go_i); (conv => whnf))
        | (with_reducible apply k_d <;> intro _)
        | (with_reducible apply k_b <;> intro _)
      all_goals exact ⟨rfl, rfl⟩
    subst g2
    by_cases g3 : v.k = 0 ∧ v.n = 0 ∧ v.s = []
    rotate_left
    · repeat' first
        | refine st ?_
        | ((with_reducible apply go_i); (conv => whnf))
        | (with_reducible apply k_d <;> intro _)
        | (with_reducible apply k_b <;> intro _)
      all_goals first | exact ⟨rfl, rfl⟩ | (exfalso; simp_all; done)
    obtain ⟨g4, g5, g6⟩ := g3
    by_cases g7 : 0 ≤ n
    · by_cases g8 : n < l.length
      · exact absurd ⟨g1, rfl, ⟨g4, g5, g6⟩, g7, g8⟩ hno
      · repeat' first
          | refine st ?_
          | ((with_reducible apply go_i); (conv => whnf))
          | (with_reducible apply k_d <;> intro _)
          | (with_reducible apply k_b <;> intro _)
        all_goals exact ⟨rfl, rfl⟩
    · repeat' first
        | refine st ?_
        | ((with_reducible apply go_i); (conv => whnf))
        | (with_reducible apply k_d <;> intro _)
        | (with_reducible apply k_b <;> intro _)
      all_goals exact ⟨rfl, rfl⟩
def subX (l : List Ex) (e : Ex) : Ex := mapX (subC l) e
theorem C.expr_Substitute (l : List Ex) (hl : l.length ≤ 1048576) (hlb : ∀ a ∈ l, a.bk ≤ 1048576) (dl : D) (hdl : SlD dl (xL l)) (e : Ex) (he : e.bk ≤ 1048576) : Pure Try.prog N.expr_Substitute [e.av, .d dl] (subX l e).av := by
  have hM := C.expr_mapped N.expr_Substitute_c1 dl (subC l) (C.Sub_c1 l hl hlb dl hdl) e he
  have hL : ∀ os : List AO, os[1]? = some (.cells [.d dl]) → CallSpec Try.prog N.expr_mapped [e.av, .clo N.expr_Substitute_c1 [1]] os (fun r' os' => r' = (mapX (subC l) e).av ∧ os' = os.set 1 (.cells [.d dl])) := fun os ho => liftF (id := 1) hM (fun f => mA_ds f _) ho
  unfold subX
  obtain ⟨z, hz⟩ : ∃ z, z = mapX (subC l) e := ⟨_, rfl⟩
  rw [← hz] at hL ⊢
  obtain ⟨o1, n1, v1, m1, l1, a1⟩ := e
  obtain ⟨o2, n2, v2, m2, l2, a2⟩ := z
  simp only [Ex.av_mk] at hL ⊢
  refine F.expr_Substitute.go mixed rfl ?_
  repeat' first
    | refine st ?_
    | ((with_reducible apply go_i); (conv => whnf))
    | ((with_reducible apply k_nc); (· first | exact hL _ rfl); (try rintro _ _ ⟨rfl, rfl⟩))
    | ((with_reducible apply k_pr); (· first | exact hL _ rfl))
    | ((with_reducible apply k_cs); (· first | exact hL _ rfl); (try rintro _ _ ⟨rfl, rfl⟩))
    | ((with_reducible apply k_cal); refine st ?_; (with_reducible apply k_chk); (· exact rfl); refine st ?_; (with_reducible apply k_cs); (· first | exact hL _ rfl); (try rintro _ _ ⟨rfl, rfl⟩))
    | (with_reducible apply k_d <;> intro _)
    | (with_reducible apply k_b <;> intro _)
  all_goals rfl

/-! ### The reference's -/
mutual
def subR (l : List Ex) : Ex → Ex
  | .mk op n v nm nl args => if op = 2 ∧ inC l n v nm args.length = true then shf 0 (l.getD n.toNat nulE) else .mk op n v nm true (subRs l args)
def subRs (l : List Ex) : List Ex → List Ex
  | [] => []
  | a :: r => subR l a :: subRs l r
end
theorem subRs_eq (l : List Ex) : ∀ r, subRs l r = r.map (subR l)
  | [] => by simp [subRs]
  | a :: r => by simp [subRs, subRs_eq l r]
theorem subR_mk (l : List Ex) (op n : Int) (v : Vl) (nm : List UInt8) (nl : Bool) (args : List Ex) : subR l (.mk op n v nm nl args) = if op = 2 ∧ inC l n v nm args.length = true then shf 0 (l.getD n.toNat nulE) else .mk op n v nm true (args.map (subR l)) := by rw [subR, subRs_eq]
theorem fmd2 (n : Int) (v : Vl) (nm : List UInt8) (k : Nat) : fmd 2 n v nm k = decide (k = 0 ∧ nm = [] ∧ (v.k = 0 ∧ v.n = 0 ∧ v.s = [])) := by
  have hc : (cnt 2 k).1 = decide ((k : Int) = 0) := rfl
  unfold fmd
  rw [hc, if_neg (by decide), if_neg (by decide), if_pos rfl, vNull_is, Bool.eq_iff_iff]
  simp only [Bool.and_eq_true, decide_eq_true_eq]
  constructor
  · rintro ⟨⟨h1, h2⟩, h3⟩; exact ⟨by omega, h2, h3⟩
  · rintro ⟨h1, h2, h3⟩; exact ⟨⟨by omega, h2⟩, h3⟩
end Go.Proofs
end
section
/- The reference's Substitute; what both give is the same. No condition. -/
set_option linter.unusedSimpArgs false
set_option linter.unusedVariables false
set_option maxRecDepth 10000
set_option maxHeartbeats 4000000
namespace Go.Proofs
open Go.Bi

theorem C.r11_Substitute (l : List Ex) (hl : l.length ≤ 1048576) (hlb : ∀ a ∈ l, a.bk ≤ 1048576) (dl : D) (hdl : SlD dl (xL l)) : ∀ e : Ex, e.bk ≤ 1048576 → Pure Try.prog N.bt_ref11_Substitute [e.av, .d dl] (subR l e).av := by
  refine Ex.ind fun op n v nm nl args ih hb => ?_
  obtain ⟨b1, b2, b3, b4⟩ := Ex.bk_bounds hb
  obtain ⟨Z, hZ⟩ : ∃ Z, Z = (subR l (.mk op n v nm nl args)).av := ⟨_, rfl⟩
  rw [← hZ]
  rw [subR_mk] at hZ
  rw [Ex.av_mk]
  have h1 := xL_len args
  have hm := xL_mem args
  have h2 := xL_len l
  have hm2 := xL_mem l
  have hF := C.r11_Formed op n v nm (ng nl (xL args)) (xL args) sld_ng b2 (by omega)
  rw [h1] at hF
  obtain ⟨da, hda⟩ : ∃ d, d = ng nl (xL args) := ⟨_, rfl⟩
  have hsd : SlD da (xL args) := by rw [hda]; exact sld_ng
  rw [← hda] at hF ⊢
  clear hda
  have r0 : v.k = v.k := rfl
  have r1 : v.s = v.s := rfl
  have r2 : nm = nm := rfl
  by_cases hc : op = 2 ∧ inC l n v nm args.length = true
  · rw [if_pos hc] at hZ
    obtain ⟨h0, hc⟩ := hc
    subst h0
    obtain ⟨c1, c2, ⟨c3, c4, c5⟩, c6, c7⟩ := of_decide_eq_true hc
    rw [fmd2, decide_eq_true ⟨c1, c2, c3, c4, c5⟩] at hF
    obtain ⟨m, rfl⟩ : ∃ m : Nat, n = m := ⟨n.toNat, by omega⟩
    have hlm : m < l.length := by omega
    have hx : l[m]? = some l[m] := List.getElem?_eq_getElem hlm
    have hgd : l.getD (m : Int).toNat nulE = l[m] := by rw [Int.toNat_natCast, List.getD_eq_getElem?_getD, hx]; rfl
    rw [hgd] at hZ
    have hM := C.r11_Shift 0 l[m] (hlb _ (List.getElem_mem _))
    have hg := xL_get hx
    obtain ⟨y, hy⟩ : ∃ y, y = l[m] := ⟨_, rfl⟩
    rw [← hy] at hM hg hZ
    obtain ⟨z, hz⟩ : ∃ z, z = shf 0 y := ⟨_, rfl⟩
    rw [← hz] at hM hZ
    obtain ⟨o1, n1, v1, m1, l1, a1⟩ := y
    obtain ⟨o2, n2, v2, m2, l2, a2⟩ := z
    rw [Ex.ds_mk] at hg
    rw [Ex.av_mk, Ex.av_mk] at hM
    rw [Ex.av_mk] at hZ
    rw [hZ]
    refine F.bt_ref11_Substitute.go mixed rfl ?_
    repeat' first
      | refine st ?_
      | ((with_reducible apply go_i); (conv => whnf))
      | ((with_reducible apply k_pn); (· first | exact hF | exact hM))
      | ((with_reducible apply k_pc); (· first | exact hF | exact hM))
      | (with_reducible apply k_d <;> intro _)
      | (with_reducible apply k_b <;> intro _)
    all_goals rfl
  · rw [if_neg hc, Ex.av_mk, ng_true] at hZ
    have key : ¬ op = 2 ∨ (op = 2 ∧ fmd op n v nm args.length = false) ∨ (op = 2 ∧ fmd op n v nm args.length = true ∧ ¬ 0 ≤ n) ∨ (op = 2 ∧ fmd op n v nm args.length = true ∧ 0 ≤ n ∧ ¬ n < l.length) := by
      by_cases g1 : op = 2
      · subst g1
        cases g2 : fmd 2 n v nm args.length with
        | false => exact .inr (.inl ⟨rfl, rfl⟩)
        | true =>
          rw [fmd2] at g2
          have g2 := of_decide_eq_true g2
          by_cases g3 : 0 ≤ n
          · by_cases g4 : n < l.length
            · exact absurd ⟨rfl, decide_eq_true ⟨g2.1, g2.2.1, g2.2.2, g3, g4⟩⟩ hc
            · exact .inr (.inr (.inr ⟨rfl, rfl, g3, g4⟩))
          · exact .inr (.inr (.inl ⟨rfl, rfl, g3⟩))
      · exact .inl g1
    clear hc
    rw [hZ]
    refine F.bt_ref11_Substitute.go mixed rfl ?_
    obtain ⟨b, hbb⟩ : ∃ b, b = fmd op n v nm args.length := ⟨_, rfl⟩
    rw [← hbb] at hF key
    clear hbb
    rcases key with g1 | ⟨g1, rfl⟩ | ⟨g1, rfl, g2⟩ | ⟨g1, rfl, g2, g3⟩
    all_goals repeat' first
      | refine st ?_
      | ((with_reducible apply go_i); (conv => whnf))
      | ((with_reducible apply k_pn); (· exact hF))
      | ((with_reducible apply k_pc); (· exact hF))
      | (with_reducible apply k_d <;> intro _)
      | (with_reducible apply k_b <;> intro _)
    all_goals
      refine x_nilc 2 6 7 rfl rfl rfl ?_
      refine x_loop2 mixed Lt.bt_ref11_Substitute_l0 Lk.bt_ref11_Substitute_l0 (fun (i : Nat) (w : List (List D) × Bool) => [.d (eI i)]) (fun i w => [.cells [.d (eI op), .d (eI n), .d (eI v.k), .d (eI v.n), .d (.str v.s), .d (.str nm), .d da], .cells [.d (eI 0), .d (eI 0), .d (eI 0), .d (eI 0), .d (.str []), .d (.str []), .d .nil], .cells [.d (eI op), .d (eI n), .d (eI v.k), .d (eI v.n), .d (.str v.s), .d (.str nm), .arr 3 w.1.length], .arr w.1 7 0 w.2]) (fun i w => i ≤ args.length ∧ w.1 = Mt (subR l) args i ∧ w.2 = w.1.isEmpty) (fun i _ => args.length - i) 0 ([], true) rfl rfl rfl rfl (fun _ _ _ => ⟨rfl, rfl⟩) rfl ⟨by omega, rfl, rfl⟩ ?_
      repeat' first
        | refine st ?_
        | ((with_reducible apply go_i); (conv => whnf))
        | (with_reducible apply k_d <;> intro _)
        | (with_reducible apply k_b <;> intro _)
      intro i w ⟨h4, h5, h6⟩
      obtain ⟨A, b⟩ := w
      dsimp only at h5 h6 ⊢
      have hAl : A.length = i := by rw [h5]; exact Mt_len _ args i (by omega)
      have hAm : ∀ e ∈ A, e.length = 7 := by rw [h5]; exact Mt_mem _ _ _
      cases hx : args[i]? with
      | some x =>
        have hlt := (List.getElem?_eq_some_iff.1 hx).1
        have hs := Mt_succ (φ := subR l) hx
        have hg := xL_get hx
        have hi := ih x (List.mem_of_getElem? hx) (b4 x (List.mem_of_getElem? hx))
        rw [← h5] at hs
        obtain ⟨z, hz⟩ : ∃ z, z = subR l x := ⟨_, rfl⟩
        rw [← hz] at hs hi
        obtain ⟨o1, n1, v1, m1, l1, a1⟩ := x
        obtain ⟨o2, n2, v2, m2, l2, a2⟩ := z
        rw [Ex.ds_mk] at hg hs
        rw [Ex.av_mk, Ex.av_mk] at hi
        repeat' first
          | refine st ?_
          | ((with_reducible apply go_i); (conv => whnf))
          | ((with_reducible apply k_pn); (· exact hi))
          | ((with_reducible apply k_pc); (· exact hi))
          | (with_reducible apply k_d <;> intro _)
          | (with_reducible apply k_b <;> intro _)
        exact ⟨i + 1, (A ++ [xds o2 n2 v2 m2 (ng l2 (xL a2))], false), rfl, rfl, rfl, by omega, by omega, hs, by simp⟩
      | none =>
        have hge := List.getElem?_eq_none_iff.1 hx
        rw [Mt_end hge] at h5
        rw [← h5, ← h6]
        cases b with
        | true =>
          rw [if_pos rfl]
          repeat' first
            | refine st ?_
            | ((with_reducible apply go_i); (conv => whnf))
            | (with_reducible apply k_d <;> intro _)
            | (with_reducible apply k_b <;> intro _)
          all_goals rfl
        | false =>
          rw [if_neg (by simp)]
          repeat' first
            | refine st ?_
            | ((with_reducible apply go_i); (conv => whnf))
            | (with_reducible apply k_d <;> intro _)
            | (with_reducible apply k_b <;> intro _)
          all_goals rfl

/-! ### Both give the same -/
theorem smL_map {f g : Ex → Ex} {l : List Ex} (h : ∀ a ∈ l, smE (f a) (g a) = true) : smL (l.map f) (l.map g) = true := by
  rw [smL_eq]
  simp only [List.length_map, decide_true, Bool.true_and, List.all_eq_true]
  intro p hp
  obtain ⟨i, hi, rfl⟩ := List.mem_iff_getElem.1 hp
  rw [List.getElem_zip, List.getElem_map, List.getElem_map]
  exact h _ (List.getElem_mem _)
theorem cpX_mk (op n : Int) (v : Vl) (nm : List UInt8) (nl : Bool) (args : List Ex) : cpX (.mk op n v nm nl args) = .mk op n v nm true (args.map cpX) := by
  unfold cpX
  rw [mapX_mk]
  split <;> rfl
theorem cp_shf : ∀ e : Ex, e.Rg → smE (cpX e) (shf 0 e) = true := by
  refine Ex.ind fun op n v nm nl args ih hr => ?_
  cases hr with
  | mk h1 h2 h =>
    have hn : (if op = 2 then w64 (n + 0) else n) = n := by
      split
      · rw [Int.add_zero]
        have e1 : IntKind.i64.min = -9223372036854775808 := rfl
        have e2 : IntKind.i64.max = 9223372036854775807 := rfl
        show IntKind.i64.wrap n = n
        rw [IntKind.wrap_i64]
        omega
      · rfl
    rw [shf_mk, cpX_mk, smE_mk, hn, smL_map fun a ha => ih a ha (h a ha)]
    simp
theorem sub_same {l : List Ex} (hl : ∀ a ∈ l, a.Rg) : ∀ e : Ex, smE (subX l e) (subR l e) = true := by
  refine Ex.ind fun op n v nm nl args ih => ?_
  have hs := smL_map ih
  unfold subX at hs ⊢
  rw [mapX_mk, subR_mk]
  by_cases h2 : op = 2
  · rw [if_pos h2, subC, List.length_map]
    by_cases hc : inC l n v nm args.length = true
    · rw [if_pos hc, if_pos ⟨h2, hc⟩]
      obtain ⟨c1, c2, c3, c6, c7⟩ := of_decide_eq_true hc
      have hm : n.toNat < l.length := by omega
      rw [List.getD_eq_getElem?_getD, List.getElem?_eq_getElem hm]
      exact cp_shf _ (hl _ (List.getElem_mem _))
    · rw [if_neg hc, if_neg fun h => hc h.2, smE_mk, hs]
      simp
  · rw [if_neg h2, if_neg fun h => h2 h.1, smE_mk, hs]
    simp
theorem lb_mapX {B : Nat} {φ : Ex → Ex} (hφ : ∀ x : Ex, x.Lb B → (φ x).Lb B) : ∀ e : Ex, e.Lb B → (mapX φ e).Lb B := by
  refine Ex.ind fun op n v nm nl args ih h => ?_
  obtain ⟨h1, h2, h3, h4⟩ := Lb.bounds h
  rw [mapX_mk]
  have hk : (Ex.mk op n v nm true (args.map (mapX φ))).Lb B := .mk (by simpa using h1) h2 h3 fun a ha => by
    obtain ⟨x, hx, rfl⟩ := List.mem_map.1 ha
    exact ih x hx (h4 x hx)
  split
  · exact hφ _ hk
  · exact hk
theorem lb_shf {B : Nat} (k : Int) (e : Ex) (h : e.Lb B) : (shf k e).Lb B := by
  refine lb_mapX (fun x hx => ?_) e h
  obtain ⟨op, n, v, nm, nl, args⟩ := x
  obtain ⟨h1, h2, h3, h4⟩ := Lb.bounds hx
  exact .mk h1 h2 h3 h4
theorem lb_getD {B : Nat} {l : List Ex} (hl : ∀ a ∈ l, a.Lb B) (i : Nat) : (l.getD i nulE).Lb B := by
  rw [List.getD_eq_getElem?_getD]
  cases hx : l[i]? with
  | some a => exact hl a (List.mem_of_getElem? hx)
  | none => exact .mk (by simp) (by simp [vNull]) (by simp) (by simp)
theorem lb_subX {B : Nat} {l : List Ex} (hl : ∀ a ∈ l, a.Lb B) (e : Ex) (h : e.Lb B) : (subX l e).Lb B := by
  refine lb_mapX (fun x hx => ?_) e h
  obtain ⟨op, n, v, nm, nl, args⟩ := x
  rw [subC]
  split
  · exact lb_mapX (fun x hx => hx) _ (lb_getD hl _)
  · exact hx
theorem lb_subR {B : Nat} {l : List Ex} (hl : ∀ a ∈ l, a.Lb B) : ∀ e : Ex, e.Lb B → (subR l e).Lb B := by
  refine Ex.ind fun op n v nm nl args ih h => ?_
  obtain ⟨h1, h2, h3, h4⟩ := Lb.bounds h
  rw [subR_mk]
  split
  · exact lb_shf 0 _ (lb_getD hl _)
  · exact .mk (by simpa using h1) h2 h3 fun a ha => by
      obtain ⟨x, hx, rfl⟩ := List.mem_map.1 ha
      exact ih x hx (h4 x hx)
end Go.Proofs
end
section
/- ExprChanges, as a contract over data. No condition. -/
set_option linter.unusedSimpArgs false
set_option linter.unusedVariables false
set_option maxRecDepth 10000
set_option maxHeartbeats 4000000
namespace Go.Proofs
open Go.Bi

theorem L.ExprChanges (e : Ex) (he : e.bk ≤ 1048576) (n : Int) (l : List Ex) (hl : l.length ≤ 1048576) (hlb : ∀ a ∈ l, a.bk ≤ 1048576) (hlr : ∀ a ∈ l, a.Rg) (dl : D) (hdl : SlD dl (xL l)) :
    Pure Try.prog N.bt_law11_ExprChanges [e.av, .d (eI n), .d dl] (.d (.bool true)) := by
  have c1 := C.expr_Columns e he
  have c2 := C.r11_Columns e he
  rw [rcE_cols] at c2
  have c3 := C.expr_Shift e he n
  have c4 := C.r11_Shift n e he
  have hlb2 : ∀ a ∈ l, a.Lb 2097152 := fun a ha => lb_bk a (by have := hlb a ha; omega)
  have heb : e.Lb 2097152 := lb_bk e (by omega)
  have c5 := C.r11_SameL (shf n e) (lb_shf n e heb) (shf n e) (lb_shf n e heb)
  rw [smE_refl] at c5
  have c6 := C.expr_Substitute l hl hlb dl hdl e he
  have c7 := C.r11_Substitute l hl hlb dl hdl e he
  have c8 := C.r11_SameL (subX l e) (lb_subX hlb2 e heb) (subR l e) (lb_subR hlb2 e heb)
  rw [sub_same hlr] at c8
  have hsl := colsD_sl e
  have hcl := cols_len e
  obtain ⟨ks, hks⟩ : ∃ k, k = cols e := ⟨_, rfl⟩
  rw [← hks] at c2 hsl hcl
  obtain ⟨dc, hdc⟩ : ∃ d, d = colsD e := ⟨_, rfl⟩
  rw [← hdc] at c1 hsl
  have hkl := eIs_len ks
  obtain ⟨s1, hs1⟩ : ∃ s, s = shf n e := ⟨_, rfl⟩
  rw [← hs1] at c3 c4 c5
  obtain ⟨s2, hs2⟩ : ∃ s, s = subX l e := ⟨_, rfl⟩
  rw [← hs2] at c6 c8
  obtain ⟨s3, hs3⟩ : ∃ s, s = subR l e := ⟨_, rfl⟩
  rw [← hs3] at c7 c8
  clear hs1 hs2 hs3 hks hdc heb
  obtain ⟨op, k, v, nm, nl, args⟩ := e
  obtain ⟨o1, n1, v1, m1, l1, a1⟩ := s1
  obtain ⟨o2, n2, v2, m2, l2, a2⟩ := s2
  obtain ⟨o3, n3, v3, m3, l3, a3⟩ := s3
  simp only [Ex.av_mk] at c1 c2 c3 c4 c5 c6 c7 c8 ⊢
  obtain ⟨da, hda⟩ : ∃ d, d = ng nl (xL args) := ⟨_, rfl⟩
  rw [← hda] at c1 c2 c3 c4 c6 c7 ⊢
  refine F.bt_law11_ExprChanges.go mixed rfl ?_
  have r0 : v.k = v.k := rfl
  have r1 : v.s = v.s := rfl
  have r2 : nm = nm := rfl
  repeat' first
    | refine st ?_
    | ((with_reducible apply go_i); (conv => whnf))
    | ((with_reducible apply k_pn); (· first | exact c1 | exact c2))
    | ((with_reducible apply k_pc); (· first | exact c1 | exact c2))
    | (with_reducible apply k_d <;> intro _)
    | (with_reducible apply k_b <;> intro _)
  all_goals
    refine x_loop2 mixed Lt.bt_law11_ExprChanges_l0 Lk.bt_law11_ExprChanges_l0 (fun (i : Nat) (b : Bool) => [.d (.bool b), .d (eI i)]) (fun i b => [.cells [.d (eI op), .d (eI k), .d (eI v.k), .d (eI v.n), .d (.str v.s), .d (.str nm), .d da]]) (fun i b => i ≤ ks.length) (fun i _ => ks.length - i) 0 _ rfl rfl rfl rfl (fun _ _ _ => ⟨rfl, rfl⟩) rfl (Nat.zero_le _) ?_
    repeat' first
      | refine st ?_
      | ((with_reducible apply go_i); (conv => whnf))
      | (with_reducible apply k_d <;> intro _)
      | (with_reducible apply k_b <;> intro _)
    intro i b h1
    cases hx : ks[i]? with
    | some x =>
      have hlt := (List.getElem?_eq_some_iff.1 hx).1
      have hg := eIs_get hx
      cases b with
      | true =>
        repeat' first
          | refine st ?_
          | ((with_reducible apply go_i); (conv => whnf))
          | (with_reducible apply k_d <;> intro _)
          | (with_reducible apply k_b <;> intro _)
        all_goals exact ⟨i + 1, _, rfl, rfl, rfl, by omega, by omega⟩
      | false =>
        repeat' first
          | refine st ?_
          | ((with_reducible apply go_i); (conv => whnf))
          | (with_reducible apply k_d <;> intro _)
          | (with_reducible apply k_b <;> intro _)
        all_goals exact ⟨i + 1, _, rfl, rfl, rfl, by omega, by omega⟩
    | none =>
      have hge := List.getElem?_eq_none_iff.1 hx
      cases b with
      | true => 
        repeat' first
          | refine st ?_
          | ((with_reducible apply go_i); (conv => whnf))
          | ((with_reducible apply k_pn); (· first | exact c3 | exact c4 | exact c5 | exact c6 | exact c7 | exact c8 | exact C.law_awake))
          | ((with_reducible apply k_pc); (· first | exact c3 | exact c4 | exact c5 | exact c6 | exact c7 | exact c8 | exact C.law_awake))
          | (with_reducible apply k_d <;> intro _)
          | (with_reducible apply k_b <;> intro _)
      | false => 
        repeat' first
          | refine st ?_
          | ((with_reducible apply go_i); (conv => whnf))
          | ((with_reducible apply k_pn); (· first | exact c3 | exact c4 | exact c5 | exact c6 | exact c7 | exact c8 | exact C.law_awake))
          | ((with_reducible apply k_pc); (· first | exact c3 | exact c4 | exact c5 | exact c6 | exact c7 | exact c8 | exact C.law_awake))
          | (with_reducible apply k_d <;> intro _)
          | (with_reducible apply k_b <;> intro _)
end Go.Proofs
end
