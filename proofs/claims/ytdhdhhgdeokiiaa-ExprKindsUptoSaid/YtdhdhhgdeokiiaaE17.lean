/- ExprEvaluates and ExprChecks: the laws' contracts. No condition. -/
import Derived.Test.YtdhdhhgdeokiiaaE16
set_option linter.unusedSimpArgs false
set_option linter.unusedVariables false
set_option maxRecDepth 10000
set_option maxHeartbeats 4000000
namespace Go.Proofs
open Go.Bi

theorem L.ExprEvaluates (e : Ex) (he : e.bk ≤ 1048576) (row : List Vl) (hr : row.length ≤ 1048576) (hrs : ∀ v ∈ row, v.s.length ≤ 1048576) (dr : D) (hdr : SlD dr (eVs row)) : Pure Try.prog N.bt_law11_ExprEvaluates [e.av, .d dr] (.d (.bool true)) := by
  have h1 := C.expr_Eval row hr hrs dr hdr e he
  have h2 := C.r11_Eval row hr hrs dr hdr e he
  have h4 := C.r11_Truth row hr hrs dr hdr e he
  have h3 : Pure Try.prog N.expr_Truth [e.av, .d dr] (.d (eI (vTruth (ev row e)))) := by
    obtain ⟨op, n, v, name, nl, args⟩ := e
    rw [Ex.av_mk] at h1 ⊢
    exact C.expr_Truth_of row dr _ _ _ _ _ _ h1
  obtain ⟨op, n, v, name, nl, args⟩ := e
  rw [Ex.av_mk] at h1 h2 h3 h4 ⊢
  refine F.bt_law11_ExprEvaluates.go mixed rfl ?_
  repeat' first
    | refine st ?_
    | ((with_reducible apply go_i); (conv => whnf))
    | ((with_reducible apply k_pn); (· first | exact h1 | exact h2 | exact h3 | exact h4 | exact C.law_awake))
    | ((with_reducible apply k_pc); (· first | exact h1 | exact h2 | exact h3 | exact h4 | exact C.law_awake))
    | (with_reducible apply k_d <;> intro _)
    | (with_reducible apply k_b <;> intro _)
  all_goals simp_all
theorem L.ExprChecks (e : Ex) (he : e.bk ≤ 1048576) (ks : List Int) (hk : ks.length ≤ 1048576) (dk : D) (hdk : SlD dk (eIs ks)) : Pure Try.prog N.bt_law11_ExprChecks [e.av, .d dk] (.d (.bool true)) := by
  have h1 := C.expr_Check ks hk dk hdk e he
  have h2 := C.r11_Check ks hk dk hdk e he
  obtain ⟨r, hr⟩ : ∃ r, r = if 24 < dep e then ((0, 26) : Int × Int) else chk ks e := ⟨_, rfl⟩
  rw [← hr] at h1 h2
  obtain ⟨op, n, v, name, nl, args⟩ := e
  rw [Ex.av_mk] at h1 h2 ⊢
  refine F.bt_law11_ExprChecks.go mixed rfl ?_
  repeat' first
    | refine st ?_
    | ((with_reducible apply go_i); (conv => whnf))
    | ((with_reducible apply k_pn); (· first | exact h1 | exact h2 | exact C.law_awake))
    | ((with_reducible apply k_pc); (· first | exact h1 | exact h2 | exact C.law_awake))
    | (with_reducible apply k_d <;> intro _)
    | (with_reducible apply k_b <;> intro _)
  all_goals simp_all
end Go.Proofs
