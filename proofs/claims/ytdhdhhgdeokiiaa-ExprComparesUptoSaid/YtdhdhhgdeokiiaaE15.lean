/- The examples of the chapter. No condition. -/
import Derived.Test.YtdhdhhgdeokiiaaE8
import Derived.Test.YtdhdhhgdeokiiaaE13
set_option linter.unusedSimpArgs false
set_option linter.unusedVariables false
set_option maxRecDepth 10000
set_option maxHeartbeats 4000000
namespace Go.Proofs
open Go.Bi

def nuE (n : Int) : Ex := .mk 1 0 ⟨1, n, []⟩ [] true []
def noE : Ex := .mk 1 0 vNull [] true []
def aE : Ex := .mk 1 0 ⟨2, 0, [97]⟩ [] true []
def twE (op : Int) (a b : Ex) : Ex := .mk op 0 vNull [] false [a, b]
def isE (a : Ex) : Ex := .mk 21 0 vNull [] false [a]
theorem C.law_num (n : Int) : Pure Try.prog N.bt_law11_num [.d (eI n)] (nuE n).av := by
  rw [nuE, Ex.av_mk]
  refine F.bt_law11_num.go mixed rfl ?_
  repeat' first
    | refine st ?_
    | ((with_reducible apply go_i); (conv => whnf))
    | (with_reducible apply k_d <;> intro _)
    | (with_reducible apply k_b <;> intro _)
  all_goals rfl
theorem C.law_two (op : Int) (a b : Ex) : Pure Try.prog N.bt_law11_two [.d (eI op), a.av, b.av] (twE op a b).av := by
  rw [twE, Ex.av_mk]
  obtain ⟨o1, n1, v1, m1, l1, a1⟩ := a
  obtain ⟨o2, n2, v2, m2, l2, a2⟩ := b
  rw [Ex.av_mk, Ex.av_mk]
  refine F.bt_law11_two.go mixed rfl ?_
  repeat' first
    | refine st ?_
    | ((with_reducible apply go_i); (conv => whnf))
    | (with_reducible apply k_d <;> intro _)
    | (with_reducible apply k_b <;> intro _)
  all_goals (simp only [xL, List.map_cons, List.map_nil, Ex.ds_mk]; rfl)
theorem nuE_av (n : Int) : (nuE n).av = eX 1 0 ⟨1, n, []⟩ [] .nil := by rw [nuE, Ex.av_mk]; rfl
theorem noE_av : noE.av = eX 1 0 vNull [] .nil := by rw [noE, Ex.av_mk]; rfl
theorem aE_av : aE.av = eX 1 0 ⟨2, 0, [97]⟩ [] .nil := by rw [aE, Ex.av_mk]; rfl
theorem twE_av (op : Int) (a b : Ex) : (twE op a b).av = eX op 0 vNull [] (ng false (xL [a, b])) := by rw [twE, Ex.av_mk]
theorem isE_av (a : Ex) : (isE a).av = eX 21 0 vNull [] (.sl [a.ds]) := by rw [isE, Ex.av_mk]; rfl
def ckT (ks : List Int) (e : Ex) : Int × Int := if 24 < dep e then (0, 26) else chk ks e
theorem ck1 : ckT [] (twE 23 noE aE) = (2, 0) := by decide +kernel
theorem ck2 : ckT [] (twE 13 (nuE 1) aE) = (0, 7) := by decide +kernel
theorem ev1 : ev [] (twE 16 (nuE 7) (nuE (-2))) = ⟨1, -3, []⟩ := by decide +kernel
theorem ev2 : ev [] (twE 17 (nuE (-7)) (nuE 2)) = ⟨1, -1, []⟩ := by decide +kernel
theorem ev3 : vTruth (ev [] (twE 7 (nuE 1) noE)) = 1 := by decide +kernel
theorem ev4 : vTruth (ev [] (isE noE)) = 2 := by decide +kernel
theorem ev5 : ev [] (twE 13 (nuE 1) aE) = vNull := by decide +kernel
theorem C.law_awake : Pure Try.prog N.bt_law11_awake [] (.d (.bool true)) := by
  refine F.bt_law11_awake.go mixed rfl ?_
  have n1 := C.law_num 1
  have n7 := C.law_num 7
  have nm2 := C.law_num (-2)
  have nm3 := C.law_num (-3)
  have nm7 := C.law_num (-7)
  have n2 := C.law_num 2
  have nm1 := C.law_num (-1)
  have t1 := C.law_two 23 noE aE
  have t2 := C.law_two 13 (nuE 1) aE
  have t3 := C.law_two 16 (nuE 7) (nuE (-2))
  have t4 := C.law_two 17 (nuE (-7)) (nuE 2)
  have t5 := C.law_two 7 (nuE 1) noE
  have c1 := C.expr_Check [] (by simp) .nil (.inl ⟨rfl, rfl⟩) (twE 23 noE aE) (by decide +kernel)
  have c2 := C.expr_Check [] (by simp) .nil (.inl ⟨rfl, rfl⟩) (twE 13 (nuE 1) aE) (by decide +kernel)
  have e1 := C.expr_Eval [] (by simp) (by simp) .nil (.inl ⟨rfl, rfl⟩) (twE 16 (nuE 7) (nuE (-2))) (by decide +kernel)
  have e2 := C.expr_Eval [] (by simp) (by simp) .nil (.inl ⟨rfl, rfl⟩) (twE 17 (nuE (-7)) (nuE 2)) (by decide +kernel)
  have e3 := C.expr_Eval [] (by simp) (by simp) .nil (.inl ⟨rfl, rfl⟩) (twE 7 (nuE 1) noE) (by decide +kernel)
  have e4 := C.expr_Eval [] (by simp) (by simp) .nil (.inl ⟨rfl, rfl⟩) (isE noE) (by decide +kernel)
  have e5 := C.expr_Eval [] (by simp) (by simp) .nil (.inl ⟨rfl, rfl⟩) (twE 13 (nuE 1) aE) (by decide +kernel)
  rw [show (if 24 < dep (twE 23 noE aE) then ((0, 26) : Int × Int) else chk [] (twE 23 noE aE)) = (2, 0) from ck1] at c1
  rw [show (if 24 < dep (twE 13 (nuE 1) aE) then ((0, 26) : Int × Int) else chk [] (twE 13 (nuE 1) aE)) = (0, 7) from ck2] at c2
  rw [twE_av] at e3
  rw [isE_av] at e4
  replace e3 := C.expr_Truth_of [] .nil _ _ _ _ _ _ e3
  replace e4 := C.expr_Truth_of [] .nil _ _ _ _ _ _ e4
  rw [ev1] at e1
  rw [ev2] at e2
  rw [ev3] at e3
  rw [ev4] at e4
  rw [ev5] at e5
  rw [nuE_av] at n1 n7 nm2 nm3 nm7 n2 nm1
  rw [twE_av] at t1 t2 t3 t4 t5 c1 c2 e1 e2 e5
  simp only [nuE_av, noE_av, aE_av] at t1 t2 t3 t4 t5
  have hno : noE.ds = xds 1 0 vNull [] .nil := by rw [noE, Ex.ds_mk]; rfl
  rw [hno] at e4
  repeat' first
    | refine st ?_
    | ((with_reducible apply go_i); (conv => whnf))
    | ((with_reducible apply k_pn); (· first | exact n1 | exact n7 | exact nm2 | exact nm3 | exact nm7 | exact n2 | exact nm1 | exact t1 | exact t2 | exact t3 | exact t4 | exact t5 | exact c1 | exact c2 | exact e1 | exact e2 | exact e3 | exact e4 | exact e5))
    | ((with_reducible apply k_pc); (· first | exact n1 | exact n7 | exact nm2 | exact nm3 | exact nm7 | exact n2 | exact nm1 | exact t1 | exact t2 | exact t3 | exact t4 | exact t5 | exact c1 | exact c2 | exact e1 | exact e2 | exact e3 | exact e4 | exact e5))
    | (with_reducible apply k_d <;> intro _)
    | (with_reducible apply k_b <;> intro _)
  all_goals rfl
end Go.Proofs
