/- Values, truth values, and their contracts: the program's and the reference's alike. No condition. -/
import Derived.Test.YtdhdhhgdeokiiaaV0
import Derived.Lib.Strings
import Derived.Lib.Slices
import Derived.Lib.Walk
import Derived.Lib.Bytealg
set_option linter.unusedSimpArgs false
set_option linter.unusedVariables false
set_option maxRecDepth 10000
set_option maxHeartbeats 4000000
namespace Go.Proofs
open Go.Bi

theorem enters_of {P : Program} {f n : Nat} {ic : IC} {rs : List RV} (h : IsFn P f n ic rs) : Enters P f := by
  obtain ⟨fn, h1, h2, h3, h4, h5⟩ := h
  obtain ⟨code, hb, hc⟩ := Option.bind_eq_some_iff.1 h4
  exact ⟨fn, h1, by rw [hb]; rfl, by simpa using h3⟩

set_option maxRecDepth 100000 in
theorem calls_CompareString (a b : ByteArray) (w : World) :
    Calls Try.prog 180 #[.string a, .string b] w fun e w' => e = .returned (.int .i64 (Lib.compareBytes a.data.toList b.data.toList)) ∧ w' = w := by
  go_enter Try.func180, Try.ntmps180
  go_wp2
  rw [run_callFunc_extern Try.func182 (by kernel_rfl) (by kernel_rfl) (by kernel_rfl) (e := Extern.BytealgCompare.compare) (by kernel_rfl), Lib.run_compareString]
  simp only [Result.andThen]
  rw [Oper.upon_value]
  go_wp2
  go_ret
  exact ⟨rfl, rfl⟩

abbrev cmpB (a b : List UInt8) : Int := Lib.compareBytes a b
theorem C.CompareString (a b : List UInt8) : Pure Try.prog N.internal_bytealg_CompareString [.d (.str a), .d (.str b)] (.d (eI (cmpB a b))) := by
  refine ⟨enters_of F.internal_bytealg_CompareString, fun M G w vs he hl hv => ?_⟩
  have h1 : vs = #[.string ⟨⟨a⟩⟩, .string ⟨⟨b⟩⟩] := by
    match vs, hl with
    | ⟨[x, y]⟩, _ =>
      have e1 := va_str (M := M) (G := G) (os := []) (hv 0 _ x rfl rfl)
      have e2 := va_str (M := M) (G := G) (os := []) (hv 1 _ y rfl rfl)
      rw [e1, e2]
  subst h1
  refine (calls_CompareString ⟨⟨a⟩⟩ ⟨⟨b⟩⟩ w).mono ?_
  rintro e w' ⟨rfl, rfl⟩
  exact ⟨_, rfl, M, G, _, [], he, Since.refl .., Rd.int' .., rfl, rfl⟩
theorem C.strings_Compare (a b : List UInt8) : Pure Try.prog N.strings_Compare [.d (.str a), .d (.str b)] (.d (eI (cmpB a b))) := by
  refine F.strings_Compare.go mixed rfl ?_
  repeat' first
    | refine st ?_
    | ((with_reducible apply go_i); (conv => whnf))
    | ((with_reducible apply k_pn); (· exact C.CompareString _ _))
    | ((with_reducible apply k_pc); (· exact C.CompareString _ _))
    | (with_reducible apply k_d <;> intro _)
    | (with_reducible apply k_b <;> intro _)
def cmpI (a b : Int) : Int := if a < b then -1 else if b < a then 1 else 0
theorem C.cmp_isNaN (a : Int) : Pure Try.prog N.cmp_isNaN_int [.d (eI a)] (.d (.bool false)) := by
  refine F.cmp_isNaN_int.go mixed rfl ?_
  repeat' first
    | refine st ?_
    | ((with_reducible apply go_i); (conv => whnf))
    | (with_reducible apply k_d <;> intro _)
    | (with_reducible apply k_b <;> intro _)
  all_goals simp
theorem C.cmp_Compare (a b : Int) : Pure Try.prog N.cmp_Compare_int [.d (eI a), .d (eI b)] (.d (eI (cmpI a b))) := by
  refine F.cmp_Compare_int.go mixed rfl ?_
  repeat' first
    | refine st ?_
    | ((with_reducible apply go_i); (conv => whnf))
    | ((with_reducible apply k_pn); (· exact C.cmp_isNaN _))
    | ((with_reducible apply k_pc); (· exact C.cmp_isNaN _))
    | (with_reducible apply k_d <;> intro _)
    | (with_reducible apply k_b <;> intro _)
  · rename_i h; rw [cmpI, if_pos h]
  · rename_i h h2; rw [cmpI, if_neg h, if_pos h2]
  · rename_i h h2; rw [cmpI, if_neg h, if_neg h2]
def or3 (a b c : Int) : Int := if a ≠ 0 then a else if b ≠ 0 then b else c
theorem C.cmp_Or (a b c : Int) : Pure Try.prog N.cmp_Or_int [.d (.sl [[eI a], [eI b], [eI c]])] (.d (eI (or3 a b c))) := by
  refine F.cmp_Or_int.go mixed rfl ?_
  repeat' first
    | refine st ?_
    | ((with_reducible apply go_i); (conv => whnf))
    | (with_reducible apply k_d <;> intro _)
    | (with_reducible apply k_b <;> intro _)
  refine x_loop1 mixed Lt.cmp_Or_int_l0 Lk.cmp_Or_int_l0 (fun (i : Nat) => [.d (eI i)]) (fun i => []) (fun i => i ≤ 3 ∧ (0 < i → a = 0) ∧ (1 < i → b = 0) ∧ (2 < i → c = 0)) (fun i => 3 - i) 0 rfl rfl rfl rfl (fun _ _ => ⟨rfl, rfl⟩) rfl ⟨by omega, by omega, by omega, by omega⟩ ?_
  repeat' first
    | refine st ?_
    | ((with_reducible apply go_i); (conv => whnf))
    | (with_reducible apply k_d <;> intro _)
    | (with_reducible apply k_b <;> intro _)
  intro i ⟨h1, h2, h3, h4⟩
  have hl3 : ([[eI a], [eI b], [eI c]] : List (List D)).length = 3 := rfl
  have hm : ∀ e ∈ ([[eI a], [eI b], [eI c]] : List (List D)), e.length = 1 := by intro e he; simp at he; rcases he with rfl | rfl | rfl <;> rfl
  rcases (show i = 0 ∨ i = 1 ∨ i = 2 ∨ i = 3 by omega) with rfl | rfl | rfl | rfl
  · have hg : ([[eI a], [eI b], [eI c]] : List (List D))[((0 : Nat) : Int).toNat]? = some [eI a] := rfl
    repeat' first
      | refine st ?_
      | ((with_reducible apply go_i); (conv => whnf))
      | (with_reducible apply k_d <;> intro _)
      | (with_reducible apply k_b <;> intro _)
    rotate_left
    · rename_i h; rw [or3, if_pos h]
    · rename_i h; exact ⟨1, rfl, rfl, rfl, by omega, by omega, by omega, by omega, by omega⟩
  · have hg : ([[eI a], [eI b], [eI c]] : List (List D))[((1 : Nat) : Int).toNat]? = some [eI b] := rfl
    have e1 := h2 (by omega)
    repeat' first
      | refine st ?_
      | ((with_reducible apply go_i); (conv => whnf))
      | (with_reducible apply k_d <;> intro _)
      | (with_reducible apply k_b <;> intro _)
    rotate_left
    · rename_i h; rw [or3, if_neg (by omega), if_pos h]
    · rename_i h; exact ⟨2, rfl, rfl, rfl, by omega, by omega, by omega, by omega, by omega⟩
  · have hg : ([[eI a], [eI b], [eI c]] : List (List D))[((2 : Nat) : Int).toNat]? = some [eI c] := rfl
    have e1 := h2 (by omega)
    have e2 := h3 (by omega)
    repeat' first
      | refine st ?_
      | ((with_reducible apply go_i); (conv => whnf))
      | (with_reducible apply k_d <;> intro _)
      | (with_reducible apply k_b <;> intro _)
    rotate_left
    · rename_i h; rw [or3, if_neg (by omega), if_neg (by omega)]
    · rename_i h; exact ⟨3, rfl, rfl, rfl, by omega, by omega, by omega, by omega, by omega⟩
  · have e1 := h2 (by omega)
    have e2 := h3 (by omega)
    have e3 := h4 (by omega)
    repeat' first
      | refine st ?_
      | ((with_reducible apply go_i); (conv => whnf))
      | (with_reducible apply k_d <;> intro _)
      | (with_reducible apply k_b <;> intro _)
    rw [or3, if_neg (by omega), if_neg (by omega), e3]

/-! ### Values -/
structure Vl where
  k : Int
  n : Int
  s : List UInt8
  deriving DecidableEq
abbrev Vl.ds (v : Vl) : List D := [eI v.k, eI v.n, .str v.s]
abbrev eV (v : Vl) : AV := .agg [.d (eI v.k), .d (eI v.n), .d (.str v.s)]
def vNull : Vl := ⟨0, 0, []⟩
def prC (c : UInt8) : Bool := decide (32 ≤ c.toNat ∧ c.toNat ≤ 126)
def prB (s : List UInt8) : Bool := s.all prC
def vValid (v : Vl) : Bool :=
  if v.k = 0 then decide (v.n = 0 ∧ v.s = [])
  else if v.k = 1 then decide (v.s = [] ∧ -1125899906842624 ≤ v.n ∧ v.n ≤ 1125899906842624)
  else if v.k = 2 then decide (v.n = 0 ∧ v.s.length ≤ 200) && prB v.s
  else if v.k = 3 then decide (v.s = [] ∧ (v.n = 0 ∨ v.n = 1)) else false
theorem C.value_printable (s : List UInt8) (hs : s.length ≤ 4611686018427387904) : Pure Try.prog N.value_printable [.d (.str s)] (.d (.bool (prB s))) := by
  refine F.value_printable.go mixed rfl ?_
  repeat' first
    | refine st ?_
    | ((with_reducible apply go_i); (conv => whnf))
    | (with_reducible apply k_d <;> intro _)
    | (with_reducible apply k_b <;> intro _)
  refine x_loop1 mixed Lt.value_printable_l0 Lk.value_printable_l0 (fun (i : Nat) => [.d (eI i)]) (fun i => []) (fun i => i ≤ s.length ∧ (s.take i).all prC = true) (fun i => s.length - i) 0 rfl rfl rfl rfl (fun _ _ => ⟨rfl, rfl⟩) rfl ⟨by omega, rfl⟩ ?_
  repeat' first
    | refine st ?_
    | ((with_reducible apply go_i); (conv => whnf))
    | (with_reducible apply k_d <;> intro _)
    | (with_reducible apply k_b <;> intro _)
  intro i ⟨h1, h2⟩
  cases hx : s[i]? with
  | some c =>
    have hlt := (List.getElem?_eq_some_iff.1 hx).1
    have hg : s.getD ((i : Int)).toNat 0 = c := by simp [List.getD_eq_getElem?_getD, hx]
    repeat' first
      | refine st ?_
      | ((with_reducible apply go_i); (conv => whnf))
      | (with_reducible apply k_d <;> intro _)
      | (with_reducible apply k_b <;> intro _)
    · rename_i h
      rw [hg] at h
      rw [prB, all_none hx (decide_eq_false (by omega))]
    · rename_i h h'
      rw [hg] at h h'
      rw [prB, all_none hx (decide_eq_false (by omega))]
    · rename_i h h'
      rw [hg] at h h'
      refine ⟨i + 1, rfl, rfl, rfl, by omega, by omega, ?_⟩
      rw [all_take_succ hx, h2, prC, decide_eq_true (by omega)]; rfl
  | none =>
    have hge := List.getElem?_eq_none_iff.1 hx
    rw [List.take_of_length_le hge] at h2
    repeat' first
      | refine st ?_
      | ((with_reducible apply go_i); (conv => whnf))
      | (with_reducible apply k_d <;> intro _)
      | (with_reducible apply k_b <;> intro _)
    rw [prB, h2]
theorem C.r7_Printable (s : List UInt8) (hs : s.length ≤ 4611686018427387904) : Pure Try.prog N.bt_ref07_Printable [.d (.str s)] (.d (.bool (prB s))) := by
  refine F.bt_ref07_Printable.go mixed rfl ?_
  repeat' first
    | refine st ?_
    | ((with_reducible apply go_i); (conv => whnf))
    | (with_reducible apply k_d <;> intro _)
    | (with_reducible apply k_b <;> intro _)
  refine x_loop1 mixed Lt.bt_ref07_Printable_l0 Lk.bt_ref07_Printable_l0 (fun (i : Nat) => [.d (eI i)]) (fun i => []) (fun i => i ≤ s.length ∧ (s.take i).all prC = true) (fun i => s.length - i) 0 rfl rfl rfl rfl (fun _ _ => ⟨rfl, rfl⟩) rfl ⟨by omega, rfl⟩ ?_
  repeat' first
    | refine st ?_
    | ((with_reducible apply go_i); (conv => whnf))
    | (with_reducible apply k_d <;> intro _)
    | (with_reducible apply k_b <;> intro _)
  intro i ⟨h1, h2⟩
  cases hx : s[i]? with
  | some c =>
    have hlt := (List.getElem?_eq_some_iff.1 hx).1
    have hg : s.getD ((i : Int)).toNat 0 = c := by simp [List.getD_eq_getElem?_getD, hx]
    repeat' first
      | refine st ?_
      | ((with_reducible apply go_i); (conv => whnf))
      | (with_reducible apply k_d <;> intro _)
      | (with_reducible apply k_b <;> intro _)
    · rename_i h
      rw [hg] at h
      rw [prB, all_none hx (decide_eq_false (by omega))]
    · rename_i h h'
      rw [hg] at h h'
      rw [prB, all_none hx (decide_eq_false (by omega))]
    · rename_i h h'
      rw [hg] at h h'
      refine ⟨i + 1, rfl, rfl, rfl, by omega, by omega, ?_⟩
      rw [all_take_succ hx, h2, prC, decide_eq_true (by omega)]; rfl
  | none =>
    have hge := List.getElem?_eq_none_iff.1 hx
    rw [List.take_of_length_le hge] at h2
    repeat' first
      | refine st ?_
      | ((with_reducible apply go_i); (conv => whnf))
      | (with_reducible apply k_d <;> intro _)
      | (with_reducible apply k_b <;> intro _)
    rw [prB, h2]
theorem C.value_Valid (v : Vl) (hs : v.s.length ≤ 4611686018427387904) : Pure Try.prog N.value_Valid [eV v] (.d (.bool (vValid v))) := by
  refine F.value_Valid.go mixed rfl ?_
  have hP := C.value_printable v.s hs
  repeat' first
    | refine st ?_
    | ((with_reducible apply go_i); (conv => whnf))
    | ((with_reducible apply k_pn); (· exact hP))
    | ((with_reducible apply k_pc); (· exact hP))
    | (with_reducible apply k_d <;> intro _)
    | (with_reducible apply k_b <;> intro _)
  all_goals (simp_all [vValid] <;> omega)
theorem C.r7_Valid (v : Vl) (hs : v.s.length ≤ 4611686018427387904) : Pure Try.prog N.bt_ref07_Valid [eV v] (.d (.bool (vValid v))) := by
  refine F.bt_ref07_Valid.go mixed rfl ?_
  have hP := C.r7_Printable v.s hs
  repeat' first
    | refine st ?_
    | ((with_reducible apply go_i); (conv => whnf))
    | ((with_reducible apply k_pn); (· exact hP))
    | ((with_reducible apply k_pc); (· exact hP))
    | (with_reducible apply k_d <;> intro _)
    | (with_reducible apply k_b <;> intro _)
  all_goals (simp_all [vValid] <;> omega)
theorem C.value_Null : Pure Try.prog N.value_Null [] (eV vNull) := by
  refine F.value_Null.go mixed rfl ?_
  repeat' first
    | refine st ?_
    | ((with_reducible apply go_i); (conv => whnf))
    | (with_reducible apply k_d <;> intro _)
    | (with_reducible apply k_b <;> intro _)
  all_goals rfl
theorem C.r7_Null : Pure Try.prog N.bt_ref07_Null [] (eV vNull) := by
  refine F.bt_ref07_Null.go mixed rfl ?_
  repeat' first
    | refine st ?_
    | ((with_reducible apply go_i); (conv => whnf))
    | (with_reducible apply k_d <;> intro _)
    | (with_reducible apply k_b <;> intro _)
  all_goals rfl
def vBool (b : Bool) : Vl := ⟨3, if b then 1 else 0, []⟩
theorem C.value_Bool (b : Bool) : Pure Try.prog N.value_Bool [.d (.bool b)] (eV (vBool b)) := by
  refine F.value_Bool.go mixed rfl ?_
  repeat' first
    | refine st ?_
    | ((with_reducible apply go_i); (conv => whnf))
    | (with_reducible apply k_d <;> intro _)
    | (with_reducible apply k_b <;> intro _)
  all_goals simp_all [vBool]
theorem C.r7_Bool (b : Bool) : Pure Try.prog N.bt_ref07_Bool [.d (.bool b)] (eV (vBool b)) := by
  refine F.bt_ref07_Bool.go mixed rfl ?_
  repeat' first
    | refine st ?_
    | ((with_reducible apply go_i); (conv => whnf))
    | (with_reducible apply k_d <;> intro _)
    | (with_reducible apply k_b <;> intro _)
  all_goals simp_all [vBool]
def vOrN (v : Vl) : Vl := if vValid v then v else vNull
theorem C.value_orNull (v : Vl) (hs : v.s.length ≤ 4611686018427387904) : Pure Try.prog N.value_orNull [eV v] (eV (vOrN v)) := by
  refine F.value_orNull.go mixed rfl ?_
  have hV := C.value_Valid v hs
  repeat' first
    | refine st ?_
    | ((with_reducible apply go_i); (conv => whnf))
    | ((with_reducible apply k_pn); (· first | exact hV | exact C.value_Null))
    | ((with_reducible apply k_pc); (· first | exact hV | exact C.value_Null))
    | (with_reducible apply k_d <;> intro _)
    | (with_reducible apply k_b <;> intro _)
  all_goals simp_all [vOrN]
theorem C.r7_valid (v : Vl) (hs : v.s.length ≤ 4611686018427387904) : Pure Try.prog N.bt_ref07_valid [eV v] (eV (vOrN v)) := by
  refine F.bt_ref07_valid.go mixed rfl ?_
  have hV := C.r7_Valid v hs
  repeat' first
    | refine st ?_
    | ((with_reducible apply go_i); (conv => whnf))
    | ((with_reducible apply k_pn); (· first | exact hV | exact C.r7_Null))
    | ((with_reducible apply k_pc); (· first | exact hV | exact C.r7_Null))
    | (with_reducible apply k_d <;> intro _)
    | (with_reducible apply k_b <;> intro _)
  all_goals simp_all [vOrN]
def vInt (n : Int) : Vl := vOrN ⟨1, n, []⟩
def vText (s : List UInt8) : Vl := vOrN ⟨2, 0, s⟩
theorem C.value_Int (n : Int) : Pure Try.prog N.value_Int [.d (eI n)] (eV (vInt n)) := by
  refine F.value_Int.go mixed rfl ?_
  have hV := C.value_orNull ⟨1, n, []⟩ (by simp)
  repeat' first
    | refine st ?_
    | ((with_reducible apply go_i); (conv => whnf))
    | ((with_reducible apply k_pn); (· exact hV))
    | ((with_reducible apply k_pc); (· exact hV))
    | (with_reducible apply k_d <;> intro _)
    | (with_reducible apply k_b <;> intro _)
  all_goals rfl
theorem C.r7_Int (n : Int) : Pure Try.prog N.bt_ref07_Int [.d (eI n)] (eV (vInt n)) := by
  refine F.bt_ref07_Int.go mixed rfl ?_
  have hV := C.r7_valid ⟨1, n, []⟩ (by simp)
  repeat' first
    | refine st ?_
    | ((with_reducible apply go_i); (conv => whnf))
    | ((with_reducible apply k_pn); (· exact hV))
    | ((with_reducible apply k_pc); (· exact hV))
    | (with_reducible apply k_d <;> intro _)
    | (with_reducible apply k_b <;> intro _)
  all_goals rfl
theorem C.value_Text (s : List UInt8) (hs : s.length ≤ 4611686018427387904) : Pure Try.prog N.value_Text [.d (.str s)] (eV (vText s)) := by
  refine F.value_Text.go mixed rfl ?_
  have hV := C.value_orNull ⟨2, 0, s⟩ hs
  repeat' first
    | refine st ?_
    | ((with_reducible apply go_i); (conv => whnf))
    | ((with_reducible apply k_pn); (· exact hV))
    | ((with_reducible apply k_pc); (· exact hV))
    | (with_reducible apply k_d <;> intro _)
    | (with_reducible apply k_b <;> intro _)
  all_goals rfl
theorem C.r7_Text (s : List UInt8) (hs : s.length ≤ 4611686018427387904) : Pure Try.prog N.bt_ref07_Text [.d (.str s)] (eV (vText s)) := by
  refine F.bt_ref07_Text.go mixed rfl ?_
  have hV := C.r7_valid ⟨2, 0, s⟩ hs
  repeat' first
    | refine st ?_
    | ((with_reducible apply go_i); (conv => whnf))
    | ((with_reducible apply k_pn); (· exact hV))
    | ((with_reducible apply k_pc); (· exact hV))
    | (with_reducible apply k_d <;> intro _)
    | (with_reducible apply k_b <;> intro _)
  all_goals rfl
end Go.Proofs
