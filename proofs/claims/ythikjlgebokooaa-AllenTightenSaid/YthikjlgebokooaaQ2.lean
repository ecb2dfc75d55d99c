/- Texts of this claim, joined. No condition. -/
import Derived.Test.YthikjlgebokooaaQ1
import Derived.Test.YthikjlgebokooaaBi
section
/- The table of compositions in numbers. No condition. -/
set_option linter.unusedSimpArgs false
set_option linter.unusedVariables false
set_option maxRecDepth 10000
set_option maxHeartbeats 400000
namespace Go.Proofs
open Go.Bi

/-! ### The table in numbers -/
def updN (tb : List Nat) (a b c : Nat) : List Nat := tb.set (a * 13 + b) (tb.getD (a * 13 + b) 0 ||| 2 ^ c)
def rRN (l : PN) (p q : Nat × Nat) (tb : List Nat) : List Nat := l.foldl (fun tb r => updN tb (rN p q) (rN q r) (rN p r)) tb
def rQN (L : PN) (p : Nat × Nat) (l : PN) (tb : List Nat) : List Nat := l.foldl (fun tb q => rRN L p q tb) tb
def rPN (L : PN) (l : PN) (tb : List Nat) : List Nat := l.foldl (fun tb p => rQN L p L tb) tb
def toZ (tb : List Nat) : List Int := tb.map fun (n : Nat) => (n : Int)
theorem toZ_getD (tb : List Nat) (i : Nat) : (toZ tb).getD i 0 = ((tb.getD i 0 : Nat) : Int) := by
  unfold toZ
  rw [List.getD_eq_getElem?_getD, List.getD_eq_getElem?_getD, List.getElem?_map]
  cases tb[i]? <;> rfl
def bnd13 (tb : List Nat) : Prop := ∀ x ∈ tb, x < 8192
theorem bnd13_get {tb : List Nat} (h : bnd13 tb) (i : Nat) : tb.getD i 0 < 8192 := by
  rw [List.getD_eq_getElem?_getD]
  cases hx : tb[i]? with
  | none => simp
  | some x => exact h x (List.mem_of_getElem? hx)
theorem updN_bnd {tb : List Nat} (h : bnd13 tb) (a b c : Nat) (hc : c < 13) : bnd13 (updN tb a b c) := by
  intro x hx
  rcases List.mem_or_eq_of_mem_set hx with h1 | rfl
  · exact h x h1
  · exact Nat.or_lt_two_pow (n := 13) (bnd13_get h _) (Nat.pow_lt_pow_right (by omega) hc)
theorem upd_eq {tb : List Nat} (h : bnd13 tb) (a b c : Nat) (hc : c < 13) : upd3 (toZ tb) a b c = toZ (updN tb a b c) := by
  unfold upd3 updN
  have h1 := bnd13_get h (a * 13 + b)
  have h2 : 2 ^ c < 65536 := Nat.pow_lt_pow_right (n := 16) (by omega) (by omega)
  simp only [Int.toNat_natCast]
  rw [toZ_getD, sOne_nat c (by omega), sOr_nat _ _ (by omega) h2]
  simp [toZ]
theorem rR_eq {p q : Nat × Nat} (hp : okP p) (hq : okP q) : ∀ (l : PN) (tb : List Nat), (∀ r ∈ l, okP r) → bnd13 tb → rowR (l.map toP) (toP p) (toP q) (toZ tb) = toZ (rRN l p q tb) ∧ bnd13 (rRN l p q tb)
  | [], tb, _, hb => ⟨rfl, hb⟩
  | r :: l, tb, hl, hb => by
    have hr := hl r (by simp)
    have h1 := updN_bnd hb (rN p q) (rN q r) (rN p r) (rN_lt p r)
    obtain ⟨h2, h3⟩ := rR_eq hp hq l _ (fun r h => hl r (by simp [h])) h1
    refine ⟨?_, h3⟩
    rw [← show toZ (rRN l p q (updN tb (rN p q) (rN q r) (rN p r))) = toZ (rRN (r :: l) p q tb) from rfl, ← h2]
    rw [← upd_eq hb _ _ _ (rN_lt p r), ← relQ_eq hp hq, ← relQ_eq hq hr, ← relQ_eq hp hr]
    rfl
theorem rQ_eq {L : PN} (hL : ∀ r ∈ L, okP r) {p : Nat × Nat} (hp : okP p) : ∀ (l : PN) (tb : List Nat), (∀ r ∈ l, okP r) → bnd13 tb → rowQ (L.map toP) (toP p) (l.map toP) (toZ tb) = toZ (rQN L p l tb) ∧ bnd13 (rQN L p l tb)
  | [], tb, _, hb => ⟨rfl, hb⟩
  | q :: l, tb, hl, hb => by
    have hq := hl q (by simp)
    obtain ⟨h1, h2⟩ := rR_eq hp hq L tb hL hb
    obtain ⟨h3, h4⟩ := rQ_eq hL hp l _ (fun r h => hl r (by simp [h])) h2
    refine ⟨?_, h4⟩
    rw [← show toZ (rQN L p l (rRN L p q tb)) = toZ (rQN L p (q :: l) tb) from rfl, ← h3, ← h1]
    rfl
theorem rP_eq {L : PN} (hL : ∀ r ∈ L, okP r) : ∀ (l : PN) (tb : List Nat), (∀ r ∈ l, okP r) → bnd13 tb → rowP (L.map toP) (l.map toP) (toZ tb) = toZ (rPN L l tb) ∧ bnd13 (rPN L l tb)
  | [], tb, _, hb => ⟨rfl, hb⟩
  | p :: l, tb, hl, hb => by
    have hp := hl p (by simp)
    obtain ⟨h1, h2⟩ := rQ_eq hL hp L tb hL hb
    obtain ⟨h3, h4⟩ := rP_eq hL l _ (fun r h => hl r (by simp [h])) h2
    refine ⟨?_, h4⟩
    rw [← show toZ (rPN L l (rQN L p L tb)) = toZ (rPN L (p :: l) tb) from rfl, ← h3, ← h1]
    rfl
def tbit (tb : List Nat) (a b c : Nat) : Bool := (tb.getD (a * 13 + b) 0).testBit c
theorem updN_bit {tb : List Nat} (hl : tb.length = 169) (a b c : Nat) (ha : a < 13) (hb : b < 13) (x y z : Nat) (hx : x < 13) (hy : y < 13) : tbit (updN tb a b c) x y z = true ↔ tbit tb x y z = true ∨ (a = x ∧ b = y ∧ c = z) := by
  unfold tbit updN
  rw [List.getD_eq_getElem?_getD, List.getElem?_set]
  by_cases h : a * 13 + b = x * 13 + y
  · have e1 : a = x := by omega
    have e2 : b = y := by omega
    subst e1; subst e2
    rw [if_pos rfl, if_pos (by omega)]
    simp only [Option.getD_some, Nat.testBit_or, Nat.testBit_two_pow]
    simp
  · rw [if_neg h, ← List.getD_eq_getElem?_getD]
    constructor
    · exact .inl
    · rintro (h1 | ⟨rfl, rfl, _⟩)
      · exact h1
      · exact absurd rfl h
theorem updN_len (tb : List Nat) (a b c : Nat) : (updN tb a b c).length = tb.length := by simp [updN]
theorem rRN_bit {p q : Nat × Nat} {x y z : Nat} (hx : x < 13) (hy : y < 13) : ∀ (l : PN) (tb : List Nat), tb.length = 169 → (rRN l p q tb).length = 169 ∧ (tbit (rRN l p q tb) x y z = true ↔ tbit tb x y z = true ∨ ∃ r ∈ l, rN p q = x ∧ rN q r = y ∧ rN p r = z)
  | [], tb, h => ⟨h, by simp [rRN]⟩
  | r :: l, tb, h => by
    obtain ⟨h1, h2⟩ := rRN_bit (p := p) (q := q) (z := z) hx hy l (updN tb (rN p q) (rN q r) (rN p r)) (by rw [updN_len, h])
    refine ⟨h1, h2.trans ?_⟩
    rw [updN_bit h _ _ _ (rN_lt p q) (rN_lt q r) _ _ _ hx hy]
    simp only [List.mem_cons, exists_eq_or_imp, or_assoc]
theorem rQN_bit {L : PN} {p : Nat × Nat} {x y z : Nat} (hx : x < 13) (hy : y < 13) : ∀ (l : PN) (tb : List Nat), tb.length = 169 → (rQN L p l tb).length = 169 ∧ (tbit (rQN L p l tb) x y z = true ↔ tbit tb x y z = true ∨ ∃ q ∈ l, ∃ r ∈ L, rN p q = x ∧ rN q r = y ∧ rN p r = z)
  | [], tb, h => ⟨h, by simp [rQN]⟩
  | q :: l, tb, h => by
    obtain ⟨g1, g2⟩ := rRN_bit (p := p) (q := q) (z := z) hx hy L tb h
    obtain ⟨h1, h2⟩ := rQN_bit (L := L) (p := p) (z := z) hx hy l (rRN L p q tb) g1
    refine ⟨h1, h2.trans ?_⟩
    rw [g2]
    simp only [List.mem_cons, exists_eq_or_imp, or_assoc]
theorem rPN_bit {L : PN} {x y z : Nat} (hx : x < 13) (hy : y < 13) : ∀ (l : PN) (tb : List Nat), tb.length = 169 → (rPN L l tb).length = 169 ∧ (tbit (rPN L l tb) x y z = true ↔ tbit tb x y z = true ∨ ∃ p ∈ l, ∃ q ∈ L, ∃ r ∈ L, rN p q = x ∧ rN q r = y ∧ rN p r = z)
  | [], tb, h => ⟨h, by simp [rPN]⟩
  | p :: l, tb, h => by
    obtain ⟨g1, g2⟩ := rQN_bit (L := L) (p := p) (z := z) hx hy L tb h
    obtain ⟨h1, h2⟩ := rPN_bit (L := L) (z := z) hx hy l (rQN L p L tb) g1
    refine ⟨h1, h2.trans ?_⟩
    rw [g2]
    simp only [List.mem_cons, exists_eq_or_imp, or_assoc]
attribute [local irreducible] maskN rPN rowP persN pers
def compsN : List Nat := rPN (persN 6 6) (persN 6 6) (List.replicate 169 0)
theorem comps_eq : comps = toZ compsN ∧ bnd13 compsN := by
  have hL : ∀ r ∈ persN 6 6, okP r := fun r h => (persN_ok (by omega) r h).1
  have := rP_eq hL (persN 6 6) (List.replicate 169 0) hL (fun x hx => by rw [List.eq_of_mem_replicate hx]; decide)
  refine ⟨?_, this.2⟩
  have e : (List.replicate 169 0 : List Int) = toZ (List.replicate 169 0) := by simp [toZ]
  unfold comps compsN
  rw [e, pers_eq]
  exact this.1
theorem compsN_len : compsN.length = 169 := by
  have := comps_len
  rw [comps_eq.1] at this
  simpa [toZ] using this
/-- Which relations a composition has. -/
theorem compsN_bit {a b c : Nat} (ha : a < 13) (hb : b < 13) (hc : c < 13) : tbit compsN a b c = (maskN (persN 6 5)).testBit (169 * a + 13 * b + c) := by
  rw [← mask_val, Bool.eq_iff_iff, maskN_bit _ a b c ha hb hc]
  have := (rPN_bit (L := persN 6 6) (z := c) ha hb (persN 6 6) (List.replicate 169 0) (by simp)).2
  unfold compsN
  rw [this]
  have h0 : tbit (List.replicate 169 0) a b c = false := by
    unfold tbit
    rw [List.getD_eq_getElem?_getD, List.getElem?_replicate, if_pos (by omega)]
    simp
  rw [h0]
  simp only [Bool.false_eq_true, false_or]
def tabV : List Nat := (List.range 169).map fun i => (maskN (persN 6 5) >>> (13 * i)) % 8192
theorem compsN_val : compsN = tabV := by
  apply List.ext_getElem
  · rw [compsN_len]; simp [tabV]
  · intro i h1 h2
    rw [compsN_len] at h1
    have hb := comps_eq.2 compsN[i] (List.getElem_mem _)
    apply Nat.eq_of_testBit_eq
    intro c
    simp only [tabV, List.getElem_map, List.getElem_range]
    rw [show (8192 : Nat) = 2 ^ 13 from rfl, Nat.testBit_mod_two_pow, Nat.testBit_shiftRight]
    by_cases hc : c < 13
    · have := compsN_bit (a := i / 13) (b := i % 13) (c := c) (by omega) (by omega) hc
      unfold tbit at this
      rw [List.getD_eq_getElem?_getD, show i / 13 * 13 + i % 13 = i by omega, List.getElem?_eq_getElem (by rw [compsN_len]; exact h1)] at this
      simp only [Option.getD_some] at this
      rw [this, show 169 * (i / 13) + 13 * (i % 13) + c = 13 * i + c by omega]
      simp [hc]
    · have : compsN[i] < 2 ^ c := Nat.lt_of_lt_of_le hb (show 2 ^ 13 ≤ 2 ^ c from Nat.pow_le_pow_right (by omega) (by omega))
      rw [Nat.testBit_lt_two_pow this]
      simp [hc]
end Go.Proofs
end
section
/- Contracts: small, Table, Compose of the reference; the examples of the chapter. No condition. -/
set_option linter.unusedSimpArgs false
set_option linter.unusedVariables false
set_option maxRecDepth 10000
set_option maxHeartbeats 4000000
namespace Go.Proofs
open Go.Bi

theorem C.ref_small : Pure Try.prog N.bt_ref02_small [] (.d (nsl (eQs (pers 6 5)))) := by
  refine F.bt_ref02_small.go mixed rfl ?_
  repeat' first
    | refine st ?_
    | ((with_reducible apply go_i); (conv => whnf))
    | (with_reducible apply k_d <;> intro _)
    | (with_reducible apply k_b <;> intro _)
  refine x_nil 1 2 rfl rfl ?_
  repeat' first
    | refine st ?_
    | ((with_reducible apply go_i); (conv => whnf))
    | (with_reducible apply k_d <;> intro _)
    | (with_reducible apply k_b <;> intro _)
  refine x_loop3 mixed Lt.bt_ref02_small_l1 Lk.bt_ref02_small_l1 (fun (i : Nat) (es : List (List D)) (nl : Bool) => [.arr 0 es.length, .d (eI i)]) (fun i es nl => [.arr es 2 0 nl]) (fun i es nl => i ≤ 6 ∧ es = eQs (pers i 5) ∧ es.length ≤ 10 * i ∧ nl = es.isEmpty) (fun i _ _ => 6 - i) 0 [] true rfl rfl rfl rfl (fun _ _ _ _ => ⟨rfl, rfl⟩) rfl ⟨by omega, rfl, by simp, rfl⟩ ?_
  repeat' first
    | refine st ?_
    | ((with_reducible apply go_i); (conv => whnf))
    | (with_reducible apply k_d <;> intro _)
    | (with_reducible apply k_b <;> intro _)
  intro i es nl ⟨h1, h2, h3, h4⟩
  repeat' first
    | refine st ?_
    | ((with_reducible apply go_i); (conv => whnf))
    | (with_reducible apply k_d <;> intro _)
    | (with_reducible apply k_b <;> intro _)
  · refine x_loop3 mixed Lt.bt_ref02_small_l0 Lk.bt_ref02_small_l0 (fun (t : Nat) (es : List (List D)) (nl : Bool) => [.arr 0 es.length, .d (eI t)]) (fun i es nl => [.arr es 2 0 nl]) (fun t es' nl => i + 1 ≤ t ∧ t ≤ 6 ∧ es' = es ++ eQs (perPart i t) ∧ es'.length + i + 1 ≤ 10 * i + t ∧ nl = es'.isEmpty) (fun t _ _ => 7 - t) (i + 1) es nl rfl rfl rfl rfl (fun _ _ _ _ => ⟨rfl, rfl⟩) rfl ⟨by omega, by omega, by simp [perPart, eQs], by omega, h4⟩ ?_
    repeat' first
      | refine st ?_
      | ((with_reducible apply go_i); (conv => whnf))
      | (with_reducible apply k_d <;> intro _)
      | (with_reducible apply k_b <;> intro _)
    intro t es' nl' ⟨k1, k2, k3, k4, k5⟩
    repeat' first
      | refine st ?_
      | ((with_reducible apply go_i); (conv => whnf))
      | (with_reducible apply k_d <;> intro _)
      | (with_reducible apply k_b <;> intro _)
    · refine ⟨t + 1, _, _, rfl, rfl, rfl, by omega, by omega, by omega, ?_, by simp; omega, by simp⟩
      rw [k3, perPart_succ k1]; simp [eQs, eQ]
    · have : t = 6 := by omega
      subst this
      refine ⟨i + 1, _, _, rfl, rfl, rfl, by omega, by omega, ?_, by omega, k5⟩
      rw [k3, h2, pers_succ]; simp [eQs]
  · have : i = 6 := by omega
    subst this
    rw [nsl_cnd h4, h2]

/-! ### The reference's table -/
def trI (a b c : Int) : Nat := (169 * a + 13 * b + c).toNat
def tRr (L l : List (Int × Int)) (p q : Int × Int) (tb : List Bool) : List Bool := l.foldl (fun tb r => tb.set (trI (relQ p q) (relQ q r) (relQ p r)) true) tb
def tRq (L l : List (Int × Int)) (p : Int × Int) (tb : List Bool) : List Bool := l.foldl (fun tb q => tRr L L p q tb) tb
def tRp (L l : List (Int × Int)) (tb : List Bool) : List Bool := l.foldl (fun tb p => tRq L L p tb) tb
def eBs (l : List Bool) : List (List D) := l.map fun b => [.bool b]
theorem eBs_len (l : List Bool) : (eBs l).length = l.length := by simp [eBs]
theorem eBs_get {l : List Bool} {i : Nat} (h : i < l.length) : (eBs l)[i]? = some [.bool (l.getD i false)] := by simp [eBs, h]
theorem eBs_set (l : List Bool) (i : Nat) (b : Bool) : (eBs l).set i [.bool b] = eBs (l.set i b) := by simp [eBs]
theorem eBs_mem (l : List Bool) : ∀ e ∈ eBs l, e.length = 1 := by
  intro e he
  obtain ⟨c, _, rfl⟩ := List.mem_map.1 he
  rfl
theorem tRr_len (L l : List (Int × Int)) (p q : Int × Int) (tb : List Bool) : (tRr L l p q tb).length = tb.length := by
  unfold tRr
  induction l generalizing tb with
  | nil => rfl
  | cons r l ih => rw [List.foldl_cons, ih]; simp
theorem tRq_len (L l : List (Int × Int)) (p : Int × Int) (tb : List Bool) : (tRq L l p tb).length = tb.length := by
  unfold tRq
  induction l generalizing tb with
  | nil => rfl
  | cons r l ih => rw [List.foldl_cons, ih, tRr_len]
theorem tRp_len (L l : List (Int × Int)) (tb : List Bool) : (tRp L l tb).length = tb.length := by
  unfold tRp
  induction l generalizing tb with
  | nil => rfl
  | cons r l ih => rw [List.foldl_cons, ih, tRq_len]
def tableR : List Bool := tRp (pers 6 5) (pers 6 5) (List.replicate 2197 false)
theorem Table_T (PL : List (Int × Int)) (hPL : PL.length = 15) (hs : Pure Try.prog N.bt_ref02_small [] (.d (nsl (eQs PL)))) : Pure Try.prog N.bt_ref02_Table [] (.d (.sl (eBs (tRp PL PL (List.replicate 2197 false))))) := by
  refine F.bt_ref02_Table.go mixed rfl ?_
  have hl := eQs_len PL
  have hm := eQs_mem PL
  have hz : List.replicate 2197 [D.bool false] = eBs (List.replicate 2197 false) := by simp [eBs]
  generalize hZ : List.replicate 2197 false = Z at hz ⊢
  have hZl : Z.length = 2197 := by rw [← hZ]; simp
  repeat' first
    | refine st ?_
    | ((with_reducible apply go_i); (conv => whnf))
    | ((with_reducible apply k_pn); (· exact hs))
    | ((with_reducible apply k_pc); (· exact hs))
    | (with_reducible apply k_d <;> intro _)
    | (with_reducible apply k_b <;> intro _)
  have hn : Int.toNat 2197 = 2197 := by decide
  rw [hn, hz]
  clear hz
  have hcl : ∀ tb : List Bool, tb.length = 2197 → (eBs Z).length = (eBs tb).length := fun tb h => by rw [eBs_len, eBs_len, h, hZl]
  refine x_loop2 mixed Lt.bt_ref02_Table_l2 Lk.bt_ref02_Table_l2 (fun (i : Nat) (tb : List Bool) => [.d (eI i)]) (fun i tb => [.arr (eBs tb) 1 0 false]) (fun i tb => i ≤ 15 ∧ tb = tRp PL (PL.take i) Z) (fun i _ => 15 - i) 0 Z rfl rfl rfl rfl (fun i tb h => ⟨rfl, rfl⟩) rfl ⟨by omega, rfl⟩ ?_
  repeat' first
    | refine st ?_
    | ((with_reducible apply go_i); (conv => whnf))
    | (with_reducible apply k_d <;> intro _)
    | (with_reducible apply k_b <;> intro _)
  intro i tb ⟨k1, k2⟩
  have hl1 : tb.length = 2197 := by rw [k2, tRp_len, hZl]
  cases hx : PL[i]? with
  | some p =>
    have hlt := (List.getElem?_eq_some_iff.1 hx).1
    have hep := eQs_get hx
    repeat' first
      | refine st ?_
      | ((with_reducible apply go_i); (conv => whnf))
      | (with_reducible apply k_d <;> intro _)
      | (with_reducible apply k_b <;> intro _)
    refine x_loop2 mixed Lt.bt_ref02_Table_l1 Lk.bt_ref02_Table_l1 (fun (i : Nat) (tb : List Bool) => [.d (eI i)]) (fun i tb => [.arr (eBs tb) 1 0 false]) (fun i2 tb' => i2 ≤ 15 ∧ tb' = tRq PL (PL.take i2) p tb) (fun i _ => 15 - i) 0 tb rfl rfl rfl rfl (fun i tb h => ⟨rfl, rfl⟩) rfl ⟨by omega, rfl⟩ ?_
    repeat' first
      | refine st ?_
      | ((with_reducible apply go_i); (conv => whnf))
      | (with_reducible apply k_d <;> intro _)
      | (with_reducible apply k_b <;> intro _)
    intro i2 tb2 ⟨k3, k4⟩
    have hl2 : tb2.length = 2197 := by rw [k4, tRq_len, hl1]
    cases hx2 : PL[i2]? with
    | some q =>
      have hlt2 := (List.getElem?_eq_some_iff.1 hx2).1
      have heq := eQs_get hx2
      repeat' first
        | refine st ?_
        | ((with_reducible apply go_i); (conv => whnf))
        | ((with_reducible apply k_pn); (· exact C.ref_Relation _ _ _ _))
        | ((with_reducible apply k_pc); (· exact C.ref_Relation _ _ _ _))
        | (with_reducible apply k_d <;> intro _)
        | (with_reducible apply k_b <;> intro _)
      refine x_loop2 mixed Lt.bt_ref02_Table_l0 Lk.bt_ref02_Table_l0 (fun (i : Nat) (tb : List Bool) => [.d (eI i)]) (fun i tb => [.arr (eBs tb) 1 0 false]) (fun i3 tb' => i3 ≤ 15 ∧ tb' = tRr PL (PL.take i3) p q tb2) (fun i _ => 15 - i) 0 tb2 rfl rfl rfl rfl (fun i tb h => ⟨rfl, rfl⟩) rfl ⟨by omega, rfl⟩ ?_
      repeat' first
        | refine st ?_
        | ((with_reducible apply go_i); (conv => whnf))
        | (with_reducible apply k_d <;> intro _)
        | (with_reducible apply k_b <;> intro _)
      intro i3 tb3 ⟨k5, k6⟩
      have hl3 : tb3.length = 2197 := by rw [k6, tRr_len, hl2]
      have heb := eBs_len tb3
      have hcl3 := hcl tb3 hl3
      cases hx3 : PL[i3]? with
      | some r =>
        have hlt3 := (List.getElem?_eq_some_iff.1 hx3).1
        have her := eQs_get hx3
        have ha := rel_range p.1 p.2 q.1 q.2
        have hb := rel_range q.1 q.2 r.1 r.2
        have hc := rel_range p.1 p.2 r.1 r.2
        have hg := eBs_get (l := tb3) (i := (169 * (rel p.1 p.2 q.1 q.2).1 + 13 * (rel q.1 q.2 r.1 r.2).1 + (rel p.1 p.2 r.1 r.2).1).toNat) (by rw [hl3]; omega)
        repeat' first
          | refine st ?_
          | ((with_reducible apply go_i); (conv => whnf))
          | ((with_reducible apply k_pn); (· exact C.ref_Relation _ _ _ _))
          | ((with_reducible apply k_pc); (· exact C.ref_Relation _ _ _ _))
          | (with_reducible apply k_d <;> intro _)
          | (with_reducible apply k_b <;> intro _)
        refine ⟨i3 + 1, tb3.set (trI (relQ p q) (relQ q r) (relQ p r)) true, rfl, rfl, ?_, by omega, by omega, ?_⟩
        · rw [← eBs_set]; rfl
        · rw [tRr, foldl_take_succ _ _ _ _ _ hx3, ← tRr, ← k6]
      | none =>
        have hge := List.getElem?_eq_none_iff.1 hx3
        repeat' first
          | refine st ?_
          | ((with_reducible apply go_i); (conv => whnf))
          | (with_reducible apply k_d <;> intro _)
          | (with_reducible apply k_b <;> intro _)
        refine ⟨i2 + 1, _, rfl, rfl, rfl, by omega, by omega, ?_⟩
        rw [k6, List.take_of_length_le hge, k4]
        exact (foldl_take_succ (fun tb q => tRr PL PL p q tb) tb PL i2 q hx2).symm
    | none =>
      have hge := List.getElem?_eq_none_iff.1 hx2
      repeat' first
        | refine st ?_
        | ((with_reducible apply go_i); (conv => whnf))
        | (with_reducible apply k_d <;> intro _)
        | (with_reducible apply k_b <;> intro _)
      refine ⟨i + 1, _, rfl, rfl, rfl, by omega, by omega, ?_⟩
      rw [k4, List.take_of_length_le hge, k2]
      exact (foldl_take_succ (fun tb p => tRq PL PL p tb) Z PL i p hx).symm
  | none =>
    have hge := List.getElem?_eq_none_iff.1 hx
    have hcl1 := hcl tb hl1
    repeat' first
      | refine st ?_
      | ((with_reducible apply go_i); (conv => whnf))
      | (with_reducible apply k_d <;> intro _)
      | (with_reducible apply k_b <;> intro _)
    rw [k2, List.take_of_length_le hge]; rfl
end Go.Proofs
end
section
/- The reference's Compose. No condition. -/
set_option linter.unusedSimpArgs false
set_option linter.unusedVariables false
set_option maxRecDepth 10000
set_option maxHeartbeats 4000000
namespace Go.Proofs
open Go.Bi
theorem C.ref_Table : Pure Try.prog N.bt_ref02_Table [] (.d (.sl (eBs tableR))) := Table_T (pers 6 5) (by decide) C.ref_small

/-! ### Compose -/
def cUpto (tb : List Bool) (a b : Int) (n : Nat) : List Int := ((List.range n).map fun (k : Nat) => (k : Int)).filter fun c => tb.getD (trI a b c) false
theorem cUpto_succ (tb : List Bool) (a b : Int) (n : Nat) : cUpto tb a b (n + 1) = if tb.getD (trI a b n) false then cUpto tb a b n ++ [(n : Int)] else cUpto tb a b n := by
  unfold cUpto
  rw [List.range_succ, List.map_append, List.filter_append]
  simp only [List.map_cons, List.map_nil, List.filter_cons, List.filter_nil]
  split <;> simp
theorem cUpto_len (tb : List Bool) (a b : Int) (n : Nat) : (cUpto tb a b n).length ≤ n := by
  unfold cUpto
  exact Nat.le_trans (List.length_filter_le _ _) (by simp)
theorem tableR_len : tableR.length = 2197 := by unfold tableR; rw [tRp_len]; simp
def rCompose (a b : Int) : List Int := if isRel a && isRel b then cUpto tableR a b 13 else []
end Go.Proofs
end
section
/- The examples of the chapter hold. No condition. -/
set_option linter.unusedSimpArgs false
set_option linter.unusedVariables false
set_option maxRecDepth 10000
set_option maxHeartbeats 4000000
namespace Go.Proofs
open Go.Bi

def con1 (a b : Int) : Con := ⟨a, b, [0], .sl (eIs [0]), sld_sl, by decide⟩
theorem comps_tab : comps = toZ tabV := by rw [comps_eq.1, compsN_val]
theorem tight_ex : tightT (toZ tabV) 3 [con1 0 1, con1 1 2] = (.sl [[eI 0, eI 1, .sl [[eI 0]]], [eI 0, eI 2, .sl [[eI 0]]], [eI 1, eI 2, .sl [[eI 0]]]], true) := by kernel_rfl

theorem C.awake : Pure Try.prog N.bt_law02_awake [] (.d (.bool true)) := by
  refine F.bt_law02_awake.go mixed rfl ?_
  have h1 : Pure Try.prog N.allen_Relation [eP 1 3, eP 3 4] (.tup [.d (eI 1), .d (.bool true)]) := C.allen_Relation 1 3 3 4
  have h2 : Pure Try.prog N.allen_Tighten [.d (eI 3), .d (.sl [[eI 0, eI 1, .sl [[eI 0]]], [eI 1, eI 2, .sl [[eI 0]]]])] (.tup [.d (.sl [[eI 0, eI 1, .sl [[eI 0]]], [eI 0, eI 2, .sl [[eI 0]]], [eI 1, eI 2, .sl [[eI 0]]]]), .d (.bool true)]) := by
    have := C.allen_Tighten 3 [con1 0 1, con1 1 2] (by decide) (.sl [[eI 0, eI 1, .sl [[eI 0]]], [eI 1, eI 2, .sl [[eI 0]]]]) sld_sl
    unfold tight at this
    rw [comps_tab, tight_ex] at this
    exact this
  have h3 : Pure Try.prog N.allen_Compose [.d (eI 1), .d (eI 1)] (.d (.sl [[eI 0]])) := by
    have := C.allen_Compose 1 1
    unfold compose at this
    rw [comps_tab, show (if isRel 1 && isRel 1 then sList (tAt (toZ tabV) 1 1) else []) = [0] by kernel_rfl] at this
    exact this
  have h4 : Pure Try.prog N.allen_Compose [.d (eI 3), .d (eI 9)] (.d (.sl [[eI 3], [eI 6], [eI 9]])) := by
    have := C.allen_Compose 3 9
    unfold compose at this
    rw [comps_tab, show (if isRel 3 && isRel 9 then sList (tAt (toZ tabV) 3 9) else []) = [3, 6, 9] by kernel_rfl] at this
    exact this
  have h5 : ∀ l : List Int, l.length ≤ 100 → Pure Try.prog N.bt_ref02_Ints [.d (.sl (eIs l)), .d (.sl (eIs l))] (.d (.bool true)) := fun l hl => by
    have := C.ref_Ints l l (by omega) (.sl (eIs l)) (.sl (eIs l)) sld_sl sld_sl
    simpa using this
  have h6 : Pure Try.prog N.bt_ref02_Ints [.d (.sl [[eI 0]]), .d (.sl [[eI 0]])] (.d (.bool true)) := h5 [0] (by decide)
  have h7 : Pure Try.prog N.bt_ref02_Ints [.d (.sl [[eI 3], [eI 6], [eI 9]]), .d (.sl [[eI 3], [eI 6], [eI 9]])] (.d (.bool true)) := h5 [3, 6, 9] (by decide)
  have h8 : Pure Try.prog N.allen_Name [.d (eI 8)] (.d (.str [67, 79, 78, 84, 65, 73, 78, 83])) := C.allen_Name 8
  have h9 : Pure Try.prog N.allen_Satisfied [.d (.sl [[eI 1, eI 2]]), .d .nil] (.d (.bool true)) := C.allen_Satisfied [(1, 2)] (by decide) (.sl [[eI 1, eI 2]]) sld_sl [] (by decide) .nil sld_nil
  repeat' first
    | refine st ?_
    | ((with_reducible apply go_i); (conv => whnf))
    | ((with_reducible apply k_pn); (· first | exact h1 | exact h2 | exact h3 | exact h4 | exact h6 | exact h7 | exact h8 | exact h9))
    | ((with_reducible apply k_pc); (· first | exact h1 | exact h2 | exact h3 | exact h4 | exact h6 | exact h7 | exact h8 | exact h9))
    | (with_reducible apply k_d <;> intro _)
    | (with_reducible apply k_b <;> intro _)
  trace_state
end Go.Proofs
end
section
/- The laws on inverses, names and relations, as contracts over data. No condition. -/
set_option linter.unusedSimpArgs false
set_option linter.unusedVariables false
set_option maxRecDepth 10000
set_option maxHeartbeats 4000000
namespace Go.Proofs
open Go.Bi

theorem inv_inv (r : Int) (h : ¬ inv r < 0) : inv (inv r) = r := by
  unfold inv at h ⊢
  split at h
  · rename_i h1
    rw [if_pos h1, if_pos (by omega)]; omega
  · omega
theorem name_find {r : Int} (h : ¬ name r = []) : find (name r) = r := by
  unfold name at h ⊢
  split at h
  · rename_i hr
    have h' : 0 ≤ r ∧ r < 13 := by simpa [isRel] using hr
    rw [if_pos hr]
    rcases (show r = 0 ∨ r = 1 ∨ r = 2 ∨ r = 3 ∨ r = 4 ∨ r = 5 ∨ r = 6 ∨ r = 7 ∨ r = 8 ∨ r = 9 ∨ r = 10 ∨ r = 11 ∨ r = 12 by omega) with rfl | rfl | rfl | rfl | rfl | rfl | rfl | rfl | rfl | rfl | rfl | rfl | rfl <;> decide
  · exact absurd rfl h
end Go.Proofs
end
section
/- The compositions of the program are those of the reference. No condition. -/
set_option linter.unusedSimpArgs false
set_option linter.unusedVariables false
set_option maxRecDepth 10000
set_option maxHeartbeats 4000000
namespace Go.Proofs
open Go.Bi

theorem set_bit {tb : List Bool} {i n : Nat} (h : n < tb.length) : (tb.set i true).getD n false = true ↔ tb.getD n false = true ∨ i = n := by
  rw [List.getD_eq_getElem?_getD, List.getElem?_set]
  by_cases e : i = n
  · subst e; simp [h]
  · rw [if_neg e, ← List.getD_eq_getElem?_getD]; simp [e]
theorem tRr_bit (L : List (Int × Int)) (p q : Int × Int) (n : Nat) : ∀ (l : List (Int × Int)) (tb : List Bool), n < tb.length → ((tRr L l p q tb).getD n false = true ↔ tb.getD n false = true ∨ ∃ r ∈ l, trI (relQ p q) (relQ q r) (relQ p r) = n)
  | [], tb, h => by simp [tRr]
  | r :: l, tb, h => by
    have := tRr_bit L p q n l (tb.set (trI (relQ p q) (relQ q r) (relQ p r)) true) (by simpa using h)
    refine this.trans ?_
    rw [set_bit h]
    simp only [List.mem_cons, exists_eq_or_imp, or_assoc]
theorem tRq_bit (L : List (Int × Int)) (p : Int × Int) (n : Nat) : ∀ (l : List (Int × Int)) (tb : List Bool), n < tb.length → ((tRq L l p tb).getD n false = true ↔ tb.getD n false = true ∨ ∃ q ∈ l, ∃ r ∈ L, trI (relQ p q) (relQ q r) (relQ p r) = n)
  | [], tb, h => by simp [tRq]
  | q :: l, tb, h => by
    have := tRq_bit L p n l (tRr L L p q tb) (by rw [tRr_len]; exact h)
    refine this.trans ?_
    rw [tRr_bit L p q n L tb h]
    simp only [List.mem_cons, exists_eq_or_imp, or_assoc]
theorem tRp_bit (L : List (Int × Int)) (n : Nat) : ∀ (l : List (Int × Int)) (tb : List Bool), n < tb.length → ((tRp L l tb).getD n false = true ↔ tb.getD n false = true ∨ ∃ p ∈ l, ∃ q ∈ L, ∃ r ∈ L, trI (relQ p q) (relQ q r) (relQ p r) = n)
  | [], tb, h => by simp [tRp]
  | p :: l, tb, h => by
    have := tRp_bit L n l (tRq L L p tb) (by rw [tRq_len]; exact h)
    refine this.trans ?_
    rw [tRq_bit L p n L tb h]
    simp only [List.mem_cons, exists_eq_or_imp, or_assoc]
theorem trI_eq {p q r : Nat × Nat} (hp : okP p) (hq : okP q) (hr : okP r) : trI (relQ (toP p) (toP q)) (relQ (toP q) (toP r)) (relQ (toP p) (toP r)) = 169 * rN p q + 13 * rN q r + rN p r := by
  rw [relQ_eq hp hq, relQ_eq hq hr, relQ_eq hp hr]
  unfold trI
  omega
attribute [local irreducible] maskN
theorem tableR_bit {a b c : Nat} (ha : a < 13) (hb : b < 13) (hc : c < 13) : tableR.getD (169 * a + 13 * b + c) false = (maskN (persN 6 5)).testBit (169 * a + 13 * b + c) := by
  rw [Bool.eq_iff_iff, maskN_bit _ a b c ha hb hc]
  have hL : ∀ r ∈ persN 6 5, okP r := fun r h => (persN_ok (by omega) r h).1
  have hlen : 169 * a + 13 * b + c < (List.replicate 2197 false).length := by rw [List.length_replicate]; omega
  have := tRp_bit (pers 6 5) (169 * a + 13 * b + c) (pers 6 5) (List.replicate 2197 false) hlen
  unfold tableR
  refine this.trans ?_
  have h0 : (List.replicate 2197 false).getD (169 * a + 13 * b + c) false = false := by
    rw [List.getD_eq_getElem?_getD, List.getElem?_replicate, if_pos (by rw [List.length_replicate] at hlen; exact hlen)]; rfl
  rw [h0, pers_eq]
  constructor
  · rintro (h | ⟨p, hp, q, hq, r, hr, h⟩)
    · cases h
    · obtain ⟨p, hp1, rfl⟩ := List.mem_map.1 hp
      obtain ⟨q, hq1, rfl⟩ := List.mem_map.1 hq
      obtain ⟨r, hr1, rfl⟩ := List.mem_map.1 hr
      rw [trI_eq (hL p hp1) (hL q hq1) (hL r hr1)] at h
      have h1 := rN_lt p q
      have h2 := rN_lt q r
      have h3 := rN_lt p r
      exact ⟨p, hp1, q, hq1, r, hr1, by omega, by omega, by omega⟩
  · rintro ⟨p, hp, q, hq, r, hr, h1, h2, h3⟩
    refine .inr ⟨toP p, List.mem_map.2 ⟨p, hp, rfl⟩, toP q, List.mem_map.2 ⟨q, hq, rfl⟩, toP r, List.mem_map.2 ⟨r, hr, rfl⟩, ?_⟩
    rw [trI_eq (hL p hp) (hL q hq) (hL r hr), h1, h2, h3]
theorem comps_has {a b c : Nat} (ha : a < 13) (hb : b < 13) (hc : c < 13) : sHas (tAt comps a b) c = (maskN (persN 6 5)).testBit (169 * a + 13 * b + c) := by
  rw [← compsN_bit ha hb hc, comps_eq.1]
  unfold tAt
  rw [toZ_getD, sHas_nat _ _ (Nat.lt_trans (bnd13_get comps_eq.2 _) (by omega)) (by omega)]
  rfl
theorem compose_eq (a b : Int) : compose a b = rCompose a b := by
  unfold compose rCompose
  split
  · rename_i h
    have h' : (0 ≤ a ∧ a < 13) ∧ (0 ≤ b ∧ b < 13) := by simpa [isRel] using h
    obtain ⟨m, rfl⟩ : ∃ m : Nat, a = m := ⟨a.toNat, by omega⟩
    obtain ⟨n, rfl⟩ : ∃ m : Nat, b = m := ⟨b.toNat, by omega⟩
    unfold sList sUpto cUpto
    refine List.filter_congr fun x hx => ?_
    obtain ⟨c, hc, rfl⟩ := List.mem_map.1 hx
    have hc := List.mem_range.1 hc
    rw [comps_has (by omega) (by omega) hc, ← tableR_bit (by omega) (by omega) hc]
    unfold trI
    congr 1
  · rfl
theorem compose_len (a b : Int) : (compose a b).length ≤ 13 := by
  unfold compose
  split
  · exact sUpto_len _ 13
  · exact Nat.zero_le _
end Go.Proofs
end
section
/- The relation of p to r is among the compositions, as a contract over data. No condition. -/
set_option linter.unusedSimpArgs false
set_option linter.unusedVariables false
set_option maxRecDepth 10000
set_option maxHeartbeats 4000000
namespace Go.Proofs
open Go.Bi

def rank (E : List Int) (x : Int) : Nat := E.countP fun e => decide (e < x)
theorem rank_le {x y : Int} (h : x ≤ y) : ∀ (E : List Int), rank E x ≤ rank E y
  | [] => Nat.le_refl _
  | e :: E => by
    have ih := rank_le h E
    unfold rank at *
    simp only [List.countP_cons, decide_eq_true_eq]
    split <;> split <;> omega
theorem rank_lt {x y : Int} (h : x < y) : ∀ (E : List Int), x ∈ E → rank E x < rank E y
  | e :: E, hx => by
    have ih := rank_le (Int.le_of_lt h) E
    rcases List.mem_cons.1 hx with rfl | hx
    · unfold rank at *
      simp only [List.countP_cons, decide_eq_true_eq]
      rw [if_neg (by omega), if_pos h]
      omega
    · have ih := rank_lt h E hx
      unfold rank at *
      simp only [List.countP_cons, decide_eq_true_eq]
      split <;> split <;> omega
theorem rank_max {x : Int} : ∀ (E : List Int), x ∈ E → rank E x < E.length
  | e :: E, hx => by
    have hle : rank E x ≤ E.length := List.countP_le_length
    rcases List.mem_cons.1 hx with rfl | hx
    · unfold rank at *
      simp only [List.countP_cons, decide_eq_true_eq, List.length_cons]
      rw [if_neg (by omega)]
      omega
    · have ih := rank_max E hx
      unfold rank at *
      simp only [List.countP_cons, decide_eq_true_eq, List.length_cons]
      split <;> omega
theorem rank_iff {E : List Int} {x y : Int} (hx : x ∈ E) (hy : y ∈ E) : ((rank E x : Int) < (rank E y : Int) ↔ x < y) ∧ ((rank E x : Int) = (rank E y : Int) ↔ x = y) := by
  rcases Int.lt_trichotomy x y with h | h | h
  · have := rank_lt h E hx; omega
  · subst h; omega
  · have := rank_lt h E hy; omega
theorem rel_rank {E : List Int} {p q : Int × Int} (hp : validQ p = true) (hq : validQ q = true) (h1 : p.1 ∈ E) (h2 : p.2 ∈ E) (h3 : q.1 ∈ E) (h4 : q.2 ∈ E) (hE : E.length = 6) :
    (rN (rank E p.1, rank E p.2) (rank E q.1, rank E q.2) : Int) = relQ p q := by
  have m1 := rank_max E h1
  have m2 := rank_max E h2
  have m3 := rank_max E h3
  have m4 := rank_max E h4
  have vp : valid p.1 p.2 = true := hp
  have vq : valid q.1 q.2 = true := hq
  have e1 := vp
  have e2 := vq
  simp only [valid, decide_eq_true_eq] at e1 e2
  have l1 := (rank_iff h1 h2).1.2 e1.2.1
  have l2 := (rank_iff h3 h4).1.2 e2.2.1
  have op : okP (rank E p.1, rank E p.2) := ⟨by show rank E p.1 < rank E p.2; omega, by show rank E p.2 ≤ _; omega⟩
  have oq : okP (rank E q.1, rank E q.2) := ⟨by show rank E q.1 < rank E q.2; omega, by show rank E q.2 ≤ _; omega⟩
  rw [← relQ_eq op oq]
  unfold relQ toP
  dsimp only
  have v1 : (valid (rank E p.1) (rank E p.2) && valid (rank E q.1) (rank E q.2)) = true := by
    simp only [valid, Bool.and_eq_true, decide_eq_true_eq]; omega
  have v2 : (valid p.1 p.2 && valid q.1 q.2) = true := by rw [vp, vq]; rfl
  unfold rel
  rw [if_pos v1, if_pos v2]
  simp only [(rank_iff h2 h3).1, (rank_iff h2 h3).2, (rank_iff h4 h1).1, (rank_iff h4 h1).2, (rank_iff h1 h3).1, (rank_iff h1 h3).2, (rank_iff h3 h1).1, (rank_iff h2 h4).1, (rank_iff h2 h4).2, (rank_iff h4 h2).1, gt_iff_lt]
theorem compose_mem {p q r : Int × Int} (hp : validQ p = true) (hq : validQ q = true) (hr : validQ r = true) : relQ p r ∈ compose (relQ p q) (relQ q r) := by
  have a1 := rel_range p.1 p.2 q.1 q.2
  have a2 := rel_range q.1 q.2 r.1 r.2
  have a3 := rel_range p.1 p.2 r.1 r.2
  change 0 ≤ relQ p q ∧ relQ p q < 13 at a1
  change 0 ≤ relQ q r ∧ relQ q r < 13 at a2
  change 0 ≤ relQ p r ∧ relQ p r < 13 at a3
  have key : ∃ p' ∈ persN 6 5, ∃ q' ∈ persN 6 5, ∃ r' ∈ persN 6 5, (rN p' q' : Int) = relQ p q ∧ (rN q' r' : Int) = relQ q r ∧ (rN p' r' : Int) = relQ p r := by
    have vp : valid p.1 p.2 = true := hp
    have vq : valid q.1 q.2 = true := hq
    have vr : valid r.1 r.2 = true := hr
    simp only [valid, decide_eq_true_eq] at vp vq vr
    have mem : ∀ s : Int × Int, s = p ∨ s = q ∨ s = r → s.1 ∈ [p.1, p.2, q.1, q.2, r.1, r.2] ∧ s.2 ∈ [p.1, p.2, q.1, q.2, r.1, r.2] := by
      rintro s (rfl | rfl | rfl) <;> simp
    have hin : ∀ s : Int × Int, (s = p ∨ s = q ∨ s = r) → s.1 < s.2 → (rank [p.1, p.2, q.1, q.2, r.1, r.2] s.1, rank [p.1, p.2, q.1, q.2, r.1, r.2] s.2) ∈ persN 6 5 := by
      intro s hs hlt
      obtain ⟨h1, h2⟩ := mem s hs
      have g1 := rank_max _ h1
      have g2 := rank_max _ h2
      have g3 := rank_lt hlt _ h1
      simp only [List.length_cons, List.length_nil] at g1 g2
      exact persN_mem (by omega) g3 (by omega)
    refine ⟨_, hin p (.inl rfl) vp.2.1, _, hin q (.inr (.inl rfl)) vq.2.1, _, hin r (.inr (.inr rfl)) vr.2.1, ?_, ?_, ?_⟩
    · exact rel_rank hp hq (mem p (.inl rfl)).1 (mem p (.inl rfl)).2 (mem q (.inr (.inl rfl))).1 (mem q (.inr (.inl rfl))).2 rfl
    · exact rel_rank hq hr (mem q (.inr (.inl rfl))).1 (mem q (.inr (.inl rfl))).2 (mem r (.inr (.inr rfl))).1 (mem r (.inr (.inr rfl))).2 rfl
    · exact rel_rank hp hr (mem p (.inl rfl)).1 (mem p (.inl rfl)).2 (mem r (.inr (.inr rfl))).1 (mem r (.inr (.inr rfl))).2 rfl
  obtain ⟨a, ha⟩ : ∃ n : Nat, relQ p q = n := ⟨(relQ p q).toNat, by omega⟩
  obtain ⟨b, hb⟩ : ∃ n : Nat, relQ q r = n := ⟨(relQ q r).toNat, by omega⟩
  obtain ⟨c, hc⟩ : ∃ n : Nat, relQ p r = n := ⟨(relQ p r).toNat, by omega⟩
  rw [ha, hb, hc] at key ⊢
  rw [ha] at a1
  rw [hb] at a2
  rw [hc] at a3
  obtain ⟨p', hp', q', hq', r', hr', k1, k2, k3⟩ := key
  have hbit : (maskN (persN 6 5)).testBit (169 * a + 13 * b + c) = true := (maskN_bit _ a b c (by omega) (by omega) (by omega)).2 ⟨p', hp', q', hq', r', hr', by omega, by omega, by omega⟩
  rw [← comps_has (by omega) (by omega) (by omega)] at hbit
  unfold compose
  have hab : (isRel a && isRel b) = true := by simp [isRel]; omega
  rw [if_pos hab]
  unfold sList sUpto
  exact List.mem_filter.2 ⟨List.mem_map.2 ⟨c, List.mem_range.2 (by omega), rfl⟩, hbit⟩
end Go.Proofs
end
section
/- Contracts of the reference: Large, in, Valid, Satisfied, Same. No condition. -/
set_option linter.unusedSimpArgs false
set_option linter.unusedVariables false
set_option maxRecDepth 10000
set_option maxHeartbeats 4000000
namespace Go.Proofs
open Go.Bi

def isIn (l : List Int) (x : Int) : Bool := l.any fun y => decide (y = x)
theorem isIn_iff {l : List Int} {x : Int} : isIn l x = true ↔ x ∈ l := by simp [isIn]
theorem any_take_no {α : Type} {f : α → Bool} {l : List α} (h : ∀ (i : Nat) x, l[i]? = some x → f x = false) : l.any f = false := by
  rw [Bool.eq_false_iff]
  intro ha
  obtain ⟨x, hx, hf⟩ := List.any_eq_true.1 ha
  obtain ⟨i, hi⟩ := List.getElem?_of_mem hx
  rw [h i x hi] at hf
  cases hf
theorem C.ref_in (l : List Int) (hl : l.length ≤ 9223372036854775807) (x : Int) (d : D) (hd : SlD d (eIs l)) : Pure Try.prog N.bt_ref02_in [.d d, .d (eI x)] (.d (.bool (isIn l x))) := by
  refine F.bt_ref02_in.go mixed rfl ?_
  have hl1 := eIs_len l
  repeat' first
    | refine st ?_
    | ((with_reducible apply go_i); (conv => whnf))
    | (with_reducible apply k_d <;> intro _)
    | (with_reducible apply k_b <;> intro _)
  refine x_loop1 mixed Lt.bt_ref02_in_l0 Lk.bt_ref02_in_l0 (fun (i : Nat) => [.d (eI i)]) (fun i => []) (fun i => i ≤ l.length ∧ ∀ (j : Nat) y, j < i → l[j]? = some y → y ≠ x) (fun i => l.length - i) 0 rfl rfl rfl rfl (fun _ _ => ⟨rfl, rfl⟩) rfl ⟨by omega, by omega⟩ ?_
  repeat' first
    | refine st ?_
    | ((with_reducible apply go_i); (conv => whnf))
    | (with_reducible apply k_d <;> intro _)
    | (with_reducible apply k_b <;> intro _)
  intro i ⟨h1, h2⟩
  cases hx : l[i]? with
  | some y =>
    have hlt := (List.getElem?_eq_some_iff.1 hx).1
    have he := eIs_get hx
    repeat' first
      | refine st ?_
      | ((with_reducible apply go_i); (conv => whnf))
      | (with_reducible apply k_d <;> intro _)
      | (with_reducible apply k_b <;> intro _)
    · rename_i e
      rw [isIn_iff.2 (by rw [← e]; exact List.mem_of_getElem? hx)]
    · rename_i e
      refine ⟨i + 1, rfl, rfl, rfl, by omega, by omega, fun j z hj hz => ?_⟩
      rcases Nat.lt_succ_iff_lt_or_eq.1 hj with h | rfl
      · exact h2 j z h hz
      · rw [hx] at hz; cases hz; exact e
  | none =>
    have hge := List.getElem?_eq_none_iff.1 hx
    repeat' first
      | refine st ?_
      | ((with_reducible apply go_i); (conv => whnf))
      | (with_reducible apply k_d <;> intro _)
      | (with_reducible apply k_b <;> intro _)
    rw [isIn, any_take_no fun j z hz => decide_eq_false (h2 j z (by have := (List.getElem?_eq_some_iff.1 hz).1; omega) hz)]
def large (l : List Con) : Bool := decide (12 < l.length) || l.any fun c => decide (20 < c.rels.length)
theorem C.ref_Large (l : List Con) (hll : l.length ≤ 9223372036854775807) (d : D) (hd : SlD d (eCons l)) : Pure Try.prog N.bt_ref02_Large [.d d] (.d (.bool (large l))) := by
  refine F.bt_ref02_Large.go mixed rfl ?_
  have hl0 := eCons_len l
  have hm := eCons_mem l
  repeat' first
    | refine st ?_
    | ((with_reducible apply go_i); (conv => whnf))
    | (with_reducible apply k_d <;> intro _)
    | (with_reducible apply k_b <;> intro _)
  · rename_i h
    have : (12 : Nat) < l.length := by omega
    simp [large, this]
  · rename_i h
    refine x_loop1 mixed Lt.bt_ref02_Large_l0 Lk.bt_ref02_Large_l0 (fun (i : Nat) => [.d (eI i)]) (fun i => []) (fun i => i ≤ l.length ∧ ∀ (j : Nat) c, j < i → l[j]? = some c → ¬ 20 < c.rels.length) (fun i => l.length - i) 0 rfl rfl rfl rfl (fun _ _ => ⟨rfl, rfl⟩) rfl ⟨by omega, by omega⟩ ?_
    repeat' first
      | refine st ?_
      | ((with_reducible apply go_i); (conv => whnf))
      | (with_reducible apply k_d <;> intro _)
      | (with_reducible apply k_b <;> intro _)
    intro i ⟨h1, h2⟩
    cases hx : l[i]? with
    | some c =>
      have hlt := (List.getElem?_eq_some_iff.1 hx).1
      have he := eCons_get hx
      have hcd := c.hd
      have hcl := eIs_len c.rels
      have hch := c.hl
      repeat' first
        | refine st ?_
        | ((with_reducible apply go_i); (conv => whnf))
        | (with_reducible apply k_d <;> intro _)
        | (with_reducible apply k_b <;> intro _)
      · rename_i e
        have hb : (20 : Nat) < c.rels.length := by omega
        have : (l.any fun c => decide (20 < c.rels.length)) = true := List.any_eq_true.2 ⟨c, List.mem_of_getElem? hx, by simpa using hb⟩
        rw [large, this, Bool.or_true]
      · rename_i e
        refine ⟨i + 1, rfl, rfl, rfl, by omega, by omega, fun j z hj hz => ?_⟩
        rcases Nat.lt_succ_iff_lt_or_eq.1 hj with h | rfl
        · exact h2 j z h hz
        · rw [hx] at hz; cases hz; omega
    | none =>
      have hge := List.getElem?_eq_none_iff.1 hx
      repeat' first
        | refine st ?_
        | ((with_reducible apply go_i); (conv => whnf))
        | (with_reducible apply k_d <;> intro _)
        | (with_reducible apply k_b <;> intro _)
      rw [large, any_take_no (f := fun c : Con => decide (20 < c.rels.length)) fun j z hz => decide_eq_false (h2 j z (by have := (List.getElem?_eq_some_iff.1 hz).1; omega) hz), decide_eq_false (by omega)]
      rfl
def rangeC (n : Int) (c : Con) : Bool := decide (0 ≤ c.a ∧ c.a < n ∧ 0 ≤ c.b ∧ c.b < n)
theorem isRel_iff {r : Int} : isRel r = true ↔ 0 ≤ r ∧ r < 13 := by simp [isRel]
theorem allEx_iff {l : List Int} : allEx l = true ↔ ∀ (i : Nat) x, l[i]? = some x → 0 ≤ x ∧ x < 13 := by
  unfold allEx
  rw [List.all_eq_true]
  constructor
  · intro h i x hx
    exact isRel_iff.1 (h x (List.mem_of_getElem? hx))
  · intro h x hx
    obtain ⟨i, hi⟩ := List.getElem?_of_mem hx
    exact isRel_iff.2 (h i x hi)
theorem C.ref_Valid (n : Int) (l : List Con) (hll : l.length ≤ 9223372036854775807) (d : D) (hd : SlD d (eCons l)) : Pure Try.prog N.bt_ref02_Valid [.d (eI n), .d d] (.d (.bool (l.all (okC n)))) := by
  refine F.bt_ref02_Valid.go mixed rfl ?_
  have hl0 := eCons_len l
  have hm := eCons_mem l
  repeat' first
    | refine st ?_
    | ((with_reducible apply go_i); (conv => whnf))
    | (with_reducible apply k_d <;> intro _)
    | (with_reducible apply k_b <;> intro _)
  refine x_loop1 mixed Lt.bt_ref02_Valid_l1 Lk.bt_ref02_Valid_l1 (fun (i : Nat) => [.d (eI i)]) (fun i => []) (fun i => i ≤ l.length ∧ (l.take i).all (okC n) = true) (fun i => l.length - i) 0 rfl rfl rfl rfl (fun _ _ => ⟨rfl, rfl⟩) rfl ⟨by omega, rfl⟩ ?_
  repeat' first
    | refine st ?_
    | ((with_reducible apply go_i); (conv => whnf))
    | (with_reducible apply k_d <;> intro _)
    | (with_reducible apply k_b <;> intro _)
  intro i ⟨h1, h2⟩
  cases hx : l[i]? with
  | none =>
    have hge := List.getElem?_eq_none_iff.1 hx
    rw [List.take_of_length_le hge] at h2
    repeat' first
      | refine st ?_
      | ((with_reducible apply go_i); (conv => whnf))
      | (with_reducible apply k_d <;> intro _)
      | (with_reducible apply k_b <;> intro _)
    rw [h2]
  | some c =>
    have hlt := (List.getElem?_eq_some_iff.1 hx).1
    have he := eCons_get hx
    have hcd := c.hd
    have hcl := eIs_len c.rels
    have hch := c.hl
    by_cases hr : 0 ≤ c.a ∧ c.a < n ∧ 0 ≤ c.b ∧ c.b < n
    · obtain ⟨r1, r2, r3, r4⟩ := hr
      repeat' first
        | refine st ?_
        | ((with_reducible apply go_i); (conv => whnf))
        | (with_reducible apply k_d <;> intro _)
        | (with_reducible apply k_b <;> intro _)
      refine x_loop1 mixed Lt.bt_ref02_Valid_l0 Lk.bt_ref02_Valid_l0 (fun (i : Nat) => [.d (eI i)]) (fun i => []) (fun k => k ≤ c.rels.length ∧ ∀ (j : Nat) y, j < k → c.rels[j]? = some y → 0 ≤ y ∧ y < 13) (fun i => c.rels.length - i) 0 rfl rfl rfl rfl (fun _ _ => ⟨rfl, rfl⟩) rfl ⟨by omega, by omega⟩ ?_
      repeat' first
        | refine st ?_
        | ((with_reducible apply go_i); (conv => whnf))
        | (with_reducible apply k_d <;> intro _)
        | (with_reducible apply k_b <;> intro _)
      intro k ⟨h3, h4⟩
      cases hy : c.rels[k]? with
      | some y =>
        have hlt2 := (List.getElem?_eq_some_iff.1 hy).1
        have hg := eIs_get hy
        by_cases hy2 : 0 ≤ y ∧ y < 13
        · obtain ⟨y1, y2⟩ := hy2
          repeat' first
            | refine st ?_
            | ((with_reducible apply go_i); (conv => whnf))
            | (with_reducible apply k_d <;> intro _)
            | (with_reducible apply k_b <;> intro _)
          refine ⟨k + 1, rfl, rfl, rfl, by omega, by omega, fun j z hj hz => ?_⟩
          rcases Nat.lt_succ_iff_lt_or_eq.1 hj with h | rfl
          · exact h4 j z h hz
          · rw [hy] at hz; cases hz; omega
        · have hbad : okC n c = false := by
            have : allEx c.rels = false := by
              rw [Bool.eq_false_iff]
              intro ha
              exact hy2 (allEx_iff.1 ha k y hy)
            rw [okC, this]; rfl
          rw [all_none hx hbad]
          repeat' first
            | refine st ?_
            | ((with_reducible apply go_i); (conv => whnf))
            | (with_reducible apply k_d <;> intro _)
            | (with_reducible apply k_b <;> intro _)
          all_goals first | rfl | omega
      | none =>
        have hge := List.getElem?_eq_none_iff.1 hy
        repeat' first
          | refine st ?_
          | ((with_reducible apply go_i); (conv => whnf))
          | (with_reducible apply k_d <;> intro _)
          | (with_reducible apply k_b <;> intro _)
        refine ⟨i + 1, rfl, rfl, rfl, by omega, by omega, ?_⟩
        rw [all_take_succ hx, h2, okC, allEx_iff.2 fun j z hz => h4 j z (by have := (List.getElem?_eq_some_iff.1 hz).1; omega) hz]
        simp [r1, r2, r3, r4]
    · have hbad : okC n c = false := by rw [okC, decide_eq_false hr, Bool.and_false]
      rw [all_none hx hbad]
      repeat' first
        | refine st ?_
        | ((with_reducible apply go_i); (conv => whnf))
        | (with_reducible apply k_d <;> intro _)
        | (with_reducible apply k_b <;> intro _)
      all_goals first | rfl | omega
def satR (l : List (Int × Int)) (c : List Con) : Bool := l.all validQ && (c.all (okC l.length) && c.all fun x => isIn x.rels (relQ (getQ l x.a) (getQ l x.b)))
theorem C.ref_Satisfied (l : List (Int × Int)) (hl : l.length ≤ 9223372036854775806) (d1 : D) (hd1 : SlD d1 (eQs l)) (c : List Con) (hc : c.length ≤ 9223372036854775806) (d2 : D) (hd2 : SlD d2 (eCons c)) :
    Pure Try.prog N.bt_ref02_Satisfied [.d d1, .d d2] (.d (.bool (satR l c))) := by
  refine F.bt_ref02_Satisfied.go mixed rfl ?_
  have hl1 := eQs_len l
  have hm1 := eQs_mem l
  have hl2 := eCons_len c
  have hm2 := eCons_mem c
  have hV := C.ref_Valid l.length c (by omega) d2 hd2
  repeat' first
    | refine st ?_
    | ((with_reducible apply go_i); (conv => whnf))
    | (with_reducible apply k_d <;> intro _)
    | (with_reducible apply k_b <;> intro _)
  refine x_loop1 mixed Lt.bt_ref02_Satisfied_l0 Lk.bt_ref02_Satisfied_l0 (fun (i : Nat) => [.d (eI i)]) (fun i => []) (fun i => i ≤ l.length ∧ (l.take i).all validQ = true) (fun i => l.length - i) 0 rfl rfl rfl rfl (fun _ _ => ⟨rfl, rfl⟩) rfl ⟨by omega, rfl⟩ ?_
  repeat' first
    | refine st ?_
    | ((with_reducible apply go_i); (conv => whnf))
    | (with_reducible apply k_d <;> intro _)
    | (with_reducible apply k_b <;> intro _)
  intro i ⟨h1, h2⟩
  cases hx : l[i]? with
  | some p =>
    have hlt := (List.getElem?_eq_some_iff.1 hx).1
    have he := eQs_get hx
    repeat' first
      | refine st ?_
      | ((with_reducible apply go_i); (conv => whnf))
      | ((with_reducible apply k_pn); (· exact C.ref_Valid1 _ _))
      | ((with_reducible apply k_pc); (· exact C.ref_Valid1 _ _))
      | (with_reducible apply k_d <;> intro _)
      | (with_reducible apply k_b <;> intro _)
    · rename_i hv
      refine ⟨i + 1, rfl, rfl, rfl, by omega, by omega, ?_⟩
      rw [all_take_succ hx, h2]; exact hv
    · rename_i hv
      rw [satR, all_none hx hv]; rfl
  | none =>
    have hge := List.getElem?_eq_none_iff.1 hx
    rw [List.take_of_length_le hge] at h2
    rw [← hl1] at hV
    cases hok : c.all (okC l.length) with
    | false =>
      rw [hl1, hok] at hV
      rw [← hl1] at hV
      have hs : satR l c = false := by rw [satR, hok, h2]; rfl
      rw [hs]
      repeat' first
        | refine st ?_
        | ((with_reducible apply go_i); (conv => whnf))
        | ((with_reducible apply k_pn); (· exact hV))
        | ((with_reducible apply k_pc); (· exact hV))
        | (with_reducible apply k_d <;> intro _)
        | (with_reducible apply k_b <;> intro _)
    | true =>
      rw [hl1, hok] at hV
      rw [← hl1] at hV
      repeat' first
        | refine st ?_
        | ((with_reducible apply go_i); (conv => whnf))
        | ((with_reducible apply k_pn); (· exact hV))
        | ((with_reducible apply k_pc); (· exact hV))
        | (with_reducible apply k_d <;> intro _)
        | (with_reducible apply k_b <;> intro _)
      refine x_loop1 mixed Lt.bt_ref02_Satisfied_l1 Lk.bt_ref02_Satisfied_l1 (fun (i : Nat) => [.d (eI i)]) (fun i => []) (fun i => i ≤ c.length ∧ (c.take i).all (fun x => isIn x.rels (relQ (getQ l x.a) (getQ l x.b))) = true) (fun i => c.length - i) 0 rfl rfl rfl rfl (fun _ _ => ⟨rfl, rfl⟩) rfl ⟨by omega, rfl⟩ ?_
      repeat' first
        | refine st ?_
        | ((with_reducible apply go_i); (conv => whnf))
        | (with_reducible apply k_d <;> intro _)
        | (with_reducible apply k_b <;> intro _)
      intro j ⟨h3, h4⟩
      cases hy : c[j]? with
      | none =>
        have hge := List.getElem?_eq_none_iff.1 hy
        rw [List.take_of_length_le hge] at h4
        repeat' first
          | refine st ?_
          | ((with_reducible apply go_i); (conv => whnf))
          | (with_reducible apply k_d <;> intro _)
          | (with_reducible apply k_b <;> intro _)
        rw [satR, h2, hok, h4]; rfl
      | some x =>
        have hlt := (List.getElem?_eq_some_iff.1 hy).1
        have he := eCons_get hy
        have ho := List.all_eq_true.1 hok x (List.mem_of_getElem? hy)
        simp only [okC, Bool.and_eq_true, decide_eq_true_eq] at ho
        obtain ⟨ho1, ho2, ho3, ho4, ho5⟩ := ho
        have ga := eQs_get (getQ_get ⟨ho2, ho3⟩)
        have gb := eQs_get (getQ_get ⟨ho4, ho5⟩)
        have hin := C.ref_in x.rels x.hl (relQ (getQ l x.a) (getQ l x.b)) x.d x.hd
        repeat' first
          | refine st ?_
          | ((with_reducible apply go_i); (conv => whnf))
          | ((with_reducible apply k_pn); (· first | exact C.ref_Relation _ _ _ _ | exact hin))
          | ((with_reducible apply k_pc); (· first | exact C.ref_Relation _ _ _ _ | exact hin))
          | (with_reducible apply k_d <;> intro _)
          | (with_reducible apply k_b <;> intro _)
        · rename_i hs
          refine ⟨j + 1, rfl, rfl, rfl, by omega, by omega, ?_⟩
          rw [all_take_succ hy, h4]; exact hs
        · rename_i hs
          rw [satR, all_none (f := fun x : Con => isIn x.rels (relQ (getQ l x.a) (getQ l x.b))) hy hs, Bool.and_false, Bool.and_false]
theorem C.ref_Same (l : List Con) (hll : l.length ≤ 9223372036854775807) (hr : ∀ c ∈ l, c.rels.length ≤ 9223372036854775806) (d1 d2 : D) (h1 : SlD d1 (eCons l)) (h2 : SlD d2 (eCons l)) : Pure Try.prog N.bt_ref02_Same [.d d1, .d d2] (.d (.bool true)) := by
  refine F.bt_ref02_Same.go mixed rfl ?_
  have hl0 := eCons_len l
  have hm := eCons_mem l
  repeat' first
    | refine st ?_
    | ((with_reducible apply go_i); (conv => whnf))
    | (with_reducible apply k_d <;> intro _)
    | (with_reducible apply k_b <;> intro _)
  refine x_loop1 mixed Lt.bt_ref02_Same_l0 Lk.bt_ref02_Same_l0 (fun (i : Nat) => [.d (eI i)]) (fun i => []) (fun i => i ≤ l.length) (fun i => l.length - i) 0 rfl rfl rfl rfl (fun _ _ => ⟨rfl, rfl⟩) rfl (by omega) ?_
  repeat' first
    | refine st ?_
    | ((with_reducible apply go_i); (conv => whnf))
    | (with_reducible apply k_d <;> intro _)
    | (with_reducible apply k_b <;> intro _)
  intro i h3
  cases hx : l[i]? with
  | none =>
    have hge := List.getElem?_eq_none_iff.1 hx
    repeat' first
      | refine st ?_
      | ((with_reducible apply go_i); (conv => whnf))
      | (with_reducible apply k_d <;> intro _)
      | (with_reducible apply k_b <;> intro _)
  | some c =>
    have hlt := (List.getElem?_eq_some_iff.1 hx).1
    have he := eCons_get hx
    have hI := C.ref_Ints c.rels c.rels (hr c (List.mem_of_getElem? hx)) c.d c.d c.hd c.hd
    rw [decide_eq_true (rfl : c.rels = c.rels)] at hI
    repeat' first
      | refine st ?_
      | ((with_reducible apply go_i); (conv => whnf))
      | ((with_reducible apply k_pn); (· exact hI))
      | ((with_reducible apply k_pc); (· exact hI))
      | (with_reducible apply k_d <;> intro _)
      | (with_reducible apply k_b <;> intro _)
    exact ⟨i + 1, rfl, rfl, rfl, by omega, by omega⟩
end Go.Proofs
end
section
/- A function that hands back an array of its own: the array stays an object. No condition. -/
set_option linter.unusedVariables false
namespace Go.Bi
open Go

section
variable {P : Program} {n nb : Nat} {M : Mem} {G : Gh} {os : List AO} {w : World} {ρ : Rho} {a : Act}
def retOI (Q : AV → List AO → Prop) (rs : List RV) (ρ : Rho) (os : List AO) : Prop := resI ρ os rs fun l => match l with
  | [v] => Q v os
  | _ => False
def retO (Q : AV → List AO → Prop) (rs : List RV) (L : Sl) (os : List AO) : Prop := xRes L os rs fun l => match l with
  | [v] => Q v os
  | _ => False
theorem retO_ok {Q : AV → List AO → Prop} {rs : List RV} {L : Sl} {os : List AO} (h : retO Q rs L os) : retOI Q rs (ofL L) os := xRes_ok h
theorem own_ok {c : Ctx} (hR : Rel n nb c M G os w ρ a) {fn : Func} {rs : List RV} (hrs : fn.results.toList.mapM (cRV P) = some rs) {Q : AV → List AO → Prop} (h : retOI Q rs ρ os) :
    ∃ v, (results fn a.tmps).run P w = .ok v w ∧ ∃ M' G' r os', Env M' G' os' w ∧ Since c.M c.G c.os c.w M' G' os' w ∧ VA M' G' os' r v ∧ Q r os' := by
  obtain ⟨l, vs, h1, h2, h3, h4⟩ := resI_run hR.env hR.tmps _ rs hrs _ h
  match l, h1, h3, h4 with
  | [x], h1, h3, h4 =>
    simp only [List.length_cons, List.length_nil] at h3
    refine ⟨_, run_results h2, M, G, x, os, hR.env, hR.since, ?_, h1⟩
    rw [dif_pos (by omega)]
    exact h4 0 x vs[0] rfl (List.getElem?_eq_getElem (by omega))
theorem fn_own (hm : P.follows .mixedOrders = true) {f : FuncId} {fn : Func} {code : Code} {ic : IC} {rs : List RV} (hf : P.funcs[f]? = some fn) (hname : fn.name ≠ "runtime.NumGoroutine") (hb : fn.body = some code) (hc : cC P fn.ntmps code = some ic)
    (hrs : fn.results.toList.mapM (cRV P) = some rs) {args : List AV} {bs : List AO} (hargs : args.length ≤ fn.ntmps) {Q : AV → List AO → Prop}
    (h : wpI P fn.ntmps bs.length ic { norm := retOI Q rs, exit := fun _ _ _ => False, ret := retOI Q rs } (argsRho args) bs) : CallSpec P f args bs Q := by
  refine ⟨⟨fn, hf, by rw [hb]; rfl, hname⟩, fun M G w vs he hl hv => ?_⟩
  refine calls_of_wp hf hb (wp_mono (wpI_tri hm code ic hc _ _ _ h ⟨M, G, bs, w⟩ M G w { tmps := vs ++ Array.replicate (fn.ntmps - vs.size) undef, defers := [] } ?_) fun e a' w' hp => ?_)
  · exact {
      env := he, since := Since.refl .., size := by simp; omega, defers := rfl, base := rfl
      tmps := fun t => by
        unfold argsRho
        by_cases ht : t < args.length
        · have h1 : (vs ++ Array.replicate (fn.ntmps - vs.size) undef).getD t undef = vs[t] := by
            simp [Array.getElem?_append_left (show t < vs.size by omega), show t < vs.size by omega]
          have h2 : args.getD t .junk = args[t] := by simp [ht]
          show VA M G bs (args.getD t .junk) ((vs ++ Array.replicate (fn.ntmps - vs.size) undef).getD t undef)
          rw [h1, h2]
          have := hv t args[t] vs[t] (List.getElem?_eq_getElem ht) (Array.getElem?_eq_getElem (by omega))
          generalize args[t] = c at this
          cases c with
          | tup cs => exact this.elim
          | junk => trivial
          | _ => exact this
        · have : args.getD t .junk = .junk := by simp [List.getD_eq_getElem?_getD, List.getElem?_eq_none (Nat.le_of_not_lt ht)]
          rw [this]
          trivial }
  · have fin : Fits fn.ntmps bs.length ⟨M, G, bs, w⟩ (retOI Q rs) a' w' → a'.defers = [] ∧ ∃ v, (results fn a'.tmps).run P w' = .ok v w' ∧ ∃ v', Ending.returned v = .returned v' ∧ ∃ M' G' r os', Env M' G' os' w' ∧ Since M G bs w M' G' os' w' ∧ VA M' G' os' r v' ∧ Q r os' := by
      rintro ⟨M', G', os', ρ', hR, hk⟩
      obtain ⟨v, h1, h2⟩ := own_ok hR hrs hk
      exact ⟨hR.defers, v, h1, v, rfl, h2⟩
    cases e with
    | normal => exact fin hp
    | ret => exact fin hp
    | exit id => obtain ⟨_, _, _, _, _, hk⟩ := hp; exact hk.elim
    | _ => exact hp.elim
end

theorem IsFn.goO {P : Program} (hm : P.follows .mixedOrders = true) {f n : Nat} {ic : IC} {rs : List RV} (h : IsFn P f n ic rs) {args : List AV} {bs : List AO} (hargs : Nat.ble args.length n = true) {Q : AV → List AO → Prop}
    (hw : Go (xI P n bs.length ic (retO Q rs) (fun _ _ _ => False) (retO Q rs) (argsL 0 args) bs)) : CallSpec P f args bs Q := by
  obtain ⟨fn, h1, h2, h3, h4, h5⟩ := h
  obtain ⟨code, hb, hc⟩ := Option.bind_eq_some_iff.1 h4
  subst h2
  refine fn_own hm h1 (by simpa using h3) hb hc h5 (Nat.le_of_ble_eq_true hargs) ?_
  rw [ofL_args]
  exact xI_ok (K := ⟨retO Q rs, fun _ _ _ => False, retO Q rs⟩) ⟨fun L os h => retO_ok h, fun _ _ _ h => h, fun L os h => retO_ok h⟩ hw
/-- A contract of a function that is handed data, among any objects. -/
theorem CallSpec.alone {P : Program} {g : FuncId} {args : List AV} {Q : AV → List AO → Prop} (h : CallSpec P g args [] Q) (hd : ∀ a ∈ args, ∃ x, a = .d x) (os : List AO) :
    CallSpec P g args os (fun r os' => ∃ r0 os0, Q r0 os0 ∧ r = mA (rn [] os.length) r0 ∧ os' = os ++ os0.map (mO (rn [] os.length))) := by
  have := CallSpec.frame (K := fun r os' => ∃ r0 os0, Q r0 os0 ∧ r = mA (rn [] os.length) r0 ∧ os' = os ++ os0.map (mO (rn [] os.length))) h [] os rfl (by simp) (fun i x hx => by simp at hx)
    (fun a ha => by obtain ⟨x, rfl⟩ := hd a ha; trivial) (fun x hx => by simp at hx) (fun r bs' hq => ⟨r, bs', hq, rfl, rfl⟩)
  have e : args.map (mG (rn [] os.length)) = args := by
    rw [List.map_congr_left (g := id) (fun a ha => by obtain ⟨x, rfl⟩ := hd a ha; rfl), List.map_id]
  rwa [e] at this
end Go.Bi
end
section
/- Contracts of the reference: possible, once. No condition. -/
set_option linter.unusedSimpArgs false
set_option linter.unusedVariables false
set_option maxRecDepth 10000
set_option maxHeartbeats 4000000
namespace Go.Proofs
open Go.Bi

def ix (n i j c : Nat) : Nat := 13 * (n * i + j) + c
theorem mul_bnd {n i : Nat} (hn : n ≤ 8) (hi : i < n) : n * i + n ≤ n * n ∧ n * n ≤ 64 := by
  constructor
  · have := Nat.mul_le_mul_left n (Nat.succ_le_of_lt hi)
    rwa [Nat.mul_succ] at this
  · have := Nat.mul_le_mul hn hn
    omega
theorem ix_lt {n i j c : Nat} (hn : n ≤ 8) (hi : i < n) (hj : j < n) (hc : c < 13) : ix n i j c < 13 * (n * n) := by
  have := mul_bnd hn hi
  unfold ix
  omega
theorem ix_int {n i j c : Nat} : (13 * ((n : Int) * (i : Int) + (j : Int)) + (c : Int)).toNat = ix n i j c := by
  unfold ix
  omega
def posB (T m : List Bool) (n j k c a b : Nat) : Bool := m.getD (ix n k j b) false && T.getD (169 * a + 13 * b + c) false
def posA (T m : List Bool) (n i j k c a : Nat) : Bool := m.getD (ix n i k a) false && (List.range 13).any (posB T m n j k c a)
def pos (T m : List Bool) (n i j k c : Nat) : Bool := (List.range 13).any (posA T m n i j k c)
theorem any_range {f : Nat → Bool} {n i : Nat} (hi : i < n) (h : f i = true) : (List.range n).any f = true := List.any_eq_true.2 ⟨i, List.mem_range.2 hi, h⟩
theorem any_range_no {f : Nat → Bool} {n : Nat} (h : ∀ i, i < n → f i = false) : (List.range n).any f = false := by
  rw [Bool.eq_false_iff]
  intro ha
  obtain ⟨i, hi, hf⟩ := List.any_eq_true.1 ha
  rw [h i (List.mem_range.1 hi)] at hf
  cases hf
theorem C.po0 (T m : List Bool) (hT : T.length = 2197) (n i j k c : Nat) (hn : n ≤ 8) (hi : i < n) (hj : j < n) (hk : k < n) (hc : c < 13) (hm : m.length = 13 * (n * n)) :
    CallSpec Try.prog N.bt_ref02_possible [.d (.sl (eBs T)), .arr 0 (eBs m).length, .d (eI n), .d (eI i), .d (eI j), .d (eI k), .d (eI c)] [.arr (eBs m) 1 0 false] (fun r os' => r = .d (.bool (pos T m n i j k c)) ∧ os' = [.arr (eBs m) 1 0 false]) := by
  refine F.bt_ref02_possible.goX mixed rfl ?_
  have hTl := eBs_len T
  have hTm := eBs_mem T
  have hml := eBs_len m
  have b1 := mul_bnd hn hi
  have b2 := mul_bnd hn hk
  have p1 : (0 : Int) ≤ (n : Int) * (i : Int) := by have := Int.natCast_nonneg (n * i); rwa [Int.natCast_mul] at this
  have p2 : (0 : Int) ≤ (n : Int) * (k : Int) := by have := Int.natCast_nonneg (n * k); rwa [Int.natCast_mul] at this
  repeat' first
    | refine st ?_
    | ((with_reducible apply go_i); (conv => whnf))
    | (with_reducible apply k_d <;> intro _)
    | (with_reducible apply k_b <;> intro _)
  refine x_loop1 mixed Lt.bt_ref02_possible_l1 Lk.bt_ref02_possible_l1 (fun (a : Nat) => [.d (eI a)]) (fun i => [.arr (eBs m) 1 0 false]) (fun a => a ≤ 13 ∧ ∀ a', a' < a → posA T m n i j k c a' = false) (fun i => 13 - i) 0 rfl rfl rfl rfl (fun _ _ => ⟨rfl, rfl⟩) rfl ⟨by omega, by omega⟩ ?_
  repeat' first
    | refine st ?_
    | ((with_reducible apply go_i); (conv => whnf))
    | (with_reducible apply k_d <;> intro _)
    | (with_reducible apply k_b <;> intro _)
  intro a ⟨h1, h2⟩
  by_cases ha : a < 13
  · have hl1 := ix_lt hn hi hk ha
    have g1 := eBs_get (l := m) (i := (13 * ((n : Int) * (i : Int) + (k : Int)) + (a : Int)).toNat) (by rw [ix_int, hm]; exact hl1)
    rw [ix_int] at g1
    have g1 : (eBs m)[(13 * ((n : Int) * (i : Int) + (k : Int)) + (a : Int)).toNat]? = some [.bool (m.getD (ix n i k a) false)] := by rw [ix_int]; exact g1
    cases hv : m.getD (ix n i k a) false with
    | false =>
      rw [hv] at g1
      repeat' first
        | refine st ?_
        | ((with_reducible apply go_i); (conv => whnf))
        | (with_reducible apply k_d <;> intro _)
        | (with_reducible apply k_b <;> intro _)
      refine ⟨a + 1, rfl, rfl, rfl, by omega, by omega, fun a' h => ?_⟩
      rcases Nat.lt_succ_iff_lt_or_eq.1 h with h | rfl
      · exact h2 a' h
      · rw [posA, hv]; rfl
    | true =>
      rw [hv] at g1
      repeat' first
        | refine st ?_
        | ((with_reducible apply go_i); (conv => whnf))
        | (with_reducible apply k_d <;> intro _)
        | (with_reducible apply k_b <;> intro _)
      refine x_loop1 mixed Lt.bt_ref02_possible_l0 Lk.bt_ref02_possible_l0 (fun (b : Nat) => [.d (eI b)]) (fun i => [.arr (eBs m) 1 0 false]) (fun b => b ≤ 13 ∧ ∀ b', b' < b → posB T m n j k c a b' = false) (fun i => 13 - i) 0 rfl rfl rfl rfl (fun _ _ => ⟨rfl, rfl⟩) rfl ⟨by omega, by omega⟩ ?_
      repeat' first
        | refine st ?_
        | ((with_reducible apply go_i); (conv => whnf))
        | (with_reducible apply k_d <;> intro _)
        | (with_reducible apply k_b <;> intro _)
      intro b ⟨h3, h4⟩
      by_cases hb : b < 13
      · have hl2 := ix_lt hn hk hj hb
        have g2 : (eBs m)[(13 * ((n : Int) * (k : Int) + (j : Int)) + (b : Int)).toNat]? = some [.bool (m.getD (ix n k j b) false)] := by
          rw [ix_int]; exact eBs_get (by rw [hm]; exact hl2)
        have g3 : (eBs T)[(169 * (a : Int) + 13 * (b : Int) + (c : Int)).toNat]? = some [.bool (T.getD (169 * a + 13 * b + c) false)] := by
          have : (169 * (a : Int) + 13 * (b : Int) + (c : Int)).toNat = 169 * a + 13 * b + c := by omega
          rw [this]; exact eBs_get (by omega)
        have hs : ∀ (v : Bool), posB T m n j k c a b = v → posB T m n j k c a b = v := fun v h => h
        cases hv2 : m.getD (ix n k j b) false with
        | false =>
          rw [hv2] at g2
          repeat' first
            | refine st ?_
            | ((with_reducible apply go_i); (conv => whnf))
            | (with_reducible apply k_d <;> intro _)
            | (with_reducible apply k_b <;> intro _)
          refine ⟨b + 1, rfl, rfl, rfl, by omega, by omega, fun b' h => ?_⟩
          rcases Nat.lt_succ_iff_lt_or_eq.1 h with h | rfl
          · exact h4 b' h
          · rw [posB, hv2]; rfl
        | true =>
          rw [hv2] at g2
          cases hv3 : T.getD (169 * a + 13 * b + c) false with
          | false =>
            rw [hv3] at g3
            repeat' first
              | refine st ?_
              | ((with_reducible apply go_i); (conv => whnf))
              | (with_reducible apply k_d <;> intro _)
              | (with_reducible apply k_b <;> intro _)
            refine ⟨b + 1, rfl, rfl, rfl, by omega, by omega, fun b' h => ?_⟩
            rcases Nat.lt_succ_iff_lt_or_eq.1 h with h | rfl
            · exact h4 b' h
            · rw [posB, hv2, hv3]; rfl
          | true =>
            rw [hv3] at g3
            have hp : pos T m n i j k c = true := any_range ha (by rw [posA, hv]; exact any_range hb (by rw [posB, hv2, hv3]; rfl))
            rw [hp]
            repeat' first
              | refine st ?_
              | ((with_reducible apply go_i); (conv => whnf))
              | (with_reducible apply k_d <;> intro _)
              | (with_reducible apply k_b <;> intro _)
            exact ⟨rfl, rfl⟩
      · obtain rfl : b = 13 := by omega
        repeat' first
          | refine st ?_
          | ((with_reducible apply go_i); (conv => whnf))
          | (with_reducible apply k_d <;> intro _)
          | (with_reducible apply k_b <;> intro _)
        refine ⟨a + 1, rfl, rfl, rfl, by omega, by omega, fun a' h => ?_⟩
        rcases Nat.lt_succ_iff_lt_or_eq.1 h with h | rfl
        · exact h2 a' h
        · rw [posA, any_range_no h4, Bool.and_false]
  · obtain rfl : a = 13 := by omega
    repeat' first
      | refine st ?_
      | ((with_reducible apply go_i); (conv => whnf))
      | (with_reducible apply k_d <;> intro _)
      | (with_reducible apply k_b <;> intro _)
    exact ⟨by rw [pos, any_range_no h2], rfl⟩
theorem C.ref_possible (T m : List Bool) (hT : T.length = 2197) (n i j k c : Nat) (hn : n ≤ 8) (hi : i < n) (hj : j < n) (hk : k < n) (hc : c < 13) (hm : m.length = 13 * (n * n)) (os : List AO) (id : Nat) (ho : os[id]? = some (.arr (eBs m) 1 0 false)) :
    CallSpec Try.prog N.bt_ref02_possible [.d (.sl (eBs T)), .arr id (eBs m).length, .d (eI n), .d (eI i), .d (eI j), .d (eI k), .d (eI c)] os (fun r os' => r = .d (.bool (pos T m n i j k c)) ∧ os' = os) := by
  have := lift1 (fun id => [.d (.sl (eBs T)), .arr id (eBs m).length, .d (eI n), .d (eI i), .d (eI j), .d (eI k), .d (eI c)]) (C.po0 T m hT n i j k c hn hi hj hk hc hm) (fun _ => rfl) (fun _ => rfl) (fun _ => rfl) (fun id n => rfl) (by simp [AV.bnd2, AV.bnd1]) (by simp [AO.bnd]) ho
  rwa [list_set_self ho] at this
end Go.Proofs
end
section
/- Contracts of the reference: once. No condition. -/
set_option linter.unusedSimpArgs false
set_option linter.unusedVariables false
set_option maxRecDepth 10000
set_option maxHeartbeats 4000000
namespace Go.Proofs
open Go.Bi

def drp (n i j c : Nat) (m : List Bool) : List Bool := (m.set (ix n i j c) false).set (ix n j i (12 - c)) false
def oK (T : List Bool) (n i j c : Nat) (s : Nat × List Bool) (k : Nat) : Nat × List Bool := if s.2.getD (ix n i j c) false && !pos T s.2 n i j k c then (s.1 + 1, drp n i j c s.2) else s
def oC (T : List Bool) (n i j : Nat) (s : Nat × List Bool) (c : Nat) : Nat × List Bool := (List.range n).foldl (oK T n i j c) s
def oJ (T : List Bool) (n i : Nat) (s : Nat × List Bool) (j : Nat) : Nat × List Bool := (List.range 13).foldl (oC T n i j) s
def oI (T : List Bool) (n : Nat) (s : Nat × List Bool) (i : Nat) : Nat × List Bool := (List.range n).foldl (oJ T n i) s
def onceR (T : List Bool) (n : Nat) (m : List Bool) : Nat × List Bool := (List.range n).foldl (oI T n) (0, m)
theorem drp_len (n i j c : Nat) (m : List Bool) : (drp n i j c m).length = m.length := by simp [drp]
theorem oK_b {T : List Bool} {n i j c : Nat} {s : Nat × List Bool} {k : Nat} : (oK T n i j c s k).1 ≤ s.1 + 1 ∧ (oK T n i j c s k).2.length = s.2.length := by
  unfold oK
  split
  · exact ⟨Nat.le_refl _, drp_len ..⟩
  · exact ⟨by omega, rfl⟩
theorem fold_b {f : Nat × List Bool → Nat → Nat × List Bool} {b : Nat} (h : ∀ s x, (f s x).1 ≤ s.1 + b ∧ (f s x).2.length = s.2.length) (s : Nat × List Bool) : ∀ n, ((List.range n).foldl f s).1 ≤ s.1 + b * n ∧ ((List.range n).foldl f s).2.length = s.2.length
  | 0 => ⟨by simp, rfl⟩
  | n + 1 => by
    have ih := fold_b h s n
    have := h ((List.range n).foldl f s) n
    rw [range_fold, Nat.mul_succ]
    exact ⟨by omega, this.2.trans ih.2⟩
theorem oC_b {T : List Bool} {n i j : Nat} (hn : n ≤ 8) (s : Nat × List Bool) (c : Nat) : (oC T n i j s c).1 ≤ s.1 + 8 ∧ (oC T n i j s c).2.length = s.2.length := by
  have := fold_b (f := oK T n i j c) (b := 1) (fun s x => oK_b) s n
  exact ⟨by unfold oC; omega, this.2⟩
theorem oJ_b {T : List Bool} {n i : Nat} (hn : n ≤ 8) (s : Nat × List Bool) (j : Nat) : (oJ T n i s j).1 ≤ s.1 + 104 ∧ (oJ T n i s j).2.length = s.2.length :=
  fold_b (f := oC T n i j) (b := 8) (fun s x => oC_b hn s x) s 13
theorem oI_b {T : List Bool} {n : Nat} (hn : n ≤ 8) (s : Nat × List Bool) (i : Nat) : (oI T n s i).1 ≤ s.1 + 832 ∧ (oI T n s i).2.length = s.2.length := by
  have := fold_b (f := oJ T n i) (b := 104) (fun s x => oJ_b hn s x) s n
  exact ⟨by unfold oI; omega, this.2⟩
theorem once_len {T : List Bool} {n : Nat} (hn : n ≤ 8) (m : List Bool) : (onceR T n m).2.length = m.length := (fold_b (f := oI T n) (b := 832) (fun s x => oI_b hn s x) (0, m) n).2
theorem C.on0 (T m : List Bool) (hT : T.length = 2197) (n : Nat) (hn : n ≤ 8) (hm : m.length = 13 * (n * n)) :
    CallSpec Try.prog N.bt_ref02_once [.d (.sl (eBs T)), .arr 0 (eBs m).length, .d (eI n)] [.arr (eBs m) 1 0 false] (fun r os' => r = .d (eI (onceR T n m).1) ∧ os' = [.arr (eBs (onceR T n m).2) 1 0 false]) := by
  refine F.bt_ref02_once.goX mixed rfl ?_
  have hTl := eBs_len T
  have hTm := eBs_mem T
  have hml := eBs_len m
  have hcl : ∀ tb : List Bool, tb.length = 13 * (n * n) → (eBs m).length = (eBs tb).length := fun tb h => by rw [eBs_len, eBs_len, h, hm]
  repeat' first
    | refine st ?_
    | ((with_reducible apply go_i); (conv => whnf))
    | (with_reducible apply k_d <;> intro _)
    | (with_reducible apply k_b <;> intro _)
  refine x_loop2 mixed Lt.bt_ref02_once_l3 Lk.bt_ref02_once_l3 (fun (i : Nat) (s : Nat × List Bool) => [.d (eI s.1), .d (eI i)]) (fun i s => [.arr (eBs s.2) 1 0 false]) (fun i s => i ≤ n ∧ s = (List.range i).foldl (oI T n) (0, m)) (fun i _ => n - i) 0 (0, m) rfl rfl rfl rfl (fun _ _ _ => ⟨rfl, rfl⟩) rfl ⟨by omega, rfl⟩ ?_
  repeat' first
    | refine st ?_
    | ((with_reducible apply go_i); (conv => whnf))
    | (with_reducible apply k_d <;> intro _)
    | (with_reducible apply k_b <;> intro _)
  intro i s1 ⟨h1, h2⟩
  have c1 := fold_b (f := oI T n) (b := 832) (fun s x => oI_b hn s x) (0, m) i
  rw [← h2, hm] at c1
  obtain ⟨c1, l1⟩ := c1
  dsimp only at c1
  by_cases hi : i < n
  · repeat' first
      | refine st ?_
      | ((with_reducible apply go_i); (conv => whnf))
      | (with_reducible apply k_d <;> intro _)
      | (with_reducible apply k_b <;> intro _)
    refine x_loop2 mixed Lt.bt_ref02_once_l2 Lk.bt_ref02_once_l2 (fun (i : Nat) (s : Nat × List Bool) => [.d (eI s.1), .d (eI i)]) (fun i s => [.arr (eBs s.2) 1 0 false]) (fun j s => j ≤ n ∧ s = (List.range j).foldl (oJ T n i) s1) (fun i _ => n - i) 0 s1 rfl rfl rfl rfl (fun _ _ _ => ⟨rfl, rfl⟩) rfl ⟨by omega, rfl⟩ ?_
    repeat' first
      | refine st ?_
      | ((with_reducible apply go_i); (conv => whnf))
      | (with_reducible apply k_d <;> intro _)
      | (with_reducible apply k_b <;> intro _)
    intro j s2 ⟨h3, h4⟩
    have c2 := fold_b (f := oJ T n i) (b := 104) (fun s x => oJ_b hn s x) s1 j
    rw [← h4, l1] at c2
    obtain ⟨c2, l2⟩ := c2
    by_cases hj : j < n
    · repeat' first
        | refine st ?_
        | ((with_reducible apply go_i); (conv => whnf))
        | (with_reducible apply k_d <;> intro _)
        | (with_reducible apply k_b <;> intro _)
      refine x_loop2 mixed Lt.bt_ref02_once_l1 Lk.bt_ref02_once_l1 (fun (i : Nat) (s : Nat × List Bool) => [.d (eI s.1), .d (eI i)]) (fun i s => [.arr (eBs s.2) 1 0 false]) (fun c s => c ≤ 13 ∧ s = (List.range c).foldl (oC T n i j) s2) (fun i _ => 13 - i) 0 s2 rfl rfl rfl rfl (fun _ _ _ => ⟨rfl, rfl⟩) rfl ⟨by omega, rfl⟩ ?_
      repeat' first
        | refine st ?_
        | ((with_reducible apply go_i); (conv => whnf))
        | (with_reducible apply k_d <;> intro _)
        | (with_reducible apply k_b <;> intro _)
      intro c s3 ⟨h5, h6⟩
      have c3 := fold_b (f := oC T n i j) (b := 8) (fun s x => oC_b hn s x) s2 c
      rw [← h6, l2] at c3
      obtain ⟨c3, l3⟩ := c3
      by_cases hc : c < 13
      · repeat' first
          | refine st ?_
          | ((with_reducible apply go_i); (conv => whnf))
          | (with_reducible apply k_d <;> intro _)
          | (with_reducible apply k_b <;> intro _)
        refine x_loop2 mixed Lt.bt_ref02_once_l0 Lk.bt_ref02_once_l0 (fun (i : Nat) (s : Nat × List Bool) => [.d (eI s.1), .d (eI i)]) (fun i s => [.arr (eBs s.2) 1 0 false]) (fun k s => k ≤ n ∧ s = (List.range k).foldl (oK T n i j c) s3) (fun i _ => n - i) 0 s3 rfl rfl rfl rfl (fun _ _ _ => ⟨rfl, rfl⟩) rfl ⟨by omega, rfl⟩ ?_
        repeat' first
          | refine st ?_
          | ((with_reducible apply go_i); (conv => whnf))
          | (with_reducible apply k_d <;> intro _)
          | (with_reducible apply k_b <;> intro _)
        intro k s4 ⟨h7, h8⟩
        have c4 := fold_b (f := oK T n i j c) (b := 1) (fun s x => oK_b) s3 k
        rw [← h8, l3] at c4
        obtain ⟨c4, l4⟩ := c4
        obtain ⟨r4, m4⟩ := s4
        dsimp only at c4 l4
        by_cases hk : k < n
        · have hs : (List.range (k + 1)).foldl (oK T n i j c) s3 = oK T n i j c (r4, m4) k := by rw [range_fold, ← h8]
          have hx := ix_lt hn hi hj hc
          have hx2 := ix_lt hn hj hi (show 12 - c < 13 by omega)
          have b1 := mul_bnd hn hi
          have b2 := mul_bnd hn hj
          have p1 : (0 : Int) ≤ (n : Int) * (i : Int) := by have := Int.natCast_nonneg (n * i); rwa [Int.natCast_mul] at this
          have p2 : (0 : Int) ≤ (n : Int) * (j : Int) := by have := Int.natCast_nonneg (n * j); rwa [Int.natCast_mul] at this
          have g1 : (eBs m4)[(13 * ((n : Int) * (i : Int) + (j : Int)) + (c : Int)).toNat]? = some [.bool (m4.getD (ix n i j c) false)] := by
            rw [ix_int]; exact eBs_get (by rw [l4]; exact hx)
          have hml4 := eBs_len m4
          have e4 := hcl m4 l4
          have hp := C.ref_possible T m4 hT n i j k c hn hi hj hk hc l4 [.arr (eBs m4) 1 0 false] 0 rfl
          rw [← e4] at hp
          cases hv : m4.getD (ix n i j c) false with
          | false =>
            rw [hv] at g1
            repeat' first
              | refine st ?_
              | ((with_reducible apply go_i); (conv => whnf))
              | (with_reducible apply k_d <;> intro _)
              | (with_reducible apply k_b <;> intro _)
            exact ⟨k + 1, (r4, m4), rfl, rfl, rfl, by omega, by omega, by rw [hs, oK]; dsimp only; rw [hv]; rfl⟩
          | true =>
            rw [hv] at g1
            cases hv2 : pos T m4 n i j k c with
            | true =>
              rw [hv2] at hp
              repeat' first
                | (with_reducible apply k_cal)
                | refine st ?_
                | ((with_reducible apply go_i); (conv => whnf))
                | ((with_reducible apply k_nc); (· first | exact hp); (try rintro _ _ ⟨rfl, rfl⟩))
                | ((with_reducible apply k_pr); (· first | exact hp))
                | ((with_reducible apply k_cs); (· first | exact hp); (try rintro _ _ ⟨rfl, rfl⟩))
                | ((with_reducible apply k_cal); refine st ?_; (with_reducible apply k_chk); (· exact rfl); refine st ?_; (with_reducible apply k_cs); (· first | exact hp); (try rintro _ _ ⟨rfl, rfl⟩))
                | (with_reducible apply k_d <;> intro _)
                | (with_reducible apply k_b <;> intro _)
              exact ⟨k + 1, (r4, m4), rfl, rfl, rfl, by omega, by omega, by rw [hs, oK]; dsimp only; rw [hv, hv2]; rfl⟩
            | false =>
              rw [hv2] at hp
              have hI := C.ref_Inverse (c : Int)
              have hinv : inv (c : Int) = ((12 - c : Nat) : Int) := by unfold inv; rw [if_pos (by omega)]; omega
              rw [hinv] at hI
              have hset : ((eBs m4).set (13 * ((n : Int) * (i : Int) + (j : Int)) + (c : Int)).toNat [D.bool false]).length = (eBs m4).length := by simp
              have g2 : ((eBs m4).set (13 * ((n : Int) * (i : Int) + (j : Int)) + (c : Int)).toNat [D.bool false])[(13 * ((n : Int) * (j : Int) + (i : Int)) + ((12 - c : Nat) : Int)).toNat]? = some [.bool ((m4.set (ix n i j c) false).getD (ix n j i (12 - c)) false)] := by
                rw [eBs_set, ix_int, ix_int]; exact eBs_get (by rw [List.length_set, l4]; exact hx2)
              repeat' first
                | (with_reducible apply k_cal)
                | refine st ?_
                | ((with_reducible apply go_i); (conv => whnf))
                | ((with_reducible apply k_pn); (· exact hI))
                | ((with_reducible apply k_pc); (· exact hI))
                | ((with_reducible apply k_nc); (· first | exact hp); (try rintro _ _ ⟨rfl, rfl⟩))
                | ((with_reducible apply k_pr); (· first | exact hp))
                | ((with_reducible apply k_cs); (· first | exact hp); (try rintro _ _ ⟨rfl, rfl⟩))
                | ((with_reducible apply k_cal); refine st ?_; (with_reducible apply k_chk); (· exact rfl); refine st ?_; (with_reducible apply k_cs); (· first | exact hp); (try rintro _ _ ⟨rfl, rfl⟩))
                | (with_reducible apply k_d <;> intro _)
                | (with_reducible apply k_b <;> intro _)
              refine ⟨k + 1, (r4 + 1, drp n i j c m4), rfl, rfl, ?_, by omega, by omega, by rw [hs, oK]; dsimp only; rw [hv, hv2]; rfl⟩
              rw [drp, ← eBs_set, ← eBs_set, ← ix_int, ← ix_int]
        · obtain rfl : k = n := by omega
          repeat' first
            | refine st ?_
            | ((with_reducible apply go_i); (conv => whnf))
            | (with_reducible apply k_d <;> intro _)
            | (with_reducible apply k_b <;> intro _)
          refine ⟨c + 1, (r4, m4), rfl, rfl, rfl, by omega, by omega, ?_⟩
          rw [range_fold, ← h6, oC, ← h8]
      · obtain rfl : c = 13 := by omega
        repeat' first
          | refine st ?_
          | ((with_reducible apply go_i); (conv => whnf))
          | (with_reducible apply k_d <;> intro _)
          | (with_reducible apply k_b <;> intro _)
        refine ⟨j + 1, s3, rfl, rfl, rfl, by omega, by omega, ?_⟩
        rw [range_fold, ← h4, oJ, ← h6]
    · obtain rfl : j = n := by omega
      repeat' first
        | refine st ?_
        | ((with_reducible apply go_i); (conv => whnf))
        | (with_reducible apply k_d <;> intro _)
        | (with_reducible apply k_b <;> intro _)
      refine ⟨i + 1, s2, rfl, rfl, rfl, by omega, by omega, ?_⟩
      rw [range_fold, ← h2, oI, ← h4]
  · obtain rfl : i = n := by omega
    repeat' first
      | refine st ?_
      | ((with_reducible apply go_i); (conv => whnf))
      | (with_reducible apply k_d <;> intro _)
      | (with_reducible apply k_b <;> intro _)
    exact ⟨by rw [onceR, ← h2], by rw [onceR, ← h2]⟩
theorem C.ref_once (T m : List Bool) (hT : T.length = 2197) (n : Nat) (hn : n ≤ 8) (hm : m.length = 13 * (n * n)) (os : List AO) (id : Nat) (ho : os[id]? = some (.arr (eBs m) 1 0 false)) :
    CallSpec Try.prog N.bt_ref02_once [.d (.sl (eBs T)), .arr id (eBs m).length, .d (eI n)] os (fun r os' => r = .d (eI (onceR T n m).1) ∧ os' = os.set id (.arr (eBs (onceR T n m).2) 1 0 false)) :=
  lift1 (fun id => [.d (.sl (eBs T)), .arr id (eBs m).length, .d (eI n)]) (C.on0 T m hT n hn hm) (fun _ => rfl) (fun _ => rfl) (fun _ => rfl) (fun id n => rfl) (by simp [AV.bnd2, AV.bnd1]) (by simp [AO.bnd]) ho
end Go.Proofs
end
section
/- Contracts of the reference: start. No condition. -/
set_option linter.unusedSimpArgs false
set_option linter.unusedVariables false
set_option maxRecDepth 10000
set_option maxHeartbeats 4000000
namespace Go.Proofs
open Go.Bi

def fillTo (f : Nat → Bool) (L x : Nat) : List Bool := (List.range L).map fun y => if y < x then f y else false
theorem fillTo_len (f : Nat → Bool) (L x : Nat) : (fillTo f L x).length = L := by simp [fillTo]
theorem fillTo_zero (f : Nat → Bool) (L : Nat) : fillTo f L 0 = List.replicate L false := by
  unfold fillTo
  refine List.ext_getElem (by simp) fun i h1 h2 => ?_
  simp
theorem fillTo_set (f : Nat → Bool) (L x : Nat) : (fillTo f L x).set x (f x) = fillTo f L (x + 1) := by
  unfold fillTo
  refine List.ext_getElem (by simp) fun i h1 h2 => ?_
  rw [List.getElem_set]
  simp only [List.getElem_map, List.getElem_range]
  by_cases h : x = i
  · subst h; simp
  · rw [if_neg h]
    by_cases h3 : i < x
    · rw [if_pos h3, if_pos (by omega)]
    · rw [if_neg h3, if_neg (by omega)]
def f0 (n y : Nat) : Bool := decide (y / 13 / n ≠ y / 13 % n) || decide (y % 13 = 6)
theorem ix_parts {n i j c : Nat} (hj : j < n) (hc : c < 13) : ix n i j c / 13 / n = i ∧ ix n i j c / 13 % n = j ∧ ix n i j c % 13 = c := by
  have h1 : ix n i j c / 13 = n * i + j := by unfold ix; omega
  have h2 : ix n i j c % 13 = c := by unfold ix; omega
  have hn : 0 < n := by omega
  rw [h1, h2]
  refine ⟨?_, ?_, rfl⟩
  · rw [Nat.mul_add_div hn, Nat.div_eq_of_lt hj, Nat.add_zero]
  · rw [Nat.mul_add_mod, Nat.mod_eq_of_lt hj]
theorem f0_ix {n i j c : Nat} (hj : j < n) (hc : c < 13) : f0 n (ix n i j c) = (decide (i ≠ j) || decide (c = 6)) := by
  obtain ⟨h1, h2, h3⟩ := ix_parts (i := i) hj hc
  rw [f0, h1, h2, h3]
def sIn (n : Nat) (x : Con) (m : List Bool) (c : Nat) : List Bool := if isIn x.rels c then m else drp n x.a.toNat x.b.toNat c m
def sCon (n : Nat) (m : List Bool) (x : Con) : List Bool := (List.range 13).foldl (sIn n x) m
def startR (n : Nat) (l : List Con) : List Bool := l.foldl (sCon n) (fillTo (f0 n) (13 * (n * n)) (13 * (n * n)))
theorem sIn_len {n : Nat} {x : Con} {m : List Bool} {c : Nat} : (sIn n x m c).length = m.length := by
  unfold sIn; split
  · rfl
  · exact drp_len ..
theorem sInF_len {n : Nat} {x : Con} {m : List Bool} : ∀ k, ((List.range k).foldl (sIn n x) m).length = m.length
  | 0 => rfl
  | k + 1 => by rw [range_fold, sIn_len, sInF_len]
theorem startF_len {n : Nat} : ∀ (l : List Con) (m : List Bool), (l.foldl (sCon n) m).length = m.length
  | [], m => rfl
  | x :: l, m => by rw [List.foldl_cons, startF_len l, sCon, sInF_len]
theorem startR_len (n : Nat) (l : List Con) : (startR n l).length = 13 * (n * n) := by rw [startR, startF_len, fillTo_len]
theorem C.st0 (n : Nat) (hn : n ≤ 8) (l : List Con) (hll : l.length ≤ 9223372036854775807) (d : D) (hd : SlD d (eCons l)) (hok : l.all (okC n) = true) :
    CallSpec Try.prog N.bt_ref02_start [.d (eI n), .d d] [] (fun r os' => r = .arr 0 (13 * (n * n)) ∧ os' = [.arr (eBs (startR n l)) 1 0 false]) := by
  refine F.bt_ref02_start.goO mixed rfl ?_
  have hl0 := eCons_len l
  have hm := eCons_mem l
  have hnn : 13 * (n : Int) * (n : Int) = ((13 * (n * n) : Nat) : Int) := by rw [Int.mul_assoc]; simp
  have h64 : n * n ≤ 64 := Nat.mul_le_mul hn hn
  have hto : (13 * (n : Int) * (n : Int)).toNat = 13 * (n * n) := by rw [hnn]; omega
  have hz : List.replicate (13 * (n * n)) [D.bool false] = eBs (fillTo (f0 n) (13 * (n * n)) 0) := by rw [fillTo_zero]; simp [eBs]
  repeat' first
    | refine st ?_
    | ((with_reducible apply go_i); (conv => whnf))
    | (with_reducible apply k_d <;> intro _)
    | (with_reducible apply k_b <;> intro _)
  rw [hto, hz]
  have hcl : ∀ tb : List Bool, tb.length = 13 * (n * n) → (eBs (fillTo (f0 n) (13 * (n * n)) 0)).length = (eBs tb).length := fun tb h => by rw [eBs_len, eBs_len, h, fillTo_len]
  have hlenZ : (eBs (fillTo (f0 n) (13 * (n * n)) 0)).length = 13 * (n * n) := by rw [eBs_len, fillTo_len]
  refine x_loop1 mixed Lt.bt_ref02_start_l2 Lk.bt_ref02_start_l2 (fun (i : Nat) => [.d (eI i)]) (fun i => [.arr (eBs (fillTo (f0 n) (13 * (n * n)) (13 * (n * i)))) 1 0 false]) (fun i => i ≤ n) (fun i => n - i) 0 rfl rfl rfl rfl (fun _ _ => ⟨rfl, rfl⟩) rfl (by omega) ?_
  repeat' first
    | refine st ?_
    | ((with_reducible apply go_i); (conv => whnf))
    | (with_reducible apply k_d <;> intro _)
    | (with_reducible apply k_b <;> intro _)
  intro i h1
  by_cases hi : i < n
  · repeat' first
      | refine st ?_
      | ((with_reducible apply go_i); (conv => whnf))
      | (with_reducible apply k_d <;> intro _)
      | (with_reducible apply k_b <;> intro _)
    refine x_loop1 mixed Lt.bt_ref02_start_l1 Lk.bt_ref02_start_l1 (fun (j : Nat) => [.d (eI j)]) (fun j => [.arr (eBs (fillTo (f0 n) (13 * (n * n)) (13 * (n * i + j)))) 1 0 false]) (fun j => j ≤ n) (fun j => n - j) 0 rfl rfl rfl rfl (fun _ _ => ⟨rfl, rfl⟩) rfl (by omega) ?_
    repeat' first
      | refine st ?_
      | ((with_reducible apply go_i); (conv => whnf))
      | (with_reducible apply k_d <;> intro _)
      | (with_reducible apply k_b <;> intro _)
    intro j h2
    by_cases hj : j < n
    · repeat' first
        | refine st ?_
        | ((with_reducible apply go_i); (conv => whnf))
        | (with_reducible apply k_d <;> intro _)
        | (with_reducible apply k_b <;> intro _)
      refine x_loop1 mixed Lt.bt_ref02_start_l0 Lk.bt_ref02_start_l0 (fun (c : Nat) => [.d (eI c)]) (fun c => [.arr (eBs (fillTo (f0 n) (13 * (n * n)) (ix n i j c))) 1 0 false]) (fun c => c ≤ 13) (fun c => 13 - c) 0 rfl rfl rfl rfl (fun _ _ => ⟨rfl, rfl⟩) rfl (by omega) ?_
      repeat' first
        | refine st ?_
        | ((with_reducible apply go_i); (conv => whnf))
        | (with_reducible apply k_d <;> intro _)
        | (with_reducible apply k_b <;> intro _)
      intro c h3
      by_cases hc : c < 13
      · have hx := ix_lt hn hi hj hc
        have b1 := mul_bnd hn hi
        have p1 : (0 : Int) ≤ (n : Int) * (i : Int) := by have := Int.natCast_nonneg (n * i); rwa [Int.natCast_mul] at this
        have hlc := fillTo_len (f0 n) (13 * (n * n)) (ix n i j c)
        have g1 : (eBs (fillTo (f0 n) (13 * (n * n)) (ix n i j c)))[(13 * ((n : Int) * (i : Int) + (j : Int)) + (c : Int)).toNat]? = some [.bool ((fillTo (f0 n) (13 * (n * n)) (ix n i j c)).getD (ix n i j c) false)] := by
          rw [ix_int]; exact eBs_get (by rw [hlc]; exact hx)
        have e1 := hcl _ hlc
        have hf := f0_ix (n := n) (i := i) hj hc
        have hs := fillTo_set (f0 n) (13 * (n * n)) (ix n i j c)
        rw [hf] at hs
        have e2 : ix n i j (c + 1) = ix n i j c + 1 := rfl
        by_cases hij : (i : Int) = (j : Int)
        · have hb : (decide (i ≠ j) || decide (c = 6)) = decide ((c : Int) = 6) := by
            rw [decide_eq_false (by omega : ¬ i ≠ j), Bool.false_or, decide_eq_decide]; omega
          rw [hb] at hs
          repeat' first
            | refine st ?_
            | ((with_reducible apply go_i); (conv => whnf))
            | (with_reducible apply k_d <;> intro _)
            | (with_reducible apply k_b <;> intro _)
          refine ⟨c + 1, rfl, rfl, ?_, by omega, by omega⟩
          rw [e2, ← hs, ← eBs_set, ← ix_int]
        · have hb : (decide (i ≠ j) || decide (c = 6)) = true := by
            rw [decide_eq_true (by omega : i ≠ j), Bool.true_or]
          rw [hb] at hs
          repeat' first
            | refine st ?_
            | ((with_reducible apply go_i); (conv => whnf))
            | (with_reducible apply k_d <;> intro _)
            | (with_reducible apply k_b <;> intro _)
          refine ⟨c + 1, rfl, rfl, ?_, by omega, by omega⟩
          rw [e2, ← hs, ← eBs_set, ← ix_int]
      · obtain rfl : c = 13 := by omega
        repeat' first
          | refine st ?_
          | ((with_reducible apply go_i); (conv => whnf))
          | (with_reducible apply k_d <;> intro _)
          | (with_reducible apply k_b <;> intro _)
        refine ⟨j + 1, rfl, rfl, ?_, by omega, by omega⟩
        rw [show 13 * (n * i + (j + 1)) = ix n i j 13 by unfold ix; omega]
    · obtain rfl : j = n := by omega
      repeat' first
        | refine st ?_
        | ((with_reducible apply go_i); (conv => whnf))
        | (with_reducible apply k_d <;> intro _)
        | (with_reducible apply k_b <;> intro _)
      exact ⟨i + 1, rfl, rfl, rfl, by omega, by omega⟩
  · obtain rfl : n = i := by omega
    repeat' first
      | refine st ?_
      | ((with_reducible apply go_i); (conv => whnf))
      | (with_reducible apply k_d <;> intro _)
      | (with_reducible apply k_b <;> intro _)
    refine x_loop2 mixed Lt.bt_ref02_start_l4 Lk.bt_ref02_start_l4 (fun (k : Nat) (m : List Bool) => [.d (eI k)]) (fun k m => [.arr (eBs m) 1 0 false]) (fun k m => k ≤ l.length ∧ m = (l.take k).foldl (sCon n) (fillTo (f0 n) (13 * (n * n)) (13 * (n * n)))) (fun k _ => l.length - k) 0 (fillTo (f0 n) (13 * (n * n)) (13 * (n * n))) rfl rfl rfl rfl (fun _ _ _ => ⟨rfl, rfl⟩) rfl ⟨by omega, rfl⟩ ?_
    repeat' first
      | refine st ?_
      | ((with_reducible apply go_i); (conv => whnf))
      | (with_reducible apply k_d <;> intro _)
      | (with_reducible apply k_b <;> intro _)
    intro k m ⟨h2, h3⟩
    have hml : m.length = 13 * (n * n) := by rw [h3, startF_len, fillTo_len]
    have em := hcl m hml
    cases hx : l[k]? with
    | none =>
      have hge := List.getElem?_eq_none_iff.1 hx
      rw [List.take_of_length_le hge, ← startR] at h3
      repeat' first
        | refine st ?_
        | ((with_reducible apply go_i); (conv => whnf))
        | (with_reducible apply k_d <;> intro _)
        | (with_reducible apply k_b <;> intro _)
      rw [hlenZ, h3]
      exact ⟨rfl, rfl⟩
    | some x =>
      have hlt := (List.getElem?_eq_some_iff.1 hx).1
      have he := eCons_get hx
      have ho := List.all_eq_true.1 hok x (List.mem_of_getElem? hx)
      simp only [okC, Bool.and_eq_true, decide_eq_true_eq] at ho
      obtain ⟨ho1, ho2, ho3, ho4, ho5⟩ := ho
      obtain ⟨a, ha⟩ : ∃ a : Nat, x.a = a := ⟨x.a.toNat, by omega⟩
      obtain ⟨b, hb⟩ : ∃ a : Nat, x.b = a := ⟨x.b.toNat, by omega⟩
      rw [ha, hb] at he
      have hsx : ∀ m c, sIn n x m c = if isIn x.rels c then m else drp n a b c m := fun m c => by rw [sIn, ha, hb]; rfl
      have ha8 : a < n := by omega
      have hb8 : b < n := by omega
      repeat' first
        | refine st ?_
        | ((with_reducible apply go_i); (conv => whnf))
        | (with_reducible apply k_d <;> intro _)
        | (with_reducible apply k_b <;> intro _)
      refine x_loop2 mixed Lt.bt_ref02_start_l3 Lk.bt_ref02_start_l3 (fun (c : Nat) (m : List Bool) => [.d (eI c)]) (fun c m => [.arr (eBs m) 1 0 false]) (fun c m' => c ≤ 13 ∧ m' = (List.range c).foldl (sIn n x) m) (fun c _ => 13 - c) 0 m rfl rfl rfl rfl (fun _ _ _ => ⟨rfl, rfl⟩) rfl ⟨by omega, rfl⟩ ?_
      repeat' first
        | refine st ?_
        | ((with_reducible apply go_i); (conv => whnf))
        | (with_reducible apply k_d <;> intro _)
        | (with_reducible apply k_b <;> intro _)
      intro c m2 ⟨h4, h5⟩
      have hml2 : m2.length = 13 * (n * n) := by rw [h5, sInF_len, hml]
      have em2 := hcl m2 hml2
      by_cases hc : c < 13
      · have hin := C.ref_in x.rels x.hl c x.d x.hd
        have hs : (List.range (c + 1)).foldl (sIn n x) m = sIn n x m2 c := by rw [range_fold, ← h5]
        rw [hsx] at hs
        cases hv : isIn x.rels c with
        | true =>
          rw [hv] at hin hs
          repeat' first
            | refine st ?_
            | ((with_reducible apply go_i); (conv => whnf))
            | ((with_reducible apply k_pn); (· exact hin))
            | ((with_reducible apply k_pc); (· exact hin))
            | (with_reducible apply k_d <;> intro _)
            | (with_reducible apply k_b <;> intro _)
          exact ⟨c + 1, m2, rfl, rfl, rfl, by omega, by omega, hs.symm⟩
        | false =>
          rw [hv] at hin hs
          have hx := ix_lt hn ha8 hb8 hc
          have hx2 := ix_lt hn hb8 ha8 (show 12 - c < 13 by omega)
          have b1 := mul_bnd hn ha8
          have b2 := mul_bnd hn hb8
          have p1 : (0 : Int) ≤ (n : Int) * (a : Int) := by have := Int.natCast_nonneg (n * a); rwa [Int.natCast_mul] at this
          have p2 : (0 : Int) ≤ (n : Int) * (b : Int) := by have := Int.natCast_nonneg (n * b); rwa [Int.natCast_mul] at this
          have g1 : (eBs m2)[(13 * ((n : Int) * (a : Int) + (b : Int)) + (c : Int)).toNat]? = some [.bool (m2.getD (ix n a b c) false)] := by
            rw [ix_int]; exact eBs_get (by rw [hml2]; exact hx)
          have hml4 := eBs_len m2
          have hI := C.ref_Inverse (c : Int)
          have hinv : inv (c : Int) = ((12 - c : Nat) : Int) := by unfold inv; rw [if_pos (by omega)]; omega
          rw [hinv] at hI
          have hset : ((eBs m2).set (13 * ((n : Int) * (a : Int) + (b : Int)) + (c : Int)).toNat [D.bool false]).length = (eBs m2).length := by simp
          have g2 : ((eBs m2).set (13 * ((n : Int) * (a : Int) + (b : Int)) + (c : Int)).toNat [D.bool false])[(13 * ((n : Int) * (b : Int) + (a : Int)) + ((12 - c : Nat) : Int)).toNat]? = some [.bool ((m2.set (ix n a b c) false).getD (ix n b a (12 - c)) false)] := by
            rw [eBs_set, ix_int, ix_int]; exact eBs_get (by rw [List.length_set, hml2]; exact hx2)
          repeat' first
            | refine st ?_
            | ((with_reducible apply go_i); (conv => whnf))
            | ((with_reducible apply k_pn); (· first | exact hin | exact hI))
            | ((with_reducible apply k_pc); (· first | exact hin | exact hI))
            | (with_reducible apply k_d <;> intro _)
            | (with_reducible apply k_b <;> intro _)
          refine ⟨c + 1, drp n a b c m2, rfl, rfl, ?_, by omega, by omega, hs.symm⟩
          rw [drp, ← eBs_set, ← eBs_set, ← ix_int, ← ix_int]
      · obtain rfl : c = 13 := by omega
        repeat' first
          | refine st ?_
          | ((with_reducible apply go_i); (conv => whnf))
          | (with_reducible apply k_d <;> intro _)
          | (with_reducible apply k_b <;> intro _)
        refine ⟨k + 1, m2, rfl, rfl, rfl, by omega, by omega, ?_⟩
        rw [foldl_take_succ _ _ _ _ _ hx, ← h3, sCon, ← h5]
end Go.Proofs
end
section
/- The law on relations, as a contract over data. No condition. -/
set_option linter.unusedSimpArgs false
set_option linter.unusedVariables false
set_option maxRecDepth 10000
set_option maxHeartbeats 4000000
namespace Go.Proofs
open Go.Bi
theorem valid_rel {a b c d : Int} : (rel a b c d).2 = (valid a b && valid c d) := rel_is a b c d
theorem rel_inv (a b c d : Int) (h1 : valid a b = true) (h2 : valid c d = true) : (rel c d a b).1 = inv (rel a b c d).1 := by
  refine isR_of _ _ _ _ _ h2 h1 ?_
  have := isR_at a b c d h1 h2
  have hr := rel_range a b c d
  generalize (rel a b c d).1 = r at this hr
  simp only [valid, decide_eq_true_eq] at h1 h2
  rcases (show r = 0 ∨ r = 1 ∨ r = 2 ∨ r = 3 ∨ r = 4 ∨ r = 5 ∨ r = 6 ∨ r = 7 ∨ r = 8 ∨ r = 9 ∨ r = 10 ∨ r = 11 ∨ r = 12 by omega) with rfl | rfl | rfl | rfl | rfl | rfl | rfl | rfl | rfl | rfl | rfl | rfl | rfl <;> simp [isR, inv] at this ⊢ <;> omega
end Go.Proofs
end
section
/- Networks as sets: bits, closed sets, the greatest one. No condition. -/
set_option linter.unusedSimpArgs false
set_option linter.unusedVariables false
set_option maxRecDepth 10000
set_option maxHeartbeats 4000000
namespace Go.Proofs
open Go.Bi

/-! ### Bits -/
def bI (z : Int) : Prop := 0 ≤ z ∧ z < 65536
theorem bI_nat {z : Int} (h : bI z) : ∃ n : Nat, z = n ∧ n < 65536 := ⟨z.toNat, by have := h.1; omega, by have := h.1; have := h.2; omega⟩
theorem sOr_has {x y : Int} (hx : bI x) (hy : bI y) : bI (sOr x y) ∧ ∀ c : Nat, c < 13 → sHas (sOr x y) c = (sHas x c || sHas y c) := by
  obtain ⟨m, rfl, hm⟩ := bI_nat hx
  obtain ⟨n, rfl, hn⟩ := bI_nat hy
  have h := Nat.or_lt_two_pow (n := 16) hm hn
  rw [sOr_nat m n hm hn]
  refine ⟨⟨by omega, by omega⟩, fun c hc => ?_⟩
  rw [sHas_nat _ c h (by omega), sHas_nat _ c hm (by omega), sHas_nat _ c hn (by omega), Nat.testBit_or]
theorem sAnd_has {x y : Int} (hx : bI x) (hy : bI y) : bI (sAnd x y) ∧ ∀ c : Nat, c < 13 → sHas (sAnd x y) c = (sHas x c && sHas y c) := by
  obtain ⟨m, rfl, hm⟩ := bI_nat hx
  obtain ⟨n, rfl, hn⟩ := bI_nat hy
  have h : m &&& n < 65536 := Nat.lt_of_le_of_lt Nat.and_le_left hm
  rw [sAnd_nat m n hm hn]
  refine ⟨⟨by omega, by omega⟩, fun c hc => ?_⟩
  rw [sHas_nat _ c h (by omega), sHas_nat _ c hm (by omega), sHas_nat _ c hn (by omega), Nat.testBit_and]
theorem sOne_has {r : Int} (hr : 0 ≤ r ∧ r < 13) : bI (sOne r) ∧ ∀ c : Nat, c < 13 → sHas (sOne r) c = decide (r = c) := by
  obtain ⟨m, rfl⟩ : ∃ m : Nat, r = m := ⟨r.toNat, by omega⟩
  have h : 2 ^ m < 65536 := Nat.pow_lt_pow_right (n := 16) (by omega) (by omega)
  rw [sOne_nat m (by omega)]
  refine ⟨⟨Int.natCast_nonneg _, by show ((2 ^ m : Nat) : Int) < ((65536 : Nat) : Int); exact Int.ofNat_lt.2 h⟩, fun c hc => ?_⟩
  rw [sHas_nat _ c h (by omega), Nat.testBit_two_pow, decide_eq_decide]
  omega
theorem zero_has : bI 0 ∧ ∀ c : Nat, c < 13 → sHas 0 c = false := by
  refine ⟨⟨by decide, by decide⟩, fun c hc => ?_⟩
  have := sHas_nat 0 c (by omega) (by omega)
  rw [Nat.zero_testBit] at this
  exact this
theorem fold_has {α : Type} {f : Int → α → Int} {g : α → Nat → Bool} : ∀ {l : List α}, (∀ o x, x ∈ l → bI o → bI (f o x) ∧ ∀ c : Nat, c < 13 → sHas (f o x) c = (sHas o c || g x c)) →
    ∀ o, bI o → bI (l.foldl f o) ∧ ∀ c : Nat, c < 13 → sHas (l.foldl f o) c = (sHas o c || l.any fun x => g x c)
  | [], _, o, ho => ⟨ho, fun c hc => by simp⟩
  | x :: l, hf, o, ho => by
    obtain ⟨h1, h2⟩ := hf o x (List.mem_cons_self ..) ho
    obtain ⟨h3, h4⟩ := fold_has (fun o y hy => hf o y (List.mem_cons_of_mem _ hy)) (f o x) h1
    refine ⟨h3, fun c hc => ?_⟩
    rw [List.foldl_cons, h4 c hc, h2 c hc, List.any_cons, Bool.or_assoc]
theorem sOfL_has {l : List Int} (h : allEx l = true) : bI (sOfL l) ∧ ∀ c : Nat, c < 13 → sHas (sOfL l) c = isIn l c := by
  have h' : ∀ x ∈ l, 0 ≤ x ∧ x < 13 := fun x hx => isRel_iff.1 (List.all_eq_true.1 h x hx)
  obtain ⟨h1, h2⟩ := fold_has (l := l) (f := fun o r => sOr o (sOne r)) (g := fun r c => decide (r = (c : Int))) (fun o x hx ho => by
    obtain ⟨g1, g2⟩ := sOne_has (h' x hx)
    obtain ⟨g3, g4⟩ := sOr_has ho g1
    exact ⟨g3, fun c hc => by rw [g4 c hc, g2 c hc]⟩) 0 zero_has.1
  refine ⟨h1, fun c hc => ?_⟩
  rw [sOfL, h2 c hc, zero_has.2 c hc, Bool.false_or]
  rfl
theorem sList_mem {s : Int} {x : Int} : x ∈ sList s ↔ ∃ c : Nat, c < 13 ∧ x = c ∧ sHas s c = true := by
  unfold sList sUpto
  rw [List.mem_filter, List.mem_map]
  constructor
  · rintro ⟨⟨c, hc, rfl⟩, h⟩
    exact ⟨c, List.mem_range.1 hc, rfl, h⟩
  · rintro ⟨c, hc, rfl, h⟩
    exact ⟨⟨c, List.mem_range.2 hc, rfl⟩, h⟩
theorem inv_nat {c : Nat} (h : c < 13) : inv (c : Int) = ((12 - c : Nat) : Int) := by unfold inv; rw [if_pos (by omega)]; omega
theorem sInv_has (s : Int) : bI (sInv s) ∧ ∀ c : Nat, c < 13 → sHas (sInv s) c = sHas s ((12 - c : Nat) : Int) := by
  obtain ⟨h1, h2⟩ := fold_has (l := sList s) (f := fun o r => sOr o (sOne (inv r))) (g := fun r c => decide (inv r = (c : Int))) (fun o x hx ho => by
    obtain ⟨c, hc, rfl, _⟩ := sList_mem.1 hx
    obtain ⟨g1, g2⟩ := sOne_has (r := inv (c : Int)) (by rw [inv_nat hc]; omega)
    obtain ⟨g3, g4⟩ := sOr_has ho g1
    exact ⟨g3, fun c hc => by rw [g4 c hc, g2 c hc]⟩) 0 zero_has.1
  refine ⟨h1, fun c hc => ?_⟩
  rw [sInv, sInvL, h2 c hc, zero_has.2 c hc, Bool.false_or, Bool.eq_iff_iff, List.any_eq_true]
  constructor
  · rintro ⟨x, hx, he⟩
    obtain ⟨d, hd, rfl, hs⟩ := sList_mem.1 hx
    rw [inv_nat hd, decide_eq_true_eq] at he
    have : d = 12 - c := by omega
    subst this; exact hs
  · intro hs
    refine ⟨((12 - c : Nat) : Int), sList_mem.2 ⟨12 - c, by omega, rfl, hs⟩, ?_⟩
    rw [inv_nat (by omega), decide_eq_true_eq]; omega

/-! ### The composition of sets -/
def Tb (a b c : Nat) : Bool := (maskN (persN 6 5)).testBit (169 * a + 13 * b + c)
attribute [local irreducible] maskN
theorem comps_bI (a b : Nat) : bI (tAt comps a b) := by
  rw [comps_eq.1]
  unfold tAt
  rw [toZ_getD]
  have := bnd13_get comps_eq.2 ((a : Int).toNat * 13 + (b : Int).toNat)
  exact ⟨by omega, by omega⟩
theorem tcA_has (s t : Int) : bI (tcA comps s t 13) ∧ ∀ c : Nat, c < 13 → (sHas (tcA comps s t 13) c = true ↔ ∃ a b : Nat, a < 13 ∧ b < 13 ∧ sHas s a = true ∧ sHas t b = true ∧ Tb a b c = true) := by
  have hB : ∀ a : Nat, a < 13 → ∀ o, bI o → bI (tcB comps s t a 13 o) ∧ ∀ c : Nat, c < 13 → sHas (tcB comps s t a 13 o) c = (sHas o c || (List.range 13).any fun b => (sHas s a && sHas t b) && Tb a b c) := by
    intro a ha o ho
    refine fold_has (l := List.range 13) (f := fun o (b : Nat) => if sHas s a && sHas t b then sOr o (tAt comps a b) else o) (g := fun (b : Nat) c => (sHas s a && sHas t b) && Tb a b c) (fun o b hb ho => ?_) o ho
    have hb := List.mem_range.1 hb
    split
    · rename_i e
      obtain ⟨g1, g2⟩ := sOr_has ho (comps_bI a b)
      refine ⟨g1, fun c hc => ?_⟩
      rw [g2 c hc, comps_has ha hb hc, e, Bool.true_and]; rfl
    · rename_i e
      refine ⟨ho, fun c hc => ?_⟩
      rw [Bool.eq_false_iff.2 e]; simp
  obtain ⟨h1, h2⟩ := fold_has (l := List.range 13) (f := fun o a => tcB comps s t a 13 o) (g := fun a c => (List.range 13).any fun b => (sHas s a && sHas t b) && Tb a b c) (fun o a ha ho => hB a (List.mem_range.1 ha) o ho) 0 zero_has.1
  refine ⟨h1, fun c hc => ?_⟩
  rw [tcA, h2 c hc, zero_has.2 c hc, Bool.false_or, List.any_eq_true]
  constructor
  · rintro ⟨a, ha, hx⟩
    obtain ⟨b, hb, hy⟩ := List.any_eq_true.1 hx
    simp only [Bool.and_eq_true] at hy
    exact ⟨a, b, List.mem_range.1 ha, List.mem_range.1 hb, hy.1.1, hy.1.2, hy.2⟩
  · rintro ⟨a, b, ha, hb, h1, h2, h3⟩
    refine ⟨a, List.mem_range.2 ha, List.any_eq_true.2 ⟨b, List.mem_range.2 hb, ?_⟩⟩
    rw [h1, h2, h3]; rfl
theorem rN_inv {p q : Nat × Nat} (hp : okP p) (hq : okP q) : rN q p = 12 - rN p q := by
  have h1 := relQ_eq hp hq
  have h2 := relQ_eq hq hp
  have vp : valid (p.1 : Int) (p.2 : Int) = true := by obtain ⟨a, b⟩ := hp; simp only [valid, decide_eq_true_eq]; omega
  have vq : valid (q.1 : Int) (q.2 : Int) = true := by obtain ⟨a, b⟩ := hq; simp only [valid, decide_eq_true_eq]; omega
  have h3 := rel_inv p.1 p.2 q.1 q.2 vp vq
  unfold relQ toP at h1 h2
  dsimp only at h1 h2
  rw [h1, h2, inv_nat (rN_lt p q)] at h3
  omega
theorem Tb_inv {a b c : Nat} (ha : a < 13) (hb : b < 13) (hc : c < 13) (h : Tb a b c = true) : Tb (12 - b) (12 - a) (12 - c) = true := by
  unfold Tb at *
  rw [maskN_bit _ a b c ha hb hc] at h
  obtain ⟨p, hp, q, hq, r, hr, h1, h2, h3⟩ := h
  have hL : ∀ r ∈ persN 6 5, okP r := fun r h => (persN_ok (by omega) r h).1
  rw [maskN_bit _ _ _ _ (by omega) (by omega) (by omega)]
  exact ⟨r, hr, q, hq, p, hp, by rw [rN_inv (hL q hq) (hL r hr), h2], by rw [rN_inv (hL p hp) (hL q hq), h1], by rw [rN_inv (hL p hp) (hL r hr), h3]⟩

/-! ### Sets of relations between numbers -/
abbrev RS := Nat → Nat → Nat → Prop
def Clo (n : Nat) (S : RS) : Prop := ∀ i j k c, i < n → j < n → k < n → c < 13 → S i j c → ∃ a b, a < 13 ∧ b < 13 ∧ S i k a ∧ S k j b ∧ Tb a b c = true
def Sub (n : Nat) (S R : RS) : Prop := ∀ i j c, i < n → j < n → c < 13 → S i j c → R i j c
def Sym (n : Nat) (S : RS) : Prop := ∀ i j c, i < n → j < n → c < 13 → S i j c → S j i (12 - c)
def invS (S : RS) : RS := fun i j c => S j i (12 - c)
theorem Clo.inv {n : Nat} {S : RS} (h : Clo n S) : Clo n (invS S) := by
  intro i j k c hi hj hk hc hS
  obtain ⟨a, b, ha, hb, h1, h2, h3⟩ := h j i k (12 - c) hj hi hk (by omega) hS
  refine ⟨12 - b, 12 - a, by omega, by omega, ?_, ?_, ?_⟩
  · show S k i (12 - (12 - b)); rw [show 12 - (12 - b) = b by omega]; exact h2
  · show S j k (12 - (12 - a)); rw [show 12 - (12 - a) = a by omega]; exact h1
  · have := Tb_inv ha hb (by omega) h3; rwa [show 12 - (12 - c) = c by omega] at this
def conX (x : Con) (i j c : Nat) : Prop := ((i : Int) = x.a ∧ (j : Int) = x.b → (c : Int) ∈ x.rels) ∧ ((i : Int) = x.b ∧ (j : Int) = x.a → ((12 - c : Nat) : Int) ∈ x.rels)
def St (l : List Con) : RS := fun i j c => (i = j → c = 6) ∧ ∀ x ∈ l, conX x i j c
theorem conX_sym {x : Con} {i j c : Nat} (hc : c < 13) (h : conX x i j c) : conX x j i (12 - c) := by
  refine ⟨fun e => h.2 ⟨e.2, e.1⟩, fun e => ?_⟩
  have := h.1 ⟨e.2, e.1⟩
  rwa [show 12 - (12 - c) = c by omega]
theorem St_sym (n : Nat) (l : List Con) : Sym n (St l) := by
  intro i j c hi hj hc h
  refine ⟨fun e => ?_, fun x hx => conX_sym hc (h.2 x hx)⟩
  rw [h.1 e.symm]
/-- The greatest closed symmetric set. -/
structure Gr (n : Nat) (l : List Con) (S : RS) : Prop where
  sub : Sub n S (St l)
  clo : Clo n S
  sym : Sym n S
  top : ∀ S', Clo n S' → Sym n S' → Sub n S' (St l) → Sub n S' S
theorem Gr.eq {n : Nat} {l : List Con} {S R : RS} (h : Gr n l S) (k : Gr n l R) {i j c : Nat} (hi : i < n) (hj : j < n) (hc : c < 13) : S i j c ↔ R i j c :=
  ⟨k.top S h.clo h.sym h.sub i j c hi hj hc, h.top R k.clo k.sym k.sub i j c hi hj hc⟩
end Go.Proofs
end
