/- The table of compositions in numbers. No condition. -/
import Derived.Test.YthphpladhhcchaaA8
set_option linter.unusedSimpArgs false
set_option linter.unusedVariables false
set_option maxRecDepth 10000
set_option maxHeartbeats 400000
namespace Go.Proofs
open Go.Bi

/-! ### The table in numbers -/
def updN (tb : List Nat) (a b c : Nat) : List Nat := tb.set (a * 13 + b) (tb.getD (a * 13 + b) 0 ||| 2 ^ c)
def rRN (l : PN) (p q : Nat × Nat) (tb : List Nat) : List Nat := l.foldl (fun tb r => updN tb (rN p q) (rN q r) (rN p r)) tb
def rQN (L : PN) (p : Nat × Nat) (l : PN) (tb : List Nat) : List Nat := l.foldl (fun tb q => rRN L p q tb) tb
def rPN (L : PN) (l : PN) (tb : List Nat) : List Nat := l.foldl (fun tb p => rQN L p L tb) tb
def toZ (tb : List Nat) : List Int := tb.map fun (n : Nat) => (n : Int)
theorem toZ_getD (tb : List Nat) (i : Nat) : (toZ tb).getD i 0 = ((tb.getD i 0 : Nat) : Int) := by
  unfold toZ
  rw [List.getD_eq_getElem?_getD, List.getD_eq_getElem?_getD, List.getElem?_map]
  cases tb[i]? <;> rfl
def bnd13 (tb : List Nat) : Prop := ∀ x ∈ tb, x < 8192
theorem bnd13_get {tb : List Nat} (h : bnd13 tb) (i : Nat) : tb.getD i 0 < 8192 := by
  rw [List.getD_eq_getElem?_getD]
  cases hx : tb[i]? with
  | none => simp
  | some x => exact h x (List.mem_of_getElem? hx)
theorem updN_bnd {tb : List Nat} (h : bnd13 tb) (a b c : Nat) (hc : c < 13) : bnd13 (updN tb a b c) := by
  intro x hx
  rcases List.mem_or_eq_of_mem_set hx with h1 | rfl
  · exact h x h1
  · exact Nat.or_lt_two_pow (n := 13) (bnd13_get h _) (Nat.pow_lt_pow_right (by omega) hc)
theorem upd_eq {tb : List Nat} (h : bnd13 tb) (a b c : Nat) (hc : c < 13) : upd3 (toZ tb) a b c = toZ (updN tb a b c) := by
  unfold upd3 updN
  have h1 := bnd13_get h (a * 13 + b)
  have h2 : 2 ^ c < 65536 := Nat.pow_lt_pow_right (n := 16) (by omega) (by omega)
  simp only [Int.toNat_natCast]
  rw [toZ_getD, sOne_nat c (by omega), sOr_nat _ _ (by omega) h2]
  simp [toZ]
theorem rR_eq {p q : Nat × Nat} (hp : okP p) (hq : okP q) : ∀ (l : PN) (tb : List Nat), (∀ r ∈ l, okP r) → bnd13 tb → rowR (l.map toP) (toP p) (toP q) (toZ tb) = toZ (rRN l p q tb) ∧ bnd13 (rRN l p q tb)
  | [], tb, _, hb => ⟨rfl, hb⟩
  | r :: l, tb, hl, hb => by
    have hr := hl r (by simp)
    have h1 := updN_bnd hb (rN p q) (rN q r) (rN p r) (rN_lt p r)
    obtain ⟨h2, h3⟩ := rR_eq hp hq l _ (fun r h => hl r (by simp [h])) h1
    refine ⟨?_, h3⟩
    rw [← show toZ (rRN l p q (updN tb (rN p q) (rN q r) (rN p r))) = toZ (rRN (r :: l) p q tb) from rfl, ← h2]
    rw [← upd_eq hb _ _ _ (rN_lt p r), ← relQ_eq hp hq, ← relQ_eq hq hr, ← relQ_eq hp hr]
    rfl
theorem rQ_eq {L : PN} (hL : ∀ r ∈ L, okP r) {p : Nat × Nat} (hp : okP p) : ∀ (l : PN) (tb : List Nat), (∀ r ∈ l, okP r) → bnd13 tb → rowQ (L.map toP) (toP p) (l.map toP) (toZ tb) = toZ (rQN L p l tb) ∧ bnd13 (rQN L p l tb)
  | [], tb, _, hb => ⟨rfl, hb⟩
  | q :: l, tb, hl, hb => by
    have hq := hl q (by simp)
    obtain ⟨h1, h2⟩ := rR_eq hp hq L tb hL hb
    obtain ⟨h3, h4⟩ := rQ_eq hL hp l _ (fun r h => hl r (by simp [h])) h2
    refine ⟨?_, h4⟩
    rw [← show toZ (rQN L p l (rRN L p q tb)) = toZ (rQN L p (q :: l) tb) from rfl, ← h3, ← h1]
    rfl
theorem rP_eq {L : PN} (hL : ∀ r ∈ L, okP r) : ∀ (l : PN) (tb : List Nat), (∀ r ∈ l, okP r) → bnd13 tb → rowP (L.map toP) (l.map toP) (toZ tb) = toZ (rPN L l tb) ∧ bnd13 (rPN L l tb)
  | [], tb, _, hb => ⟨rfl, hb⟩
  | p :: l, tb, hl, hb => by
    have hp := hl p (by simp)
    obtain ⟨h1, h2⟩ := rQ_eq hL hp L tb hL hb
    obtain ⟨h3, h4⟩ := rP_eq hL l _ (fun r h => hl r (by simp [h])) h2
    refine ⟨?_, h4⟩
    rw [← show toZ (rPN L l (rQN L p L tb)) = toZ (rPN L (p :: l) tb) from rfl, ← h3, ← h1]
    rfl
def tbit (tb : List Nat) (a b c : Nat) : Bool := (tb.getD (a * 13 + b) 0).testBit c
theorem updN_bit {tb : List Nat} (hl : tb.length = 169) (a b c : Nat) (ha : a < 13) (hb : b < 13) (x y z : Nat) (hx : x < 13) (hy : y < 13) : tbit (updN tb a b c) x y z = true ↔ tbit tb x y z = true ∨ (a = x ∧ b = y ∧ c = z) := by
  unfold tbit updN
  rw [List.getD_eq_getElem?_getD, List.getElem?_set]
  by_cases h : a * 13 + b = x * 13 + y
  · have e1 : a = x := by omega
    have e2 : b = y := by omega
    subst e1; subst e2
    rw [if_pos rfl, if_pos (by omega)]
    simp only [Option.getD_some, Nat.testBit_or, Nat.testBit_two_pow]
    simp
  · rw [if_neg h, ← List.getD_eq_getElem?_getD]
    constructor
    · exact .inl
    · rintro (h1 | ⟨rfl, rfl, _⟩)
      · exact h1
      · exact absurd rfl h
theorem updN_len (tb : List Nat) (a b c : Nat) : (updN tb a b c).length = tb.length := by simp [updN]
theorem rRN_bit {p q : Nat × Nat} {x y z : Nat} (hx : x < 13) (hy : y < 13) : ∀ (l : PN) (tb : List Nat), tb.length = 169 → (rRN l p q tb).length = 169 ∧ (tbit (rRN l p q tb) x y z = true ↔ tbit tb x y z = true ∨ ∃ r ∈ l, rN p q = x ∧ rN q r = y ∧ rN p r = z)
  | [], tb, h => ⟨h, by simp [rRN]⟩
  | r :: l, tb, h => by
    obtain ⟨h1, h2⟩ := rRN_bit (p := p) (q := q) (z := z) hx hy l (updN tb (rN p q) (rN q r) (rN p r)) (by rw [updN_len, h])
    refine ⟨h1, h2.trans ?_⟩
    rw [updN_bit h _ _ _ (rN_lt p q) (rN_lt q r) _ _ _ hx hy]
    simp only [List.mem_cons, exists_eq_or_imp, or_assoc]
theorem rQN_bit {L : PN} {p : Nat × Nat} {x y z : Nat} (hx : x < 13) (hy : y < 13) : ∀ (l : PN) (tb : List Nat), tb.length = 169 → (rQN L p l tb).length = 169 ∧ (tbit (rQN L p l tb) x y z = true ↔ tbit tb x y z = true ∨ ∃ q ∈ l, ∃ r ∈ L, rN p q = x ∧ rN q r = y ∧ rN p r = z)
  | [], tb, h => ⟨h, by simp [rQN]⟩
  | q :: l, tb, h => by
    obtain ⟨g1, g2⟩ := rRN_bit (p := p) (q := q) (z := z) hx hy L tb h
    obtain ⟨h1, h2⟩ := rQN_bit (L := L) (p := p) (z := z) hx hy l (rRN L p q tb) g1
    refine ⟨h1, h2.trans ?_⟩
    rw [g2]
    simp only [List.mem_cons, exists_eq_or_imp, or_assoc]
theorem rPN_bit {L : PN} {x y z : Nat} (hx : x < 13) (hy : y < 13) : ∀ (l : PN) (tb : List Nat), tb.length = 169 → (rPN L l tb).length = 169 ∧ (tbit (rPN L l tb) x y z = true ↔ tbit tb x y z = true ∨ ∃ p ∈ l, ∃ q ∈ L, ∃ r ∈ L, rN p q = x ∧ rN q r = y ∧ rN p r = z)
  | [], tb, h => ⟨h, by simp [rPN]⟩
  | p :: l, tb, h => by
    obtain ⟨g1, g2⟩ := rQN_bit (L := L) (p := p) (z := z) hx hy L tb h
    obtain ⟨h1, h2⟩ := rPN_bit (L := L) (z := z) hx hy l (rQN L p L tb) g1
    refine ⟨h1, h2.trans ?_⟩
    rw [g2]
    simp only [List.mem_cons, exists_eq_or_imp, or_assoc]
attribute [local irreducible] maskN rPN rowP persN pers
def compsN : List Nat := rPN (persN 6 6) (persN 6 6) (List.replicate 169 0)
theorem comps_eq : comps = toZ compsN ∧ bnd13 compsN := by
  have hL : ∀ r ∈ persN 6 6, okP r := fun r h => (persN_ok (by omega) r h).1
  have := rP_eq hL (persN 6 6) (List.replicate 169 0) hL (fun x hx => by rw [List.eq_of_mem_replicate hx]; decide)
  refine ⟨?_, this.2⟩
  have e : (List.replicate 169 0 : List Int) = toZ (List.replicate 169 0) := by simp [toZ]
  unfold comps compsN
  rw [e, pers_eq]
  exact this.1
theorem compsN_len : compsN.length = 169 := by
  have := comps_len
  rw [comps_eq.1] at this
  simpa [toZ] using this
/-- Which relations a composition has. -/
theorem compsN_bit {a b c : Nat} (ha : a < 13) (hb : b < 13) (hc : c < 13) : tbit compsN a b c = (maskN (persN 6 5)).testBit (169 * a + 13 * b + c) := by
  rw [← mask_val, Bool.eq_iff_iff, maskN_bit _ a b c ha hb hc]
  have := (rPN_bit (L := persN 6 6) (z := c) ha hb (persN 6 6) (List.replicate 169 0) (by simp)).2
  unfold compsN
  rw [this]
  have h0 : tbit (List.replicate 169 0) a b c = false := by
    unfold tbit
    rw [List.getD_eq_getElem?_getD, List.getElem?_replicate, if_pos (by omega)]
    simp
  rw [h0]
  simp only [Bool.false_eq_true, false_or]
def tabV : List Nat := (List.range 169).map fun i => (maskN (persN 6 5) >>> (13 * i)) % 8192
theorem compsN_val : compsN = tabV := by
  apply List.ext_getElem
  · rw [compsN_len]; simp [tabV]
  · intro i h1 h2
    rw [compsN_len] at h1
    have hb := comps_eq.2 compsN[i] (List.getElem_mem _)
    apply Nat.eq_of_testBit_eq
    intro c
    simp only [tabV, List.getElem_map, List.getElem_range]
    rw [show (8192 : Nat) = 2 ^ 13 from rfl, Nat.testBit_mod_two_pow, Nat.testBit_shiftRight]
    by_cases hc : c < 13
    · have := compsN_bit (a := i / 13) (b := i % 13) (c := c) (by omega) (by omega) hc
      unfold tbit at this
      rw [List.getD_eq_getElem?_getD, show i / 13 * 13 + i % 13 = i by omega, List.getElem?_eq_getElem (by rw [compsN_len]; exact h1)] at this
      simp only [Option.getD_some] at this
      rw [this, show 169 * (i / 13) + 13 * (i % 13) + c = 13 * i + c by omega]
      simp [hc]
    · have : compsN[i] < 2 ^ c := Nat.lt_of_lt_of_le hb (show 2 ^ 13 ≤ 2 ^ c from Nat.pow_le_pow_right (by omega) (by omega))
      rw [Nat.testBit_lt_two_pow this]
      simp [hc]
end Go.Proofs
