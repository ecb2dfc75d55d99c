/- The compositions of the program are those of the reference. No condition. -/
import Derived.Test.YthphpladhhcchaaA13
set_option linter.unusedSimpArgs false
set_option linter.unusedVariables false
set_option maxRecDepth 10000
set_option maxHeartbeats 4000000
namespace Go.Proofs
open Go.Bi

theorem set_bit {tb : List Bool} {i n : Nat} (h : n < tb.length) : (tb.set i true).getD n false = true ↔ tb.getD n false = true ∨ i = n := by
  rw [List.getD_eq_getElem?_getD, List.getElem?_set]
  by_cases e : i = n
  · subst e; simp [h]
  · rw [if_neg e, ← List.getD_eq_getElem?_getD]; simp [e]
theorem tRr_bit (L : List (Int × Int)) (p q : Int × Int) (n : Nat) : ∀ (l : List (Int × Int)) (tb : List Bool), n < tb.length → ((tRr L l p q tb).getD n false = true ↔ tb.getD n false = true ∨ ∃ r ∈ l, trI (relQ p q) (relQ q r) (relQ p r) = n)
  | [], tb, h => by simp [tRr]
  | r :: l, tb, h => by
    have := tRr_bit L p q n l (tb.set (trI (relQ p q) (relQ q r) (relQ p r)) true) (by simpa using h)
    refine this.trans ?_
    rw [set_bit h]
    simp only [List.mem_cons, exists_eq_or_imp, or_assoc]
theorem tRq_bit (L : List (Int × Int)) (p : Int × Int) (n : Nat) : ∀ (l : List (Int × Int)) (tb : List Bool), n < tb.length → ((tRq L l p tb).getD n false = true ↔ tb.getD n false = true ∨ ∃ q ∈ l, ∃ r ∈ L, trI (relQ p q) (relQ q r) (relQ p r) = n)
  | [], tb, h => by simp [tRq]
  | q :: l, tb, h => by
    have := tRq_bit L p n l (tRr L L p q tb) (by rw [tRr_len]; exact h)
    refine this.trans ?_
    rw [tRr_bit L p q n L tb h]
    simp only [List.mem_cons, exists_eq_or_imp, or_assoc]
theorem tRp_bit (L : List (Int × Int)) (n : Nat) : ∀ (l : List (Int × Int)) (tb : List Bool), n < tb.length → ((tRp L l tb).getD n false = true ↔ tb.getD n false = true ∨ ∃ p ∈ l, ∃ q ∈ L, ∃ r ∈ L, trI (relQ p q) (relQ q r) (relQ p r) = n)
  | [], tb, h => by simp [tRp]
  | p :: l, tb, h => by
    have := tRp_bit L n l (tRq L L p tb) (by rw [tRq_len]; exact h)
    refine this.trans ?_
    rw [tRq_bit L p n L tb h]
    simp only [List.mem_cons, exists_eq_or_imp, or_assoc]
theorem trI_eq {p q r : Nat × Nat} (hp : okP p) (hq : okP q) (hr : okP r) : trI (relQ (toP p) (toP q)) (relQ (toP q) (toP r)) (relQ (toP p) (toP r)) = 169 * rN p q + 13 * rN q r + rN p r := by
  rw [relQ_eq hp hq, relQ_eq hq hr, relQ_eq hp hr]
  unfold trI
  omega
attribute [local irreducible] maskN
theorem tableR_bit {a b c : Nat} (ha : a < 13) (hb : b < 13) (hc : c < 13) : tableR.getD (169 * a + 13 * b + c) false = (maskN (persN 6 5)).testBit (169 * a + 13 * b + c) := by
  rw [Bool.eq_iff_iff, maskN_bit _ a b c ha hb hc]
  have hL : ∀ r ∈ persN 6 5, okP r := fun r h => (persN_ok (by omega) r h).1
  have hlen : 169 * a + 13 * b + c < (List.replicate 2197 false).length := by rw [List.length_replicate]; omega
  have := tRp_bit (pers 6 5) (169 * a + 13 * b + c) (pers 6 5) (List.replicate 2197 false) hlen
  unfold tableR
  refine this.trans ?_
  have h0 : (List.replicate 2197 false).getD (169 * a + 13 * b + c) false = false := by
    rw [List.getD_eq_getElem?_getD, List.getElem?_replicate, if_pos (by rw [List.length_replicate] at hlen; exact hlen)]; rfl
  rw [h0, pers_eq]
  constructor
  · rintro (h | ⟨p, hp, q, hq, r, hr, h⟩)
    · cases h
    · obtain ⟨p, hp1, rfl⟩ := List.mem_map.1 hp
      obtain ⟨q, hq1, rfl⟩ := List.mem_map.1 hq
      obtain ⟨r, hr1, rfl⟩ := List.mem_map.1 hr
      rw [trI_eq (hL p hp1) (hL q hq1) (hL r hr1)] at h
      have h1 := rN_lt p q
      have h2 := rN_lt q r
      have h3 := rN_lt p r
      exact ⟨p, hp1, q, hq1, r, hr1, by omega, by omega, by omega⟩
  · rintro ⟨p, hp, q, hq, r, hr, h1, h2, h3⟩
    refine .inr ⟨toP p, List.mem_map.2 ⟨p, hp, rfl⟩, toP q, List.mem_map.2 ⟨q, hq, rfl⟩, toP r, List.mem_map.2 ⟨r, hr, rfl⟩, ?_⟩
    rw [trI_eq (hL p hp) (hL q hq) (hL r hr), h1, h2, h3]
theorem comps_has {a b c : Nat} (ha : a < 13) (hb : b < 13) (hc : c < 13) : sHas (tAt comps a b) c = (maskN (persN 6 5)).testBit (169 * a + 13 * b + c) := by
  rw [← compsN_bit ha hb hc, comps_eq.1]
  unfold tAt
  rw [toZ_getD, sHas_nat _ _ (Nat.lt_trans (bnd13_get comps_eq.2 _) (by omega)) (by omega)]
  rfl
theorem compose_eq (a b : Int) : compose a b = rCompose a b := by
  unfold compose rCompose
  split
  · rename_i h
    have h' : (0 ≤ a ∧ a < 13) ∧ (0 ≤ b ∧ b < 13) := by simpa [isRel] using h
    obtain ⟨m, rfl⟩ : ∃ m : Nat, a = m := ⟨a.toNat, by omega⟩
    obtain ⟨n, rfl⟩ : ∃ m : Nat, b = m := ⟨b.toNat, by omega⟩
    unfold sList sUpto cUpto
    refine List.filter_congr fun x hx => ?_
    obtain ⟨c, hc, rfl⟩ := List.mem_map.1 hx
    have hc := List.mem_range.1 hc
    rw [comps_has (by omega) (by omega) hc, ← tableR_bit (by omega) (by omega) hc]
    unfold trI
    congr 1
  · rfl
theorem compose_len (a b : Int) : (compose a b).length ≤ 13 := by
  unfold compose
  split
  · exact sUpto_len _ 13
  · exact Nat.zero_le _
theorem L.AllenCompose (a b : Int) : Pure Try.prog N.bt_law02_AllenCompose [.d (eI a), .d (eI b)] (.d (.bool true)) := by
  refine F.bt_law02_AllenCompose.go mixed rfl ?_
  have h1 := C.allen_Compose a b
  have h2 := C.ref_Compose a b
  have h3 := C.ref_Ints (compose a b) (rCompose a b) (by have := compose_len a b; omega) (eL (compose a b)) (eL (rCompose a b)) sld_nsl sld_nsl
  rw [← compose_eq] at h2 h3
  rw [decide_eq_true (rfl : compose a b = compose a b)] at h3
  generalize eL (compose a b) = d at h1 h2 h3
  repeat' first
    | ((with_reducible apply go_i); (conv => whnf))
    | ((with_reducible apply k_pc); (· first | exact h1 | exact h2 | exact h3 | exact C.awake))
    | with_reducible apply k_caf
    | with_reducible apply k_n
    | ((with_reducible apply k_dt); (· first | assumption | omega))
    | ((with_reducible apply k_df); (· first | assumption | omega))
    | (with_reducible apply k_d <;> intro _)
    | with_reducible apply k_a
    | with_reducible apply k_o
    | ((with_reducible apply k_bt); (· assumption))
    | ((with_reducible apply k_bf); (· assumption))
    | ((with_reducible apply k_gc); (· assumption))
    | ((with_reducible apply k_gcs); (· assumption); (· first | assumption | omega | (simp only [List.length_cons, List.length_nil, List.length_map]; omega)))
    | ((with_reducible apply k_ste); (· assumption); (· first | assumption | omega))
    | ((with_reducible apply k_stc); (· first | assumption | omega | (simp only [List.length_cons, List.length_nil, List.length_map]; omega) | (simp; done)))
    | (with_reducible apply k_b <;> intro _)
    | ((with_reducible apply k_fz); (· assumption))
    | with_reducible apply k_mp
    | ((with_reducible apply k_wr); (· omega); (· omega))
    | with_reducible apply k_ww
    | ((with_reducible apply k_chk); (· first | omega | assumption | exact rfl | (simp only [List.length_cons, List.length_nil]; omega) | exact wrapu_nn _ | (intro e he; obtain ⟨x, _, rfl⟩ := List.mem_map.1 he; exact rfl) | (intro e he; cases List.mem_singleton.1 he; rfl) | (simp; done)))
    | ((with_reducible apply k_sl); (· first | assumption | exact sld_nsl | exact sld_sl | exact sld_nil | exact sld_cond (by assumption)))
end Go.Proofs
