/- The relation of p to r is among the compositions, as a contract over data. No condition. -/
import Derived.Test.YthphpladhhcchaaA15
set_option linter.unusedSimpArgs false
set_option linter.unusedVariables false
set_option maxRecDepth 10000
set_option maxHeartbeats 4000000
namespace Go.Proofs
open Go.Bi

def rank (E : List Int) (x : Int) : Nat := E.countP fun e => decide (e < x)
theorem rank_le {x y : Int} (h : x ≤ y) : ∀ (E : List Int), rank E x ≤ rank E y
  | [] => Nat.le_refl _
  | e :: E => by
    have ih := rank_le h E
    unfold rank at *
    simp only [List.countP_cons, decide_eq_true_eq]
    split <;> split <;> omega
theorem rank_lt {x y : Int} (h : x < y) : ∀ (E : List Int), x ∈ E → rank E x < rank E y
  | e :: E, hx => by
    have ih := rank_le (Int.le_of_lt h) E
    rcases List.mem_cons.1 hx with rfl | hx
    · unfold rank at *
      simp only [List.countP_cons, decide_eq_true_eq]
      rw [if_neg (by omega), if_pos h]
      omega
    · have ih := rank_lt h E hx
      unfold rank at *
      simp only [List.countP_cons, decide_eq_true_eq]
      split <;> split <;> omega
theorem rank_max {x : Int} : ∀ (E : List Int), x ∈ E → rank E x < E.length
  | e :: E, hx => by
    have hle : rank E x ≤ E.length := List.countP_le_length
    rcases List.mem_cons.1 hx with rfl | hx
    · unfold rank at *
      simp only [List.countP_cons, decide_eq_true_eq, List.length_cons]
      rw [if_neg (by omega)]
      omega
    · have ih := rank_max E hx
      unfold rank at *
      simp only [List.countP_cons, decide_eq_true_eq, List.length_cons]
      split <;> omega
theorem rank_iff {E : List Int} {x y : Int} (hx : x ∈ E) (hy : y ∈ E) : ((rank E x : Int) < (rank E y : Int) ↔ x < y) ∧ ((rank E x : Int) = (rank E y : Int) ↔ x = y) := by
  rcases Int.lt_trichotomy x y with h | h | h
  · have := rank_lt h E hx; omega
  · subst h; omega
  · have := rank_lt h E hy; omega
theorem rel_rank {E : List Int} {p q : Int × Int} (hp : validQ p = true) (hq : validQ q = true) (h1 : p.1 ∈ E) (h2 : p.2 ∈ E) (h3 : q.1 ∈ E) (h4 : q.2 ∈ E) (hE : E.length = 6) :
    (rN (rank E p.1, rank E p.2) (rank E q.1, rank E q.2) : Int) = relQ p q := by
  have m1 := rank_max E h1
  have m2 := rank_max E h2
  have m3 := rank_max E h3
  have m4 := rank_max E h4
  have vp : valid p.1 p.2 = true := hp
  have vq : valid q.1 q.2 = true := hq
  have e1 := vp
  have e2 := vq
  simp only [valid, decide_eq_true_eq] at e1 e2
  have l1 := (rank_iff h1 h2).1.2 e1.2.1
  have l2 := (rank_iff h3 h4).1.2 e2.2.1
  have op : okP (rank E p.1, rank E p.2) := ⟨by show rank E p.1 < rank E p.2; omega, by show rank E p.2 ≤ _; omega⟩
  have oq : okP (rank E q.1, rank E q.2) := ⟨by show rank E q.1 < rank E q.2; omega, by show rank E q.2 ≤ _; omega⟩
  rw [← relQ_eq op oq]
  unfold relQ toP
  dsimp only
  have v1 : (valid (rank E p.1) (rank E p.2) && valid (rank E q.1) (rank E q.2)) = true := by
    simp only [valid, Bool.and_eq_true, decide_eq_true_eq]; omega
  have v2 : (valid p.1 p.2 && valid q.1 q.2) = true := by rw [vp, vq]; rfl
  unfold rel
  rw [if_pos v1, if_pos v2]
  simp only [(rank_iff h2 h3).1, (rank_iff h2 h3).2, (rank_iff h4 h1).1, (rank_iff h4 h1).2, (rank_iff h1 h3).1, (rank_iff h1 h3).2, (rank_iff h3 h1).1, (rank_iff h2 h4).1, (rank_iff h2 h4).2, (rank_iff h4 h2).1, gt_iff_lt]
theorem compose_mem {p q r : Int × Int} (hp : validQ p = true) (hq : validQ q = true) (hr : validQ r = true) : relQ p r ∈ compose (relQ p q) (relQ q r) := by
  have a1 := rel_range p.1 p.2 q.1 q.2
  have a2 := rel_range q.1 q.2 r.1 r.2
  have a3 := rel_range p.1 p.2 r.1 r.2
  change 0 ≤ relQ p q ∧ relQ p q < 13 at a1
  change 0 ≤ relQ q r ∧ relQ q r < 13 at a2
  change 0 ≤ relQ p r ∧ relQ p r < 13 at a3
  have key : ∃ p' ∈ persN 6 5, ∃ q' ∈ persN 6 5, ∃ r' ∈ persN 6 5, (rN p' q' : Int) = relQ p q ∧ (rN q' r' : Int) = relQ q r ∧ (rN p' r' : Int) = relQ p r := by
    have vp : valid p.1 p.2 = true := hp
    have vq : valid q.1 q.2 = true := hq
    have vr : valid r.1 r.2 = true := hr
    simp only [valid, decide_eq_true_eq] at vp vq vr
    have mem : ∀ s : Int × Int, s = p ∨ s = q ∨ s = r → s.1 ∈ [p.1, p.2, q.1, q.2, r.1, r.2] ∧ s.2 ∈ [p.1, p.2, q.1, q.2, r.1, r.2] := by
      rintro s (rfl | rfl | rfl) <;> simp
    have hin : ∀ s : Int × Int, (s = p ∨ s = q ∨ s = r) → s.1 < s.2 → (rank [p.1, p.2, q.1, q.2, r.1, r.2] s.1, rank [p.1, p.2, q.1, q.2, r.1, r.2] s.2) ∈ persN 6 5 := by
      intro s hs hlt
      obtain ⟨h1, h2⟩ := mem s hs
      have g1 := rank_max _ h1
      have g2 := rank_max _ h2
      have g3 := rank_lt hlt _ h1
      simp only [List.length_cons, List.length_nil] at g1 g2
      exact persN_mem (by omega) g3 (by omega)
    refine ⟨_, hin p (.inl rfl) vp.2.1, _, hin q (.inr (.inl rfl)) vq.2.1, _, hin r (.inr (.inr rfl)) vr.2.1, ?_, ?_, ?_⟩
    · exact rel_rank hp hq (mem p (.inl rfl)).1 (mem p (.inl rfl)).2 (mem q (.inr (.inl rfl))).1 (mem q (.inr (.inl rfl))).2 rfl
    · exact rel_rank hq hr (mem q (.inr (.inl rfl))).1 (mem q (.inr (.inl rfl))).2 (mem r (.inr (.inr rfl))).1 (mem r (.inr (.inr rfl))).2 rfl
    · exact rel_rank hp hr (mem p (.inl rfl)).1 (mem p (.inl rfl)).2 (mem r (.inr (.inr rfl))).1 (mem r (.inr (.inr rfl))).2 rfl
  obtain ⟨a, ha⟩ : ∃ n : Nat, relQ p q = n := ⟨(relQ p q).toNat, by omega⟩
  obtain ⟨b, hb⟩ : ∃ n : Nat, relQ q r = n := ⟨(relQ q r).toNat, by omega⟩
  obtain ⟨c, hc⟩ : ∃ n : Nat, relQ p r = n := ⟨(relQ p r).toNat, by omega⟩
  rw [ha, hb, hc] at key ⊢
  rw [ha] at a1
  rw [hb] at a2
  rw [hc] at a3
  obtain ⟨p', hp', q', hq', r', hr', k1, k2, k3⟩ := key
  have hbit : (maskN (persN 6 5)).testBit (169 * a + 13 * b + c) = true := (maskN_bit _ a b c (by omega) (by omega) (by omega)).2 ⟨p', hp', q', hq', r', hr', by omega, by omega, by omega⟩
  rw [← comps_has (by omega) (by omega) (by omega)] at hbit
  unfold compose
  have hab : (isRel a && isRel b) = true := by simp [isRel]; omega
  rw [if_pos hab]
  unfold sList sUpto
  exact List.mem_filter.2 ⟨List.mem_map.2 ⟨c, List.mem_range.2 (by omega), rfl⟩, hbit⟩
theorem L.AllenComposes (p q r : Int × Int) : Pure Try.prog N.bt_law02_AllenComposes [eP p.1 p.2, eP q.1 q.2, eP r.1 r.2] (.d (.bool true)) := by
  refine F.bt_law02_AllenComposes.go mixed rfl ?_
  have hR1 := C.allen_Relation p.1 p.2 q.1 q.2
  have hR2 := C.allen_Relation q.1 q.2 r.1 r.2
  have hR3 := C.allen_Relation p.1 p.2 r.1 r.2
  have hv1 := C.ref_Valid1 p.1 p.2
  have hv2 := C.ref_Valid1 q.1 q.2
  have hv3 := C.ref_Valid1 r.1 r.2
  rw [rel_is] at hR1 hR2 hR3
  have hm := @compose_mem p q r
  unfold validQ at hm
  have hl := compose_len (relQ p q) (relQ q r)
  have hC := C.allen_Compose (relQ p q) (relQ q r)
  change Pure _ _ _ (.tup [.d (.int .i64 (relQ p q)), _]) at hR1
  change Pure _ _ _ (.tup [.d (.int .i64 (relQ q r)), _]) at hR2
  change Pure _ _ _ (.tup [.d (.int .i64 (relQ p r)), _]) at hR3
  generalize relQ p q = a at *
  generalize relQ q r = b at *
  generalize relQ p r = c at *
  generalize compose a b = l at *
  generalize valid p.1 p.2 = v1 at *
  generalize valid q.1 q.2 = v2 at *
  generalize valid r.1 r.2 = v3 at *
  by_cases hall : v1 = true ∧ v2 = true ∧ v3 = true
  · obtain ⟨rfl, rfl, rfl⟩ := hall
    have hm := hm rfl rfl rfl
    repeat' first
      | ((with_reducible apply go_i); (conv => whnf))
      | ((with_reducible apply k_pc); (· first | exact hR1 | exact hR2 | exact hR3 | exact hC))
      | with_reducible apply k_caf
      | with_reducible apply k_n
      | ((with_reducible apply k_dt); (· first | assumption | omega))
      | ((with_reducible apply k_df); (· first | assumption | omega))
      | (with_reducible apply k_d <;> intro _)
      | with_reducible apply k_a
      | with_reducible apply k_o
      | ((with_reducible apply k_bt); (· assumption))
      | ((with_reducible apply k_bf); (· assumption))
      | ((with_reducible apply k_gc); (· assumption))
      | ((with_reducible apply k_gcs); (· assumption); (· first | assumption | omega | (simp only [List.length_cons, List.length_nil, List.length_map]; omega)))
      | ((with_reducible apply k_ste); (· assumption); (· first | assumption | omega))
      | ((with_reducible apply k_stc); (· first | assumption | omega | (simp only [List.length_cons, List.length_nil, List.length_map]; omega) | (simp; done)))
      | (with_reducible apply k_b <;> intro _)
      | ((with_reducible apply k_fz); (· assumption))
      | with_reducible apply k_mp
      | ((with_reducible apply k_wr); (· omega); (· omega))
      | with_reducible apply k_ww
      | ((with_reducible apply k_chk); (· first | omega | assumption | exact rfl | (simp only [List.length_cons, List.length_nil]; omega) | exact wrapu_nn _ | (intro e he; obtain ⟨x, _, rfl⟩ := List.mem_map.1 he; exact rfl) | (intro e he; cases List.mem_singleton.1 he; rfl) | (simp; done)))
      | ((with_reducible apply k_sl); (· first | assumption | exact sld_nsl | exact sld_sl | exact sld_nil | exact sld_cond (by assumption)))
    have hll := eIs_len l
    refine x_loop2 mixed Lt.bt_law02_AllenComposes_l0 Lk.bt_law02_AllenComposes_l0 (fun (i : Nat) (f : Bool) => [.d (.bool f), .d (eI i)]) (fun i f => [.cells [.d (eI p.1), .d (eI p.2)], .cells [.d (eI q.1), .d (eI q.2)], .cells [.d (eI r.1), .d (eI r.2)]]) (fun i f => i ≤ l.length ∧ f = (l.take i).any fun x => decide (x = c)) (fun i _ => l.length - i) 0 false rfl rfl rfl rfl (fun _ _ _ => ⟨rfl, rfl⟩) rfl ⟨by omega, rfl⟩ ?_
    repeat' first
      | ((with_reducible apply go_i); (conv => whnf))
      | with_reducible apply k_caf
      | with_reducible apply k_n
      | ((with_reducible apply k_dt); (· first | assumption | omega))
      | ((with_reducible apply k_df); (· first | assumption | omega))
      | (with_reducible apply k_d <;> intro _)
      | with_reducible apply k_a
      | with_reducible apply k_o
      | ((with_reducible apply k_bt); (· assumption))
      | ((with_reducible apply k_bf); (· assumption))
      | ((with_reducible apply k_gc); (· assumption))
      | ((with_reducible apply k_gcs); (· assumption); (· first | assumption | omega | (simp only [List.length_cons, List.length_nil, List.length_map]; omega)))
      | ((with_reducible apply k_ste); (· assumption); (· first | assumption | omega))
      | ((with_reducible apply k_stc); (· first | assumption | omega | (simp only [List.length_cons, List.length_nil, List.length_map]; omega) | (simp; done)))
      | (with_reducible apply k_b <;> intro _)
      | ((with_reducible apply k_fz); (· assumption))
      | with_reducible apply k_mp
      | ((with_reducible apply k_wr); (· omega); (· omega))
      | with_reducible apply k_ww
      | ((with_reducible apply k_chk); (· first | omega | assumption | exact rfl | (simp only [List.length_cons, List.length_nil]; omega) | exact wrapu_nn _ | (intro e he; obtain ⟨x, _, rfl⟩ := List.mem_map.1 he; exact rfl) | (intro e he; cases List.mem_singleton.1 he; rfl) | (simp; done)))
      | ((with_reducible apply k_sl); (· first | assumption | exact sld_nsl | exact sld_sl | exact sld_nil | exact sld_cond (by assumption)))
    intro i f ⟨h1, h2⟩
    cases hx : l[i]? with
    | some x =>
      have hlt := (List.getElem?_eq_some_iff.1 hx).1
      have he := eIs_get hx
      have hs : ((l.take (i + 1)).any fun x => decide (x = c)) = (f || decide (x = c)) := by
        rw [h2, List.take_add_one, hx, List.any_append]; simp
      cases f with
      | true =>
        repeat' first
          | ((with_reducible apply go_i); (conv => whnf))
          | with_reducible apply k_caf
          | with_reducible apply k_n
          | ((with_reducible apply k_dt); (· first | assumption | omega))
          | ((with_reducible apply k_df); (· first | assumption | omega))
          | (with_reducible apply k_d <;> intro _)
          | with_reducible apply k_a
          | with_reducible apply k_o
          | ((with_reducible apply k_bt); (· assumption))
          | ((with_reducible apply k_bf); (· assumption))
          | ((with_reducible apply k_gc); (· assumption))
          | ((with_reducible apply k_gcs); (· assumption); (· first | assumption | omega | (simp only [List.length_cons, List.length_nil, List.length_map]; omega)))
          | ((with_reducible apply k_ste); (· assumption); (· first | assumption | omega))
          | ((with_reducible apply k_stc); (· first | assumption | omega | (simp only [List.length_cons, List.length_nil, List.length_map]; omega) | (simp; done)))
          | (with_reducible apply k_b <;> intro _)
          | ((with_reducible apply k_fz); (· assumption))
          | with_reducible apply k_mp
          | ((with_reducible apply k_wr); (· omega); (· omega))
          | with_reducible apply k_ww
          | ((with_reducible apply k_chk); (· first | omega | assumption | exact rfl | (simp only [List.length_cons, List.length_nil]; omega) | exact wrapu_nn _ | (intro e he; obtain ⟨x, _, rfl⟩ := List.mem_map.1 he; exact rfl) | (intro e he; cases List.mem_singleton.1 he; rfl) | (simp; done)))
          | ((with_reducible apply k_sl); (· first | assumption | exact sld_nsl | exact sld_sl | exact sld_nil | exact sld_cond (by assumption)))
        exact ⟨i + 1, true, rfl, rfl, rfl, by omega, by omega, by rw [hs]; rfl⟩
      | false =>
        repeat' first
          | ((with_reducible apply go_i); (conv => whnf))
          | with_reducible apply k_caf
          | with_reducible apply k_n
          | ((with_reducible apply k_dt); (· first | assumption | omega))
          | ((with_reducible apply k_df); (· first | assumption | omega))
          | (with_reducible apply k_d <;> intro _)
          | with_reducible apply k_a
          | with_reducible apply k_o
          | ((with_reducible apply k_bt); (· assumption))
          | ((with_reducible apply k_bf); (· assumption))
          | ((with_reducible apply k_gc); (· assumption))
          | ((with_reducible apply k_gcs); (· assumption); (· first | assumption | omega | (simp only [List.length_cons, List.length_nil, List.length_map]; omega)))
          | ((with_reducible apply k_ste); (· assumption); (· first | assumption | omega))
          | ((with_reducible apply k_stc); (· first | assumption | omega | (simp only [List.length_cons, List.length_nil, List.length_map]; omega) | (simp; done)))
          | (with_reducible apply k_b <;> intro _)
          | ((with_reducible apply k_fz); (· assumption))
          | with_reducible apply k_mp
          | ((with_reducible apply k_wr); (· omega); (· omega))
          | with_reducible apply k_ww
          | ((with_reducible apply k_chk); (· first | omega | assumption | exact rfl | (simp only [List.length_cons, List.length_nil]; omega) | exact wrapu_nn _ | (intro e he; obtain ⟨x, _, rfl⟩ := List.mem_map.1 he; exact rfl) | (intro e he; cases List.mem_singleton.1 he; rfl) | (simp; done)))
          | ((with_reducible apply k_sl); (· first | assumption | exact sld_nsl | exact sld_sl | exact sld_nil | exact sld_cond (by assumption)))
        exact ⟨i + 1, _, rfl, rfl, rfl, by omega, by omega, by rw [hs]; rfl⟩
    | none =>
      have hge := List.getElem?_eq_none_iff.1 hx
      have hf : f = true := by
        rw [h2, List.take_of_length_le hge, List.any_eq_true]
        exact ⟨c, hm, by simp⟩
      subst hf
      repeat' first
        | ((with_reducible apply go_i); (conv => whnf))
        | ((with_reducible apply k_pc); (· first | exact C.awake))
        | with_reducible apply k_caf
        | with_reducible apply k_n
        | ((with_reducible apply k_dt); (· first | assumption | omega))
        | ((with_reducible apply k_df); (· first | assumption | omega))
        | (with_reducible apply k_d <;> intro _)
        | with_reducible apply k_a
        | with_reducible apply k_o
        | ((with_reducible apply k_bt); (· assumption))
        | ((with_reducible apply k_bf); (· assumption))
        | ((with_reducible apply k_gc); (· assumption))
        | ((with_reducible apply k_gcs); (· assumption); (· first | assumption | omega | (simp only [List.length_cons, List.length_nil, List.length_map]; omega)))
        | ((with_reducible apply k_ste); (· assumption); (· first | assumption | omega))
        | ((with_reducible apply k_stc); (· first | assumption | omega | (simp only [List.length_cons, List.length_nil, List.length_map]; omega) | (simp; done)))
        | (with_reducible apply k_b <;> intro _)
        | ((with_reducible apply k_fz); (· assumption))
        | with_reducible apply k_mp
        | ((with_reducible apply k_wr); (· omega); (· omega))
        | with_reducible apply k_ww
        | ((with_reducible apply k_chk); (· first | omega | assumption | exact rfl | (simp only [List.length_cons, List.length_nil]; omega) | exact wrapu_nn _ | (intro e he; obtain ⟨x, _, rfl⟩ := List.mem_map.1 he; exact rfl) | (intro e he; cases List.mem_singleton.1 he; rfl) | (simp; done)))
        | ((with_reducible apply k_sl); (· first | assumption | exact sld_nsl | exact sld_sl | exact sld_nil | exact sld_cond (by assumption)))
  · have hh : v1 = false ∨ v2 = false ∨ v3 = false := by cases v1 <;> cases v2 <;> cases v3 <;> simp at hall ⊢
    cases v1 <;> cases v2 <;> cases v3
    all_goals first | (exfalso; simp at hh; done) | skip
    all_goals repeat' first
      | ((with_reducible apply go_i); (conv => whnf))
      | ((with_reducible apply k_pc); (· first | exact hR1 | exact hR2 | exact hR3 | exact hv1 | exact hv2 | exact hv3 | exact C.awake))
      | with_reducible apply k_caf
      | with_reducible apply k_n
      | ((with_reducible apply k_dt); (· first | assumption | omega))
      | ((with_reducible apply k_df); (· first | assumption | omega))
      | (with_reducible apply k_d <;> intro _)
      | with_reducible apply k_a
      | with_reducible apply k_o
      | ((with_reducible apply k_bt); (· assumption))
      | ((with_reducible apply k_bf); (· assumption))
      | ((with_reducible apply k_gc); (· assumption))
      | ((with_reducible apply k_gcs); (· assumption); (· first | assumption | omega | (simp only [List.length_cons, List.length_nil, List.length_map]; omega)))
      | ((with_reducible apply k_ste); (· assumption); (· first | assumption | omega))
      | ((with_reducible apply k_stc); (· first | assumption | omega | (simp only [List.length_cons, List.length_nil, List.length_map]; omega) | (simp; done)))
      | (with_reducible apply k_b <;> intro _)
      | ((with_reducible apply k_fz); (· assumption))
      | with_reducible apply k_mp
      | ((with_reducible apply k_wr); (· omega); (· omega))
      | with_reducible apply k_ww
      | ((with_reducible apply k_chk); (· first | omega | assumption | exact rfl | (simp only [List.length_cons, List.length_nil]; omega) | exact wrapu_nn _ | (intro e he; obtain ⟨x, _, rfl⟩ := List.mem_map.1 he; exact rfl) | (intro e he; cases List.mem_singleton.1 he; rfl) | (simp; done)))
      | ((with_reducible apply k_sl); (· first | assumption | exact sld_nsl | exact sld_sl | exact sld_nil | exact sld_cond (by assumption)))
end Go.Proofs
