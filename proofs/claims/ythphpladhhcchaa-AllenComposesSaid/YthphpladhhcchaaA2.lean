/- The contract of the table of compositions. No condition. -/
import Derived.Test.YthphpladhhcchaaA1
set_option linter.unusedSimpArgs false
set_option maxRecDepth 10000
set_option maxHeartbeats 4000000
namespace Go.Proofs
open Go.Bi

/-- A period's cells. -/
def eQ (p : Int × Int) : List D := [eI p.1, eI p.2]
def eQs (l : List (Int × Int)) : List (List D) := l.map eQ
def perPart (i t : Nat) : List (Int × Int) := (List.range (t - i - 1)).map fun k => ((i : Int), ((i + 1 + k : Nat) : Int))
def pers (n m : Nat) : List (Int × Int) := (List.range n).flatMap fun i => perPart i (m + 1)
theorem perPart_succ {i t : Nat} (h : i + 1 ≤ t) : perPart i (t + 1) = perPart i t ++ [((i : Int), (t : Int))] := by
  unfold perPart
  rw [show t + 1 - i - 1 = (t - i - 1) + 1 by omega, List.range_succ, List.map_append]
  simp only [List.map_cons, List.map_nil]
  rw [show i + 1 + (t - i - 1) = t by omega]
theorem pers_succ (n m : Nat) : pers (n + 1) m = pers n m ++ perPart n (m + 1) := by
  unfold pers; rw [List.range_succ, List.flatMap_append]; simp
theorem rel_range (a b c d : Int) : 0 ≤ (rel a b c d).1 ∧ (rel a b c d).1 < 13 := by
  by_cases h : (valid a b && valid c d) = true
  · rw [rel, if_pos h]
    dsimp only
    repeat' split
    all_goals omega
  · rw [rel, if_neg h]
    exact ⟨by decide, by decide⟩
def dU (tb : List Int) : List D := tb.map eU
def cU (tb : List Int) : List AV := (dU tb).map .d
def upd3 (tb : List Int) (a b c : Int) : List Int := tb.set (a.toNat * 13 + b.toNat) (sOr (tb.getD (a.toNat * 13 + b.toNat) 0) (sOne c))
def relQ (p q : Int × Int) : Int := (rel p.1 p.2 q.1 q.2).1
def rowR (l : List (Int × Int)) (p q : Int × Int) (tb : List Int) : List Int := l.foldl (fun tb r => upd3 tb (relQ p q) (relQ q r) (relQ p r)) tb
def rowQ (L : List (Int × Int)) (p : Int × Int) (l : List (Int × Int)) (tb : List Int) : List Int := l.foldl (fun tb q => rowR L p q tb) tb
def rowP (L : List (Int × Int)) (l : List (Int × Int)) (tb : List Int) : List Int := l.foldl (fun tb p => rowQ L p L tb) tb
def comps : List Int := rowP (pers 6 6) (pers 6 6) (List.replicate 169 0)
theorem rowR_succ {l : List (Int × Int)} {p q r : Int × Int} {tb : List Int} {i : Nat} (h : l[i]? = some r) : rowR (l.take (i + 1)) p q tb = upd3 (rowR (l.take i) p q tb) (relQ p q) (relQ q r) (relQ p r) := foldl_take_succ _ _ _ _ _ h
theorem rowQ_succ {L l : List (Int × Int)} {p q : Int × Int} {tb : List Int} {i : Nat} (h : l[i]? = some q) : rowQ L p (l.take (i + 1)) tb = rowR L p q (rowQ L p (l.take i) tb) := foldl_take_succ _ _ _ _ _ h
theorem rowP_succ {L l : List (Int × Int)} {p : Int × Int} {tb : List Int} {i : Nat} (h : l[i]? = some p) : rowP L (l.take (i + 1)) tb = rowQ L p L (rowP L (l.take i) tb) := foldl_take_succ _ _ _ _ _ h
theorem upd3_len (tb : List Int) (a b c : Int) : (upd3 tb a b c).length = tb.length := by simp [upd3]
theorem rowR_len (l : List (Int × Int)) (p q : Int × Int) (tb : List Int) : (rowR l p q tb).length = tb.length := by
  unfold rowR
  induction l generalizing tb with
  | nil => rfl
  | cons r l ih => rw [List.foldl_cons, ih, upd3_len]
theorem rowQ_len (L : List (Int × Int)) (p : Int × Int) (l : List (Int × Int)) (tb : List Int) : (rowQ L p l tb).length = tb.length := by
  unfold rowQ
  induction l generalizing tb with
  | nil => rfl
  | cons r l ih => rw [List.foldl_cons, ih, rowR_len]
theorem rowP_len (L : List (Int × Int)) (l : List (Int × Int)) (tb : List Int) : (rowP L l tb).length = tb.length := by
  unfold rowP
  induction l generalizing tb with
  | nil => rfl
  | cons r l ih => rw [List.foldl_cons, ih, rowQ_len]
theorem cU_one {tb : List Int} {n : Nat} (h : n < tb.length) : ((cU tb).drop n).take 1 = [.d (eU (tb.getD n 0))] := by
  unfold cU dU
  rw [← List.map_drop, ← List.map_take, ← List.map_drop, ← List.map_take, List.take_one]
  simp [h]
theorem cU_set {tb : List Int} {n : Nat} {s : Int} (h : n < tb.length) : setR (cU tb) n [.d (eU s)] = cU (tb.set n s) := by
  unfold setR cU dU
  simp only [List.length_cons, List.length_nil, Nat.zero_add]
  rw [List.set_eq_take_append_cons_drop, if_pos h]
  simp [List.map_take, List.map_drop]
theorem cU_len (tb : List Int) : (cU tb).length = tb.length := by simp [cU, dU]
theorem cU_bnd (m : Nat) (tb : List Int) : (cU tb).all (fun c => c.bnd1B m) = true := by simp [cU, AV.bnd1B]
theorem eQs_get {l : List (Int × Int)} {i : Nat} {p : Int × Int} (h : l[i]? = some p) : (eQs l)[i]? = some [eI p.1, eI p.2] := by simp [eQs, h, eQ]
theorem C.allen_compositions : Pure Try.prog N.allen_compositions [] (.agg (cU comps)) := by
  unfold comps
  refine F.allen_compositions.go mixed rfl ?_
  repeat' first
    | ((with_reducible apply go_i); (conv => whnf))
    | with_reducible apply k_caf
    | with_reducible apply k_n
    | ((with_reducible apply k_dt); (· first | assumption | omega))
    | ((with_reducible apply k_df); (· first | assumption | omega))
    | (with_reducible apply k_d <;> intro _)
    | with_reducible apply k_a
    | with_reducible apply k_o
    | ((with_reducible apply k_bt); (· assumption))
    | ((with_reducible apply k_bf); (· assumption))
    | ((with_reducible apply k_gc); (· assumption))
    | ((with_reducible apply k_gcs); (· assumption); (· first | assumption | omega | (simp only [List.length_cons, List.length_nil, List.length_map]; omega)))
    | ((with_reducible apply k_ste); (· assumption); (· first | assumption | omega))
    | ((with_reducible apply k_stc); (· first | assumption | omega | (simp only [List.length_cons, List.length_nil, List.length_map]; omega) | (simp; done)))
    | (with_reducible apply k_b <;> intro _)
    | ((with_reducible apply k_fz); (· assumption))
    | with_reducible apply k_mp
    | ((with_reducible apply k_wr); (· omega); (· omega))
    | with_reducible apply k_ww
    | ((with_reducible apply k_chk); (· first | omega | assumption | exact rfl | (simp only [List.length_cons, List.length_nil]; omega) | exact wrapu_nn _ | (intro e he; obtain ⟨x, _, rfl⟩ := List.mem_map.1 he; exact rfl) | (intro e he; cases List.mem_singleton.1 he; rfl) | (simp; done)))
    | ((with_reducible apply k_sl); (· first | assumption | exact sld_nsl | exact sld_sl | exact sld_nil | exact sld_cond (by assumption)))
  refine x_nil 1 2 rfl rfl ?_
  repeat' first
    | ((with_reducible apply go_i); (conv => whnf))
    | with_reducible apply k_caf
    | with_reducible apply k_n
    | ((with_reducible apply k_dt); (· first | assumption | omega))
    | ((with_reducible apply k_df); (· first | assumption | omega))
    | (with_reducible apply k_d <;> intro _)
    | with_reducible apply k_a
    | with_reducible apply k_o
    | ((with_reducible apply k_bt); (· assumption))
    | ((with_reducible apply k_bf); (· assumption))
    | ((with_reducible apply k_gc); (· assumption))
    | ((with_reducible apply k_gcs); (· assumption); (· first | assumption | omega | (simp only [List.length_cons, List.length_nil, List.length_map]; omega)))
    | ((with_reducible apply k_ste); (· assumption); (· first | assumption | omega))
    | ((with_reducible apply k_stc); (· first | assumption | omega | (simp only [List.length_cons, List.length_nil, List.length_map]; omega) | (simp; done)))
    | (with_reducible apply k_b <;> intro _)
    | ((with_reducible apply k_fz); (· assumption))
    | with_reducible apply k_mp
    | ((with_reducible apply k_wr); (· omega); (· omega))
    | with_reducible apply k_ww
    | ((with_reducible apply k_chk); (· first | omega | assumption | exact rfl | (simp only [List.length_cons, List.length_nil]; omega) | exact wrapu_nn _ | (intro e he; obtain ⟨x, _, rfl⟩ := List.mem_map.1 he; exact rfl) | (intro e he; cases List.mem_singleton.1 he; rfl) | (simp; done)))
    | ((with_reducible apply k_sl); (· first | assumption | exact sld_nsl | exact sld_sl | exact sld_nil | exact sld_cond (by assumption)))
  refine x_loop3 mixed [1, 17] [0] (fun (i : Nat) (es : List (List D)) (nl : Bool) => [.arr 1 es.length, .d (eI i)]) (fun i es nl => [.cells (List.replicate 169 (.d (eU 0))), .arr es 2 0 nl]) (fun i es nl => i ≤ 6 ∧ es = eQs (pers i 6) ∧ es.length ≤ 10 * i ∧ nl = es.isEmpty) (fun i _ _ => 6 - i) 0 [] true rfl rfl rfl rfl (fun _ _ _ _ => ⟨rfl, rfl⟩) rfl ⟨by omega, rfl, by simp, rfl⟩ ?_
  repeat' first
    | ((with_reducible apply go_i); (conv => whnf))
    | with_reducible apply k_caf
    | with_reducible apply k_n
    | ((with_reducible apply k_dt); (· first | assumption | omega))
    | ((with_reducible apply k_df); (· first | assumption | omega))
    | (with_reducible apply k_d <;> intro _)
    | with_reducible apply k_a
    | with_reducible apply k_o
    | ((with_reducible apply k_bt); (· assumption))
    | ((with_reducible apply k_bf); (· assumption))
    | ((with_reducible apply k_gc); (· assumption))
    | ((with_reducible apply k_gcs); (· assumption); (· first | assumption | omega | (simp only [List.length_cons, List.length_nil, List.length_map]; omega)))
    | ((with_reducible apply k_ste); (· assumption); (· first | assumption | omega))
    | ((with_reducible apply k_stc); (· first | assumption | omega | (simp only [List.length_cons, List.length_nil, List.length_map]; omega) | (simp; done)))
    | (with_reducible apply k_b <;> intro _)
    | ((with_reducible apply k_fz); (· assumption))
    | with_reducible apply k_mp
    | ((with_reducible apply k_wr); (· omega); (· omega))
    | with_reducible apply k_ww
    | ((with_reducible apply k_chk); (· first | omega | assumption | exact rfl | (simp only [List.length_cons, List.length_nil]; omega) | exact wrapu_nn _ | (intro e he; obtain ⟨x, _, rfl⟩ := List.mem_map.1 he; exact rfl) | (intro e he; cases List.mem_singleton.1 he; rfl) | (simp; done)))
    | ((with_reducible apply k_sl); (· first | assumption | exact sld_nsl | exact sld_sl | exact sld_nil | exact sld_cond (by assumption)))
  intro i es nl ⟨h1, h2, h3, h4⟩
  repeat' first
    | ((with_reducible apply go_i); (conv => whnf))
    | with_reducible apply k_caf
    | with_reducible apply k_n
    | ((with_reducible apply k_dt); (· first | assumption | omega))
    | ((with_reducible apply k_df); (· first | assumption | omega))
    | (with_reducible apply k_d <;> intro _)
    | with_reducible apply k_a
    | with_reducible apply k_o
    | ((with_reducible apply k_bt); (· assumption))
    | ((with_reducible apply k_bf); (· assumption))
    | ((with_reducible apply k_gc); (· assumption))
    | ((with_reducible apply k_gcs); (· assumption); (· first | assumption | omega | (simp only [List.length_cons, List.length_nil, List.length_map]; omega)))
    | ((with_reducible apply k_ste); (· assumption); (· first | assumption | omega))
    | ((with_reducible apply k_stc); (· first | assumption | omega | (simp only [List.length_cons, List.length_nil, List.length_map]; omega) | (simp; done)))
    | (with_reducible apply k_b <;> intro _)
    | ((with_reducible apply k_fz); (· assumption))
    | with_reducible apply k_mp
    | ((with_reducible apply k_wr); (· omega); (· omega))
    | with_reducible apply k_ww
    | ((with_reducible apply k_chk); (· first | omega | assumption | exact rfl | (simp only [List.length_cons, List.length_nil]; omega) | exact wrapu_nn _ | (intro e he; obtain ⟨x, _, rfl⟩ := List.mem_map.1 he; exact rfl) | (intro e he; cases List.mem_singleton.1 he; rfl) | (simp; done)))
    | ((with_reducible apply k_sl); (· first | assumption | exact sld_nsl | exact sld_sl | exact sld_nil | exact sld_cond (by assumption)))
  · refine x_loop3 mixed [1, 3] [0, 2, 17] (fun (t : Nat) (es : List (List D)) (nl : Bool) => [.arr 1 es.length, .d (eI t)]) (fun i es nl => [.cells (List.replicate 169 (.d (eU 0))), .arr es 2 0 nl]) (fun t es' nl => i + 1 ≤ t ∧ t ≤ 7 ∧ es' = es ++ eQs (perPart i t) ∧ es'.length + i + 1 ≤ 10 * i + t ∧ nl = es'.isEmpty) (fun t _ _ => 7 - t) (i + 1) es nl rfl rfl rfl rfl (fun _ _ _ _ => ⟨rfl, rfl⟩) rfl ⟨by omega, by omega, by simp [perPart, eQs], by omega, h4⟩ ?_
    repeat' first
      | ((with_reducible apply go_i); (conv => whnf))
      | with_reducible apply k_caf
      | with_reducible apply k_n
      | ((with_reducible apply k_dt); (· first | assumption | omega))
      | ((with_reducible apply k_df); (· first | assumption | omega))
      | (with_reducible apply k_d <;> intro _)
      | with_reducible apply k_a
      | with_reducible apply k_o
      | ((with_reducible apply k_bt); (· assumption))
      | ((with_reducible apply k_bf); (· assumption))
      | ((with_reducible apply k_gc); (· assumption))
      | ((with_reducible apply k_gcs); (· assumption); (· first | assumption | omega | (simp only [List.length_cons, List.length_nil, List.length_map]; omega)))
      | ((with_reducible apply k_ste); (· assumption); (· first | assumption | omega))
      | ((with_reducible apply k_stc); (· first | assumption | omega | (simp only [List.length_cons, List.length_nil, List.length_map]; omega) | (simp; done)))
      | (with_reducible apply k_b <;> intro _)
      | ((with_reducible apply k_fz); (· assumption))
      | with_reducible apply k_mp
      | ((with_reducible apply k_wr); (· omega); (· omega))
      | with_reducible apply k_ww
      | ((with_reducible apply k_chk); (· first | omega | assumption | exact rfl | (simp only [List.length_cons, List.length_nil]; omega) | exact wrapu_nn _ | (intro e he; obtain ⟨x, _, rfl⟩ := List.mem_map.1 he; exact rfl) | (intro e he; cases List.mem_singleton.1 he; rfl) | (simp; done)))
      | ((with_reducible apply k_sl); (· first | assumption | exact sld_nsl | exact sld_sl | exact sld_nil | exact sld_cond (by assumption)))
    intro t es' nl' ⟨k1, k2, k3, k4, k5⟩
    repeat' first
      | ((with_reducible apply go_i); (conv => whnf))
      | with_reducible apply k_caf
      | with_reducible apply k_n
      | ((with_reducible apply k_dt); (· first | assumption | omega))
      | ((with_reducible apply k_df); (· first | assumption | omega))
      | (with_reducible apply k_d <;> intro _)
      | with_reducible apply k_a
      | with_reducible apply k_o
      | ((with_reducible apply k_bt); (· assumption))
      | ((with_reducible apply k_bf); (· assumption))
      | ((with_reducible apply k_gc); (· assumption))
      | ((with_reducible apply k_gcs); (· assumption); (· first | assumption | omega | (simp only [List.length_cons, List.length_nil, List.length_map]; omega)))
      | ((with_reducible apply k_ste); (· assumption); (· first | assumption | omega))
      | ((with_reducible apply k_stc); (· first | assumption | omega | (simp only [List.length_cons, List.length_nil, List.length_map]; omega) | (simp; done)))
      | (with_reducible apply k_b <;> intro _)
      | ((with_reducible apply k_fz); (· assumption))
      | with_reducible apply k_mp
      | ((with_reducible apply k_wr); (· omega); (· omega))
      | with_reducible apply k_ww
      | ((with_reducible apply k_chk); (· first | omega | assumption | exact rfl | (simp only [List.length_cons, List.length_nil]; omega) | exact wrapu_nn _ | (intro e he; obtain ⟨x, _, rfl⟩ := List.mem_map.1 he; exact rfl) | (intro e he; cases List.mem_singleton.1 he; rfl) | (simp; done)))
      | ((with_reducible apply k_sl); (· first | assumption | exact sld_nsl | exact sld_sl | exact sld_nil | exact sld_cond (by assumption)))
    · refine ⟨t + 1, _, _, rfl, rfl, rfl, by omega, by omega, by omega, ?_, by simp; omega, by simp⟩
      rw [k3, perPart_succ k1]; simp [eQs, eQ]
    · have : t = 7 := by omega
      subst this
      refine ⟨i + 1, _, _, rfl, rfl, rfl, by omega, by omega, ?_, by omega, k5⟩
      rw [k3, h2, pers_succ]; simp [eQs]
  · have : i = 6 := by omega
    subst this
    have hL : (pers 6 6).length = 21 := by decide
    generalize pers 6 6 = PL at hL h2 ⊢
    have hes : es.length = 21 := by rw [h2]; simp [eQs, hL]
    obtain rfl : nl = false := by rw [h4]; cases es with
      | nil => simp at hes
      | cons a l => rfl
    have hz : cU (List.replicate 169 0) = (List.replicate 169 (eU 0)).map .d := rfl
    refine x_loop2 mixed [35] [0, 1, 4, 33, 34] (fun (i : Nat) (cs : List AV) => [.d (eI i)]) (fun i cs => [.cells ((List.replicate 169 (eU 0)).map .d), .arr es 2 0 false, .cells cs]) (fun i cs => i ≤ 21 ∧ cs = cU (rowP PL (PL.take i) (List.replicate 169 0))) (fun i _ => 21 - i) 0 _ rfl rfl rfl rfl (fun i cs h => ⟨rfl, ?_⟩) rfl ⟨by omega, rfl⟩ ?_
    · rw [h.2]; simp [AO.bndB, cU, AV.bnd1B]
    repeat' first
      | ((with_reducible apply go_i); (conv => whnf))
      | with_reducible apply k_caf
      | with_reducible apply k_n
      | ((with_reducible apply k_dt); (· first | assumption | omega))
      | ((with_reducible apply k_df); (· first | assumption | omega))
      | (with_reducible apply k_d <;> intro _)
      | with_reducible apply k_a
      | with_reducible apply k_o
      | ((with_reducible apply k_bt); (· assumption))
      | ((with_reducible apply k_bf); (· assumption))
      | ((with_reducible apply k_gc); (· assumption))
      | ((with_reducible apply k_gcs); (· assumption); (· first | assumption | omega | (simp only [List.length_cons, List.length_nil, List.length_map]; omega)))
      | ((with_reducible apply k_ste); (· assumption); (· first | assumption | omega))
      | ((with_reducible apply k_stc); (· first | assumption | omega | (simp only [List.length_cons, List.length_nil, List.length_map]; omega) | (simp; done)))
      | (with_reducible apply k_b <;> intro _)
      | ((with_reducible apply k_fz); (· assumption))
      | with_reducible apply k_mp
      | ((with_reducible apply k_wr); (· omega); (· omega))
      | with_reducible apply k_ww
      | ((with_reducible apply k_chk); (· first | omega | assumption | exact rfl | (simp only [List.length_cons, List.length_nil]; omega) | exact wrapu_nn _ | (intro e he; obtain ⟨x, _, rfl⟩ := List.mem_map.1 he; exact rfl) | (intro e he; cases List.mem_singleton.1 he; rfl) | (simp; done)))
      | ((with_reducible apply k_sl); (· first | assumption | exact sld_nsl | exact sld_sl | exact sld_nil | exact sld_cond (by assumption)))
    intro i cs ⟨k1, k2⟩
    have hl1 : cs.length = 169 := by rw [k2, cU_len, rowP_len]; rfl
    have hc1 : Nat.beq 169 cs.length = true := by rw [hl1]; rfl
    have hc2 : Nat.beq cs.length 169 = true := by rw [hl1]; rfl
    cases hx : PL[i]? with
    | some p =>
      have hlt := (List.getElem?_eq_some_iff.1 hx).1
      have hep := eQs_get hx
      rw [← h2] at hep
      repeat' first
        | ((with_reducible apply go_i); (conv => whnf))
        | with_reducible apply k_caf
        | with_reducible apply k_n
        | ((with_reducible apply k_dt); (· first | assumption | omega))
        | ((with_reducible apply k_df); (· first | assumption | omega))
        | (with_reducible apply k_d <;> intro _)
        | with_reducible apply k_a
        | with_reducible apply k_o
        | ((with_reducible apply k_bt); (· assumption))
        | ((with_reducible apply k_bf); (· assumption))
        | ((with_reducible apply k_gc); (· assumption))
        | ((with_reducible apply k_gcs); (· assumption); (· first | assumption | omega | (simp only [List.length_cons, List.length_nil, List.length_map]; omega)))
        | ((with_reducible apply k_ste); (· assumption); (· first | assumption | omega))
        | ((with_reducible apply k_stc); (· first | assumption | omega | (simp only [List.length_cons, List.length_nil, List.length_map]; omega) | (simp; done)))
        | (with_reducible apply k_b <;> intro _)
        | ((with_reducible apply k_fz); (· assumption))
        | with_reducible apply k_mp
        | ((with_reducible apply k_wr); (· omega); (· omega))
        | with_reducible apply k_ww
        | ((with_reducible apply k_chk); (· first | omega | assumption | exact rfl | (simp only [List.length_cons, List.length_nil]; omega) | exact wrapu_nn _ | (intro e he; obtain ⟨x, _, rfl⟩ := List.mem_map.1 he; exact rfl) | (intro e he; cases List.mem_singleton.1 he; rfl) | (simp; done)))
        | ((with_reducible apply k_sl); (· first | assumption | exact sld_nsl | exact sld_sl | exact sld_nil | exact sld_cond (by assumption)))
      refine x_loop2 mixed [41] [0, 1, 4, 6, 33, 34, 35, 39, 40] (fun (i : Nat) (cs : List AV) => [.d (eI i)]) (fun i cs => [.cells ((List.replicate 169 (eU 0)).map .d), .arr es 2 0 false, .cells cs, .cells [.d (eI p.1), .d (eI p.2)]]) (fun i2 cs => i2 ≤ 21 ∧ cs = cU (rowQ PL p (PL.take i2) (rowP PL (PL.take i) (List.replicate 169 0)))) (fun i _ => 21 - i) 0 _ rfl rfl rfl rfl (fun i cs h => ⟨rfl, ?_⟩) rfl ⟨by omega, k2⟩ ?_
      · rw [h.2]; simp [AO.bndB, cU, AV.bnd1B]
      repeat' first
        | ((with_reducible apply go_i); (conv => whnf))
        | with_reducible apply k_caf
        | with_reducible apply k_n
        | ((with_reducible apply k_dt); (· first | assumption | omega))
        | ((with_reducible apply k_df); (· first | assumption | omega))
        | (with_reducible apply k_d <;> intro _)
        | with_reducible apply k_a
        | with_reducible apply k_o
        | ((with_reducible apply k_bt); (· assumption))
        | ((with_reducible apply k_bf); (· assumption))
        | ((with_reducible apply k_gc); (· assumption))
        | ((with_reducible apply k_gcs); (· assumption); (· first | assumption | omega | (simp only [List.length_cons, List.length_nil, List.length_map]; omega)))
        | ((with_reducible apply k_ste); (· assumption); (· first | assumption | omega))
        | ((with_reducible apply k_stc); (· first | assumption | omega | (simp only [List.length_cons, List.length_nil, List.length_map]; omega) | (simp; done)))
        | (with_reducible apply k_b <;> intro _)
        | ((with_reducible apply k_fz); (· assumption))
        | with_reducible apply k_mp
        | ((with_reducible apply k_wr); (· omega); (· omega))
        | with_reducible apply k_ww
        | ((with_reducible apply k_chk); (· first | omega | assumption | exact rfl | (simp only [List.length_cons, List.length_nil]; omega) | exact wrapu_nn _ | (intro e he; obtain ⟨x, _, rfl⟩ := List.mem_map.1 he; exact rfl) | (intro e he; cases List.mem_singleton.1 he; rfl) | (simp; done)))
        | ((with_reducible apply k_sl); (· first | assumption | exact sld_nsl | exact sld_sl | exact sld_nil | exact sld_cond (by assumption)))
      intro i2 cs2 ⟨k3, k4⟩
      cases hx2 : PL[i2]? with
      | some q =>
        have hlt2 := (List.getElem?_eq_some_iff.1 hx2).1
        have heq := eQs_get hx2
        rw [← h2] at heq
        repeat' first
          | ((with_reducible apply go_i); (conv => whnf))
          | ((with_reducible apply k_pc); (· first | exact C.allen_Relation _ _ _ _))
          | with_reducible apply k_caf
          | with_reducible apply k_n
          | ((with_reducible apply k_dt); (· first | assumption | omega))
          | ((with_reducible apply k_df); (· first | assumption | omega))
          | (with_reducible apply k_d <;> intro _)
          | with_reducible apply k_a
          | with_reducible apply k_o
          | ((with_reducible apply k_bt); (· assumption))
          | ((with_reducible apply k_bf); (· assumption))
          | ((with_reducible apply k_gc); (· assumption))
          | ((with_reducible apply k_gcs); (· assumption); (· first | assumption | omega | (simp only [List.length_cons, List.length_nil, List.length_map]; omega)))
          | ((with_reducible apply k_ste); (· assumption); (· first | assumption | omega))
          | ((with_reducible apply k_stc); (· first | assumption | omega | (simp only [List.length_cons, List.length_nil, List.length_map]; omega) | (simp; done)))
          | (with_reducible apply k_b <;> intro _)
          | ((with_reducible apply k_fz); (· assumption))
          | with_reducible apply k_mp
          | ((with_reducible apply k_wr); (· omega); (· omega))
          | with_reducible apply k_ww
          | ((with_reducible apply k_chk); (· first | omega | assumption | exact rfl | (simp only [List.length_cons, List.length_nil]; omega) | exact wrapu_nn _ | (intro e he; obtain ⟨x, _, rfl⟩ := List.mem_map.1 he; exact rfl) | (intro e he; cases List.mem_singleton.1 he; rfl) | (simp; done)))
          | ((with_reducible apply k_sl); (· first | assumption | exact sld_nsl | exact sld_sl | exact sld_nil | exact sld_cond (by assumption)))
        refine x_loop2 mixed [53] [0, 1, 4, 6, 8, 9, 33, 34, 35, 39, 40, 41, 51, 52] (fun (i : Nat) (cs : List AV) => [.d (eI i)]) (fun i cs => [.cells ((List.replicate 169 (eU 0)).map .d), .arr es 2 0 false, .cells cs, .cells [.d (eI p.1), .d (eI p.2)], .cells [.d (eI q.1), .d (eI q.2)]]) (fun i3 cs => i3 ≤ 21 ∧ cs = cU (rowR (PL.take i3) p q (rowQ PL p (PL.take i2) (rowP PL (PL.take i) (List.replicate 169 0))))) (fun i _ => 21 - i) 0 _ rfl rfl rfl rfl (fun i cs h => ⟨rfl, ?_⟩) rfl ⟨by omega, k4⟩ ?_
        · rw [h.2]; simp [AO.bndB, cU, AV.bnd1B]
        repeat' first
          | ((with_reducible apply go_i); (conv => whnf))
          | with_reducible apply k_caf
          | with_reducible apply k_n
          | ((with_reducible apply k_dt); (· first | assumption | omega))
          | ((with_reducible apply k_df); (· first | assumption | omega))
          | (with_reducible apply k_d <;> intro _)
          | with_reducible apply k_a
          | with_reducible apply k_o
          | ((with_reducible apply k_bt); (· assumption))
          | ((with_reducible apply k_bf); (· assumption))
          | ((with_reducible apply k_gc); (· assumption))
          | ((with_reducible apply k_gcs); (· assumption); (· first | assumption | omega | (simp only [List.length_cons, List.length_nil, List.length_map]; omega)))
          | ((with_reducible apply k_ste); (· assumption); (· first | assumption | omega))
          | ((with_reducible apply k_stc); (· first | assumption | omega | (simp only [List.length_cons, List.length_nil, List.length_map]; omega) | (simp; done)))
          | (with_reducible apply k_b <;> intro _)
          | ((with_reducible apply k_fz); (· assumption))
          | with_reducible apply k_mp
          | ((with_reducible apply k_wr); (· omega); (· omega))
          | with_reducible apply k_ww
          | ((with_reducible apply k_chk); (· first | omega | assumption | exact rfl | (simp only [List.length_cons, List.length_nil]; omega) | exact wrapu_nn _ | (intro e he; obtain ⟨x, _, rfl⟩ := List.mem_map.1 he; exact rfl) | (intro e he; cases List.mem_singleton.1 he; rfl) | (simp; done)))
          | ((with_reducible apply k_sl); (· first | assumption | exact sld_nsl | exact sld_sl | exact sld_nil | exact sld_cond (by assumption)))
        intro i3 cs3 ⟨k5, k6⟩
        cases hx3 : PL[i3]? with
        | some r =>
          have hlt3 := (List.getElem?_eq_some_iff.1 hx3).1
          have her := eQs_get hx3
          rw [← h2] at her
          have ha := rel_range p.1 p.2 q.1 q.2
          have hb := rel_range q.1 q.2 r.1 r.2
          have hl3 : (rowR (PL.take i3) p q (rowQ PL p (PL.take i2) (rowP PL (PL.take i) (List.replicate 169 0)))).length = 169 := by rw [rowR_len, rowQ_len, rowP_len]; rfl
          have hc3 : Nat.beq 1 cs3.length = false := by rw [k6, cU_len, hl3]; rfl
          have hg : (cs3.drop (0 + (rel p.1 p.2 q.1 q.2).1.toNat * 13 + (rel q.1 q.2 r.1 r.2).1.toNat * 1)).take 1 = [.d (eU ((rowR (PL.take i3) p q (rowQ PL p (PL.take i2) (rowP PL (PL.take i) (List.replicate 169 0)))).getD (0 + (rel p.1 p.2 q.1 q.2).1.toNat * 13 + (rel q.1 q.2 r.1 r.2).1.toNat * 1) 0))] := by
            rw [k6]; exact cU_one (by rw [hl3]; omega)
          have hl4 : 0 + (rel p.1 p.2 q.1 q.2).1.toNat * 13 + (rel q.1 q.2 r.1 r.2).1.toNat * 1 + 1 ≤ cs3.length := by rw [k6, cU_len, hl3]; omega
          repeat' first
            | ((with_reducible apply go_i); (conv => whnf))
            | ((with_reducible apply k_pc); (· first | exact C.allen_Relation _ _ _ _ | exact C.allen_one _ | exact C.allen_set_or _ _))
            | with_reducible apply k_caf
            | with_reducible apply k_n
            | ((with_reducible apply k_dt); (· first | assumption | omega))
            | ((with_reducible apply k_df); (· first | assumption | omega))
            | (with_reducible apply k_d <;> intro _)
            | with_reducible apply k_a
            | with_reducible apply k_o
            | ((with_reducible apply k_bt); (· assumption))
            | ((with_reducible apply k_bf); (· assumption))
            | ((with_reducible apply k_gc); (· assumption))
            | ((with_reducible apply k_gcs); (· assumption); (· first | assumption | omega | (simp only [List.length_cons, List.length_nil, List.length_map]; omega)))
            | ((with_reducible apply k_ste); (· assumption); (· first | assumption | omega))
            | ((with_reducible apply k_stc); (· first | assumption | omega | (simp only [List.length_cons, List.length_nil, List.length_map]; omega) | (simp; done)))
            | (with_reducible apply k_b <;> intro _)
            | ((with_reducible apply k_fz); (· assumption))
            | with_reducible apply k_mp
            | ((with_reducible apply k_wr); (· omega); (· omega))
            | with_reducible apply k_ww
            | ((with_reducible apply k_chk); (· first | omega | assumption | exact rfl | (simp only [List.length_cons, List.length_nil]; omega) | exact wrapu_nn _ | (intro e he; obtain ⟨x, _, rfl⟩ := List.mem_map.1 he; exact rfl) | (intro e he; cases List.mem_singleton.1 he; rfl) | (simp; done)))
            | ((with_reducible apply k_sl); (· first | assumption | exact sld_nsl | exact sld_sl | exact sld_nil | exact sld_cond (by assumption)))
          refine ⟨i3 + 1, _, rfl, rfl, rfl, by omega, by omega, ?_⟩
          rw [rowR_succ hx3, k6, cU_set (by rw [hl3]; omega)]
          simp only [upd3, relQ, Nat.zero_add, Nat.mul_one]
        | none =>
          have hge := List.getElem?_eq_none_iff.1 hx3
          repeat' first
            | ((with_reducible apply go_i); (conv => whnf))
            | with_reducible apply k_caf
            | with_reducible apply k_n
            | ((with_reducible apply k_dt); (· first | assumption | omega))
            | ((with_reducible apply k_df); (· first | assumption | omega))
            | (with_reducible apply k_d <;> intro _)
            | with_reducible apply k_a
            | with_reducible apply k_o
            | ((with_reducible apply k_bt); (· assumption))
            | ((with_reducible apply k_bf); (· assumption))
            | ((with_reducible apply k_gc); (· assumption))
            | ((with_reducible apply k_gcs); (· assumption); (· first | assumption | omega | (simp only [List.length_cons, List.length_nil, List.length_map]; omega)))
            | ((with_reducible apply k_ste); (· assumption); (· first | assumption | omega))
            | ((with_reducible apply k_stc); (· first | assumption | omega | (simp only [List.length_cons, List.length_nil, List.length_map]; omega) | (simp; done)))
            | (with_reducible apply k_b <;> intro _)
            | ((with_reducible apply k_fz); (· assumption))
            | with_reducible apply k_mp
            | ((with_reducible apply k_wr); (· omega); (· omega))
            | with_reducible apply k_ww
            | ((with_reducible apply k_chk); (· first | omega | assumption | exact rfl | (simp only [List.length_cons, List.length_nil]; omega) | exact wrapu_nn _ | (intro e he; obtain ⟨x, _, rfl⟩ := List.mem_map.1 he; exact rfl) | (intro e he; cases List.mem_singleton.1 he; rfl) | (simp; done)))
            | ((with_reducible apply k_sl); (· first | assumption | exact sld_nsl | exact sld_sl | exact sld_nil | exact sld_cond (by assumption)))
          refine ⟨i2 + 1, _, rfl, rfl, rfl, by omega, by omega, ?_⟩
          rw [k6, List.take_of_length_le hge, rowQ_succ hx2]
      | none =>
        have hge := List.getElem?_eq_none_iff.1 hx2
        repeat' first
          | ((with_reducible apply go_i); (conv => whnf))
          | with_reducible apply k_caf
          | with_reducible apply k_n
          | ((with_reducible apply k_dt); (· first | assumption | omega))
          | ((with_reducible apply k_df); (· first | assumption | omega))
          | (with_reducible apply k_d <;> intro _)
          | with_reducible apply k_a
          | with_reducible apply k_o
          | ((with_reducible apply k_bt); (· assumption))
          | ((with_reducible apply k_bf); (· assumption))
          | ((with_reducible apply k_gc); (· assumption))
          | ((with_reducible apply k_gcs); (· assumption); (· first | assumption | omega | (simp only [List.length_cons, List.length_nil, List.length_map]; omega)))
          | ((with_reducible apply k_ste); (· assumption); (· first | assumption | omega))
          | ((with_reducible apply k_stc); (· first | assumption | omega | (simp only [List.length_cons, List.length_nil, List.length_map]; omega) | (simp; done)))
          | (with_reducible apply k_b <;> intro _)
          | ((with_reducible apply k_fz); (· assumption))
          | with_reducible apply k_mp
          | ((with_reducible apply k_wr); (· omega); (· omega))
          | with_reducible apply k_ww
          | ((with_reducible apply k_chk); (· first | omega | assumption | exact rfl | (simp only [List.length_cons, List.length_nil]; omega) | exact wrapu_nn _ | (intro e he; obtain ⟨x, _, rfl⟩ := List.mem_map.1 he; exact rfl) | (intro e he; cases List.mem_singleton.1 he; rfl) | (simp; done)))
          | ((with_reducible apply k_sl); (· first | assumption | exact sld_nsl | exact sld_sl | exact sld_nil | exact sld_cond (by assumption)))
        refine ⟨i + 1, _, rfl, rfl, rfl, by omega, by omega, ?_⟩
        rw [k4, List.take_of_length_le hge, rowP_succ hx]
    | none =>
      have hge := List.getElem?_eq_none_iff.1 hx
      have hfz : cs = (dU (rowP PL (PL.take i) (List.replicate 169 0))).map .d := k2
      repeat' first
        | ((with_reducible apply go_i); (conv => whnf))
        | with_reducible apply k_caf
        | with_reducible apply k_n
        | ((with_reducible apply k_dt); (· first | assumption | omega))
        | ((with_reducible apply k_df); (· first | assumption | omega))
        | (with_reducible apply k_d <;> intro _)
        | with_reducible apply k_a
        | with_reducible apply k_o
        | ((with_reducible apply k_bt); (· assumption))
        | ((with_reducible apply k_bf); (· assumption))
        | ((with_reducible apply k_gc); (· assumption))
        | ((with_reducible apply k_gcs); (· assumption); (· first | assumption | omega | (simp only [List.length_cons, List.length_nil, List.length_map]; omega)))
        | ((with_reducible apply k_ste); (· assumption); (· first | assumption | omega))
        | ((with_reducible apply k_stc); (· first | assumption | omega | (simp only [List.length_cons, List.length_nil, List.length_map]; omega) | (simp; done)))
        | (with_reducible apply k_b <;> intro _)
        | ((with_reducible apply k_fz); (· assumption))
        | with_reducible apply k_mp
        | ((with_reducible apply k_wr); (· omega); (· omega))
        | with_reducible apply k_ww
        | ((with_reducible apply k_chk); (· first | omega | assumption | exact rfl | (simp only [List.length_cons, List.length_nil]; omega) | exact wrapu_nn _ | (intro e he; obtain ⟨x, _, rfl⟩ := List.mem_map.1 he; exact rfl) | (intro e he; cases List.mem_singleton.1 he; rfl) | (simp; done)))
        | ((with_reducible apply k_sl); (· first | assumption | exact sld_nsl | exact sld_sl | exact sld_nil | exact sld_cond (by assumption)))
      rw [List.take_of_length_le hge]; rfl
end Go.Proofs
