/- Contracts: narrowed, Tighten, Satisfied. No condition. -/
import Derived.Test.YthphpladhhcchaaA4
set_option linter.unusedSimpArgs false
set_option maxRecDepth 10000
set_option maxHeartbeats 4000000
namespace Go.Proofs
open Go.Bi

def nJ (T : List Int) (k i : Nat) (ws : List Int) (j : Nat) : List Int := nSet ws i j (sAnd (nAt ws i j) (tcA T (nAt ws i k) (nAt ws k j) 13))
def nRow (T : List Int) (k i : Nat) (ws : List Int) (n : Nat) : List Int := (List.range n).foldl (nJ T k i) ws
def nMat (T : List Int) (n k : Nat) (ws : List Int) (m : Nat) : List Int := (List.range m).foldl (fun ws i => nRow T k i ws n) ws
def narrow (T : List Int) (n : Nat) (ws : List Int) (m : Nat) : List Int := (List.range m).foldl (fun ws k => nMat T n k ws n) ws
theorem nRow_len (T : List Int) (k i : Nat) (ws : List Int) (n : Nat) : (nRow T k i ws n).length = ws.length := by
  unfold nRow
  induction n with
  | zero => rfl
  | succ n ih => rw [range_fold, nJ, nSet_len, ih]
theorem nMat_len (T : List Int) (n k : Nat) (ws : List Int) (m : Nat) : (nMat T n k ws m).length = ws.length := by
  unfold nMat
  induction m with
  | zero => rfl
  | succ n ih => rw [range_fold, nRow_len, ih]
theorem narrow_len (T : List Int) (n : Nat) (ws : List Int) (m : Nat) : (narrow T n ws m).length = ws.length := by
  unfold narrow
  induction m with
  | zero => rfl
  | succ n ih => rw [range_fold, nMat_len, ih]

theorem C.nw0 (T : List Int) (hT : T.length = 169) (n : Nat) (hn : n ≤ 8) (ws : List Int) (hw : ws.length = 64) : CallSpec Try.prog N.allen_narrowed [.agg (cU ws), .d (eI n), .ptr 0 0] [.cells (cU T)] (fun r os' => r = .agg (cU (narrow T n ws n)) ∧ os' = [.cells (cU T)]) := by
  refine F.allen_narrowed.goX mixed rfl ?_
  have hc2 := n_beq2 hw
  repeat' first
    | ((with_reducible apply go_i); (conv => whnf))
    | with_reducible apply k_caf
    | with_reducible apply k_n
    | ((with_reducible apply k_dt); (· first | assumption | omega))
    | ((with_reducible apply k_df); (· first | assumption | omega))
    | (with_reducible apply k_d <;> intro _)
    | with_reducible apply k_a
    | with_reducible apply k_o
    | ((with_reducible apply k_bt); (· assumption))
    | ((with_reducible apply k_bf); (· assumption))
    | ((with_reducible apply k_gc); (· assumption))
    | ((with_reducible apply k_gcs); (· assumption); (· first | assumption | omega | (simp only [List.length_cons, List.length_nil, List.length_map]; omega)))
    | ((with_reducible apply k_ste); (· assumption); (· first | assumption | omega))
    | ((with_reducible apply k_stc); (· first | assumption | omega | (simp only [List.length_cons, List.length_nil, List.length_map]; omega) | (simp; done)))
    | (with_reducible apply k_b <;> intro _)
    | ((with_reducible apply k_fz); (· assumption))
    | with_reducible apply k_mp
    | ((with_reducible apply k_wr); (· omega); (· omega))
    | with_reducible apply k_ww
    | ((with_reducible apply k_chk); (· first | omega | assumption | exact rfl | (simp only [List.length_cons, List.length_nil]; omega) | exact wrapu_nn _ | (intro e he; obtain ⟨x, _, rfl⟩ := List.mem_map.1 he; exact rfl) | (intro e he; cases List.mem_singleton.1 he; rfl) | (simp; done)))
    | ((with_reducible apply k_sl); (· first | assumption | exact sld_nsl | exact sld_sl | exact sld_nil | exact sld_cond (by assumption)))
  refine x_loop2 mixed Lt.allen_narrowed_l2 Lk.allen_narrowed_l2 (fun (k : Nat) (ws : List Int) => [.d (eI k)]) (fun i ws => [.cells (cU T), .cells (cU ws), .cells (cU zeros)]) (fun k ws' => k ≤ n ∧ ws' = narrow T n ws k) (fun k _ => n - k) 0 ws rfl rfl rfl rfl (fun i ws _ => ⟨rfl, ?_⟩) rfl ⟨by omega, rfl⟩ ?_
  · simp [AO.bndB, cU, AV.bnd1B]
  repeat' first
    | ((with_reducible apply go_i); (conv => whnf))
    | with_reducible apply k_caf
    | with_reducible apply k_n
    | ((with_reducible apply k_dt); (· first | assumption | omega))
    | ((with_reducible apply k_df); (· first | assumption | omega))
    | (with_reducible apply k_d <;> intro _)
    | with_reducible apply k_a
    | with_reducible apply k_o
    | ((with_reducible apply k_bt); (· assumption))
    | ((with_reducible apply k_bf); (· assumption))
    | ((with_reducible apply k_gc); (· assumption))
    | ((with_reducible apply k_gcs); (· assumption); (· first | assumption | omega | (simp only [List.length_cons, List.length_nil, List.length_map]; omega)))
    | ((with_reducible apply k_ste); (· assumption); (· first | assumption | omega))
    | ((with_reducible apply k_stc); (· first | assumption | omega | (simp only [List.length_cons, List.length_nil, List.length_map]; omega) | (simp; done)))
    | (with_reducible apply k_b <;> intro _)
    | ((with_reducible apply k_fz); (· assumption))
    | with_reducible apply k_mp
    | ((with_reducible apply k_wr); (· omega); (· omega))
    | with_reducible apply k_ww
    | ((with_reducible apply k_chk); (· first | omega | assumption | exact rfl | (simp only [List.length_cons, List.length_nil]; omega) | exact wrapu_nn _ | (intro e he; obtain ⟨x, _, rfl⟩ := List.mem_map.1 he; exact rfl) | (intro e he; cases List.mem_singleton.1 he; rfl) | (simp; done)))
    | ((with_reducible apply k_sl); (· first | assumption | exact sld_nsl | exact sld_sl | exact sld_nil | exact sld_cond (by assumption)))
  intro k ws1 ⟨h1, h2⟩
  have hl1 : ws1.length = 64 := by rw [h2, narrow_len, hw]
  have hd1 := n_beq1 hl1
  have hd2 := n_beq2 hl1
  have hfz : cU ws1 = (dU ws1).map .d := rfl
  repeat' first
    | ((with_reducible apply go_i); (conv => whnf))
    | with_reducible apply k_caf
    | with_reducible apply k_n
    | ((with_reducible apply k_dt); (· first | assumption | omega))
    | ((with_reducible apply k_df); (· first | assumption | omega))
    | (with_reducible apply k_d <;> intro _)
    | with_reducible apply k_a
    | with_reducible apply k_o
    | ((with_reducible apply k_bt); (· assumption))
    | ((with_reducible apply k_bf); (· assumption))
    | ((with_reducible apply k_gc); (· assumption))
    | ((with_reducible apply k_gcs); (· assumption); (· first | assumption | omega | (simp only [List.length_cons, List.length_nil, List.length_map]; omega)))
    | ((with_reducible apply k_ste); (· assumption); (· first | assumption | omega))
    | ((with_reducible apply k_stc); (· first | assumption | omega | (simp only [List.length_cons, List.length_nil, List.length_map]; omega) | (simp; done)))
    | (with_reducible apply k_b <;> intro _)
    | ((with_reducible apply k_fz); (· assumption))
    | with_reducible apply k_mp
    | ((with_reducible apply k_wr); (· omega); (· omega))
    | with_reducible apply k_ww
    | ((with_reducible apply k_chk); (· first | omega | assumption | exact rfl | (simp only [List.length_cons, List.length_nil]; omega) | exact wrapu_nn _ | (intro e he; obtain ⟨x, _, rfl⟩ := List.mem_map.1 he; exact rfl) | (intro e he; cases List.mem_singleton.1 he; rfl) | (simp; done)))
    | ((with_reducible apply k_sl); (· first | assumption | exact sld_nsl | exact sld_sl | exact sld_nil | exact sld_cond (by assumption)))
  · refine x_loop2 mixed Lt.allen_narrowed_l1 Lk.allen_narrowed_l1 (fun (i : Nat) (ws : List Int) => [.d (eI i)]) (fun i ws => [.cells (cU T), .cells (cU ws), .cells (cU zeros)]) (fun i ws' => i ≤ n ∧ ws' = nMat T n k ws1 i) (fun i _ => n - i) 0 ws1 rfl rfl rfl rfl (fun i ws _ => ⟨rfl, ?_⟩) rfl ⟨by omega, rfl⟩ ?_
    · simp [AO.bndB, cU, AV.bnd1B]
    repeat' first
      | ((with_reducible apply go_i); (conv => whnf))
      | with_reducible apply k_caf
      | with_reducible apply k_n
      | ((with_reducible apply k_dt); (· first | assumption | omega))
      | ((with_reducible apply k_df); (· first | assumption | omega))
      | (with_reducible apply k_d <;> intro _)
      | with_reducible apply k_a
      | with_reducible apply k_o
      | ((with_reducible apply k_bt); (· assumption))
      | ((with_reducible apply k_bf); (· assumption))
      | ((with_reducible apply k_gc); (· assumption))
      | ((with_reducible apply k_gcs); (· assumption); (· first | assumption | omega | (simp only [List.length_cons, List.length_nil, List.length_map]; omega)))
      | ((with_reducible apply k_ste); (· assumption); (· first | assumption | omega))
      | ((with_reducible apply k_stc); (· first | assumption | omega | (simp only [List.length_cons, List.length_nil, List.length_map]; omega) | (simp; done)))
      | (with_reducible apply k_b <;> intro _)
      | ((with_reducible apply k_fz); (· assumption))
      | with_reducible apply k_mp
      | ((with_reducible apply k_wr); (· omega); (· omega))
      | with_reducible apply k_ww
      | ((with_reducible apply k_chk); (· first | omega | assumption | exact rfl | (simp only [List.length_cons, List.length_nil]; omega) | exact wrapu_nn _ | (intro e he; obtain ⟨x, _, rfl⟩ := List.mem_map.1 he; exact rfl) | (intro e he; cases List.mem_singleton.1 he; rfl) | (simp; done)))
      | ((with_reducible apply k_sl); (· first | assumption | exact sld_nsl | exact sld_sl | exact sld_nil | exact sld_cond (by assumption)))
    intro i ws2 ⟨h3, h4⟩
    have hl2 : ws2.length = 64 := by rw [h4, nMat_len, hl1]
    repeat' first
      | ((with_reducible apply go_i); (conv => whnf))
      | with_reducible apply k_caf
      | with_reducible apply k_n
      | ((with_reducible apply k_dt); (· first | assumption | omega))
      | ((with_reducible apply k_df); (· first | assumption | omega))
      | (with_reducible apply k_d <;> intro _)
      | with_reducible apply k_a
      | with_reducible apply k_o
      | ((with_reducible apply k_bt); (· assumption))
      | ((with_reducible apply k_bf); (· assumption))
      | ((with_reducible apply k_gc); (· assumption))
      | ((with_reducible apply k_gcs); (· assumption); (· first | assumption | omega | (simp only [List.length_cons, List.length_nil, List.length_map]; omega)))
      | ((with_reducible apply k_ste); (· assumption); (· first | assumption | omega))
      | ((with_reducible apply k_stc); (· first | assumption | omega | (simp only [List.length_cons, List.length_nil, List.length_map]; omega) | (simp; done)))
      | (with_reducible apply k_b <;> intro _)
      | ((with_reducible apply k_fz); (· assumption))
      | with_reducible apply k_mp
      | ((with_reducible apply k_wr); (· omega); (· omega))
      | with_reducible apply k_ww
      | ((with_reducible apply k_chk); (· first | omega | assumption | exact rfl | (simp only [List.length_cons, List.length_nil]; omega) | exact wrapu_nn _ | (intro e he; obtain ⟨x, _, rfl⟩ := List.mem_map.1 he; exact rfl) | (intro e he; cases List.mem_singleton.1 he; rfl) | (simp; done)))
      | ((with_reducible apply k_sl); (· first | assumption | exact sld_nsl | exact sld_sl | exact sld_nil | exact sld_cond (by assumption)))
    · refine x_loop2 mixed Lt.allen_narrowed_l0 Lk.allen_narrowed_l0 (fun (j : Nat) (ws : List Int) => [.d (eI j)]) (fun i ws => [.cells (cU T), .cells (cU ws), .cells (cU zeros)]) (fun j ws' => j ≤ n ∧ ws' = nRow T k i ws2 j) (fun i _ => n - i) 0 ws2 rfl rfl rfl rfl (fun i ws _ => ⟨rfl, ?_⟩) rfl ⟨by omega, rfl⟩ ?_
      · simp [AO.bndB, cU, AV.bnd1B]
      repeat' first
        | ((with_reducible apply go_i); (conv => whnf))
        | with_reducible apply k_caf
        | with_reducible apply k_n
        | ((with_reducible apply k_dt); (· first | assumption | omega))
        | ((with_reducible apply k_df); (· first | assumption | omega))
        | (with_reducible apply k_d <;> intro _)
        | with_reducible apply k_a
        | with_reducible apply k_o
        | ((with_reducible apply k_bt); (· assumption))
        | ((with_reducible apply k_bf); (· assumption))
        | ((with_reducible apply k_gc); (· assumption))
        | ((with_reducible apply k_gcs); (· assumption); (· first | assumption | omega | (simp only [List.length_cons, List.length_nil, List.length_map]; omega)))
        | ((with_reducible apply k_ste); (· assumption); (· first | assumption | omega))
        | ((with_reducible apply k_stc); (· first | assumption | omega | (simp only [List.length_cons, List.length_nil, List.length_map]; omega) | (simp; done)))
        | (with_reducible apply k_b <;> intro _)
        | ((with_reducible apply k_fz); (· assumption))
        | with_reducible apply k_mp
        | ((with_reducible apply k_wr); (· omega); (· omega))
        | with_reducible apply k_ww
        | ((with_reducible apply k_chk); (· first | omega | assumption | exact rfl | (simp only [List.length_cons, List.length_nil]; omega) | exact wrapu_nn _ | (intro e he; obtain ⟨x, _, rfl⟩ := List.mem_map.1 he; exact rfl) | (intro e he; cases List.mem_singleton.1 he; rfl) | (simp; done)))
        | ((with_reducible apply k_sl); (· first | assumption | exact sld_nsl | exact sld_sl | exact sld_nil | exact sld_cond (by assumption)))
      intro j ws3 ⟨h5, h6⟩
      have hl3 : ws3.length = 64 := by rw [h6, nRow_len, hl2]
      by_cases h7 : j < n
      · have hk : (0 : Int) ≤ (k : Int) ∧ (k : Int) < 8 := by omega
        have hi : (0 : Int) ≤ (i : Int) ∧ (i : Int) < 8 := by omega
        have hj : (0 : Int) ≤ (j : Int) ∧ (j : Int) < 8 := by omega
        have hc3 := n_beq hl3
        have g1 := nAt_get hl3 hi hj
        have g2 := nAt_get hl3 hi hk
        have g3 := nAt_get hl3 hk hj
        have l1 := n_le hl3 hi hj
        have l2 := n_le hl3 hi hk
        have l3 := n_le hl3 hk hj
        have e1 := nSet_eq (v := sAnd (nAt ws3 i j) (tcA T (nAt ws3 i k) (nAt ws3 k j) 13)) hl3 hi hj
        repeat' first
          | ((with_reducible apply go_i); (conv => whnf))
          | ((with_reducible apply k_pc); (· first | exact C.allen_set_and _ _))
          | ((with_reducible apply k_pr); (· first | exact C.table_compose T hT _ _ _ _ rfl))
          | ((with_reducible apply k_cs); (· first | exact C.table_compose T hT _ _ _ _ rfl); (try rintro _ _ ⟨rfl, rfl⟩))
          | ((with_reducible apply k_cal); (with_reducible apply go_i); (conv => whnf); (with_reducible apply k_chk); (· exact rfl); (with_reducible apply go_i); (with_reducible apply k_cs); (· first | exact C.table_compose T hT _ _ _ _ rfl); (try rintro _ _ ⟨rfl, rfl⟩))
          | with_reducible apply k_caf
          | with_reducible apply k_n
          | ((with_reducible apply k_dt); (· first | assumption | omega))
          | ((with_reducible apply k_df); (· first | assumption | omega))
          | (with_reducible apply k_d <;> intro _)
          | with_reducible apply k_a
          | with_reducible apply k_o
          | ((with_reducible apply k_bt); (· assumption))
          | ((with_reducible apply k_bf); (· assumption))
          | ((with_reducible apply k_gc); (· assumption))
          | ((with_reducible apply k_gcs); (· assumption); (· first | assumption | omega | (simp only [List.length_cons, List.length_nil, List.length_map]; omega)))
          | ((with_reducible apply k_ste); (· assumption); (· first | assumption | omega))
          | ((with_reducible apply k_stc); (· first | assumption | omega | (simp only [List.length_cons, List.length_nil, List.length_map]; omega) | (simp; done)))
          | (with_reducible apply k_b <;> intro _)
          | ((with_reducible apply k_fz); (· assumption))
          | with_reducible apply k_mp
          | ((with_reducible apply k_wr); (· omega); (· omega))
          | with_reducible apply k_ww
          | ((with_reducible apply k_chk); (· first | omega | assumption | exact rfl | (simp only [List.length_cons, List.length_nil]; omega) | exact wrapu_nn _ | (intro e he; obtain ⟨x, _, rfl⟩ := List.mem_map.1 he; exact rfl) | (intro e he; cases List.mem_singleton.1 he; rfl) | (simp; done)))
          | ((with_reducible apply k_sl); (· first | assumption | exact sld_nsl | exact sld_sl | exact sld_nil | exact sld_cond (by assumption)))
        refine ⟨j + 1, _, rfl, rfl, rfl, by omega, by omega, ?_⟩
        rw [nRow, range_fold, ← nRow, ← h6]; rfl
      · repeat' first
          | ((with_reducible apply go_i); (conv => whnf))
          | with_reducible apply k_caf
          | with_reducible apply k_n
          | ((with_reducible apply k_dt); (· first | assumption | omega))
          | ((with_reducible apply k_df); (· first | assumption | omega))
          | (with_reducible apply k_d <;> intro _)
          | with_reducible apply k_a
          | with_reducible apply k_o
          | ((with_reducible apply k_bt); (· assumption))
          | ((with_reducible apply k_bf); (· assumption))
          | ((with_reducible apply k_gc); (· assumption))
          | ((with_reducible apply k_gcs); (· assumption); (· first | assumption | omega | (simp only [List.length_cons, List.length_nil, List.length_map]; omega)))
          | ((with_reducible apply k_ste); (· assumption); (· first | assumption | omega))
          | ((with_reducible apply k_stc); (· first | assumption | omega | (simp only [List.length_cons, List.length_nil, List.length_map]; omega) | (simp; done)))
          | (with_reducible apply k_b <;> intro _)
          | ((with_reducible apply k_fz); (· assumption))
          | with_reducible apply k_mp
          | ((with_reducible apply k_wr); (· omega); (· omega))
          | with_reducible apply k_ww
          | ((with_reducible apply k_chk); (· first | omega | assumption | exact rfl | (simp only [List.length_cons, List.length_nil]; omega) | exact wrapu_nn _ | (intro e he; obtain ⟨x, _, rfl⟩ := List.mem_map.1 he; exact rfl) | (intro e he; cases List.mem_singleton.1 he; rfl) | (simp; done)))
          | ((with_reducible apply k_sl); (· first | assumption | exact sld_nsl | exact sld_sl | exact sld_nil | exact sld_cond (by assumption)))
        refine ⟨i + 1, _, rfl, rfl, rfl, by omega, by omega, ?_⟩
        rw [nMat, range_fold, ← nMat, ← h4, h6, show j = n by omega]
    · refine ⟨k + 1, _, rfl, rfl, rfl, by omega, by omega, ?_⟩
      rw [narrow, range_fold, ← narrow, ← h2, h4, show i = n by omega]
  · refine k_chk (by simp [AO.bndB, cU, AV.bnd1B]) ?_
    repeat' first
      | ((with_reducible apply go_i); (conv => whnf))
      | with_reducible apply k_caf
      | with_reducible apply k_n
      | ((with_reducible apply k_dt); (· first | assumption | omega))
      | ((with_reducible apply k_df); (· first | assumption | omega))
      | (with_reducible apply k_d <;> intro _)
      | with_reducible apply k_a
      | with_reducible apply k_o
      | ((with_reducible apply k_bt); (· assumption))
      | ((with_reducible apply k_bf); (· assumption))
      | ((with_reducible apply k_gc); (· assumption))
      | ((with_reducible apply k_gcs); (· assumption); (· first | assumption | omega | (simp only [List.length_cons, List.length_nil, List.length_map]; omega)))
      | ((with_reducible apply k_ste); (· assumption); (· first | assumption | omega))
      | ((with_reducible apply k_stc); (· first | assumption | omega | (simp only [List.length_cons, List.length_nil, List.length_map]; omega) | (simp; done)))
      | (with_reducible apply k_b <;> intro _)
      | ((with_reducible apply k_fz); (· assumption))
      | with_reducible apply k_mp
      | ((with_reducible apply k_wr); (· omega); (· omega))
      | with_reducible apply k_ww
      | ((with_reducible apply k_chk); (· first | omega | assumption | exact rfl | (simp only [List.length_cons, List.length_nil]; omega) | exact wrapu_nn _ | (intro e he; obtain ⟨x, _, rfl⟩ := List.mem_map.1 he; exact rfl) | (intro e he; cases List.mem_singleton.1 he; rfl) | (simp; done)))
      | ((with_reducible apply k_sl); (· first | assumption | exact sld_nsl | exact sld_sl | exact sld_nil | exact sld_cond (by assumption)))
    exact ⟨by rw [h2, show k = n by omega]; rfl, rfl⟩
theorem C.allen_narrowed (T : List Int) (hT : T.length = 169) (n : Nat) (hn : n ≤ 8) (ws : List Int) (hw : ws.length = 64) (os : List AO) (id : Nat) (ho : os[id]? = some (.cells (cU T))) : CallSpec Try.prog N.allen_narrowed [.agg (cU ws), .d (eI n), .ptr id 0] os (fun r os' => r = .agg (cU (narrow T n ws n)) ∧ os' = os) := by
  have hm : ∀ ws f, mO f (.cells (cU ws)) = .cells (cU ws) := fun ws f => by simp [mO, cU, mC]
  have hg : ∀ ws f, mG f (.agg (cU ws)) = .agg (cU ws) := fun ws f => by simp [mG, cU, mC]
  have := lift1 (fun id => [.agg (cU ws), .d (eI n), .ptr id 0]) (C.nw0 T hT n hn ws hw) (hm T) (hm T) (fun f => by simp only [mA]; exact hg _ f) (fun id n => by simp only [List.map_cons, List.map_nil, hg]; rfl) (by simp [AV.bnd2, AV.bnd1, cU]) (by simp [AO.bnd, cU, AV.bnd1]) ho
  rwa [list_set_self ho] at this

/-- The rounds until nothing changes. -/
def rounds (f : List Int → List Int) : Nat → List Int → List Int
  | 0, ws => ws
  | m + 1, ws => if f ws = ws then ws else rounds f m (f ws)
def wsum (ws : List Int) : Nat := (ws.map Int.toNat).sum
end Go.Proofs
