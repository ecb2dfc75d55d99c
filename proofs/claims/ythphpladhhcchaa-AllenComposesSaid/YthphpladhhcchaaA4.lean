/- Contracts: networks of constraints. No condition. -/
import Derived.Test.YthphpladhhcchaaA3
set_option linter.unusedSimpArgs false
set_option maxRecDepth 10000
set_option maxHeartbeats 4000000
namespace Go.Proofs
open Go.Bi

structure Con where
  a : Int
  b : Int
  rels : List Int
  d : D
  hd : SlD d (eIs rels)
  hl : rels.length ≤ 9223372036854775807
def eCon (c : Con) : List D := [eI c.a, eI c.b, c.d]
def eCons (l : List Con) : List (List D) := l.map eCon
theorem eCons_get {l : List Con} {i : Nat} {c : Con} (h : l[i]? = some c) : (eCons l)[i]? = some [eI c.a, eI c.b, c.d] := by simp [eCons, h, eCon]
theorem eCons_len (l : List Con) : (eCons l).length = l.length := by simp [eCons]
theorem eCons_mem (l : List Con) : ∀ e ∈ eCons l, e.length = 3 := by
  intro e he
  obtain ⟨c, _, rfl⟩ := List.mem_map.1 he
  rfl

def nAt (ws : List Int) (i k : Int) : Int := ws.getD (i.toNat * 8 + k.toNat) 0
def nSet (ws : List Int) (i k v : Int) : List Int := ws.set (i.toNat * 8 + k.toNat) v
theorem nSet_len (ws : List Int) (i k v : Int) : (nSet ws i k v).length = ws.length := by simp [nSet]
theorem nAt_get {ws : List Int} {i k : Int} (h : ws.length = 64) (hi : 0 ≤ i ∧ i < 8) (hk : 0 ≤ k ∧ k < 8) : ((cU ws).drop (0 + i.toNat * 8 + k.toNat * 1)).take 1 = [.d (eU (nAt ws i k))] := by
  rw [cU_one (by omega)]
  simp [nAt]
theorem nSet_eq {ws : List Int} {i k v : Int} (h : ws.length = 64) (hi : 0 ≤ i ∧ i < 8) (hk : 0 ≤ k ∧ k < 8) : setR (cU ws) (0 + i.toNat * 8 + k.toNat * 1) [.d (eU v)] = cU (nSet ws i k v) := by
  rw [cU_set (by omega)]
  simp [nSet]
theorem n_le {ws : List Int} {i k : Int} (h : ws.length = 64) (hi : 0 ≤ i ∧ i < 8) (hk : 0 ≤ k ∧ k < 8) : 0 + i.toNat * 8 + k.toNat * 1 + 1 ≤ (cU ws).length := by rw [cU_len, h]; omega
theorem n_beq {ws : List Int} (h : ws.length = 64) : Nat.beq 1 (cU ws).length = false := by rw [cU_len, h]; rfl
theorem n_beq1 {ws : List Int} (h : ws.length = 64) : Nat.beq 64 (cU ws).length = true := by rw [cU_len, h]; rfl
theorem n_beq2 {ws : List Int} (h : ws.length = 64) : Nat.beq (cU ws).length 64 = true := by rw [cU_len, h]; rfl

def bRow (i : Nat) (ws : List Int) (n : Nat) : List Int := (List.range n).foldl (fun ws (k : Nat) => nSet ws i k 8191) ws
def bInit (n m : Nat) : List Int := (List.range m).foldl (fun ws (i : Nat) => nSet (bRow i ws n) i i (sOne 6)) (List.replicate 64 0)
theorem bRow_len (i : Nat) (ws : List Int) (n : Nat) : (bRow i ws n).length = ws.length := by
  unfold bRow
  induction n with
  | zero => rfl
  | succ n ih => rw [range_fold, nSet_len, ih]
theorem bInit_len (n m : Nat) : (bInit n m).length = 64 := by
  unfold bInit
  induction m with
  | zero => rfl
  | succ m ih => rw [range_fold, nSet_len, bRow_len, ih]
def okC (n : Int) (c : Con) : Bool := allEx c.rels && decide (0 ≤ c.a ∧ c.a < n ∧ 0 ≤ c.b ∧ c.b < n)
def bUpd (ws : List Int) (c : Con) : List Int :=
  nSet (nSet ws c.a c.b (sAnd (nAt ws c.a c.b) (sOfL c.rels))) c.b c.a (sAnd (nAt (nSet ws c.a c.b (sAnd (nAt ws c.a c.b) (sOfL c.rels))) c.b c.a) (sInv (sOfL c.rels)))
def bGo (n : Int) : List Con → List Int → Option (List Int)
  | [], ws => some ws
  | c :: l, ws => if okC n c then bGo n l (bUpd ws c) else none
def zeros : List Int := List.replicate 64 0
def build (n : Nat) (l : List Con) : List Int × Bool := match bGo n l (bInit n n) with
  | some ws => (ws, true)
  | none => (zeros, false)
theorem C.allen_build (n : Nat) (hn : n ≤ 8) (l : List Con) (hll : l.length ≤ 9223372036854775807) (d : D) (hd : SlD d (eCons l)) : Pure Try.prog N.allen_build [.d (eI n), .d d] (.tup [.agg (cU (build n l).1), .d (.bool (build n l).2)]) := by
  refine F.allen_build.go mixed rfl ?_
  repeat' first
    | ((with_reducible apply go_i); (conv => whnf))
    | with_reducible apply k_caf
    | with_reducible apply k_n
    | ((with_reducible apply k_dt); (· first | assumption | omega))
    | ((with_reducible apply k_df); (· first | assumption | omega))
    | (with_reducible apply k_d <;> intro _)
    | with_reducible apply k_a
    | with_reducible apply k_o
    | ((with_reducible apply k_bt); (· assumption))
    | ((with_reducible apply k_bf); (· assumption))
    | ((with_reducible apply k_gc); (· assumption))
    | ((with_reducible apply k_gcs); (· assumption); (· first | assumption | omega | (simp only [List.length_cons, List.length_nil, List.length_map]; omega)))
    | ((with_reducible apply k_ste); (· assumption); (· first | assumption | omega))
    | ((with_reducible apply k_stc); (· first | assumption | omega | (simp only [List.length_cons, List.length_nil, List.length_map]; omega) | (simp; done)))
    | (with_reducible apply k_b <;> intro _)
    | ((with_reducible apply k_fz); (· assumption))
    | with_reducible apply k_mp
    | ((with_reducible apply k_wr); (· omega); (· omega))
    | with_reducible apply k_ww
    | ((with_reducible apply k_chk); (· first | omega | assumption | exact rfl | (simp only [List.length_cons, List.length_nil]; omega) | exact wrapu_nn _ | (intro e he; obtain ⟨x, _, rfl⟩ := List.mem_map.1 he; exact rfl) | (intro e he; cases List.mem_singleton.1 he; rfl) | (simp; done)))
    | ((with_reducible apply k_sl); (· first | assumption | exact sld_nsl | exact sld_sl | exact sld_nil | exact sld_cond (by assumption)))
  refine x_loop2 mixed Lt.allen_build_l1 Lk.allen_build_l1 (fun (i : Nat) (ws : List Int) => [.d (eI i)]) (fun i ws => [.cells (cU zeros), .cells (cU ws)]) (fun i ws => i ≤ n ∧ ws = bInit n i) (fun i _ => n - i) 0 zeros rfl rfl rfl rfl (fun i ws _ => ⟨rfl, ?_⟩) rfl ⟨by omega, rfl⟩ ?_
  · simp [AO.bndB, cU, AV.bnd1B]
  repeat' first
    | ((with_reducible apply go_i); (conv => whnf))
    | with_reducible apply k_caf
    | with_reducible apply k_n
    | ((with_reducible apply k_dt); (· first | assumption | omega))
    | ((with_reducible apply k_df); (· first | assumption | omega))
    | (with_reducible apply k_d <;> intro _)
    | with_reducible apply k_a
    | with_reducible apply k_o
    | ((with_reducible apply k_bt); (· assumption))
    | ((with_reducible apply k_bf); (· assumption))
    | ((with_reducible apply k_gc); (· assumption))
    | ((with_reducible apply k_gcs); (· assumption); (· first | assumption | omega | (simp only [List.length_cons, List.length_nil, List.length_map]; omega)))
    | ((with_reducible apply k_ste); (· assumption); (· first | assumption | omega))
    | ((with_reducible apply k_stc); (· first | assumption | omega | (simp only [List.length_cons, List.length_nil, List.length_map]; omega) | (simp; done)))
    | (with_reducible apply k_b <;> intro _)
    | ((with_reducible apply k_fz); (· assumption))
    | with_reducible apply k_mp
    | ((with_reducible apply k_wr); (· omega); (· omega))
    | with_reducible apply k_ww
    | ((with_reducible apply k_chk); (· first | omega | assumption | exact rfl | (simp only [List.length_cons, List.length_nil]; omega) | exact wrapu_nn _ | (intro e he; obtain ⟨x, _, rfl⟩ := List.mem_map.1 he; exact rfl) | (intro e he; cases List.mem_singleton.1 he; rfl) | (simp; done)))
    | ((with_reducible apply k_sl); (· first | assumption | exact sld_nsl | exact sld_sl | exact sld_nil | exact sld_cond (by assumption)))
  intro i ws ⟨h1, h2⟩
  have hl1 : ws.length = 64 := by rw [h2, bInit_len]
  repeat' first
    | ((with_reducible apply go_i); (conv => whnf))
    | with_reducible apply k_caf
    | with_reducible apply k_n
    | ((with_reducible apply k_dt); (· first | assumption | omega))
    | ((with_reducible apply k_df); (· first | assumption | omega))
    | (with_reducible apply k_d <;> intro _)
    | with_reducible apply k_a
    | with_reducible apply k_o
    | ((with_reducible apply k_bt); (· assumption))
    | ((with_reducible apply k_bf); (· assumption))
    | ((with_reducible apply k_gc); (· assumption))
    | ((with_reducible apply k_gcs); (· assumption); (· first | assumption | omega | (simp only [List.length_cons, List.length_nil, List.length_map]; omega)))
    | ((with_reducible apply k_ste); (· assumption); (· first | assumption | omega))
    | ((with_reducible apply k_stc); (· first | assumption | omega | (simp only [List.length_cons, List.length_nil, List.length_map]; omega) | (simp; done)))
    | (with_reducible apply k_b <;> intro _)
    | ((with_reducible apply k_fz); (· assumption))
    | with_reducible apply k_mp
    | ((with_reducible apply k_wr); (· omega); (· omega))
    | with_reducible apply k_ww
    | ((with_reducible apply k_chk); (· first | omega | assumption | exact rfl | (simp only [List.length_cons, List.length_nil]; omega) | exact wrapu_nn _ | (intro e he; obtain ⟨x, _, rfl⟩ := List.mem_map.1 he; exact rfl) | (intro e he; cases List.mem_singleton.1 he; rfl) | (simp; done)))
    | ((with_reducible apply k_sl); (· first | assumption | exact sld_nsl | exact sld_sl | exact sld_nil | exact sld_cond (by assumption)))
  · refine x_loop2 mixed Lt.allen_build_l0 Lk.allen_build_l0 (fun (k : Nat) (ws : List Int) => [.d (eI k)]) (fun k ws => [.cells (cU zeros), .cells (cU ws)]) (fun k ws' => k ≤ n ∧ ws' = bRow i ws k) (fun k _ => n - k) 0 ws rfl rfl rfl rfl (fun i ws _ => ⟨rfl, ?_⟩) rfl ⟨by omega, rfl⟩ ?_
    · simp [AO.bndB, cU, AV.bnd1B]
    repeat' first
      | ((with_reducible apply go_i); (conv => whnf))
      | with_reducible apply k_caf
      | with_reducible apply k_n
      | ((with_reducible apply k_dt); (· first | assumption | omega))
      | ((with_reducible apply k_df); (· first | assumption | omega))
      | (with_reducible apply k_d <;> intro _)
      | with_reducible apply k_a
      | with_reducible apply k_o
      | ((with_reducible apply k_bt); (· assumption))
      | ((with_reducible apply k_bf); (· assumption))
      | ((with_reducible apply k_gc); (· assumption))
      | ((with_reducible apply k_gcs); (· assumption); (· first | assumption | omega | (simp only [List.length_cons, List.length_nil, List.length_map]; omega)))
      | ((with_reducible apply k_ste); (· assumption); (· first | assumption | omega))
      | ((with_reducible apply k_stc); (· first | assumption | omega | (simp only [List.length_cons, List.length_nil, List.length_map]; omega) | (simp; done)))
      | (with_reducible apply k_b <;> intro _)
      | ((with_reducible apply k_fz); (· assumption))
      | with_reducible apply k_mp
      | ((with_reducible apply k_wr); (· omega); (· omega))
      | with_reducible apply k_ww
      | ((with_reducible apply k_chk); (· first | omega | assumption | exact rfl | (simp only [List.length_cons, List.length_nil]; omega) | exact wrapu_nn _ | (intro e he; obtain ⟨x, _, rfl⟩ := List.mem_map.1 he; exact rfl) | (intro e he; cases List.mem_singleton.1 he; rfl) | (simp; done)))
      | ((with_reducible apply k_sl); (· first | assumption | exact sld_nsl | exact sld_sl | exact sld_nil | exact sld_cond (by assumption)))
    intro k ws' ⟨h3, h4⟩
    have hl2 : ws'.length = 64 := by rw [h4, bRow_len, hl1]
    have hc3 := n_beq hl2
    by_cases h5 : k < n
    · have hi : (0 : Int) ≤ (i : Int) ∧ (i : Int) < 8 := by omega
      have hk : (0 : Int) ≤ (k : Int) ∧ (k : Int) < 8 := by omega
      have hle := n_le hl2 hi hk
      repeat' first
        | ((with_reducible apply go_i); (conv => whnf))
        | ((with_reducible apply k_pc); (· first | exact C.allen_full))
        | with_reducible apply k_caf
        | with_reducible apply k_n
        | ((with_reducible apply k_dt); (· first | assumption | omega))
        | ((with_reducible apply k_df); (· first | assumption | omega))
        | (with_reducible apply k_d <;> intro _)
        | with_reducible apply k_a
        | with_reducible apply k_o
        | ((with_reducible apply k_bt); (· assumption))
        | ((with_reducible apply k_bf); (· assumption))
        | ((with_reducible apply k_gc); (· assumption))
        | ((with_reducible apply k_gcs); (· assumption); (· first | assumption | omega | (simp only [List.length_cons, List.length_nil, List.length_map]; omega)))
        | ((with_reducible apply k_ste); (· assumption); (· first | assumption | omega))
        | ((with_reducible apply k_stc); (· first | assumption | omega | (simp only [List.length_cons, List.length_nil, List.length_map]; omega) | (simp; done)))
        | (with_reducible apply k_b <;> intro _)
        | ((with_reducible apply k_fz); (· assumption))
        | with_reducible apply k_mp
        | ((with_reducible apply k_wr); (· omega); (· omega))
        | with_reducible apply k_ww
        | ((with_reducible apply k_chk); (· first | omega | assumption | exact rfl | (simp only [List.length_cons, List.length_nil]; omega) | exact wrapu_nn _ | (intro e he; obtain ⟨x, _, rfl⟩ := List.mem_map.1 he; exact rfl) | (intro e he; cases List.mem_singleton.1 he; rfl) | (simp; done)))
        | ((with_reducible apply k_sl); (· first | assumption | exact sld_nsl | exact sld_sl | exact sld_nil | exact sld_cond (by assumption)))
      refine ⟨k + 1, bRow i ws (k + 1), rfl, rfl, ?_, by omega, by omega, rfl⟩
      rw [nSet_eq hl2 hi hk, bRow, range_fold, ← bRow, h4]
    · have hi : (0 : Int) ≤ (i : Int) ∧ (i : Int) < 8 := by omega
      have hle := n_le hl2 hi hi
      repeat' first
        | ((with_reducible apply go_i); (conv => whnf))
        | ((with_reducible apply k_pc); (· first | exact C.allen_one _))
        | with_reducible apply k_caf
        | with_reducible apply k_n
        | ((with_reducible apply k_dt); (· first | assumption | omega))
        | ((with_reducible apply k_df); (· first | assumption | omega))
        | (with_reducible apply k_d <;> intro _)
        | with_reducible apply k_a
        | with_reducible apply k_o
        | ((with_reducible apply k_bt); (· assumption))
        | ((with_reducible apply k_bf); (· assumption))
        | ((with_reducible apply k_gc); (· assumption))
        | ((with_reducible apply k_gcs); (· assumption); (· first | assumption | omega | (simp only [List.length_cons, List.length_nil, List.length_map]; omega)))
        | ((with_reducible apply k_ste); (· assumption); (· first | assumption | omega))
        | ((with_reducible apply k_stc); (· first | assumption | omega | (simp only [List.length_cons, List.length_nil, List.length_map]; omega) | (simp; done)))
        | (with_reducible apply k_b <;> intro _)
        | ((with_reducible apply k_fz); (· assumption))
        | with_reducible apply k_mp
        | ((with_reducible apply k_wr); (· omega); (· omega))
        | with_reducible apply k_ww
        | ((with_reducible apply k_chk); (· first | omega | assumption | exact rfl | (simp only [List.length_cons, List.length_nil]; omega) | exact wrapu_nn _ | (intro e he; obtain ⟨x, _, rfl⟩ := List.mem_map.1 he; exact rfl) | (intro e he; cases List.mem_singleton.1 he; rfl) | (simp; done)))
        | ((with_reducible apply k_sl); (· first | assumption | exact sld_nsl | exact sld_sl | exact sld_nil | exact sld_cond (by assumption)))
      refine ⟨i + 1, bInit n (i + 1), rfl, rfl, ?_, by omega, by omega, rfl⟩
      rw [nSet_eq hl2 hi hi, bInit, range_fold, ← bInit, h4, h2, show k = n by omega]
  · have : i = n := by omega
    subst this
    have hl0 := eCons_len l
    have hm := eCons_mem l
    refine x_loop2 mixed Lt.allen_build_l2 Lk.allen_build_l2 (fun (i : Nat) (ws : List Int) => [.d (eI i)]) (fun i ws => [.cells (cU zeros), .cells (cU ws)]) (fun j ws => j ≤ l.length ∧ ws.length = 64 ∧ bGo i (l.drop j) ws = bGo i l (bInit i i)) (fun j _ => l.length - j) 0 ws rfl rfl rfl rfl (fun i ws _ => ⟨rfl, ?_⟩) rfl ⟨by omega, hl1, by rw [h2]; rfl⟩ ?_
    · simp [AO.bndB, cU, AV.bnd1B]
    repeat' first
      | ((with_reducible apply go_i); (conv => whnf))
      | with_reducible apply k_caf
      | with_reducible apply k_n
      | ((with_reducible apply k_dt); (· first | assumption | omega))
      | ((with_reducible apply k_df); (· first | assumption | omega))
      | (with_reducible apply k_d <;> intro _)
      | with_reducible apply k_a
      | with_reducible apply k_o
      | ((with_reducible apply k_bt); (· assumption))
      | ((with_reducible apply k_bf); (· assumption))
      | ((with_reducible apply k_gc); (· assumption))
      | ((with_reducible apply k_gcs); (· assumption); (· first | assumption | omega | (simp only [List.length_cons, List.length_nil, List.length_map]; omega)))
      | ((with_reducible apply k_ste); (· assumption); (· first | assumption | omega))
      | ((with_reducible apply k_stc); (· first | assumption | omega | (simp only [List.length_cons, List.length_nil, List.length_map]; omega) | (simp; done)))
      | (with_reducible apply k_b <;> intro _)
      | ((with_reducible apply k_fz); (· assumption))
      | with_reducible apply k_mp
      | ((with_reducible apply k_wr); (· omega); (· omega))
      | with_reducible apply k_ww
      | ((with_reducible apply k_chk); (· first | omega | assumption | exact rfl | (simp only [List.length_cons, List.length_nil]; omega) | exact wrapu_nn _ | (intro e he; obtain ⟨x, _, rfl⟩ := List.mem_map.1 he; exact rfl) | (intro e he; cases List.mem_singleton.1 he; rfl) | (simp; done)))
      | ((with_reducible apply k_sl); (· first | assumption | exact sld_nsl | exact sld_sl | exact sld_nil | exact sld_cond (by assumption)))
    intro j ws' ⟨h3, hl2, h4⟩
    have hc3 := n_beq hl2
    have hc1 := n_beq1 hl2
    have hc2 := n_beq2 hl2
    cases hx : l[j]? with
    | some c =>
      have hlt := (List.getElem?_eq_some_iff.1 hx).1
      have he := eCons_get hx
      have hdr : l.drop j = c :: l.drop (j + 1) := by rw [List.drop_eq_getElem_cons hlt]; congr 1; exact (List.getElem?_eq_some_iff.1 hx).2
      rw [hdr, bGo] at h4
      by_cases hok : okC i c = true
      · rw [if_pos hok] at h4
        simp only [okC, Bool.and_eq_true, decide_eq_true_eq] at hok
        obtain ⟨ho1, ho2, ho3, ho4, ho5⟩ := hok
        have hi : 0 ≤ c.a ∧ c.a < 8 := by omega
        have hk : 0 ≤ c.b ∧ c.b < 8 := by omega
        have hle := n_le hl2 hi hk
        have hg := nAt_get hl2 hi hk
        have hof : sOf c.rels = (sOfL c.rels, true) := by simp [sOf, ho1]
        have cof := C.allen_of c.rels c.d c.hd c.hl
        rw [hof] at cof
        have hl3 : (nSet ws' c.a c.b (sAnd (nAt ws' c.a c.b) (sOfL c.rels))).length = 64 := by rw [nSet_len, hl2]
        have e1 := nSet_eq (v := sAnd (nAt ws' c.a c.b) (sOfL c.rels)) hl2 hi hk
        generalize hw2 : nSet ws' c.a c.b (sAnd (nAt ws' c.a c.b) (sOfL c.rels)) = ws2 at e1 hl3
        have hc4 := n_beq hl3
        have hg2 := nAt_get hl3 hk hi
        have hle2 := n_le hl3 hk hi
        have e2 := nSet_eq (v := sAnd (nAt ws2 c.b c.a) (sInv (sOfL c.rels))) hl3 hk hi
        repeat' first
          | ((with_reducible apply go_i); (conv => whnf))
          | ((with_reducible apply k_pc); (· first | exact cof | exact C.allen_set_and _ _ | exact C.allen_set_inverse _))
          | with_reducible apply k_caf
          | with_reducible apply k_n
          | ((with_reducible apply k_dt); (· first | assumption | omega))
          | ((with_reducible apply k_df); (· first | assumption | omega))
          | (with_reducible apply k_d <;> intro _)
          | with_reducible apply k_a
          | with_reducible apply k_o
          | ((with_reducible apply k_bt); (· assumption))
          | ((with_reducible apply k_bf); (· assumption))
          | ((with_reducible apply k_gc); (· assumption))
          | ((with_reducible apply k_gcs); (· assumption); (· first | assumption | omega | (simp only [List.length_cons, List.length_nil, List.length_map]; omega)))
          | ((with_reducible apply k_ste); (· assumption); (· first | assumption | omega))
          | ((with_reducible apply k_stc); (· first | assumption | omega | (simp only [List.length_cons, List.length_nil, List.length_map]; omega) | (simp; done)))
          | (with_reducible apply k_b <;> intro _)
          | ((with_reducible apply k_fz); (· assumption))
          | with_reducible apply k_mp
          | ((with_reducible apply k_wr); (· omega); (· omega))
          | with_reducible apply k_ww
          | ((with_reducible apply k_chk); (· first | omega | assumption | exact rfl | (simp only [List.length_cons, List.length_nil]; omega) | exact wrapu_nn _ | (intro e he; obtain ⟨x, _, rfl⟩ := List.mem_map.1 he; exact rfl) | (intro e he; cases List.mem_singleton.1 he; rfl) | (simp; done)))
          | ((with_reducible apply k_sl); (· first | assumption | exact sld_nsl | exact sld_sl | exact sld_nil | exact sld_cond (by assumption)))
        refine ⟨j + 1, _, rfl, rfl, rfl, by omega, by omega, ?_, ?_⟩
        · rw [nSet_len]; exact hl3
        · rw [← h4, bUpd, hw2]
      · rw [if_neg hok] at h4
        have hbuild : build i l = (zeros, false) := by rw [build, ← h4]
        have cof := C.allen_of c.rels c.d c.hd c.hl
        rw [hbuild]
        by_cases he1 : allEx c.rels = true
        · have hof : sOf c.rels = (sOfL c.rels, true) := by simp [sOf, he1]
          rw [hof] at cof
          have hbad : ¬ (0 ≤ c.a ∧ c.a < i ∧ 0 ≤ c.b ∧ c.b < i) := fun h => hok (by simp [okC, he1, h])
          repeat' first
            | ((with_reducible apply go_i); (conv => whnf))
            | ((with_reducible apply k_pc); (· first | exact cof))
            | with_reducible apply k_caf
            | with_reducible apply k_n
            | ((with_reducible apply k_dt); (· first | assumption | omega))
            | ((with_reducible apply k_df); (· first | assumption | omega))
            | (with_reducible apply k_d <;> intro _)
            | with_reducible apply k_a
            | with_reducible apply k_o
            | ((with_reducible apply k_bt); (· assumption))
            | ((with_reducible apply k_bf); (· assumption))
            | ((with_reducible apply k_gc); (· assumption))
            | ((with_reducible apply k_gcs); (· assumption); (· first | assumption | omega | (simp only [List.length_cons, List.length_nil, List.length_map]; omega)))
            | ((with_reducible apply k_ste); (· assumption); (· first | assumption | omega))
            | ((with_reducible apply k_stc); (· first | assumption | omega | (simp only [List.length_cons, List.length_nil, List.length_map]; omega) | (simp; done)))
            | (with_reducible apply k_b <;> intro _)
            | ((with_reducible apply k_fz); (· assumption))
            | with_reducible apply k_mp
            | ((with_reducible apply k_wr); (· omega); (· omega))
            | with_reducible apply k_ww
            | ((with_reducible apply k_chk); (· first | omega | assumption | exact rfl | (simp only [List.length_cons, List.length_nil]; omega) | exact wrapu_nn _ | (intro e he; obtain ⟨x, _, rfl⟩ := List.mem_map.1 he; exact rfl) | (intro e he; cases List.mem_singleton.1 he; rfl) | (simp; done)))
            | ((with_reducible apply k_sl); (· first | assumption | exact sld_nsl | exact sld_sl | exact sld_nil | exact sld_cond (by assumption)))
          all_goals rfl
        · have hof : sOf c.rels = (0, false) := by simp [sOf, he1]
          rw [hof] at cof
          repeat' first
            | ((with_reducible apply go_i); (conv => whnf))
            | ((with_reducible apply k_pc); (· first | exact cof))
            | with_reducible apply k_caf
            | with_reducible apply k_n
            | ((with_reducible apply k_dt); (· first | assumption | omega))
            | ((with_reducible apply k_df); (· first | assumption | omega))
            | (with_reducible apply k_d <;> intro _)
            | with_reducible apply k_a
            | with_reducible apply k_o
            | ((with_reducible apply k_bt); (· assumption))
            | ((with_reducible apply k_bf); (· assumption))
            | ((with_reducible apply k_gc); (· assumption))
            | ((with_reducible apply k_gcs); (· assumption); (· first | assumption | omega | (simp only [List.length_cons, List.length_nil, List.length_map]; omega)))
            | ((with_reducible apply k_ste); (· assumption); (· first | assumption | omega))
            | ((with_reducible apply k_stc); (· first | assumption | omega | (simp only [List.length_cons, List.length_nil, List.length_map]; omega) | (simp; done)))
            | (with_reducible apply k_b <;> intro _)
            | ((with_reducible apply k_fz); (· assumption))
            | with_reducible apply k_mp
            | ((with_reducible apply k_wr); (· omega); (· omega))
            | with_reducible apply k_ww
            | ((with_reducible apply k_chk); (· first | omega | assumption | exact rfl | (simp only [List.length_cons, List.length_nil]; omega) | exact wrapu_nn _ | (intro e he; obtain ⟨x, _, rfl⟩ := List.mem_map.1 he; exact rfl) | (intro e he; cases List.mem_singleton.1 he; rfl) | (simp; done)))
            | ((with_reducible apply k_sl); (· first | assumption | exact sld_nsl | exact sld_sl | exact sld_nil | exact sld_cond (by assumption)))
          rfl
    | none =>
      have hge := List.getElem?_eq_none_iff.1 hx
      rw [List.drop_eq_nil_of_le hge] at h4
      have hbuild : build i l = (ws', true) := by rw [build, ← h4]; rfl
      have hfz : cU ws' = (dU ws').map .d := rfl
      rw [hbuild]
      repeat' first
        | ((with_reducible apply go_i); (conv => whnf))
        | with_reducible apply k_caf
        | with_reducible apply k_n
        | ((with_reducible apply k_dt); (· first | assumption | omega))
        | ((with_reducible apply k_df); (· first | assumption | omega))
        | (with_reducible apply k_d <;> intro _)
        | with_reducible apply k_a
        | with_reducible apply k_o
        | ((with_reducible apply k_bt); (· assumption))
        | ((with_reducible apply k_bf); (· assumption))
        | ((with_reducible apply k_gc); (· assumption))
        | ((with_reducible apply k_gcs); (· assumption); (· first | assumption | omega | (simp only [List.length_cons, List.length_nil, List.length_map]; omega)))
        | ((with_reducible apply k_ste); (· assumption); (· first | assumption | omega))
        | ((with_reducible apply k_stc); (· first | assumption | omega | (simp only [List.length_cons, List.length_nil, List.length_map]; omega) | (simp; done)))
        | (with_reducible apply k_b <;> intro _)
        | ((with_reducible apply k_fz); (· assumption))
        | with_reducible apply k_mp
        | ((with_reducible apply k_wr); (· omega); (· omega))
        | with_reducible apply k_ww
        | ((with_reducible apply k_chk); (· first | omega | assumption | exact rfl | (simp only [List.length_cons, List.length_nil]; omega) | exact wrapu_nn _ | (intro e he; obtain ⟨x, _, rfl⟩ := List.mem_map.1 he; exact rfl) | (intro e he; cases List.mem_singleton.1 he; rfl) | (simp; done)))
        | ((with_reducible apply k_sl); (· first | assumption | exact sld_nsl | exact sld_sl | exact sld_nil | exact sld_cond (by assumption)))
      rfl
end Go.Proofs
