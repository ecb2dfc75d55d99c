/- Contracts: Compose, the composition of sets. No condition. -/
import Derived.Test.YthphpladhhcchaaA2
set_option linter.unusedSimpArgs false
set_option maxRecDepth 10000
set_option maxHeartbeats 4000000
namespace Go.Proofs
open Go.Bi

theorem comps_len : comps.length = 169 := by unfold comps; rw [rowP_len]; rfl
def tAt (tb : List Int) (a b : Int) : Int := tb.getD (a.toNat * 13 + b.toNat) 0
def compose (a b : Int) : List Int := if isRel a && isRel b then sList (tAt comps a b) else []
theorem cU_get {tb : List Int} {a b : Int} (h : tb.length = 169) (ha : 0 ≤ a ∧ a < 13) (hb : 0 ≤ b ∧ b < 13) : ((cU tb).drop (0 + a.toNat * 13 + b.toNat * 1)).take 1 = [.d (eU (tAt tb a b))] := by
  rw [cU_one (by omega)]
  simp [tAt]
theorem Compose_T (T : List Int) (hl : T.length = 169) (hC : Pure Try.prog N.allen_compositions [] (.agg (cU T))) (a b : Int) : Pure Try.prog N.allen_Compose [.d (eI a), .d (eI b)] (.d (eL (if isRel a && isRel b then sList (tAt T a b) else []))) := by
  refine F.allen_Compose.go mixed rfl ?_
  have hc2 : Nat.beq (cU T).length 169 = true := by rw [cU_len, hl]; rfl
  have hc1 : Nat.beq 169 (cU T).length = true := by rw [cU_len, hl]; rfl
  have hc3 : Nat.beq 1 (cU T).length = false := by rw [cU_len, hl]; rfl
  by_cases ha : isRel a = true
  · by_cases hb : isRel b = true
    · have ha' : 0 ≤ a ∧ a < 13 := by simpa [isRel] using ha
      have hb' : 0 ≤ b ∧ b < 13 := by simpa [isRel] using hb
      have hg := cU_get hl ha' hb'
      have hle : 0 + a.toNat * 13 + b.toNat * 1 + 1 ≤ (cU T).length := by rw [cU_len, hl]; omega
      repeat' first
        | ((with_reducible apply go_i); (conv => whnf))
        | ((with_reducible apply k_pc); (· first | exact hC | exact C.allen_exists _ | exact C.allen_set_list _))
        | with_reducible apply k_caf
        | with_reducible apply k_n
        | ((with_reducible apply k_dt); (· first | assumption | omega))
        | ((with_reducible apply k_df); (· first | assumption | omega))
        | (with_reducible apply k_d <;> intro _)
        | with_reducible apply k_a
        | with_reducible apply k_o
        | ((with_reducible apply k_bt); (· assumption))
        | ((with_reducible apply k_bf); (· assumption))
        | ((with_reducible apply k_gc); (· assumption))
        | ((with_reducible apply k_gcs); (· assumption); (· first | assumption | omega | (simp only [List.length_cons, List.length_nil, List.length_map]; omega)))
        | ((with_reducible apply k_ste); (· assumption); (· first | assumption | omega))
        | ((with_reducible apply k_stc); (· first | assumption | omega | (simp only [List.length_cons, List.length_nil, List.length_map]; omega) | (simp; done)))
        | (with_reducible apply k_b <;> intro _)
        | ((with_reducible apply k_fz); (· assumption))
        | with_reducible apply k_mp
        | ((with_reducible apply k_wr); (· omega); (· omega))
        | with_reducible apply k_ww
        | ((with_reducible apply k_chk); (· first | omega | assumption | exact rfl | (simp only [List.length_cons, List.length_nil]; omega) | exact wrapu_nn _ | (intro e he; obtain ⟨x, _, rfl⟩ := List.mem_map.1 he; exact rfl) | (intro e he; cases List.mem_singleton.1 he; rfl) | (simp; done)))
        | ((with_reducible apply k_sl); (· first | assumption | exact sld_nsl | exact sld_sl | exact sld_nil | exact sld_cond (by assumption)))
      simp [ha, hb]
    · have hb : isRel b = false := by simpa using hb
      repeat' first
        | ((with_reducible apply go_i); (conv => whnf))
        | ((with_reducible apply k_pc); (· first | exact C.allen_exists _))
        | with_reducible apply k_caf
        | with_reducible apply k_n
        | ((with_reducible apply k_dt); (· first | assumption | omega))
        | ((with_reducible apply k_df); (· first | assumption | omega))
        | (with_reducible apply k_d <;> intro _)
        | with_reducible apply k_a
        | with_reducible apply k_o
        | ((with_reducible apply k_bt); (· assumption))
        | ((with_reducible apply k_bf); (· assumption))
        | ((with_reducible apply k_gc); (· assumption))
        | ((with_reducible apply k_gcs); (· assumption); (· first | assumption | omega | (simp only [List.length_cons, List.length_nil, List.length_map]; omega)))
        | ((with_reducible apply k_ste); (· assumption); (· first | assumption | omega))
        | ((with_reducible apply k_stc); (· first | assumption | omega | (simp only [List.length_cons, List.length_nil, List.length_map]; omega) | (simp; done)))
        | (with_reducible apply k_b <;> intro _)
        | ((with_reducible apply k_fz); (· assumption))
        | with_reducible apply k_mp
        | ((with_reducible apply k_wr); (· omega); (· omega))
        | with_reducible apply k_ww
        | ((with_reducible apply k_chk); (· first | omega | assumption | exact rfl | (simp only [List.length_cons, List.length_nil]; omega) | exact wrapu_nn _ | (intro e he; obtain ⟨x, _, rfl⟩ := List.mem_map.1 he; exact rfl) | (intro e he; cases List.mem_singleton.1 he; rfl) | (simp; done)))
        | ((with_reducible apply k_sl); (· first | assumption | exact sld_nsl | exact sld_sl | exact sld_nil | exact sld_cond (by assumption)))
      simp [hb]; rfl
  · have ha : isRel a = false := by simpa using ha
    repeat' first
      | ((with_reducible apply go_i); (conv => whnf))
      | ((with_reducible apply k_pc); (· first | exact C.allen_exists _))
      | with_reducible apply k_caf
      | with_reducible apply k_n
      | ((with_reducible apply k_dt); (· first | assumption | omega))
      | ((with_reducible apply k_df); (· first | assumption | omega))
      | (with_reducible apply k_d <;> intro _)
      | with_reducible apply k_a
      | with_reducible apply k_o
      | ((with_reducible apply k_bt); (· assumption))
      | ((with_reducible apply k_bf); (· assumption))
      | ((with_reducible apply k_gc); (· assumption))
      | ((with_reducible apply k_gcs); (· assumption); (· first | assumption | omega | (simp only [List.length_cons, List.length_nil, List.length_map]; omega)))
      | ((with_reducible apply k_ste); (· assumption); (· first | assumption | omega))
      | ((with_reducible apply k_stc); (· first | assumption | omega | (simp only [List.length_cons, List.length_nil, List.length_map]; omega) | (simp; done)))
      | (with_reducible apply k_b <;> intro _)
      | ((with_reducible apply k_fz); (· assumption))
      | with_reducible apply k_mp
      | ((with_reducible apply k_wr); (· omega); (· omega))
      | with_reducible apply k_ww
      | ((with_reducible apply k_chk); (· first | omega | assumption | exact rfl | (simp only [List.length_cons, List.length_nil]; omega) | exact wrapu_nn _ | (intro e he; obtain ⟨x, _, rfl⟩ := List.mem_map.1 he; exact rfl) | (intro e he; cases List.mem_singleton.1 he; rfl) | (simp; done)))
      | ((with_reducible apply k_sl); (· first | assumption | exact sld_nsl | exact sld_sl | exact sld_nil | exact sld_cond (by assumption)))
    simp [ha]; rfl
theorem C.allen_Compose (a b : Int) : Pure Try.prog N.allen_Compose [.d (eI a), .d (eI b)] (.d (eL (compose a b))) := Compose_T comps comps_len C.allen_compositions a b

def tcB (tb : List Int) (s t : Int) (a : Nat) (n : Nat) (o : Int) : Int := (List.range n).foldl (fun o (b : Nat) => if sHas s a && sHas t b then sOr o (tAt tb a b) else o) o
def tcA (tb : List Int) (s t : Int) (n : Nat) : Int := (List.range n).foldl (fun o a => tcB tb s t a 13 o) 0
theorem range_fold {β : Type} (f : β → Nat → β) (b : β) (n : Nat) : (List.range (n + 1)).foldl f b = f ((List.range n).foldl f b) n := by rw [List.range_succ, List.foldl_append]; rfl
theorem list_set_self {α : Type} {l : List α} {i : Nat} {x : α} (h : l[i]? = some x) : l.set i x = l := by
  apply List.ext_getElem?
  intro j
  rw [List.getElem?_set]
  split
  · rename_i e
    subst e
    split
    · exact h.symm
    · rename_i hn
      rw [List.getElem?_eq_none (by omega)] at h
      cases h
  · rfl
theorem C.tc0 (tb : List Int) (h : tb.length = 169) (s t : Int) : CallSpec Try.prog N.pallen_table_compose [.ptr 0 0, eS s, eS t] [.cells (cU tb)] (fun r os' => r = eS (tcA tb s t 13) ∧ os' = [.cells (cU tb)]) := by
  refine F.pallen_table_compose.goX mixed rfl ?_
  have hc3 : Nat.beq 1 (cU tb).length = false := by rw [cU_len, h]; rfl
  have hb1 : (cU tb).all (fun c => c.bnd1B 1) = true := cU_bnd _ _
  have hb5 : (cU tb).all (fun c => c.bnd1B 5) = true := cU_bnd _ _
  repeat' first
    | ((with_reducible apply go_i); (conv => whnf))
    | with_reducible apply k_caf
    | with_reducible apply k_n
    | ((with_reducible apply k_dt); (· first | assumption | omega))
    | ((with_reducible apply k_df); (· first | assumption | omega))
    | (with_reducible apply k_d <;> intro _)
    | with_reducible apply k_a
    | with_reducible apply k_o
    | ((with_reducible apply k_bt); (· assumption))
    | ((with_reducible apply k_bf); (· assumption))
    | ((with_reducible apply k_gc); (· assumption))
    | ((with_reducible apply k_gcs); (· assumption); (· first | assumption | omega | (simp only [List.length_cons, List.length_nil, List.length_map]; omega)))
    | ((with_reducible apply k_ste); (· assumption); (· first | assumption | omega))
    | ((with_reducible apply k_stc); (· first | assumption | omega | (simp only [List.length_cons, List.length_nil, List.length_map]; omega) | (simp; done)))
    | (with_reducible apply k_b <;> intro _)
    | ((with_reducible apply k_fz); (· assumption))
    | with_reducible apply k_mp
    | ((with_reducible apply k_wr); (· omega); (· omega))
    | with_reducible apply k_ww
    | ((with_reducible apply k_chk); (· first | omega | assumption | exact rfl | (simp only [List.length_cons, List.length_nil]; omega) | exact wrapu_nn _ | (intro e he; obtain ⟨x, _, rfl⟩ := List.mem_map.1 he; exact rfl) | (intro e he; cases List.mem_singleton.1 he; rfl) | (simp; done)))
    | ((with_reducible apply k_sl); (· first | assumption | exact sld_nsl | exact sld_sl | exact sld_nil | exact sld_cond (by assumption)))
  refine x_loop2 mixed [10] [0, 4, 5, 6, 7] (fun (a : Nat) (o : Int) => [.d (eI a)]) (fun a o => [.cells (cU tb), .cells [.d (eU s)], .cells [.d (eU t)], .cells [.d (eU 0)], .cells [.d (eU o)]]) (fun a o => a ≤ 13 ∧ o = tcA tb s t a) (fun a _ => 13 - a) 0 0 rfl rfl rfl rfl (fun a o _ => ⟨rfl, ?_⟩) rfl ⟨by omega, rfl⟩ ?_
  · simp [AO.bndB, cU, AV.bnd1B]
  repeat' first
    | ((with_reducible apply go_i); (conv => whnf))
    | with_reducible apply k_caf
    | with_reducible apply k_n
    | ((with_reducible apply k_dt); (· first | assumption | omega))
    | ((with_reducible apply k_df); (· first | assumption | omega))
    | (with_reducible apply k_d <;> intro _)
    | with_reducible apply k_a
    | with_reducible apply k_o
    | ((with_reducible apply k_bt); (· assumption))
    | ((with_reducible apply k_bf); (· assumption))
    | ((with_reducible apply k_gc); (· assumption))
    | ((with_reducible apply k_gcs); (· assumption); (· first | assumption | omega | (simp only [List.length_cons, List.length_nil, List.length_map]; omega)))
    | ((with_reducible apply k_ste); (· assumption); (· first | assumption | omega))
    | ((with_reducible apply k_stc); (· first | assumption | omega | (simp only [List.length_cons, List.length_nil, List.length_map]; omega) | (simp; done)))
    | (with_reducible apply k_b <;> intro _)
    | ((with_reducible apply k_fz); (· assumption))
    | with_reducible apply k_mp
    | ((with_reducible apply k_wr); (· omega); (· omega))
    | with_reducible apply k_ww
    | ((with_reducible apply k_chk); (· first | omega | assumption | exact rfl | (simp only [List.length_cons, List.length_nil]; omega) | exact wrapu_nn _ | (intro e he; obtain ⟨x, _, rfl⟩ := List.mem_map.1 he; exact rfl) | (intro e he; cases List.mem_singleton.1 he; rfl) | (simp; done)))
    | ((with_reducible apply k_sl); (· first | assumption | exact sld_nsl | exact sld_sl | exact sld_nil | exact sld_cond (by assumption)))
  intro a o ⟨h1, h2⟩
  repeat' first
    | ((with_reducible apply go_i); (conv => whnf))
    | with_reducible apply k_caf
    | with_reducible apply k_n
    | ((with_reducible apply k_dt); (· first | assumption | omega))
    | ((with_reducible apply k_df); (· first | assumption | omega))
    | (with_reducible apply k_d <;> intro _)
    | with_reducible apply k_a
    | with_reducible apply k_o
    | ((with_reducible apply k_bt); (· assumption))
    | ((with_reducible apply k_bf); (· assumption))
    | ((with_reducible apply k_gc); (· assumption))
    | ((with_reducible apply k_gcs); (· assumption); (· first | assumption | omega | (simp only [List.length_cons, List.length_nil, List.length_map]; omega)))
    | ((with_reducible apply k_ste); (· assumption); (· first | assumption | omega))
    | ((with_reducible apply k_stc); (· first | assumption | omega | (simp only [List.length_cons, List.length_nil, List.length_map]; omega) | (simp; done)))
    | (with_reducible apply k_b <;> intro _)
    | ((with_reducible apply k_fz); (· assumption))
    | with_reducible apply k_mp
    | ((with_reducible apply k_wr); (· omega); (· omega))
    | with_reducible apply k_ww
    | ((with_reducible apply k_chk); (· first | omega | assumption | exact rfl | (simp only [List.length_cons, List.length_nil]; omega) | exact wrapu_nn _ | (intro e he; obtain ⟨x, _, rfl⟩ := List.mem_map.1 he; exact rfl) | (intro e he; cases List.mem_singleton.1 he; rfl) | (simp; done)))
    | ((with_reducible apply k_sl); (· first | assumption | exact sld_nsl | exact sld_sl | exact sld_nil | exact sld_cond (by assumption)))
  · refine x_loop2 mixed [13] [0, 4, 5, 6, 7, 8, 10] (fun (b : Nat) (o : Int) => [.d (eI b)]) (fun b o => [.cells (cU tb), .cells [.d (eU s)], .cells [.d (eU t)], .cells [.d (eU 0)], .cells [.d (eU o)]]) (fun b o' => b ≤ 13 ∧ o' = tcB tb s t a b o) (fun b _ => 13 - b) 0 o rfl rfl rfl rfl (fun a o _ => ⟨rfl, ?_⟩) rfl ⟨by omega, rfl⟩ ?_
    · simp [AO.bndB, cU, AV.bnd1B]
    repeat' first
      | ((with_reducible apply go_i); (conv => whnf))
      | with_reducible apply k_caf
      | with_reducible apply k_n
      | ((with_reducible apply k_dt); (· first | assumption | omega))
      | ((with_reducible apply k_df); (· first | assumption | omega))
      | (with_reducible apply k_d <;> intro _)
      | with_reducible apply k_a
      | with_reducible apply k_o
      | ((with_reducible apply k_bt); (· assumption))
      | ((with_reducible apply k_bf); (· assumption))
      | ((with_reducible apply k_gc); (· assumption))
      | ((with_reducible apply k_gcs); (· assumption); (· first | assumption | omega | (simp only [List.length_cons, List.length_nil, List.length_map]; omega)))
      | ((with_reducible apply k_ste); (· assumption); (· first | assumption | omega))
      | ((with_reducible apply k_stc); (· first | assumption | omega | (simp only [List.length_cons, List.length_nil, List.length_map]; omega) | (simp; done)))
      | (with_reducible apply k_b <;> intro _)
      | ((with_reducible apply k_fz); (· assumption))
      | with_reducible apply k_mp
      | ((with_reducible apply k_wr); (· omega); (· omega))
      | with_reducible apply k_ww
      | ((with_reducible apply k_chk); (· first | omega | assumption | exact rfl | (simp only [List.length_cons, List.length_nil]; omega) | exact wrapu_nn _ | (intro e he; obtain ⟨x, _, rfl⟩ := List.mem_map.1 he; exact rfl) | (intro e he; cases List.mem_singleton.1 he; rfl) | (simp; done)))
      | ((with_reducible apply k_sl); (· first | assumption | exact sld_nsl | exact sld_sl | exact sld_nil | exact sld_cond (by assumption)))
    intro b o' ⟨h3, h4⟩
    by_cases h5 : b < 13
    · have ha' : (0 : Int) ≤ (a : Int) ∧ (a : Int) < 13 := by omega
      have hb' : (0 : Int) ≤ (b : Int) ∧ (b : Int) < 13 := by omega
      have hg := cU_get h ha' hb'
      have hle : 0 + (a : Int).toNat * 13 + (b : Int).toNat * 1 + 1 ≤ (cU tb).length := by rw [cU_len, h]; omega
      repeat' first
        | ((with_reducible apply go_i); (conv => whnf))
        | ((with_reducible apply k_pc); (· first | exact C.allen_set_has _ _ | exact C.allen_set_or _ _))
        | with_reducible apply k_caf
        | with_reducible apply k_n
        | ((with_reducible apply k_dt); (· first | assumption | omega))
        | ((with_reducible apply k_df); (· first | assumption | omega))
        | (with_reducible apply k_d <;> intro _)
        | with_reducible apply k_a
        | with_reducible apply k_o
        | ((with_reducible apply k_bt); (· assumption))
        | ((with_reducible apply k_bf); (· assumption))
        | ((with_reducible apply k_gc); (· assumption))
        | ((with_reducible apply k_gcs); (· assumption); (· first | assumption | omega | (simp only [List.length_cons, List.length_nil, List.length_map]; omega)))
        | ((with_reducible apply k_ste); (· assumption); (· first | assumption | omega))
        | ((with_reducible apply k_stc); (· first | assumption | omega | (simp only [List.length_cons, List.length_nil, List.length_map]; omega) | (simp; done)))
        | (with_reducible apply k_b <;> intro _)
        | ((with_reducible apply k_fz); (· assumption))
        | with_reducible apply k_mp
        | ((with_reducible apply k_wr); (· omega); (· omega))
        | with_reducible apply k_ww
        | ((with_reducible apply k_chk); (· first | omega | assumption | exact rfl | (simp only [List.length_cons, List.length_nil]; omega) | exact wrapu_nn _ | (intro e he; obtain ⟨x, _, rfl⟩ := List.mem_map.1 he; exact rfl) | (intro e he; cases List.mem_singleton.1 he; rfl) | (simp; done)))
        | ((with_reducible apply k_sl); (· first | assumption | exact sld_nsl | exact sld_sl | exact sld_nil | exact sld_cond (by assumption)))
      · refine ⟨b + 1, _, rfl, rfl, rfl, by omega, by omega, ?_⟩
        rw [tcB, range_fold, ← tcB, ← h4]; simp [*]
      · refine ⟨b + 1, _, rfl, rfl, rfl, by omega, by omega, ?_⟩
        rw [tcB, range_fold, ← tcB, ← h4]; simp [*]
      · refine ⟨b + 1, _, rfl, rfl, rfl, by omega, by omega, ?_⟩
        rw [tcB, range_fold, ← tcB, ← h4]; simp [*]
    · repeat' first
        | ((with_reducible apply go_i); (conv => whnf))
        | with_reducible apply k_caf
        | with_reducible apply k_n
        | ((with_reducible apply k_dt); (· first | assumption | omega))
        | ((with_reducible apply k_df); (· first | assumption | omega))
        | (with_reducible apply k_d <;> intro _)
        | with_reducible apply k_a
        | with_reducible apply k_o
        | ((with_reducible apply k_bt); (· assumption))
        | ((with_reducible apply k_bf); (· assumption))
        | ((with_reducible apply k_gc); (· assumption))
        | ((with_reducible apply k_gcs); (· assumption); (· first | assumption | omega | (simp only [List.length_cons, List.length_nil, List.length_map]; omega)))
        | ((with_reducible apply k_ste); (· assumption); (· first | assumption | omega))
        | ((with_reducible apply k_stc); (· first | assumption | omega | (simp only [List.length_cons, List.length_nil, List.length_map]; omega) | (simp; done)))
        | (with_reducible apply k_b <;> intro _)
        | ((with_reducible apply k_fz); (· assumption))
        | with_reducible apply k_mp
        | ((with_reducible apply k_wr); (· omega); (· omega))
        | with_reducible apply k_ww
        | ((with_reducible apply k_chk); (· first | omega | assumption | exact rfl | (simp only [List.length_cons, List.length_nil]; omega) | exact wrapu_nn _ | (intro e he; obtain ⟨x, _, rfl⟩ := List.mem_map.1 he; exact rfl) | (intro e he; cases List.mem_singleton.1 he; rfl) | (simp; done)))
        | ((with_reducible apply k_sl); (· first | assumption | exact sld_nsl | exact sld_sl | exact sld_nil | exact sld_cond (by assumption)))
      refine ⟨a + 1, _, rfl, rfl, rfl, by omega, by omega, ?_⟩
      rw [tcA, range_fold, ← tcA, ← h2, show 13 = b by omega, h4]
  · refine k_chk (by simp [AO.bndB, cU, AV.bnd1B]) ?_
    repeat' first
      | ((with_reducible apply go_i); (conv => whnf))
      | with_reducible apply k_caf
      | with_reducible apply k_n
      | ((with_reducible apply k_dt); (· first | assumption | omega))
      | ((with_reducible apply k_df); (· first | assumption | omega))
      | (with_reducible apply k_d <;> intro _)
      | with_reducible apply k_a
      | with_reducible apply k_o
      | ((with_reducible apply k_bt); (· assumption))
      | ((with_reducible apply k_bf); (· assumption))
      | ((with_reducible apply k_gc); (· assumption))
      | ((with_reducible apply k_gcs); (· assumption); (· first | assumption | omega | (simp only [List.length_cons, List.length_nil, List.length_map]; omega)))
      | ((with_reducible apply k_ste); (· assumption); (· first | assumption | omega))
      | ((with_reducible apply k_stc); (· first | assumption | omega | (simp only [List.length_cons, List.length_nil, List.length_map]; omega) | (simp; done)))
      | (with_reducible apply k_b <;> intro _)
      | ((with_reducible apply k_fz); (· assumption))
      | with_reducible apply k_mp
      | ((with_reducible apply k_wr); (· omega); (· omega))
      | with_reducible apply k_ww
      | ((with_reducible apply k_chk); (· first | omega | assumption | exact rfl | (simp only [List.length_cons, List.length_nil]; omega) | exact wrapu_nn _ | (intro e he; obtain ⟨x, _, rfl⟩ := List.mem_map.1 he; exact rfl) | (intro e he; cases List.mem_singleton.1 he; rfl) | (simp; done)))
      | ((with_reducible apply k_sl); (· first | assumption | exact sld_nsl | exact sld_sl | exact sld_nil | exact sld_cond (by assumption)))
    exact ⟨by rw [h2, show 13 = a by omega], rfl⟩
theorem C.table_compose (tb : List Int) (h : tb.length = 169) (s t : Int) (os : List AO) (id : Nat) (ho : os[id]? = some (.cells (cU tb))) : CallSpec Try.prog N.pallen_table_compose [.ptr id 0, eS s, eS t] os (fun r os' => r = eS (tcA tb s t 13) ∧ os' = os) := by
  have hm : ∀ f, mO f (.cells (cU tb)) = .cells (cU tb) := fun f => by simp [mO, cU, mC]
  have := lift1 (fun id => [.ptr id 0, eS s, eS t]) (C.tc0 tb h s t) hm hm (fun f => rfl) (fun id n => rfl) (by simp [AV.bnd2, AV.bnd1]) (by simp [AO.bnd, cU, AV.bnd1]) ho
  rwa [list_set_self ho] at this
end Go.Proofs
