/- Texts of this claim, joined. No condition. -/
import Derived.Test.YtjngjdgimlnnjaaGreatQ7
section
/- Apply of a change that can be applied: for any definition. No condition. -/
set_option linter.unusedSimpArgs false
set_option linter.unusedVariables false
set_option maxRecDepth 10000
set_option maxHeartbeats 4000000
namespace Go.Proofs
open Go.Bi
theorem getD_at {t : Tb} {i : Nat} {co : Co} (h : t.cs[i]? = some co) : t.cs.getD i ⟨[], 0, false⟩ = co := by
  rw [List.getD_eq_getElem?_getD, h]; rfl
theorem xs_shf {t : Tb} (hr : t.Rg) : t.xs.map (shf 0) = t.xs.map cpX := map_same fun a ha => shf0_cp a (hr a ha)
theorem list4 {α : Type} {l : List α} (h : l.length ≤ 4) : l = [] ∨ (∃ a, l = [a]) ∨ (∃ a b, l = [a, b]) ∨ (∃ a b c, l = [a, b, c]) ∨ ∃ a b c d, l = [a, b, c, d] := by
  match l, h with
  | [], _ => exact .inl rfl
  | [a], _ => exact .inr (.inl ⟨a, rfl⟩)
  | [a, b], _ => exact .inr (.inr (.inl ⟨a, b, rfl⟩))
  | [a, b, c], _ => exact .inr (.inr (.inr (.inl ⟨a, b, c, rfl⟩)))
  | [a, b, c, d], _ => exact .inr (.inr (.inr (.inr ⟨a, b, c, d, rfl⟩)))
  | _ :: _ :: _ :: _ :: _ :: _, h => simp at h
theorem dc_sl {t : Tb} {dc dk df dx : D} (h : Tok t dc dk df dx) (hv : Vd t) : dc = .sl (eCs t.cs) := by
  rcases h.dc with ⟨_, h2⟩ | h2
  · have := hv.l1
    cases hcs : t.cs with
    | nil => rw [hcs] at this; simp at this
    | cons a l => rw [hcs] at h2; cases h2
  · exact h2
end Go.Proofs
end
section
/- A definition after a change is valid. No condition. -/
set_option linter.unusedSimpArgs false
set_option linter.unusedVariables false
set_option maxRecDepth 10000
set_option maxHeartbeats 4000000
namespace Go.Proofs
open Go.Bi
end Go.Proofs
end
section
/- Same of two definitions that are the same; Index; Lossless. No condition. -/
set_option linter.unusedSimpArgs false
set_option linter.unusedVariables false
set_option maxRecDepth 10000
set_option maxHeartbeats 4000000
namespace Go.Proofs
open Go.Bi
/-- The index of a column after a change, or -1. -/
def idxE (t : Tb) (c : Ch) (k : Int) : Int :=
  if evoE t c ≠ 0 ∨ k < 0 ∨ (t.cs.length : Int) ≤ k then -1 else if c.k ≠ 2 then k else if findC c.nm t.cs = k then -1 else belowI k (findC c.nm t.cs)
theorem C.evolve_Index (t : Tb) (dc dk df dx : D) (h : Tok t dc dk df dx) (c : Ch) (hc : Cok c) (k : Int) : Pure Tryz.prog N.evolve_Index [eT t.nm dc dk df dx, c.av, .d (eI k)] (.d (eI (idxE t c k))) := by
  have hC := C.evolve_Check t dc dk df dx h c hc
  have hF := C.schema_Find t.nm t.cs h.hl dc dk df dx h.dc c.nm
  have hl := h.hl
  have hdc := h.dc
  have hcl := eCs_len t.cs
  obtain ⟨q, hq⟩ : ∃ q, q = idxE t c k := ⟨_, rfl⟩
  rw [← hq]
  unfold idxE at hq
  obtain ⟨e, he⟩ : ∃ e, e = evoE t c := ⟨_, rfl⟩
  rw [← he] at hC hq
  obtain ⟨f, hf⟩ : ∃ f, f = findC c.nm t.cs := ⟨_, rfl⟩
  rw [← hf] at hF hq
  obtain ⟨n, hn⟩ : ∃ n, n = t.cs.length := ⟨_, rfl⟩
  rw [← hn] at hcl hl hq
  obtain ⟨Cs, hCs⟩ : ∃ x, x = eCs t.cs := ⟨_, rfl⟩
  rw [← hCs] at hcl hdc
  clear h hf he hn hCs
  obtain ⟨ck, nm, to, ⟨cn, cck, cl⟩, ⟨vk, vn, vs⟩⟩ := c
  dsimp only at hq hF hC
  by_cases g1 : e ≠ 0 ∨ k < 0 ∨ (n : Int) ≤ k
  · rw [if_pos g1] at hq
    subst hq
    by_cases g2 : e = 0
    rotate_left
    · refine F.evolve_Index.go mixed rfl ?_
      repeat' first|refine st ?_|((with_reducible apply go_i);conv=>whnf)|((with_reducible first|apply k_pn|apply k_pc);(·exact hC))|with_reducible apply k_d<;>intro _|with_reducible apply k_b<;>intro _
      all_goals rfl
    by_cases g3 : k < 0
    · refine F.evolve_Index.go mixed rfl ?_
      repeat' first|refine st ?_|((with_reducible apply go_i);conv=>whnf)|((with_reducible first|apply k_pn|apply k_pc);(·exact hC))|with_reducible apply k_d<;>intro _|with_reducible apply k_b<;>intro _
      all_goals rfl
    have g4 : (n : Int) ≤ k := by omega
    refine F.evolve_Index.go mixed rfl ?_
    repeat' first|refine st ?_|((with_reducible apply go_i);conv=>whnf)|((with_reducible first|apply k_pn|apply k_pc);(·exact hC))|with_reducible apply k_d<;>intro _|with_reducible apply k_b<;>intro _
    all_goals rfl
  · rw [if_neg g1] at hq
    have g2 : e = 0 := by omega
    have g3 : 0 ≤ k := by omega
    have g4 : k < n := by omega
    subst g2
    by_cases g5 : ck = 2
    rotate_left
    · rw [if_pos g5] at hq
      subst hq
      refine F.evolve_Index.go mixed rfl ?_
      repeat' first|refine st ?_|((with_reducible apply go_i);conv=>whnf)|((with_reducible first|apply k_pn|apply k_pc);(·exact hC))|with_reducible apply k_d<;>intro _|with_reducible apply k_b<;>intro _
      all_goals rfl
    subst g5
    rw [if_neg (by decide)] at hq
    by_cases g6 : f = k
    · rw [if_pos g6] at hq
      subst hq
      refine F.evolve_Index.go mixed rfl ?_
      repeat' first|refine st ?_|((with_reducible apply go_i);conv=>whnf)|((with_reducible first|apply k_pn|apply k_pc);(·first|exact hC|exact hF))|with_reducible apply k_d<;>intro _|with_reducible apply k_b<;>intro _
      all_goals rfl
    · rw [if_neg g6] at hq
      have hB := C.evolve_below k f (by omega) (by omega)
      rw [← hq] at hB
      refine F.evolve_Index.go mixed rfl ?_
      repeat' first|refine st ?_|((with_reducible apply go_i);conv=>whnf)|((with_reducible first|apply k_pn|apply k_pc);(·first|exact hC|exact hF|exact hB))|with_reducible apply k_d<;>intro _|with_reducible apply k_b<;>intro _
      all_goals rfl
end Go.Proofs
end
section
/- Clone and Apply as data, Run. No condition. -/
set_option linter.unusedSimpArgs false
set_option linter.unusedVariables false
set_option maxRecDepth 10000
set_option maxHeartbeats 4000000
namespace Go.Proofs
open Go.Bi
/-- A definition with its data. -/
structure TD where
  t : Tb
  dc : D
  dk : D
  df : D
  dx : D
abbrev TD.av (x : TD) : AV := eT x.t.nm x.dc x.dk x.df x.dx
structure TD.ok (x : TD) : Prop where
  tok : Tok x.t x.dc x.dk x.df x.dx
  rg : x.t.Rg
def zTD : TD := ⟨⟨[], [], [], [], []⟩, .nil, .nil, .nil, .nil⟩
def slX (l : List Ex) : D := slD (xL l).isEmpty (xL l)
def TD.evo (x : TD) (c : Ch) : TD := ⟨evoT x.t c, .sl (eCs (evoT x.t c).cs), slD (isN x.dk) (eIs (evoT x.t c).ks), dF (evoT x.t c).fs, slX (evoT x.t c).xs⟩
/-- Apply of a change that can be applied. -/
theorem C.evo_Apply (x : TD) (h : x.ok) (c : Ch) (hc : Cok c) (hq : evoE x.t c = 0) : Pure Tryz.prog N.evolve_Apply [x.av, c.av] (.tup [(x.evo c).av, .d (eI 0)]) := by
  obtain ⟨t, dc, dk, df, dx⟩ := x
  obtain ⟨h, hr⟩ := h
  dsimp only at h hr hq
  obtain ⟨q1, q2, q3, q4, q5⟩ := evo_inv hq
  have hv := tab_vd.1 q1
  have hdc := dc_sl h hv
  have hx := xs_shf hr
  have hnm : (evoT t c).nm = t.nm := by unfold evoT; split; rfl; split; rfl; split <;> rfl
  have he : slX (evoT t c).xs = slD (xL (t.xs.map (shf 0))).isEmpty (xL (evoT t c).xs) := by
    rw [hx]
    unfold slX
    congr 1
    unfold evoT
    split
    · rfl
    · split
      · cases t.xs <;> rfl
      · split <;> rfl
  unfold TD.av TD.evo
  dsimp only
  rw [hnm, he]
  by_cases k1 : c.k = 1
  · have e : evoT t c = ⟨t.nm, t.cs ++ [c.co], t.ks, t.fs, t.xs.map cpX⟩ := by unfold evoT; rw [if_pos k1]
    rw [e, ← hx]
    rcases list4 hv.fl with hf | ⟨a0, hf⟩ | ⟨a0, a1, hf⟩ | ⟨a0, a1, a2, hf⟩ | ⟨a0, a1, a2, a3, hf⟩
    · exact C.app0_add t dc dk df dx h c hc hq hf k1
    · exact C.app1_add t dc dk df dx h c hc hq a0 hf k1
    · exact C.app2_add t dc dk df dx h c hc hq a0 a1 hf k1
    · exact C.app3_add t dc dk df dx h c hc hq a0 a1 a2 hf k1
    · exact C.app4_add t dc dk df dx h c hc hq a0 a1 a2 a3 hf k1
  · obtain ⟨i, co, hi, hco, hcn, hus, _, _⟩ := chg_inv (q5 k1)
    have hil := (List.getElem?_eq_some_iff.1 hco).1
    have hiN : (findC c.nm t.cs).toNat = i := by omega
    by_cases k2 : c.k = 2
    · have e : evoT t c = ⟨t.nm, t.cs.eraseIdx i, t.ks.map (fun x => belowI x i), t.fs.map (blF i), t.xs.map (dnX i)⟩ := by unfold evoT; rw [if_neg k1, if_pos k2, hiN]
      have hxd : (t.xs.map (shf 0)).map (subX (mvL t.cs.length i)) = t.xs.map (dnX i) := by
        rw [hx]
        exact map_comp fun a ha => sub_dn i (kd_len _) a (hv.xs a ha).2.1
      rw [e, ← hxd]
      have b1 : ∀ k ∈ t.ks, 0 ≤ k ∧ k ≤ 1048576 := fun k hk => by have := hv.ks k hk; have := hv.l2; omega
      have b2 : ∀ g ∈ t.fs, ∀ k ∈ g.cs, 0 ≤ k ∧ k ≤ 1048576 := fun g hg k hk => by have := (hv.fs g hg).2.2.1 k hk; have := hv.l2; omega
      have b3 : ∀ e ∈ t.xs.map (shf 0), e.bk ≤ 1048576 := fun e he => by
        rw [hx] at he
        obtain ⟨a, ha, rfl⟩ := List.mem_map.1 he
        exact Nat.le_trans (cp_bk a) (h.hxb a ha)
      rcases list4 hv.fl with hf | ⟨a0, hf⟩ | ⟨a0, a1, hf⟩ | ⟨a0, a1, a2, hf⟩ | ⟨a0, a1, a2, a3, hf⟩
      · exact C.app0_drp t dc dk df dx h c hc hq hf k2 i hi hil hdc b1 b2 b3
      · exact C.app1_drp t dc dk df dx h c hc hq a0 hf k2 i hi hil hdc b1 b2 b3
      · exact C.app2_drp t dc dk df dx h c hc hq a0 a1 hf k2 i hi hil hdc b1 b2 b3
      · exact C.app3_drp t dc dk df dx h c hc hq a0 a1 a2 hf k2 i hi hil hdc b1 b2 b3
      · exact C.app4_drp t dc dk df dx h c hc hq a0 a1 a2 a3 hf k2 i hi hil hdc b1 b2 b3
    · by_cases k3 : c.k = 3
      · have e : evoT t c = ⟨t.nm, t.cs.set i ⟨c.to, co.k, co.nl⟩, t.ks, t.fs, t.xs.map cpX⟩ := by unfold evoT; rw [if_neg k1, if_neg k2, if_pos k3, hiN, getD_at hco]
        rw [e, ← hx]
        rcases list4 hv.fl with hf | ⟨a0, hf⟩ | ⟨a0, a1, hf⟩ | ⟨a0, a1, a2, hf⟩ | ⟨a0, a1, a2, a3, hf⟩
        · exact C.app0_ren t dc dk df dx h c hc hq hf k3 i hi co hco hdc
        · exact C.app1_ren t dc dk df dx h c hc hq a0 hf k3 i hi co hco hdc
        · exact C.app2_ren t dc dk df dx h c hc hq a0 a1 hf k3 i hi co hco hdc
        · exact C.app3_ren t dc dk df dx h c hc hq a0 a1 a2 hf k3 i hi co hco hdc
        · exact C.app4_ren t dc dk df dx h c hc hq a0 a1 a2 a3 hf k3 i hi co hco hdc
      · have k4 : c.k = 4 := by omega
        have e : evoT t c = ⟨t.nm, t.cs.set i ⟨co.nm, 2, co.nl⟩, t.ks, t.fs, t.xs.map cpX⟩ := by unfold evoT; rw [if_neg k1, if_neg k2, if_neg k3, hiN, getD_at hco]
        rw [e, ← hx]
        rcases list4 hv.fl with hf | ⟨a0, hf⟩ | ⟨a0, a1, hf⟩ | ⟨a0, a1, a2, hf⟩ | ⟨a0, a1, a2, a3, hf⟩
        · exact C.app0_txt t dc dk df dx h c hc hq hf k4 i hi co hco hdc
        · exact C.app1_txt t dc dk df dx h c hc hq a0 hf k4 i hi co hco hdc
        · exact C.app2_txt t dc dk df dx h c hc hq a0 a1 hf k4 i hi co hco hdc
        · exact C.app3_txt t dc dk df dx h c hc hq a0 a1 a2 hf k4 i hi co hco hdc
        · exact C.app4_txt t dc dk df dx h c hc hq a0 a1 a2 a3 hf k4 i hi co hco hdc
/-! ### Clone -/
def Fi.of (g : Fo) : Fi := ⟨g.d, eIs g.cs, isN g.d, g.tb⟩
end Go.Proofs
end
section
/- The reference: lower, moved, Index, Lossless. No condition. -/
set_option linter.unusedSimpArgs false
set_option linter.unusedVariables false
set_option maxRecDepth 10000
set_option maxHeartbeats 4000000
namespace Go.Proofs
open Go.Bi
theorem C.r14_Index (t : Tb) (dc dk df dx : D) (h : Tok t dc dk df dx) (c : Ch) (hc : Cok c) (k : Int) : Pure Tryz.prog N.bt_ref14_Index [eT t.nm dc dk df dx, c.av, .d (eI k)] (.d (eI (idxE t c k))) := by
  have hC := C.r14_Check t dc dk df dx h c hc
  have hF := C.r13_Find t.nm t.cs h.hl dc dk df dx h.dc c.nm
  have hl := h.hl
  have hdc := h.dc
  have hcl := eCs_len t.cs
  obtain ⟨q, hq⟩ : ∃ q, q = idxE t c k := ⟨_, rfl⟩
  rw [← hq]
  unfold idxE at hq
  obtain ⟨e, he⟩ : ∃ e, e = evoE t c := ⟨_, rfl⟩
  rw [← he] at hC hq
  obtain ⟨f, hf⟩ : ∃ f, f = findC c.nm t.cs := ⟨_, rfl⟩
  rw [← hf] at hF hq
  obtain ⟨n, hn⟩ : ∃ n, n = t.cs.length := ⟨_, rfl⟩
  rw [← hn] at hcl hl hq
  obtain ⟨Cs, hCs⟩ : ∃ x, x = eCs t.cs := ⟨_, rfl⟩
  rw [← hCs] at hcl hdc
  clear h hf he hn hCs
  obtain ⟨ck, nm, to, ⟨cn, cck, cl⟩, ⟨vk, vn, vs⟩⟩ := c
  dsimp only at hq hF hC
  by_cases g1 : e ≠ 0 ∨ k < 0 ∨ (n : Int) ≤ k
  · rw [if_pos g1] at hq
    subst hq
    by_cases g2 : e = 0
    rotate_left
    · refine F.bt_ref14_Index.go mixed rfl ?_
      repeat' first|refine st ?_|((with_reducible apply go_i);conv=>whnf)|((with_reducible first|apply k_pn|apply k_pc);(·exact hC))|with_reducible apply k_d<;>intro _|with_reducible apply k_b<;>intro _
      all_goals rfl
    by_cases g3 : k < 0
    · refine F.bt_ref14_Index.go mixed rfl ?_
      repeat' first|refine st ?_|((with_reducible apply go_i);conv=>whnf)|((with_reducible first|apply k_pn|apply k_pc);(·exact hC))|with_reducible apply k_d<;>intro _|with_reducible apply k_b<;>intro _
      all_goals rfl
    have g4 : (n : Int) ≤ k := by omega
    refine F.bt_ref14_Index.go mixed rfl ?_
    repeat' first|refine st ?_|((with_reducible apply go_i);conv=>whnf)|((with_reducible first|apply k_pn|apply k_pc);(·exact hC))|with_reducible apply k_d<;>intro _|with_reducible apply k_b<;>intro _
    all_goals rfl
  · rw [if_neg g1] at hq
    have g2 : e = 0 := by omega
    have g3 : 0 ≤ k := by omega
    have g4 : k < n := by omega
    subst g2
    by_cases g5 : ck = 2
    rotate_left
    · rw [if_pos g5] at hq
      subst hq
      refine F.bt_ref14_Index.go mixed rfl ?_
      repeat' first|refine st ?_|((with_reducible apply go_i);conv=>whnf)|((with_reducible first|apply k_pn|apply k_pc);(·exact hC))|with_reducible apply k_d<;>intro _|with_reducible apply k_b<;>intro _
      all_goals rfl
    subst g5
    rw [if_neg (by decide)] at hq
    by_cases g6 : f = k
    · rw [if_pos g6] at hq
      subst hq
      subst g6
      have r1 : f = f := rfl
      refine F.bt_ref14_Index.go mixed rfl ?_
      repeat' first|refine st ?_|((with_reducible apply go_i);conv=>whnf)|((with_reducible first|apply k_pn|apply k_pc);(·first|exact hC|exact hF))|with_reducible apply k_d<;>intro _|with_reducible apply k_b<;>intro _
      all_goals rfl
    · rw [if_neg g6] at hq
      have g7 : ¬ k = f := fun e => g6 e.symm
      unfold belowI at hq
      by_cases g8 : f < k
      · rw [if_pos g8] at hq
        subst hq
        refine F.bt_ref14_Index.go mixed rfl ?_
        repeat' first|refine st ?_|((with_reducible apply go_i);conv=>whnf)|((with_reducible first|apply k_pn|apply k_pc);(·first|exact hC|exact hF))|with_reducible apply k_d<;>intro _|with_reducible apply k_b<;>intro _
        all_goals rfl
      · rw [if_neg g8] at hq
        subst hq
        refine F.bt_ref14_Index.go mixed rfl ?_
        repeat' first|refine st ?_|((with_reducible apply go_i);conv=>whnf)|((with_reducible first|apply k_pn|apply k_pc);(·first|exact hC|exact hF))|with_reducible apply k_d<;>intro _|with_reducible apply k_b<;>intro _
        all_goals rfl
def losB (c : Ch) : Bool := decide (c.k = 1) || (decide (c.k = 3) || decide (c.k = 4))
theorem C.evo_Lossless (c : Ch) : Pure Tryz.prog N.evolve_Lossless [c.av] (.d (.bool (losB c))) := by
  obtain ⟨ck, nm, to, ⟨cn, cck, cl⟩, ⟨vk, vn, vs⟩⟩ := c
  unfold losB
  dsimp only
  by_cases h1 : ck = 1
  · subst h1
    refine F.evolve_Lossless.go mixed rfl ?_
    repeat' first|refine st ?_|((with_reducible apply go_i);conv=>whnf)|with_reducible apply k_d<;>intro _|with_reducible apply k_b<;>intro _
    all_goals rfl
  · by_cases h3 : ck = 3
    · subst h3
      refine F.evolve_Lossless.go mixed rfl ?_
      repeat' first|refine st ?_|((with_reducible apply go_i);conv=>whnf)|with_reducible apply k_d<;>intro _|with_reducible apply k_b<;>intro _
      all_goals rfl
    · rw [decide_eq_false h1, decide_eq_false h3]
      refine F.evolve_Lossless.go mixed rfl ?_
      repeat' first|refine st ?_|((with_reducible apply go_i);conv=>whnf)|with_reducible apply k_d<;>intro _|with_reducible apply k_b<;>intro _
      all_goals first | rfl | (simp_all; done)
theorem C.r14_Lossless (c : Ch) : Pure Tryz.prog N.bt_ref14_Lossless [c.av] (.d (.bool (losB c))) := by
  obtain ⟨ck, nm, to, ⟨cn, cck, cl⟩, ⟨vk, vn, vs⟩⟩ := c
  unfold losB
  dsimp only
  by_cases h1 : ck = 1
  · subst h1
    refine F.bt_ref14_Lossless.go mixed rfl ?_
    repeat' first|refine st ?_|((with_reducible apply go_i);conv=>whnf)|with_reducible apply k_d<;>intro _|with_reducible apply k_b<;>intro _
    all_goals rfl
  · by_cases h3 : ck = 3
    · subst h3
      refine F.bt_ref14_Lossless.go mixed rfl ?_
      repeat' first|refine st ?_|((with_reducible apply go_i);conv=>whnf)|with_reducible apply k_d<;>intro _|with_reducible apply k_b<;>intro _
      all_goals rfl
    · rw [decide_eq_false h1, decide_eq_false h3]
      refine F.bt_ref14_Lossless.go mixed rfl ?_
      repeat' first|refine st ?_|((with_reducible apply go_i);conv=>whnf)|with_reducible apply k_d<;>intro _|with_reducible apply k_b<;>intro _
      all_goals first | rfl | (simp_all; done)
theorem L.EvolveIndices (x : TD) (h : x.ok) (c : Ch) (hc : Cok c) (k : Int) (hA : Pure Tryz.prog N.bt_law14_awake [] (.d (.bool true))) : Pure Tryz.prog N.bt_law14_EvolveIndices [x.av, c.av, .d (eI k)] (.d (.bool true)) := by
  have h1 := C.evolve_Index x.t x.dc x.dk x.df x.dx h.tok c hc k
  have h2 := C.r14_Index x.t x.dc x.dk x.df x.dx h.tok c hc k
  have h3 := C.evo_Lossless c
  have h4 := C.r14_Lossless c
  obtain ⟨q, hq⟩ : ∃ q, q = idxE x.t c k := ⟨_, rfl⟩
  rw [← hq] at h1 h2
  obtain ⟨b, hb⟩ : ∃ q, q = losB c := ⟨_, rfl⟩
  rw [← hb] at h3 h4
  have r1 : q = q := rfl
  have r2 : b = b := rfl
  obtain ⟨⟨nm, cs, ks, fs, xs⟩, dc, dk, df, dx⟩ := x
  obtain ⟨ck, cnm, to, ⟨cn, cck, cl⟩, ⟨vk, vn, vs⟩⟩ := c
  refine F.bt_law14_EvolveIndices.go mixed rfl ?_
  repeat' first|refine st ?_|((with_reducible apply go_i);conv=>whnf)|((with_reducible first|apply k_pn|apply k_pc);(·first|exact h1|exact h2|exact h3|exact h4|exact hA))|with_reducible apply k_d<;>intro _|with_reducible apply k_b<;>intro _
  all_goals first | rfl | (cases b <;> simp_all; done) | (exfalso; simp_all; done)
end Go.Proofs
end
section
/- Run: changes one after another. No condition. -/
set_option linter.unusedSimpArgs false
set_option linter.unusedVariables false
set_option maxRecDepth 10000
set_option maxHeartbeats 4000000
namespace Go.Proofs
open Go.Bi
def TD.run (x : TD) (i : Nat) : List Ch → TD × Nat × Int
  | [] => (x, i, 0)
  | c :: r => if evoE x.t c = 0 then TD.run (x.evo c) (i + 1) r else (zTD, i, evoE x.t c)
end Go.Proofs
end
section
/- The examples of chapter 14. No condition. -/
set_option linter.unusedSimpArgs false
set_option linter.unusedVariables false
set_option maxRecDepth 10000
set_option maxHeartbeats 4000000
namespace Go.Proofs
open Go.Bi
def smT : Tb := ⟨[116], [⟨[97], 1, false⟩, ⟨[98], 2, true⟩], [0], [], []⟩
def smU : Tb := ⟨[116], [⟨[98], 2, false⟩, ⟨[97], 1, false⟩, ⟨[99], 1, false⟩], [1], [], []⟩
def ch1 : Ch := ⟨1, [], [], ⟨[99], 1, true⟩, ⟨1, 7, []⟩⟩
def ch2 : Ch := ⟨2, [98], [], ⟨[], 0, false⟩, ⟨0, 0, []⟩⟩
def ch3 : Ch := ⟨2, [97], [], ⟨[], 0, false⟩, ⟨0, 0, []⟩⟩
def ch4 : Ch := ⟨2, [99], [], ⟨[], 0, false⟩, ⟨0, 0, []⟩⟩
theorem smT_ok : Tok smT (.sl (eCs smT.cs)) (.sl (eIs smT.ks)) .nil .nil :=
  ⟨by decide, by decide, by decide, by decide, by decide, fun f hf => by simp [smT] at hf, by decide, fun e he => by simp [smT] at he, sld_sl, sld_sl, sld_nil, sld_nil⟩
theorem smU_ok : Tok smU (.sl (eCs smU.cs)) (.sl (eIs smU.ks)) .nil .nil :=
  ⟨by decide, by decide, by decide, by decide, by decide, fun f hf => by simp [smU] at hf, by decide, fun e he => by simp [smU] at he, sld_sl, sld_sl, sld_nil, sld_nil⟩
theorem ch_ok : Cok ch1 ∧ Cok ch2 ∧ Cok ch3 ∧ Cok ch4 := ⟨⟨by decide, by decide, by decide, by decide⟩, ⟨by decide, by decide, by decide, by decide⟩, ⟨by decide, by decide, by decide, by decide⟩, ⟨by decide, by decide, by decide, by decide⟩⟩
theorem evo1 : evoE smT ch1 = 0 := by kernel_rfl
theorem evo2 : evoE smU ch2 = 0 := by kernel_rfl
theorem evo3 : evoE smT ch3 = 25 := by kernel_rfl
theorem evo4 : evoE smT ch4 = 11 := by kernel_rfl
theorem C.law14_sample : Pure Tryz.prog N.bt_law14_sample [] (eT smT.nm (.sl (eCs smT.cs)) (.sl (eIs smT.ks)) .nil .nil) := by
  refine F.bt_law14_sample.go mixed rfl ?_
  repeat' first|refine st ?_|((with_reducible apply go_i);conv=>whnf)|with_reducible apply k_d<;>intro _|with_reducible apply k_b<;>intro _
  all_goals rfl
theorem C.law14_awake : Pure Tryz.prog N.bt_law14_awake [] (.d (.bool true)) := by
  have hS := C.law14_sample
  have hI : Bi.Pure Tryz.prog N.bt_ref07_Int [.d (eI 7)] (eV ⟨1, 7, []⟩) := C.r7_Int 7
  have hA := C.evo_Apply ⟨smT, .sl (eCs smT.cs), .sl (eIs smT.ks), .nil, .nil⟩ ⟨smT_ok, fun e he => by simp [smT] at he⟩ ch1 ch_ok.1 evo1
  have hB := C.evo_Apply ⟨smU, .sl (eCs smU.cs), .sl (eIs smU.ks), .nil, .nil⟩ ⟨smU_ok, fun e he => by simp [smU] at he⟩ ch2 ch_ok.2.1 evo2
  rw [show TD.evo ⟨smT, .sl (eCs smT.cs), .sl (eIs smT.ks), .nil, .nil⟩ ch1 = ⟨⟨[116], smT.cs ++ [ch1.co], [0], [], []⟩, .sl (eCs (smT.cs ++ [ch1.co])), .sl [[eI 0]], .nil, .nil⟩ by kernel_rfl] at hA
  rw [show TD.evo ⟨smU, .sl (eCs smU.cs), .sl (eIs smU.ks), .nil, .nil⟩ ch2 = ⟨⟨[116], [⟨[97], 1, false⟩, ⟨[99], 1, false⟩], [0], [], []⟩, .sl (eCs [⟨[97], 1, false⟩, ⟨[99], 1, false⟩]), .sl [[eI 0]], .nil, .nil⟩ by kernel_rfl] at hB
  have hC := C.evolve_Check smT _ _ _ _ smT_ok ch3 ch_ok.2.2.1
  have hD := C.evolve_Check smT _ _ _ _ smT_ok ch4 ch_ok.2.2.2
  rw [evo3] at hC
  rw [evo4] at hD
  refine F.bt_law14_awake.go mixed rfl ?_
  repeat' first|refine st ?_|((with_reducible apply go_i);conv=>whnf)|((with_reducible first|apply k_pn|apply k_pc);(·first|exact hS|exact hI|exact hA|exact hB|exact hC|exact hD))|with_reducible apply k_d<;>intro _|with_reducible apply k_b<;>intro _
  all_goals rfl
end Go.Proofs
end
section
/- What the laws are handed: definitions of tables. No condition. -/
set_option linter.unusedSimpArgs false
set_option linter.unusedVariables false
set_option maxRecDepth 10000
set_option maxHeartbeats 4000000
namespace Go.Proofs
open Go.Bi
abbrev T.co : TypeId := 29
abbrev T.cos : TypeId := 22
abbrev T.fo : TypeId := 56
abbrev T.fos : TypeId := 24
abbrev T.tb : TypeId := 27
theorem cells_co : Tryz.prog.cellsOf T.co = 3 := by kernel_rfl
theorem cells_cos : Tryz.prog.cellsOf T.cos = 1 := by kernel_rfl
theorem cells_ints : Tryz.prog.cellsOf T.ints = 1 := by kernel_rfl
theorem cells_fo : Tryz.prog.cellsOf T.fo = 2 := by kernel_rfl
theorem cells_fos : Tryz.prog.cellsOf T.fos = 1 := by kernel_rfl
theorem cells_tb : Tryz.prog.cellsOf T.tb = 5 := by kernel_rfl
theorem wt_co {ds : List D} (h : WT Tryz.prog T.co ds) : ∃ c : Co, ds = c.ds := by
  obtain ⟨hl, hf⟩ := h.st' Tryz.underlying29
  rw [cells_co] at hl
  match ds, hl with
  | [x, y, z], _ =>
    have h0 := hf _ (List.mem_cons_self ..)
    have h1 := hf _ (List.mem_cons_of_mem _ (List.mem_cons_self ..))
    have h2 := hf _ (List.mem_cons_of_mem _ (List.mem_cons_of_mem _ (List.mem_cons_self ..)))
    dsimp only at h0 h1 h2
    rw [cells_str] at h0
    rw [cells_int] at h1
    rw [cells_bool] at h2
    obtain ⟨a, ha⟩ := wt_str h0
    obtain ⟨b, hb⟩ := wt_int h1
    obtain ⟨s, hs⟩ := wt_bool h2
    simp at ha hb hs
    exact ⟨⟨a, b, s⟩, by rw [ha, hb, hs]⟩
theorem wt_cos {ds : List D} (h : WT Tryz.prog T.cos ds) : ∃ d l, ds = [d] ∧ SlD d (eCs l) := by
  obtain ⟨d, es, h1, h2, h4, h3⟩ := h.sl' Tryz.underlying22
  have : ∃ l, es = eCs l := by
    clear h1 h2 h4
    induction es with
    | nil => exact ⟨[], rfl⟩
    | cons x es ih =>
      obtain ⟨n, hn⟩ := wt_co (h3 x (by simp))
      obtain ⟨ks, hk⟩ := ih fun y hy => h3 y (by simp [hy])
      exact ⟨n :: ks, by rw [hn, hk]; rfl⟩
  obtain ⟨ks, rfl⟩ := this
  exact ⟨d, ks, h1, h2⟩
theorem wt_fo {ds : List D} (h : WT Tryz.prog T.fo ds) : ∃ f : Fo, ds = f.ds := by
  obtain ⟨hl, hf⟩ := h.st' Tryz.underlying56
  rw [cells_fo] at hl
  match ds, hl with
  | [x, y], _ =>
    have h0 := hf _ (List.mem_cons_self ..)
    have h1 := hf _ (List.mem_cons_of_mem _ (List.mem_cons_self ..))
    dsimp only at h0 h1
    rw [cells_ints] at h0
    rw [cells_str] at h1
    obtain ⟨d, ks, ha, hd⟩ := wt_ints h0
    obtain ⟨s, hs⟩ := wt_str h1
    simp at ha hs
    rcases hd with ⟨rfl, he⟩ | rfl
    · have : ks = [] := by cases ks with
        | nil => rfl
        | cons k ks => cases he
      subst this
      exact ⟨⟨true, [], s⟩, by rw [ha, hs]; rfl⟩
    · exact ⟨⟨false, ks, s⟩, by rw [ha, hs]; rfl⟩
theorem wt_fos {ds : List D} (h : WT Tryz.prog T.fos ds) : ∃ d l, ds = [d] ∧ SlD d (eFs l) := by
  obtain ⟨d, es, h1, h2, h4, h3⟩ := h.sl' Tryz.underlying24
  have : ∃ l, es = eFs l := by
    clear h1 h2 h4
    induction es with
    | nil => exact ⟨[], rfl⟩
    | cons x es ih =>
      obtain ⟨n, hn⟩ := wt_fo (h3 x (by simp))
      obtain ⟨ks, hk⟩ := ih fun y hy => h3 y (by simp [hy])
      exact ⟨n :: ks, by rw [hn, hk]; rfl⟩
  obtain ⟨ks, rfl⟩ := this
  exact ⟨d, ks, h1, h2⟩
theorem av_tb (n dc dk df dx : D) : avOf Tryz.prog T.tb [n, dc, dk, df, dx] = .agg [.d n, .d dc, .d dk, .d df, .d dx] := by unfold avOf; rw [Tryz.underlying27]; rfl
theorem cos_bulk {d : D} {l : List Co} (h : SlD d (eCs l)) : l.length ≤ bulkL [d] ∧ ∀ v ∈ l, v.nm.length ≤ bulkL [d] := by
  have h1 := sld_bulk h
  have h2 : (eCs l).length ≤ bulkLL (eCs l) := bulkLL_len fun x hx => by
    obtain ⟨k, _, rfl⟩ := List.mem_map.1 hx
    simp only [Co.ds, bulkL, bulkD]; omega
  rw [eCs_len] at h2
  refine ⟨by omega, fun v hv => ?_⟩
  have h3 : bulkL v.ds ≤ bulkLL (eCs l) := bulkLL_mem (List.mem_map.2 ⟨v, hv, rfl⟩)
  have h4 : v.nm.length ≤ bulkL v.ds := by simp only [Co.ds, bulkL, bulkD]; omega
  omega
theorem fos_bulk {d : D} {l : List Fo} (h : SlD d (eFs l)) : l.length ≤ bulkL [d] ∧ ∀ f ∈ l, f.cs.length ≤ bulkL [d] ∧ f.tb.length ≤ bulkL [d] := by
  have h1 := sld_bulk h
  have h2 : (eFs l).length ≤ bulkLL (eFs l) := bulkLL_len fun x hx => by
    obtain ⟨k, _, rfl⟩ := List.mem_map.1 hx
    simp only [Fo.ds, bulkL, bulkD]; omega
  rw [eFs_len] at h2
  refine ⟨by omega, fun v hv => ?_⟩
  have h3 : bulkL v.ds ≤ bulkLL (eFs l) := bulkLL_mem (List.mem_map.2 ⟨v, hv, rfl⟩)
  have h4 : v.tb.length ≤ bulkL v.ds := by simp only [Fo.ds, bulkL, bulkD]; omega
  have h5 : v.cs.length ≤ bulkL [v.d] := ints_bulk v.sld
  have h6 : bulkL [v.d] ≤ bulkL v.ds := by simp only [Fo.ds, bulkL]; omega
  omega
theorem exs_bulk {d : D} {l : List Ex} (h : SlD d (xL l)) : l.length ≤ bulkL [d] ∧ ∀ e ∈ l, e.bk ≤ bulkL [d] := by
  have h1 := sld_bulk h
  have h2 := xL_bulk_len l
  refine ⟨by omega, fun v hv => ?_⟩
  have h3 : bulkL v.ds ≤ bulkLL (xL l) := bulkLL_mem (List.mem_map.2 ⟨v, hv, rfl⟩)
  unfold Ex.bk
  omega
theorem tb_tok {t : Tb} {dc dk df dx : D} (hb : bulkL [.str t.nm, dc, dk, df, dx] ≤ 1048576) (hc : SlD dc (eCs t.cs)) (hk : SlD dk (eIs t.ks)) (hf : SlD df (eFs t.fs)) (hx : SlD dx (xL t.xs)) : Tok t dc dk df dx := by
  have h1 := cos_bulk hc
  have h2 := ints_bulk hk
  have h3 := fos_bulk hf
  have h4 := exs_bulk hx
  have e : bulkL [.str t.nm, dc, dk, df, dx] = t.nm.length + 1 + (bulkL [dc] + (bulkL [dk] + (bulkL [df] + bulkL [dx]))) := by simp only [bulkL, bulkD]; omega
  rw [e] at hb
  exact { hn := by omega, hl := by omega, hls := fun c hc => Nat.le_trans (h1.2 c hc) (by omega), hk := by omega, hfl := by omega, hfc := fun f hf => ⟨Nat.le_trans (h3.2 f hf).1 (by omega), Nat.le_trans (h3.2 f hf).2 (by omega)⟩, hxs := by omega, hxb := fun e he => Nat.le_trans (h4.2 e he) (by omega), dc := hc, dk := hk, df := hf, dx := hx }
end Go.Proofs
end
section
/- The law on checked changes, and what it is handed. No condition. -/
set_option linter.unusedSimpArgs false
set_option linter.unusedVariables false
set_option maxRecDepth 10000
set_option maxHeartbeats 4000000
namespace Go.Proofs
open Go.Bi
abbrev T.ch : TypeId := 33
theorem cells_ch : Tryz.prog.cellsOf T.ch = 9 := by kernel_rfl
abbrev Ch.ds (c : Ch) : List D := [eI c.k, .str c.nm, .str c.to, .str c.co.nm, eI c.co.k, .bool c.co.nl, eI c.df.k, eI c.df.n, .str c.df.s]
theorem wt_ch {ds : List D} (h : WT Tryz.prog T.ch ds) : ∃ c : Ch, ds = c.ds := by
  obtain ⟨hl, hf⟩ := h.st' Tryz.underlying33
  rw [cells_ch] at hl
  match ds, hl with
  | [d0, d1, d2, d3, d4, d5, d6, d7, d8], _ =>
    have h0 := hf _ (List.mem_cons_self ..)
    have h1 := hf _ (List.mem_cons_of_mem _ (List.mem_cons_self ..))
    have h2 := hf _ (List.mem_cons_of_mem _ (List.mem_cons_of_mem _ (List.mem_cons_self ..)))
    have h3 := hf _ (List.mem_cons_of_mem _ (List.mem_cons_of_mem _ (List.mem_cons_of_mem _ (List.mem_cons_self ..))))
    have h4 := hf _ (List.mem_cons_of_mem _ (List.mem_cons_of_mem _ (List.mem_cons_of_mem _ (List.mem_cons_of_mem _ (List.mem_cons_self ..)))))
    dsimp only at h0 h1 h2 h3 h4
    rw [cells_int] at h0
    rw [cells_str] at h1 h2
    rw [cells_co] at h3
    rw [cells_val] at h4
    obtain ⟨k, h0⟩ := wt_int h0
    obtain ⟨nm, h1⟩ := wt_str h1
    obtain ⟨to, h2⟩ := wt_str h2
    obtain ⟨co, h3⟩ := wt_co h3
    obtain ⟨df, h4⟩ := wt_val h4
    simp at h0 h1 h2 h3 h4
    obtain ⟨e3, e4, e5⟩ := h3
    obtain ⟨e6, e7, e8⟩ := h4
    exact ⟨⟨k, nm, to, co, df⟩, by rw [h0, h1, h2, e3, e4, e5, e6, e7, e8]⟩
theorem av_ch (c : Ch) : avOf Tryz.prog T.ch c.ds = c.av := by unfold avOf; rw [Tryz.underlying33]; rfl
theorem ch_cok {c : Ch} (hb : bulkL c.ds ≤ 1048576) : Cok c := by
  simp only [Ch.ds, bulkL, bulkD] at hb
  exact ⟨by omega, by omega, by omega, by omega⟩
end Go.Proofs
end
section
/- What the laws are handed: definitions with expressions in range, lists of changes. No condition. -/
set_option linter.unusedSimpArgs false
set_option linter.unusedVariables false
set_option maxRecDepth 10000
set_option maxHeartbeats 4000000
namespace Go.Proofs
open Go.Bi
abbrev TD.ds (x : TD) : List D := [.str x.t.nm, x.dc, x.dk, x.df, x.dx]
theorem wt_td {ds : List D} (h : WT Tryz.prog T.tb ds) : ∃ x : TD, ds = x.ds ∧ SlD x.dc (eCs x.t.cs) ∧ SlD x.dk (eIs x.t.ks) ∧ SlD x.df (eFs x.t.fs) ∧ SlD x.dx (xL x.t.xs) ∧ x.t.Rg := by
  obtain ⟨hl, hf⟩ := h.st' Tryz.underlying27
  rw [cells_tb] at hl
  match ds, hl with
  | [d0, d1, d2, d3, d4], _ =>
    have h0 := hf _ (List.mem_cons_self ..)
    have h1 := hf _ (List.mem_cons_of_mem _ (List.mem_cons_self ..))
    have h2 := hf _ (List.mem_cons_of_mem _ (List.mem_cons_of_mem _ (List.mem_cons_self ..)))
    have h3 := hf _ (List.mem_cons_of_mem _ (List.mem_cons_of_mem _ (List.mem_cons_of_mem _ (List.mem_cons_self ..))))
    have h4 := hf _ (List.mem_cons_of_mem _ (List.mem_cons_of_mem _ (List.mem_cons_of_mem _ (List.mem_cons_of_mem _ (List.mem_cons_self ..)))))
    dsimp only at h0 h1 h2 h3 h4
    rw [cells_str] at h0
    rw [cells_cos] at h1
    rw [cells_ints] at h2
    rw [cells_fos] at h3
    rw [cells_exs] at h4
    obtain ⟨s, hs⟩ := wt_str h0
    obtain ⟨dc, l, h1, hc⟩ := wt_cos h1
    obtain ⟨dk, ks, h2, hk⟩ := wt_ints h2
    obtain ⟨df, fs, h3, hf⟩ := wt_fos h3
    obtain ⟨nl, xs, h4, hx⟩ := wt_exsr h4
    simp at hs h1 h2 h3 h4
    exact ⟨⟨⟨s, l, ks, fs, xs⟩, dc, dk, df, ng nl (xL xs)⟩, by rw [hs, h1, h2, h3, h4], hc, hk, hf, sld_ng, hx⟩
theorem td_ok {x : TD} (hb : bulkL x.ds ≤ 1048576) (h : SlD x.dc (eCs x.t.cs) ∧ SlD x.dk (eIs x.t.ks) ∧ SlD x.df (eFs x.t.fs) ∧ SlD x.dx (xL x.t.xs) ∧ x.t.Rg) : x.ok :=
  ⟨tb_tok hb h.1 h.2.1 h.2.2.1 h.2.2.2.1, h.2.2.2.2⟩
end Go.Proofs
end
