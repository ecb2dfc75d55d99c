/- Texts of this claim, joined. No condition. -/
import Derived.Test.YtjngjdgimlnnjaaQ7
section
/- Apply of a change that can be applied: for any definition. No condition. -/
set_option linter.unusedSimpArgs false
set_option linter.unusedVariables false
set_option maxRecDepth 10000
set_option maxHeartbeats 4000000
namespace Go.Proofs
open Go.Bi
theorem getD_at {t : Tb} {i : Nat} {co : Co} (h : t.cs[i]? = some co) : t.cs.getD i ⟨[], 0, false⟩ = co := by
  rw [List.getD_eq_getElem?_getD, h]; rfl
/-- The data of what a change makes. -/
theorem evoT_tok {t : Tb} {dc dk df dx : D} (h : Tok t dc dk df dx) {c : Ch} (hc : Cok c) (hv : Vd t) (b : Bool) (hb : b = true → t.xs = []) :
    Tok (evoT t c) (.sl (eCs (evoT t c).cs)) (slD (isN dk) (eIs (evoT t c).ks)) (dF (evoT t c).fs) (slD b (xL (evoT t c).xs)) := by
  have hF : ∀ l : List Fo, SlD (dF l) (eFs l) := fun l => sld_slD fun e => by
    cases l with
    | nil => rfl
    | cons a r => cases e
  have hK : isN dk = true → t.ks = [] := fun e => by
    have := isN_nil h.dk e
    cases hks : t.ks with
    | nil => rfl
    | cons a l => rw [hks] at this; cases this
  have hl := hv.l2
  have hkd : ∀ i, (t.cs.getD i ⟨[], 0, false⟩).nm.length ≤ 1048576 := fun i => by
    rw [List.getD_eq_getElem?_getD]
    cases hh : t.cs[i]? with
    | none => simp
    | some x => exact h.hls x (List.mem_of_getElem? hh)
  have hset : ∀ i (n : Co), n.nm.length ≤ 1048576 → ∀ x ∈ t.cs.set i n, x.nm.length ≤ 1048576 := fun i n hn x hx => by
    rcases List.mem_or_eq_of_mem_set hx with hx | rfl
    · exact h.hls x hx
    · exact hn
  unfold evoT
  split
  · refine ⟨h.hn, by rw [List.length_append]; simp; omega, fun x hx => ?_, h.hk, h.hfl, h.hfc, by rw [List.length_map]; exact h.hxs, fun e he => ?_, sld_sl, sld_slD fun e => by rw [hK e]; rfl, hF _, sld_slD fun e => by rw [hb e]; rfl⟩
    · rcases List.mem_append.1 hx with hx | hx
      · exact h.hls x hx
      · cases List.mem_singleton.1 hx; exact hc.cn
    · obtain ⟨a, ha, rfl⟩ := List.mem_map.1 he
      exact Nat.le_trans (cp_bk a) (h.hxb a ha)
  · split
    · refine ⟨h.hn, Nat.le_trans (List.length_eraseIdx_le ..) (by omega), fun x hx => h.hls x (List.mem_of_mem_eraseIdx hx), by rw [List.length_map]; exact h.hk, by rw [List.length_map]; exact h.hfl, fun f hf => ?_, by rw [List.length_map]; exact h.hxs, fun e he => ?_, sld_sl, sld_slD fun e => by rw [hK e]; rfl, hF _, sld_slD fun e => by rw [hb e]; rfl⟩
      · obtain ⟨g, hg, rfl⟩ := List.mem_map.1 hf
        exact ⟨by unfold blF; rw [List.length_map]; exact (h.hfc g hg).1, (h.hfc g hg).2⟩
      · obtain ⟨a, ha, rfl⟩ := List.mem_map.1 he
        exact Nat.le_trans (dn_bk _ a) (h.hxb a ha)
    · have hx1 : ∀ e ∈ t.xs.map cpX, e.bk ≤ 1048576 := fun e he => by
        obtain ⟨a, ha, rfl⟩ := List.mem_map.1 he
        exact Nat.le_trans (cp_bk a) (h.hxb a ha)
      split
      · exact ⟨h.hn, by rw [List.length_set]; omega, hset _ _ hc.to, h.hk, h.hfl, h.hfc, by rw [List.length_map]; exact h.hxs, hx1, sld_sl, sld_slD fun e => by rw [hK e]; rfl, hF _, sld_slD fun e => by rw [hb e]; rfl⟩
      · exact ⟨h.hn, by rw [List.length_set]; omega, hset _ _ (hkd _), h.hk, h.hfl, h.hfc, by rw [List.length_map]; exact h.hxs, hx1, sld_sl, sld_slD fun e => by rw [hK e]; rfl, hF _, sld_slD fun e => by rw [hb e]; rfl⟩
theorem xs_shf {t : Tb} (hr : t.Rg) : t.xs.map (shf 0) = t.xs.map cpX := map_same fun a ha => shf0_cp a (hr a ha)
theorem list4 {α : Type} {l : List α} (h : l.length ≤ 4) : l = [] ∨ (∃ a, l = [a]) ∨ (∃ a b, l = [a, b]) ∨ (∃ a b c, l = [a, b, c]) ∨ ∃ a b c d, l = [a, b, c, d] := by
  match l, h with
  | [], _ => exact .inl rfl
  | [a], _ => exact .inr (.inl ⟨a, rfl⟩)
  | [a, b], _ => exact .inr (.inr (.inl ⟨a, b, rfl⟩))
  | [a, b, c], _ => exact .inr (.inr (.inr (.inl ⟨a, b, c, rfl⟩)))
  | [a, b, c, d], _ => exact .inr (.inr (.inr (.inr ⟨a, b, c, d, rfl⟩)))
  | _ :: _ :: _ :: _ :: _ :: _, h => simp at h
theorem dc_sl {t : Tb} {dc dk df dx : D} (h : Tok t dc dk df dx) (hv : Vd t) : dc = .sl (eCs t.cs) := by
  rcases h.dc with ⟨_, h2⟩ | h2
  · have := hv.l1
    cases hcs : t.cs with
    | nil => rw [hcs] at this; simp at this
    | cons a l => rw [hcs] at h2; cases h2
  · exact h2
end Go.Proofs
end
section
/- A definition after a change is valid. No condition. -/
set_option linter.unusedSimpArgs false
set_option linter.unusedVariables false
set_option maxRecDepth 10000
set_option maxHeartbeats 4000000
namespace Go.Proofs
open Go.Bi
theorem nodup_set {α : Type} {x : α} : ∀ {l : List α} {i : Nat}, l.Nodup → ¬ x ∈ l → (l.set i x).Nodup
  | [], _, _, _ => by simp
  | a :: l, 0, h, hx => by
    rw [List.nodup_cons] at h
    rw [List.set_cons_zero, List.nodup_cons]
    exact ⟨fun hm => hx (by simp [hm]), h.2⟩
  | a :: l, i + 1, h, hx => by
    rw [List.nodup_cons] at h
    rw [List.set_cons_succ, List.nodup_cons]
    refine ⟨fun hm => ?_, nodup_set h.2 fun hm => hx (by simp [hm])⟩
    rcases List.mem_or_eq_of_mem_set hm with hm | rfl
    · exact h.1 hm
    · exact hx (by simp)
theorem nodup_map_on {α β : Type} {f : α → β} : ∀ {l : List α}, (∀ a ∈ l, ∀ b ∈ l, f a = f b → a = b) → l.Nodup → (l.map f).Nodup
  | [], _, _ => by simp
  | a :: l, hf, h => by
    rw [List.nodup_cons] at h
    rw [List.map_cons, List.nodup_cons]
    refine ⟨fun hm => ?_, nodup_map_on (fun x hx y hy => hf x (by simp [hx]) y (by simp [hy])) h.2⟩
    obtain ⟨b, hb, e⟩ := List.mem_map.1 hm
    have := hf b (by simp [hb]) a (by simp) e
    subst this
    exact h.1 hb
theorem pairwise_map_on {f : Int → Int} : ∀ {l : List Int}, (∀ a ∈ l, ∀ b ∈ l, a < b → f a < f b) → l.Pairwise (· < ·) → (l.map f).Pairwise (· < ·)
  | [], _, _ => by simp
  | a :: l, hf, h => by
    rw [List.pairwise_cons] at h
    rw [List.map_cons, List.pairwise_cons]
    refine ⟨fun b hb => ?_, pairwise_map_on (fun x hx y hy => hf x (by simp [hx]) y (by simp [hy])) h.2⟩
    obtain ⟨y, hy, rfl⟩ := List.mem_map.1 hb
    exact hf a (by simp) y (by simp [hy]) (h.1 y hy)
theorem belowI_lt {i : Nat} {a b : Int} (ha : a ≠ i) (hb : b ≠ i) (h : a < b) : belowI a i < belowI b i := by unfold belowI; split <;> split <;> omega
theorem belowI_inj {i : Nat} {a b : Int} (ha : a ≠ i) (hb : b ≠ i) (h : belowI a i = belowI b i) : a = b := by unfold belowI at h; split at h <;> split at h <;> omega
theorem belowI_in {i n : Nat} {a : Int} (hi : i < n) (ha : a ≠ i) (h0 : 0 ≤ a) (h1 : a < n) : 0 ≤ belowI a i ∧ belowI a i < ((n - 1 : Nat) : Int) := by unfold belowI; split <;> omega
theorem co_below (l : List Co) (i : Nat) {n : Int} (h0 : 0 ≤ n) (hne : n ≠ i) : (l.eraseIdx i).getD (belowI n i).toNat ⟨[], 0, false⟩ = l.getD n.toNat ⟨[], 0, false⟩ := by
  rw [List.getD_eq_getElem?_getD, List.getD_eq_getElem?_getD, List.getElem?_eraseIdx]
  unfold belowI
  by_cases h : (i : Int) < n
  · rw [if_pos h, if_neg (by omega)]
    congr 2
    omega
  · rw [if_neg h, if_pos (by omega)]
theorem find_none {t : Tb} (h : tabE t = 0) {nm : List UInt8} (hf : findC nm t.cs < 0) : ¬ nm ∈ t.cs.map Co.nm := by
  intro hm
  obtain ⟨c, hc, rfl⟩ := List.mem_map.1 hm
  obtain ⟨i, hi⟩ := List.mem_iff_getElem?.1 hc
  rw [findC_at (tabE_ok h).2.1 hi] at hf
  omega
theorem evo_vd {t : Tb} {c : Ch} (h : evoE t c = 0) : Vd (evoT t c) := by
  obtain ⟨q1, q2, q3, q4, q5⟩ := evo_inv h
  have hv := tab_vd.1 q1
  have hcp : ∀ ks, (∀ x ∈ t.xs, chk ks x = chk (kd t.cs) x) → ∀ x ∈ t.xs.map cpX, dep x ≤ 24 ∧ (chk ks x).2 = 0 ∧ ((chk ks x).1 = 3 ∨ (chk ks x).1 = 0) := fun ks hk x hx => by
    obtain ⟨a, ha, rfl⟩ := List.mem_map.1 hx
    rw [cp_dep, cp_chk, hk a ha]
    exact hv.xs a ha
  by_cases k1 : c.k = 1
  · obtain ⟨a1, a2, a3, a4, _⟩ := add_inv (q4 k1)
    have e : evoT t c = ⟨t.nm, t.cs ++ [c.co], t.ks, t.fs, t.xs.map cpX⟩ := by unfold evoT; rw [if_pos k1]
    rw [e]
    refine ⟨hv.nm, by rw [List.length_append]; simp, by rw [List.length_append]; simp; omega, fun x hx => ?_, ?_, hv.k0, fun k hk => ?_, hv.ka, hv.fl, fun f hf => ?_, by rw [List.length_map]; exact hv.xl, ?_⟩
    · rcases List.mem_append.1 hx with hx | hx
      · exact hv.co x hx
      · cases List.mem_singleton.1 hx; exact ⟨a2, a3⟩
    · rw [List.map_append, List.map_singleton, List.nodup_append]
      refine ⟨hv.nd, by simp, fun a ha b hb => ?_⟩
      cases List.mem_singleton.1 hb
      intro e
      subst e
      exact find_none q1 a4 ha
    · obtain ⟨b1, b2, b3⟩ := hv.ks k hk
      refine ⟨b1, by rw [List.length_append]; simp; omega, ?_⟩
      rw [List.getD_eq_getElem?_getD, List.getElem?_append_left (by omega), ← List.getD_eq_getElem?_getD]
      exact b3
    · obtain ⟨b1, b2, b3, b4⟩ := hv.fs f hf
      exact ⟨b1, b2, fun k hk => by have := b3 k hk; rw [List.length_append]; simp; omega, b4⟩
    · have ek : kd (t.cs ++ [c.co]) = kd t.cs ++ [c.co.k] := by simp [kd]
      dsimp only
      rw [ek]
      exact hcp _ fun x hx => chk_ext _ x (hv.xs x hx).2.1
  · obtain ⟨i, co, hi, hco, hcn, hus, h4, h3⟩ := chg_inv (q5 k1)
    have hil := (List.getElem?_eq_some_iff.1 hco).1
    have hiN : (findC c.nm t.cs).toNat = i := by omega
    have hgd : t.cs.getD i ⟨[], 0, false⟩ = co := by rw [List.getD_eq_getElem?_getD, hco]; rfl
    by_cases k2 : c.k = 2
    · have e : evoT t c = ⟨t.nm, t.cs.eraseIdx i, t.ks.map (fun x => belowI x i), t.fs.map (blF i), t.xs.map (dnX i)⟩ := by unfold evoT; rw [if_neg k1, if_pos k2, hiN]
      have hu := hus (by omega)
      unfold usedL at hu
      simp only [List.mem_append, not_or] at hu
      have u1 : ∀ k ∈ t.ks, k ≠ i := fun k hk e => hu.1.1 (e ▸ hk)
      have u2 : ∀ f ∈ t.fs, ∀ k ∈ f.cs, k ≠ i := fun f hf k hk e => hu.1.2 (List.mem_flatMap.2 ⟨f, hf, e ▸ hk⟩)
      have u3 : ∀ x ∈ t.xs, ¬ (i : Int) ∈ rawC x := fun x hx hm => hu.2 (List.mem_flatMap.2 ⟨x, hx, (cols_mem x i).2 hm⟩)
      have hlen : (t.cs.eraseIdx i).length = t.cs.length - 1 := by rw [List.length_eraseIdx, if_pos hil]
      have hk2 : ∀ k ∈ t.ks, 0 ≤ belowI k i ∧ belowI k i < (t.cs.eraseIdx i).length := fun k hk => by
        obtain ⟨b1, b2, b3⟩ := hv.ks k hk
        rw [hlen]
        exact belowI_in hil (u1 k hk) b1 b2
      have hl1 := hv.l2
      rw [e]
      refine ⟨hv.nm, ?_, by rw [hlen]; omega, fun x hx => hv.co x (List.mem_of_mem_eraseIdx hx), ?_, fun e => hv.k0 (List.map_eq_nil_iff.1 e), fun k hk => ?_, ?_, by rw [List.length_map]; exact hv.fl, fun f hf => ?_, by rw [List.length_map]; exact hv.xl, fun x hx => ?_⟩
      · obtain ⟨k, hk⟩ := List.exists_mem_of_ne_nil _ hv.k0
        have := hk2 k hk
        dsimp only
        omega
      · dsimp only
        rw [map_erase]
        exact hv.nd.sublist (List.eraseIdx_sublist ..)
      · obtain ⟨a, ha, rfl⟩ := List.mem_map.1 hk
        obtain ⟨b1, b2, b3⟩ := hv.ks a ha
        refine ⟨(hk2 a ha).1, (hk2 a ha).2, ?_⟩
        dsimp only
        rw [co_below _ _ b1 (u1 a ha)]
        exact b3
      · exact pairwise_map_on (fun a ha b hb hab => belowI_lt (u1 a ha) (u1 b hb) hab) hv.ka
      · obtain ⟨g, hg, rfl⟩ := List.mem_map.1 hf
        obtain ⟨b1, b2, b3, b4⟩ := hv.fs g hg
        refine ⟨b1, fun e => b2 (List.map_eq_nil_iff.1 e), fun k hk => ?_, nodup_map_on (fun a ha b hb e => belowI_inj (u2 g hg a ha) (u2 g hg b hb) e) b4⟩
        obtain ⟨a, ha, rfl⟩ := List.mem_map.1 hk
        dsimp only
        rw [hlen]
        exact belowI_in hil (u2 g hg a ha) (b3 a ha).1 (b3 a ha).2
      · obtain ⟨a, ha, rfl⟩ := List.mem_map.1 hx
        have ek : kd (t.cs.eraseIdx i) = (kd t.cs).eraseIdx i := map_erase _ _ _
        dsimp only
        rw [ek, dn_dep, chk_dn (by rw [kd_len]; exact hil) a (hv.xs a ha).2.1 (u3 a ha)]
        exact hv.xs a ha
    · have hset : ∀ n : Co, n.nl = co.nl → (nameB n.nm = true ∧ 1 ≤ n.k ∧ n.k ≤ 3) → ((t.cs.set i n).map Co.nm).Nodup → (∀ x ∈ t.xs, chk (kd (t.cs.set i n)) x = chk (kd t.cs) x) → Vd ⟨t.nm, t.cs.set i n, t.ks, t.fs, t.xs.map cpX⟩ := by
        intro n hn1 hn2 hn3 hn4
        refine ⟨hv.nm, by rw [List.length_set]; exact hv.l1, by rw [List.length_set]; exact hv.l2, fun x hx => ?_, hn3, hv.k0, fun k hk => ?_, hv.ka, hv.fl, fun f hf => ?_, by rw [List.length_map]; exact hv.xl, hcp _ hn4⟩
        · rcases List.mem_or_eq_of_mem_set hx with hx | rfl
          · exact hv.co x hx
          · exact hn2
        · obtain ⟨b1, b2, b3⟩ := hv.ks k hk
          refine ⟨b1, by rw [List.length_set]; exact b2, ?_⟩
          by_cases hki : k.toNat = i
          · dsimp only
            rw [List.getD_eq_getElem?_getD, hki, List.getElem?_set_self hil, Option.getD_some, hn1]
            rw [hki, hgd] at b3
            exact b3
          · dsimp only
            rw [List.getD_eq_getElem?_getD, List.getElem?_set_ne (fun e => hki e.symm), ← List.getD_eq_getElem?_getD]
            exact b3
        · obtain ⟨b1, b2, b3, b4⟩ := hv.fs f hf
          exact ⟨b1, b2, fun k hk => by have := b3 k hk; rw [List.length_set]; exact this, b4⟩
      have hcm := hv.co co (List.mem_of_getElem? hco)
      by_cases k3 : c.k = 3
      · have e : evoT t c = ⟨t.nm, t.cs.set i ⟨c.to, co.k, co.nl⟩, t.ks, t.fs, t.xs.map cpX⟩ := by unfold evoT; rw [if_neg k1, if_neg k2, if_pos k3, hiN, hgd]
        rw [e]
        refine hset ⟨c.to, co.k, co.nl⟩ rfl ⟨(h3 k3).1, hcm.2⟩ ?_ fun x hx => ?_
        · rw [List.map_set]
          exact nodup_set hv.nd (find_none q1 (h3 k3).2)
        · congr 1
          unfold kd
          rw [List.map_set]
          refine List.ext_getElem? fun j => ?_
          by_cases hj : i = j
          · subst hj
            rw [List.getElem?_set_self (by rw [List.length_map]; exact hil), List.getElem?_map, hco]; rfl
          · rw [List.getElem?_set_ne hj]
      · have k4 : c.k = 4 := by omega
        have e : evoT t c = ⟨t.nm, t.cs.set i ⟨co.nm, 2, co.nl⟩, t.ks, t.fs, t.xs.map cpX⟩ := by unfold evoT; rw [if_neg k1, if_neg k2, if_neg k3, hiN, hgd]
        have hu := hus (by omega)
        unfold usedL at hu
        simp only [List.mem_append, not_or] at hu
        have u3 : ∀ x ∈ t.xs, ¬ (i : Int) ∈ rawC x := fun x hx hm => hu.2 (List.mem_flatMap.2 ⟨x, hx, (cols_mem x i).2 hm⟩)
        rw [e]
        refine hset ⟨co.nm, 2, co.nl⟩ rfl ⟨hcm.1, (by decide : (1 : Int) ≤ 2), (by decide : (2 : Int) ≤ 3)⟩ ?_ fun x hx => ?_
        · have : (t.cs.set i ⟨co.nm, 2, co.nl⟩).map Co.nm = t.cs.map Co.nm := by
            rw [List.map_set]
            refine List.ext_getElem? fun j => ?_
            by_cases hj : i = j
            · subst hj
              rw [List.getElem?_set_self (by rw [List.length_map]; exact hil), List.getElem?_map, hco]; rfl
            · rw [List.getElem?_set_ne hj]
          rw [this]
          exact hv.nd
        · have ek : kd (t.cs.set i ⟨co.nm, 2, co.nl⟩) = (kd t.cs).set i 2 := by unfold kd; rw [List.map_set]
          rw [ek]
          exact chk_set 2 x (u3 x hx)
end Go.Proofs
end
section
/- Same of two definitions that are the same; Index; Lossless. No condition. -/
set_option linter.unusedSimpArgs false
set_option linter.unusedVariables false
set_option maxRecDepth 10000
set_option maxHeartbeats 4000000
namespace Go.Proofs
open Go.Bi
theorem C.r13_Same (t u : Tb) (dc dk df dx dc' dk' df' dx' : D) (h : Tok t dc dk df dx) (h' : Tok u dc' dk' df' dx') (e : nf t = nf u) : Pure Try.prog N.bt_ref13_Same [eT t.nm dc dk df dx, eT u.nm dc' dk' df' dx'] (.d (.bool true)) := by
  obtain ⟨nm, cs, ks, fs, xs⟩ := t
  obtain ⟨nm', cs', ks', fs', xs'⟩ := u
  unfold nf at e
  injection e with e1 e2 e3 e4 e5
  dsimp only at e1 e2 e3 e4 e5
  subst e1; subst e2; subst e3
  have hI := C.r13_Ints_same ks h.hk dk dk' h.dk h'.dk
  have hfl : fs.length = fs'.length := by rw [← List.length_map (f := nfF), e4, List.length_map]
  have hxl : xs.length = xs'.length := by rw [← List.length_map (f := cpX), e5, List.length_map]
  have hX := C.r11_List xs xs' hxl h.hxs (fun i x y hx hy => by
    have e6 : smE x y = true := by
      refine cp_sm x y ?_
      have a1 : (xs.map cpX)[i]? = some (cpX x) := by rw [List.getElem?_map, hx]; rfl
      have a2 : (xs'.map cpX)[i]? = some (cpX y) := by rw [List.getElem?_map, hy]; rfl
      rw [e5, a2] at a1
      exact (Option.some.inj a1).symm
    have b1 : x.bk ≤ 2097152 := Nat.le_trans (h.hxb x (List.mem_of_getElem? hx)) (by decide)
    have b2 : y.bk ≤ 2097152 := Nat.le_trans (h'.hxb y (List.mem_of_getElem? hy)) (by decide)
    have := C.r11_SameL x (lb_bk x b1) y (lb_bk y b2)
    rw [e6] at this
    exact this) dx dx' h.dx h'.dx
  have hdc := h.dc
  have hdc' := h'.dc
  have hdf := h.df
  have hdf' := h'.df
  have hl := h.hl
  have hfl0 := h.hfl
  have hfc := h.hfc
  have hcl := eCs_len cs
  have hcm := eCs_mem cs
  have hgc := fun i c => @eCs_get cs i c
  have hf1 := eFs_len fs
  have hf2 := eFs_len fs'
  have hf3 := eFs_mem fs
  have hf4 := eFs_mem fs'
  have hgf := fun i c => @eFs_get fs i c
  have hgf' := fun i c => @eFs_get fs' i c
  dsimp only at hdc hdc' hdf hdf' hl hfl0 hfc hI
  obtain ⟨Cs, hC⟩ : ∃ x, x = eCs cs := ⟨_, rfl⟩
  obtain ⟨Fs, hFs⟩ : ∃ x, x = eFs fs := ⟨_, rfl⟩
  obtain ⟨Fs', hFs'⟩ : ∃ x, x = eFs fs' := ⟨_, rfl⟩
  rw [← hC] at hdc hdc' hcl hcm hgc
  rw [← hFs] at hdf hf1 hf3 hgf
  rw [← hFs'] at hdf' hf2 hf4 hgf'
  have r0 : nm = nm := rfl
  clear h h'
  refine F.bt_ref13_Same.go mixed rfl ?_
  repeat' first|refine st ?_|((with_reducible apply go_i);conv=>whnf)|((with_reducible first|apply k_pn|apply k_pc);(·first|exact hI|exact hX))|with_reducible apply k_d<;>intro _|with_reducible apply k_b<;>intro _
  refine x_loop1 mixed Lt.bt_ref13_Same_l0 Lk.bt_ref13_Same_l0 (fun (i : Nat) => [.d (eI i)]) (fun i => [.cells [.d (.str nm), .d dc, .d dk, .d df, .d dx], .cells [.d (.str nm), .d dc', .d dk', .d df', .d dx']]) (fun i => i ≤ cs.length) (fun i => cs.length - i) 0 rfl rfl rfl rfl (fun _ _ => ⟨rfl, rfl⟩) rfl (by omega) ?_
  repeat' first|refine st ?_|((with_reducible apply go_i);conv=>whnf)|with_reducible apply k_d<;>intro _|with_reducible apply k_b<;>intro _
  intro i h4
  cases hx : cs[i]? with
  | some x =>
    have hlt := (List.getElem?_eq_some_iff.1 hx).1
    obtain ⟨n1, k1, l1⟩ := x
    have hg := hgc i _ hx
    have hg' : Cs[((i : Nat) : Int).toNat]? = _ := hgc i _ hx
    have r1 : n1 = n1 := rfl
    have r2 : k1 = k1 := rfl
    have r3 : l1 = l1 := rfl
    repeat' first|refine st ?_|((with_reducible apply go_i);conv=>whnf)|with_reducible apply k_d<;>intro _|with_reducible apply k_b<;>intro _
    all_goals first | exact ⟨i + 1, rfl, rfl, rfl, by omega, by omega⟩ | (exfalso; simp_all; done)
  | none =>
    have hge := List.getElem?_eq_none_iff.1 hx
    repeat' first|refine st ?_|((with_reducible apply go_i);conv=>whnf)|with_reducible apply k_d<;>intro _|with_reducible apply k_b<;>intro _
    refine x_loop1 mixed Lt.bt_ref13_Same_l1 Lk.bt_ref13_Same_l1 (fun (i : Nat) => [.d (eI i)]) (fun i => [.cells [.d (.str nm), .d dc, .d dk, .d df, .d dx], .cells [.d (.str nm), .d dc', .d dk', .d df', .d dx']]) (fun i => i ≤ fs.length) (fun i => fs.length - i) 0 rfl rfl rfl rfl (fun _ _ => ⟨rfl, rfl⟩) rfl (by omega) ?_
    repeat' first|refine st ?_|((with_reducible apply go_i);conv=>whnf)|with_reducible apply k_d<;>intro _|with_reducible apply k_b<;>intro _
    intro j h5
    cases hy : fs[j]? with
    | some f =>
      have hlt := (List.getElem?_eq_some_iff.1 hy).1
      obtain ⟨g, hgg⟩ : ∃ g, fs'[j]? = some g := ⟨_, List.getElem?_eq_getElem (by omega)⟩
      have e6 : nfF f = nfF g := by
        have a1 : (fs.map nfF)[j]? = some (nfF f) := by rw [List.getElem?_map, hy]; rfl
        have a2 : (fs'.map nfF)[j]? = some (nfF g) := by rw [List.getElem?_map, hgg]; rfl
        rw [e4, a2] at a1
        exact (Option.some.inj a1).symm
      have hfb := (hfc f (List.mem_of_getElem? hy)).1
      obtain ⟨f1, f2, f3⟩ := f
      obtain ⟨g1, g2, g3⟩ := g
      unfold nfF at e6
      injection e6 with _ e7 e8
      dsimp only at e7 e8
      subst e7; subst e8
      have hJ := C.r13_Ints_same f2 hfb (Fo.mk f1 f2 f3).d (Fo.mk g1 f2 f3).d (Fo.sld _) (Fo.sld _)
      have hg := hgf j _ hy
      have hg' : Fs'[((j : Nat) : Int).toNat]? = _ := hgf' j _ hgg
      have hg2 : Fs[((j : Nat) : Int).toNat]? = _ := hgf j _ hy
      unfold Fo.ds at hg hg' hg2
      obtain ⟨d1, hd1⟩ : ∃ d, d = (Fo.mk f1 f2 f3).d := ⟨_, rfl⟩
      obtain ⟨d2, hd2⟩ : ∃ d, d = (Fo.mk g1 f2 f3).d := ⟨_, rfl⟩
      rw [← hd1] at hJ hg hg2
      rw [← hd2] at hJ hg'
      have r1 : f3 = f3 := rfl
      have hlt' : (j : Int) < Fs'.length := by omega
      repeat' first|refine st ?_|((with_reducible apply go_i);conv=>whnf)|((with_reducible first|apply k_pn|apply k_pc);(·exact hJ))|with_reducible apply k_d<;>intro _|with_reducible apply k_b<;>intro _
      all_goals first | exact ⟨j + 1, rfl, rfl, rfl, by omega, by omega⟩ | (exfalso; simp_all; done)
    | none =>
      have hge2 := List.getElem?_eq_none_iff.1 hy
      repeat' first|refine st ?_|((with_reducible apply go_i);conv=>whnf)|with_reducible apply k_d<;>intro _|with_reducible apply k_b<;>intro _
      all_goals rfl
end Go.Proofs
end
section
/- Clone and Apply as data, Run. No condition. -/
set_option linter.unusedSimpArgs false
set_option linter.unusedVariables false
set_option maxRecDepth 10000
set_option maxHeartbeats 4000000
namespace Go.Proofs
open Go.Bi
/-- A definition with its data. -/
structure TD where
  t : Tb
  dc : D
  dk : D
  df : D
  dx : D
abbrev TD.av (x : TD) : AV := eT x.t.nm x.dc x.dk x.df x.dx
structure TD.ok (x : TD) : Prop where
  tok : Tok x.t x.dc x.dk x.df x.dx
  rg : x.t.Rg
def zTD : TD := ⟨⟨[], [], [], [], []⟩, .nil, .nil, .nil, .nil⟩
theorem zTD_ok : zTD.ok := ⟨⟨by decide, by decide, by decide, by decide, by decide, fun f hf => by simp [zTD] at hf, by decide, fun e he => by simp [zTD] at he, sld_nil, sld_nil, sld_nil, sld_nil⟩, fun e he => by simp [zTD] at he⟩
def slX (l : List Ex) : D := slD (xL l).isEmpty (xL l)
theorem slX_sld (l : List Ex) : SlD (slX l) (xL l) := sld_slD fun e => List.isEmpty_iff.1 e
theorem dF_sld (l : List Fo) : SlD (dF l) (eFs l) := sld_slD fun e => by
  cases l with
  | nil => rfl
  | cons a r => cases e
def TD.cp (x : TD) : TD := ⟨⟨x.t.nm, x.t.cs, x.t.ks, x.t.fs, x.t.xs.map cpX⟩, x.dc, x.dk, dF x.t.fs, slX (x.t.xs.map cpX)⟩
theorem TD.cp_ok {x : TD} (h : x.ok) : x.cp.ok := by
  obtain ⟨h, hr⟩ := h
  refine ⟨⟨h.hn, h.hl, h.hls, h.hk, h.hfl, h.hfc, by show (x.t.xs.map cpX).length ≤ _; rw [List.length_map]; exact h.hxs, fun e he => ?_, h.dc, h.dk, dF_sld _, slX_sld _⟩, fun e he => ?_⟩
  · obtain ⟨a, ha, rfl⟩ := List.mem_map.1 he
    exact Nat.le_trans (cp_bk a) (h.hxb a ha)
  · obtain ⟨a, ha, rfl⟩ := List.mem_map.1 he
    exact cp_rg a (hr a ha)
theorem nf_cp (x : TD) : nf x.cp.t = nf x.t := by
  unfold nf TD.cp
  dsimp only
  rw [map_comp (h := cpX) fun a ha => cp_cp a]
theorem TD.cp_vd {x : TD} (h : tabE x.t = 0) : tabE x.cp.t = 0 := by rw [← tabE_nf, nf_cp, tabE_nf]; exact h
def TD.evo (x : TD) (c : Ch) : TD := ⟨evoT x.t c, .sl (eCs (evoT x.t c).cs), slD (isN x.dk) (eIs (evoT x.t c).ks), dF (evoT x.t c).fs, slX (evoT x.t c).xs⟩
theorem TD.evo_ok {x : TD} (h : x.ok) {c : Ch} (hc : Cok c) (hq : evoE x.t c = 0) : (x.evo c).ok := by
  have hx : slX (evoT x.t c).xs = slD (xL (x.t.xs.map cpX)).isEmpty (xL (evoT x.t c).xs) := by
    unfold slX
    congr 1
    unfold evoT
    split
    · rfl
    · split
      · cases x.t.xs <;> rfl
      · split <;> rfl
  have hb : (xL (x.t.xs.map cpX)).isEmpty = true → x.t.xs = [] := fun e => by
    cases hxs : x.t.xs with
    | nil => rfl
    | cons a l => rw [hxs] at e; cases e
  refine ⟨?_, evoT_rg h.rg c⟩
  unfold TD.evo
  dsimp only
  rw [hx]
  exact evoT_tok h.tok hc (tab_vd.1 (evo_inv hq).1) _ hb
/-- Apply of a change that can be applied. -/
theorem C.evo_Apply (x : TD) (h : x.ok) (c : Ch) (hc : Cok c) (hq : evoE x.t c = 0) : Pure Try.prog N.evolve_Apply [x.av, c.av] (.tup [(x.evo c).av, .d (eI 0)]) := by
  obtain ⟨t, dc, dk, df, dx⟩ := x
  obtain ⟨h, hr⟩ := h
  dsimp only at h hr hq
  obtain ⟨q1, q2, q3, q4, q5⟩ := evo_inv hq
  have hv := tab_vd.1 q1
  have hdc := dc_sl h hv
  have hx := xs_shf hr
  have hnm : (evoT t c).nm = t.nm := by unfold evoT; split; rfl; split; rfl; split <;> rfl
  have he : slX (evoT t c).xs = slD (xL (t.xs.map (shf 0))).isEmpty (xL (evoT t c).xs) := by
    rw [hx]
    unfold slX
    congr 1
    unfold evoT
    split
    · rfl
    · split
      · cases t.xs <;> rfl
      · split <;> rfl
  unfold TD.av TD.evo
  dsimp only
  rw [hnm, he]
  by_cases k1 : c.k = 1
  · have e : evoT t c = ⟨t.nm, t.cs ++ [c.co], t.ks, t.fs, t.xs.map cpX⟩ := by unfold evoT; rw [if_pos k1]
    rw [e, ← hx]
    rcases list4 hv.fl with hf | ⟨a0, hf⟩ | ⟨a0, a1, hf⟩ | ⟨a0, a1, a2, hf⟩ | ⟨a0, a1, a2, a3, hf⟩
    · exact C.app0_add t dc dk df dx h c hc hq hf k1
    · exact C.app1_add t dc dk df dx h c hc hq a0 hf k1
    · exact C.app2_add t dc dk df dx h c hc hq a0 a1 hf k1
    · exact C.app3_add t dc dk df dx h c hc hq a0 a1 a2 hf k1
    · exact C.app4_add t dc dk df dx h c hc hq a0 a1 a2 a3 hf k1
  · obtain ⟨i, co, hi, hco, hcn, hus, _, _⟩ := chg_inv (q5 k1)
    have hil := (List.getElem?_eq_some_iff.1 hco).1
    have hiN : (findC c.nm t.cs).toNat = i := by omega
    by_cases k2 : c.k = 2
    · have e : evoT t c = ⟨t.nm, t.cs.eraseIdx i, t.ks.map (fun x => belowI x i), t.fs.map (blF i), t.xs.map (dnX i)⟩ := by unfold evoT; rw [if_neg k1, if_pos k2, hiN]
      have hxd : (t.xs.map (shf 0)).map (subX (mvL t.cs.length i)) = t.xs.map (dnX i) := by
        rw [hx]
        exact map_comp fun a ha => sub_dn i (kd_len _) a (hv.xs a ha).2.1
      rw [e, ← hxd]
      have b1 : ∀ k ∈ t.ks, 0 ≤ k ∧ k ≤ 1048576 := fun k hk => by have := hv.ks k hk; have := hv.l2; omega
      have b2 : ∀ g ∈ t.fs, ∀ k ∈ g.cs, 0 ≤ k ∧ k ≤ 1048576 := fun g hg k hk => by have := (hv.fs g hg).2.2.1 k hk; have := hv.l2; omega
      have b3 : ∀ e ∈ t.xs.map (shf 0), e.bk ≤ 1048576 := fun e he => by
        rw [hx] at he
        obtain ⟨a, ha, rfl⟩ := List.mem_map.1 he
        exact Nat.le_trans (cp_bk a) (h.hxb a ha)
      rcases list4 hv.fl with hf | ⟨a0, hf⟩ | ⟨a0, a1, hf⟩ | ⟨a0, a1, a2, hf⟩ | ⟨a0, a1, a2, a3, hf⟩
      · exact C.app0_drp t dc dk df dx h c hc hq hf k2 i hi hil hdc b1 b2 b3
      · exact C.app1_drp t dc dk df dx h c hc hq a0 hf k2 i hi hil hdc b1 b2 b3
      · exact C.app2_drp t dc dk df dx h c hc hq a0 a1 hf k2 i hi hil hdc b1 b2 b3
      · exact C.app3_drp t dc dk df dx h c hc hq a0 a1 a2 hf k2 i hi hil hdc b1 b2 b3
      · exact C.app4_drp t dc dk df dx h c hc hq a0 a1 a2 a3 hf k2 i hi hil hdc b1 b2 b3
    · by_cases k3 : c.k = 3
      · have e : evoT t c = ⟨t.nm, t.cs.set i ⟨c.to, co.k, co.nl⟩, t.ks, t.fs, t.xs.map cpX⟩ := by unfold evoT; rw [if_neg k1, if_neg k2, if_pos k3, hiN, getD_at hco]
        rw [e, ← hx]
        rcases list4 hv.fl with hf | ⟨a0, hf⟩ | ⟨a0, a1, hf⟩ | ⟨a0, a1, a2, hf⟩ | ⟨a0, a1, a2, a3, hf⟩
        · exact C.app0_ren t dc dk df dx h c hc hq hf k3 i hi co hco hdc
        · exact C.app1_ren t dc dk df dx h c hc hq a0 hf k3 i hi co hco hdc
        · exact C.app2_ren t dc dk df dx h c hc hq a0 a1 hf k3 i hi co hco hdc
        · exact C.app3_ren t dc dk df dx h c hc hq a0 a1 a2 hf k3 i hi co hco hdc
        · exact C.app4_ren t dc dk df dx h c hc hq a0 a1 a2 a3 hf k3 i hi co hco hdc
      · have k4 : c.k = 4 := by omega
        have e : evoT t c = ⟨t.nm, t.cs.set i ⟨co.nm, 2, co.nl⟩, t.ks, t.fs, t.xs.map cpX⟩ := by unfold evoT; rw [if_neg k1, if_neg k2, if_neg k3, hiN, getD_at hco]
        rw [e, ← hx]
        rcases list4 hv.fl with hf | ⟨a0, hf⟩ | ⟨a0, a1, hf⟩ | ⟨a0, a1, a2, hf⟩ | ⟨a0, a1, a2, a3, hf⟩
        · exact C.app0_txt t dc dk df dx h c hc hq hf k4 i hi co hco hdc
        · exact C.app1_txt t dc dk df dx h c hc hq a0 hf k4 i hi co hco hdc
        · exact C.app2_txt t dc dk df dx h c hc hq a0 a1 hf k4 i hi co hco hdc
        · exact C.app3_txt t dc dk df dx h c hc hq a0 a1 a2 hf k4 i hi co hco hdc
        · exact C.app4_txt t dc dk df dx h c hc hq a0 a1 a2 a3 hf k4 i hi co hco hdc
/-- Apply of a change that can't be applied. -/
theorem C.evo_ApplyErr (x : TD) (h : x.ok) (c : Ch) (hc : Cok c) (hq : evoE x.t c ≠ 0) : Pure Try.prog N.evolve_Apply [x.av, c.av] (.tup [zTD.av, .d (eI (evoE x.t c))]) :=
  C.apply_err x.t x.dc x.dk x.df x.dx h.tok c hc hq
/-! ### Clone -/
theorem dg_tabF {os : List AO} {nm : List UInt8} {a b f x : Nat} {K X Cs : List (List D)} {rows : List (List AV)} {fs : List Fo} {cn kn xn nl : Bool} {cz kz xz cf kf xf lf : Nat} (hlf : lf = rows.length)
    (h1 : os[a]? = some (.arr Cs cz cf cn)) (h2 : os[b]? = some (.arr K kz kf kn)) (h3 : os[f]? = some (.rarr rows 2 nl)) (h4 : os[x]? = some (.arr X xz xf xn)) (hl : fs.length = rows.length)
    (hr : ∀ (i : Nat) e (g : Fo), rows[i]? = some e → fs[i]? = some g → ∃ q es fl, e = [.arr q es.length, .d (.str g.tb)] ∧ os[q]? = some (.arr es 1 0 fl) ∧ g.d = slD fl es) :
    DA os (.agg [.d (.str nm), .arr a Cs.length, .arr b K.length, .rs f lf, .arr x X.length]) (eT nm (slD cn Cs) (slD kn K) (slD nl (eFs fs)) (slD xn X)) := by
  subst hlf
  have h := da_tabF (nm := nm) (e := .nil) (.inl (.inr ⟨a, Cs, cz, cf, cn, rfl, h1, rfl⟩)) h2 h3 h4 hl hr
  rcases h with h | ⟨cs, rs, e1, e2, e3, e4⟩
  · rcases h with ⟨x, hx, _⟩ | ⟨_, _, hx, _⟩
    · rcases hx with (hx | ⟨_, _, _, _, _, hx, _⟩) | ⟨_, _, _, _, _, hx, _⟩ <;> cases hx
    · cases hx
  · cases e1; cases e2
    exact .inl (e4 0 _ _ rfl rfl)
theorem rowsF_len : ∀ (k : Nat) (l : List Fi), (rowsF k l).length = l.length
  | _, [] => rfl
  | k, f :: fs => by rw [rowsF, List.length_cons, rowsF_len (k + 1) fs, List.length_cons]
theorem rowsF_get : ∀ (l : List Fi) (k i : Nat) (f : Fi), l[i]? = some f → (rowsF k l)[i]? = some [.arr (k + i) f.es.length, .d (.str f.tb)]
  | [], _, i, f, h => by simp at h
  | a :: l, k, 0, f, h => by cases h; rfl
  | a :: l, k, i + 1, f, h => by
    rw [rowsF, List.getElem?_cons_succ, rowsF_get l (k + 1) i f (by simpa using h), show k + 1 + i = k + (i + 1) by omega]
def Fi.of (g : Fo) : Fi := ⟨g.d, eIs g.cs, isN g.d, g.tb⟩
theorem C.clone_any (x : TD) (h : x.ok) (hf4 : x.t.fs.length ≤ 4) : Pure Try.prog N.schema_Clone [x.av] x.cp.av := by
  obtain ⟨t, dc, dk, df, dx⟩ := x
  obtain ⟨h, hr⟩ := h
  dsimp only at h hr hf4
  have hx := xs_shf hr
  have hok : ∀ g ∈ t.fs, (Fi.of g).ok := fun g hg => C.cloneI _ (by rw [eIs_len]; have := (h.hfc g hg).1; omega) (eIs_mem _) g.d g.sld
  have hC := C.cloneC (eCs t.cs) (by rw [eCs_len]; have := h.hl; omega) (eCs_mem _) dc h.dc
  have hI := C.cloneI (eIs t.ks) (by rw [eIs_len]; have := h.hk; omega) (eIs_mem _) dk h.dk
  have key : ∀ (l : List Fi) (hl : l = t.fs.map Fi.of) (n : Nat) (hn : n = l.length) (tab out : List AV), DA (clB tab out t.nm (eCs t.cs) (eIs t.ks) (isN dc) (isN dk) l (xL (t.xs.map (shf 0))) (xL (t.xs.map (shf 0))).isEmpty) (.agg (oB t.nm (eCs t.cs).length (eIs t.ks).length n (xL (t.xs.map (shf 0))).length))
      (eT t.nm (slD (isN dc) (eCs t.cs)) (slD (isN dk) (eIs t.ks)) (slD l.isEmpty (eFs t.fs)) (slD (xL (t.xs.map (shf 0))).isEmpty (xL (t.xs.map (shf 0))))) := by
    intro l hl n hn tab out
    refine dg_tabF (rows := rowsF 7 l) (fs := t.fs) (by rw [rowsF_len]; exact hn) rfl rfl rfl rfl (by rw [rowsF_len, hl, List.length_map]) fun i e g he hg => ?_
    have h1 : l[i]? = some (Fi.of g) := by rw [hl, List.getElem?_map, hg]; rfl
    rw [rowsF_get l 7 i _ h1] at he
    cases he
    refine ⟨7 + i, eIs g.cs, isN g.d, rfl, ?_, (slD_isN g.sld).symm⟩
    unfold clB
    rw [List.getElem?_append_right (by simp)]
    show (innF l)[7 + i - 7]? = _
    unfold innF
    rw [show 7 + i - 7 = i by omega, List.getElem?_map, h1]
    rfl
  have fin : ∀ (l : List Fi), l = t.fs.map Fi.of → TD.av (TD.cp ⟨t, dc, dk, df, dx⟩) = eT t.nm (slD (isN dc) (eCs t.cs)) (slD (isN dk) (eIs t.ks)) (slD l.isEmpty (eFs t.fs)) (slD (xL (t.xs.map (shf 0))).isEmpty (xL (t.xs.map (shf 0)))) := by
    intro l hl
    rw [slD_isN h.dc, slD_isN h.dk, hx, hl]
    unfold TD.av TD.cp dF slX
    dsimp only
    have e : (t.fs.map Fi.of).isEmpty = t.fs.isEmpty := by cases t.fs <;> rfl
    rw [e]
  have hdf := h.df
  rcases list4 hf4 with hf | ⟨a0, hf⟩ | ⟨a0, a1, hf⟩ | ⟨a0, a1, a2, hf⟩ | ⟨a0, a1, a2, a3, hf⟩
  · have hd : SlD df [] := by rw [hf] at hdf; exact hdf
    refine CallSpec.deepP (C.clone0 t.nm dc dk df dx (eCs t.cs) (eIs t.ks) (isN dc) (isN dk) hC hI hd t.xs h.hxb h.hxs h.dx) ?_
    rintro r os ⟨rfl, rfl⟩
    rw [fin [] (by rw [hf]; rfl)]
    exact key [] (by rw [hf]; rfl) 0 rfl _ _
  all_goals
    have hd : df = .sl (eFi (t.fs.map Fi.of)) := by
      have e : eFi (t.fs.map Fi.of) = eFs t.fs := by unfold eFi eFs; rw [List.map_map]; rfl
      rw [e]
      rcases hdf with ⟨_, h2⟩ | h2
      · rw [hf] at h2; cases h2
      · exact h2
    rw [hf] at hd
  · refine CallSpec.deepP (C.clone1 t.nm dc dk df dx (eCs t.cs) (eIs t.ks) (isN dc) (isN dk) hC hI (Fi.of a0) (hok a0 (by rw [hf]; simp)) hd t.xs h.hxb h.hxs h.dx) ?_
    rintro r os ⟨rfl, rfl⟩
    rw [fin [Fi.of a0] (by rw [hf]; rfl)]
    exact key _ (by rw [hf]; rfl) 1 rfl _ _
  · refine CallSpec.deepP (C.clone2 t.nm dc dk df dx (eCs t.cs) (eIs t.ks) (isN dc) (isN dk) hC hI (Fi.of a0) (Fi.of a1) (hok a0 (by rw [hf]; simp)) (hok a1 (by rw [hf]; simp)) hd t.xs h.hxb h.hxs h.dx) ?_
    rintro r os ⟨rfl, rfl⟩
    rw [fin [Fi.of a0, Fi.of a1] (by rw [hf]; rfl)]
    exact key _ (by rw [hf]; rfl) 2 rfl _ _
  · refine CallSpec.deepP (C.clone3 t.nm dc dk df dx (eCs t.cs) (eIs t.ks) (isN dc) (isN dk) hC hI (Fi.of a0) (Fi.of a1) (Fi.of a2) (hok a0 (by rw [hf]; simp)) (hok a1 (by rw [hf]; simp)) (hok a2 (by rw [hf]; simp)) hd t.xs h.hxb h.hxs h.dx) ?_
    rintro r os ⟨rfl, rfl⟩
    rw [fin [Fi.of a0, Fi.of a1, Fi.of a2] (by rw [hf]; rfl)]
    exact key _ (by rw [hf]; rfl) 3 rfl _ _
  · refine CallSpec.deepP (C.clone4 t.nm dc dk df dx (eCs t.cs) (eIs t.ks) (isN dc) (isN dk) hC hI (Fi.of a0) (Fi.of a1) (Fi.of a2) (Fi.of a3) (hok a0 (by rw [hf]; simp)) (hok a1 (by rw [hf]; simp)) (hok a2 (by rw [hf]; simp)) (hok a3 (by rw [hf]; simp)) hd t.xs h.hxb h.hxs h.dx) ?_
    rintro r os ⟨rfl, rfl⟩
    rw [fin [Fi.of a0, Fi.of a1, Fi.of a2, Fi.of a3] (by rw [hf]; rfl)]
    exact key _ (by rw [hf]; rfl) 4 rfl _ _
end Go.Proofs
end
section
/- Run: changes one after another. No condition. -/
set_option linter.unusedSimpArgs false
set_option linter.unusedVariables false
set_option maxRecDepth 10000
set_option maxHeartbeats 4000000
namespace Go.Proofs
open Go.Bi
abbrev chds (c : Ch) : List D := [eI c.k, .str c.nm, .str c.to, .str c.co.nm, eI c.co.k, .bool c.co.nl, eI c.df.k, eI c.df.n, .str c.df.s]
def eChs (l : List Ch) : List (List D) := l.map chds
theorem eChs_len (l : List Ch) : (eChs l).length = l.length := by simp [eChs]
theorem eChs_get {l : List Ch} {i : Nat} {c : Ch} (h : l[i]? = some c) : (eChs l)[i]? = some (chds c) := by simp [eChs, h]
theorem eChs_mem (l : List Ch) : ∀ e ∈ eChs l, e.length = 9 := by
  intro e he
  obtain ⟨x, _, rfl⟩ := List.mem_map.1 he
  rfl
theorem eChs_take (l : List Ch) (i : Nat) : (eChs l).take i = eChs (l.take i) := by simp [eChs]
theorem eChs_drop (l : List Ch) (i : Nat) : (eChs l).drop i = eChs (l.drop i) := by simp [eChs]
def TD.run (x : TD) (i : Nat) : List Ch → TD × Nat × Int
  | [] => (x, i, 0)
  | c :: r => if evoE x.t c = 0 then TD.run (x.evo c) (i + 1) r else (zTD, i, evoE x.t c)
def TD.runs (x : TD) (l : List Ch) : TD × Nat × Int := if tabE x.t = 0 then TD.run x.cp 0 l else (zTD, 0, tabE x.t)
theorem run_drop {x : TD} {l : List Ch} {i : Nat} {c : Ch} (h : l[i]? = some c) : TD.run x i (l.drop i) = if evoE x.t c = 0 then TD.run (x.evo c) (i + 1) (l.drop (i + 1)) else (zTD, i, evoE x.t c) := by
  obtain ⟨hlt, he⟩ := List.getElem?_eq_some_iff.1 h
  rw [List.drop_eq_getElem_cons hlt, he]; rfl
theorem C.evo_Run (x : TD) (h : x.ok) (l : List Ch) (hl : l.length ≤ 1048576) (hls : ∀ c ∈ l, Cok c) (d : D) (hd : SlD d (eChs l)) :
    Pure Try.prog N.evolve_Run [x.av, .d d] (.tup [(x.runs l).1.av, .d (eI ((x.runs l).2.1 : Nat)), .d (eI (x.runs l).2.2)]) := by
  have hT := C.schema_Check x.t x.dc x.dk x.df x.dx h.tok
  obtain ⟨R, hR⟩ : ∃ R, R = x.runs l := ⟨_, rfl⟩
  rw [← hR]
  unfold TD.runs at hR
  have h1 := eChs_len l
  have hm := eChs_mem l
  have hg0 := fun i c => @eChs_get l i c
  obtain ⟨es, hes⟩ : ∃ es, es = eChs l := ⟨_, rfl⟩
  rw [← hes] at h1 hm hd hg0
  by_cases hq : tabE x.t = 0
  rotate_left
  · rw [if_neg hq] at hR
    subst hR
    obtain ⟨q, hqq⟩ : ∃ q, q = tabE x.t := ⟨_, rfl⟩
    rw [← hqq] at hT hq ⊢
    refine F.evolve_Run.go mixed rfl ?_
    repeat' first|refine st ?_|((with_reducible apply go_i);conv=>whnf)|((with_reducible first|apply k_pn|apply k_pc);(·exact hT))|with_reducible apply k_d<;>intro _|with_reducible apply k_b<;>intro _
    all_goals rfl
  · rw [if_pos hq] at hR
    rw [hq] at hT
    have hC := C.clone_any x h (tab_vd.1 hq).fl
    have hok := TD.cp_ok h
    obtain ⟨y, hy⟩ : ∃ y, y = x.cp := ⟨_, rfl⟩
    rw [← hy] at hC hR hok
    clear hy
    obtain ⟨⟨nm, cs, ks, fs, xs⟩, dc, dk, df, dx⟩ := x
    have hC : Bi.Pure Try.prog N.schema_Clone [eT nm dc dk df dx] (eT y.t.nm y.dc y.dk y.df y.dx) := hC
    have hT : Bi.Pure Try.prog N.schema_Check [eT nm dc dk df dx] (.d (eI 0)) := hT
    refine F.evolve_Run.go mixed rfl ?_
    repeat' first|refine st ?_|((with_reducible apply go_i);conv=>whnf)|((with_reducible first|apply k_pn|apply k_pc);(·first|exact hT|exact hC))|with_reducible apply k_d<;>intro _|with_reducible apply k_b<;>intro _
    refine x_loop2 mixed Lt.evolve_Run_l0 Lk.evolve_Run_l0 (fun (i : Nat) (w : TD) => [.d (eI i)]) (fun i w => [.cells [.d (.str nm), .d dc, .d dk, .d df, .d dx], .cells [.d (.str []), .d .nil, .d .nil, .d .nil, .d .nil], .cells [.d (.str w.t.nm), .d w.dc, .d w.dk, .d w.df, .d w.dx]]) (fun i w => i ≤ l.length ∧ w.ok ∧ R = TD.run w i (l.drop i)) (fun i w => l.length - i) 0 y rfl rfl rfl rfl (fun _ _ _ => ⟨rfl, rfl⟩) rfl ⟨by omega, hok, hR⟩ ?_
    repeat' first|refine st ?_|((with_reducible apply go_i);conv=>whnf)|with_reducible apply k_d<;>intro _|with_reducible apply k_b<;>intro _
    intro i w ⟨h4, h5, h6⟩
    cases hx : l[i]? with
    | some c =>
      have hlt := (List.getElem?_eq_some_iff.1 hx).1
      have hcok := hls c (List.mem_of_getElem? hx)
      have hg := hg0 i c hx
      rw [run_drop hx] at h6
      by_cases he : evoE w.t c = 0
      · rw [if_pos he] at h6
        have hA := C.evo_Apply w h5 c hcok he
        have hok2 := TD.evo_ok h5 hcok he
        obtain ⟨z, hz⟩ : ∃ z, z = w.evo c := ⟨_, rfl⟩
        rw [← hz] at hA h6 hok2
        obtain ⟨ck, cnm, to, ⟨cn, cck, cl⟩, ⟨vk, vn, vs⟩⟩ := c
        have hA : Bi.Pure Try.prog N.evolve_Apply [eT w.t.nm w.dc w.dk w.df w.dx, chD ck cnm to cn cck cl vk vn vs] (.tup [eT z.t.nm z.dc z.dk z.df z.dx, .d (eI 0)]) := hA
        clear hR
        repeat' first|refine st ?_|((with_reducible apply go_i);conv=>whnf)|((with_reducible first|apply k_pn|apply k_pc);(·exact hA))|with_reducible apply k_d<;>intro _|with_reducible apply k_b<;>intro _
        exact ⟨i + 1, z, rfl, rfl, rfl, by omega, by omega, hok2, h6⟩
      · rw [if_neg he] at h6
        have hA := C.evo_ApplyErr w h5 c hcok he
        subst h6
        obtain ⟨q, hqq⟩ : ∃ q, q = evoE w.t c := ⟨_, rfl⟩
        rw [← hqq] at hA he ⊢
        obtain ⟨ck, cnm, to, ⟨cn, cck, cl⟩, ⟨vk, vn, vs⟩⟩ := c
        have hA : Bi.Pure Try.prog N.evolve_Apply [eT w.t.nm w.dc w.dk w.df w.dx, chD ck cnm to cn cck cl vk vn vs] (.tup [eT [] .nil .nil .nil .nil, .d (eI q)]) := hA
        clear hR
        repeat' first|refine st ?_|((with_reducible apply go_i);conv=>whnf)|((with_reducible first|apply k_pn|apply k_pc);(·exact hA))|with_reducible apply k_d<;>intro _|with_reducible apply k_b<;>intro _
        all_goals rfl
    | none =>
      have hge := List.getElem?_eq_none_iff.1 hx
      rw [List.drop_of_length_le hge] at h6
      have hil : i = l.length := by omega
      subst h6
      clear hR
      repeat' first|refine st ?_|((with_reducible apply go_i);conv=>whnf)|with_reducible apply k_d<;>intro _|with_reducible apply k_b<;>intro _
      all_goals (first | rfl | (simp only [TD.run, hil, h1]; done) | (rw [h1, ← hil]; rfl))
end Go.Proofs
end
section
/- The examples of chapter 14. No condition. -/
set_option linter.unusedSimpArgs false
set_option linter.unusedVariables false
set_option maxRecDepth 10000
set_option maxHeartbeats 4000000
namespace Go.Proofs
open Go.Bi
def smT : Tb := ⟨[116], [⟨[97], 1, false⟩, ⟨[98], 2, true⟩], [0], [], []⟩
def smU : Tb := ⟨[116], [⟨[98], 2, false⟩, ⟨[97], 1, false⟩, ⟨[99], 1, false⟩], [1], [], []⟩
def ch1 : Ch := ⟨1, [], [], ⟨[99], 1, true⟩, ⟨1, 7, []⟩⟩
def ch2 : Ch := ⟨2, [98], [], ⟨[], 0, false⟩, ⟨0, 0, []⟩⟩
def ch3 : Ch := ⟨2, [97], [], ⟨[], 0, false⟩, ⟨0, 0, []⟩⟩
def ch4 : Ch := ⟨2, [99], [], ⟨[], 0, false⟩, ⟨0, 0, []⟩⟩
theorem smT_ok : Tok smT (.sl (eCs smT.cs)) (.sl (eIs smT.ks)) .nil .nil :=
  ⟨by decide, by decide, by decide, by decide, by decide, fun f hf => by simp [smT] at hf, by decide, fun e he => by simp [smT] at he, sld_sl, sld_sl, sld_nil, sld_nil⟩
theorem smU_ok : Tok smU (.sl (eCs smU.cs)) (.sl (eIs smU.ks)) .nil .nil :=
  ⟨by decide, by decide, by decide, by decide, by decide, fun f hf => by simp [smU] at hf, by decide, fun e he => by simp [smU] at he, sld_sl, sld_sl, sld_nil, sld_nil⟩
theorem ch_ok : Cok ch1 ∧ Cok ch2 ∧ Cok ch3 ∧ Cok ch4 := ⟨⟨by decide, by decide, by decide, by decide⟩, ⟨by decide, by decide, by decide, by decide⟩, ⟨by decide, by decide, by decide, by decide⟩, ⟨by decide, by decide, by decide, by decide⟩⟩
theorem evo1 : evoE smT ch1 = 0 := by kernel_rfl
theorem evo2 : evoE smU ch2 = 0 := by kernel_rfl
theorem evo3 : evoE smT ch3 = 25 := by kernel_rfl
theorem evo4 : evoE smT ch4 = 11 := by kernel_rfl
theorem C.law14_sample : Pure Try.prog N.bt_law14_sample [] (eT smT.nm (.sl (eCs smT.cs)) (.sl (eIs smT.ks)) .nil .nil) := by
  refine F.bt_law14_sample.go mixed rfl ?_
  repeat' first|refine st ?_|((with_reducible apply go_i);conv=>whnf)|with_reducible apply k_d<;>intro _|with_reducible apply k_b<;>intro _
  all_goals rfl
theorem C.law14_awake : Pure Try.prog N.bt_law14_awake [] (.d (.bool true)) := by
  have hS := C.law14_sample
  have hI : Bi.Pure Try.prog N.bt_ref07_Int [.d (eI 7)] (eV ⟨1, 7, []⟩) := C.r7_Int 7
  have hA := C.evo_Apply ⟨smT, .sl (eCs smT.cs), .sl (eIs smT.ks), .nil, .nil⟩ ⟨smT_ok, fun e he => by simp [smT] at he⟩ ch1 ch_ok.1 evo1
  have hB := C.evo_Apply ⟨smU, .sl (eCs smU.cs), .sl (eIs smU.ks), .nil, .nil⟩ ⟨smU_ok, fun e he => by simp [smU] at he⟩ ch2 ch_ok.2.1 evo2
  rw [show TD.evo ⟨smT, .sl (eCs smT.cs), .sl (eIs smT.ks), .nil, .nil⟩ ch1 = ⟨⟨[116], smT.cs ++ [ch1.co], [0], [], []⟩, .sl (eCs (smT.cs ++ [ch1.co])), .sl [[eI 0]], .nil, .nil⟩ by kernel_rfl] at hA
  rw [show TD.evo ⟨smU, .sl (eCs smU.cs), .sl (eIs smU.ks), .nil, .nil⟩ ch2 = ⟨⟨[116], [⟨[97], 1, false⟩, ⟨[99], 1, false⟩], [0], [], []⟩, .sl (eCs [⟨[97], 1, false⟩, ⟨[99], 1, false⟩]), .sl [[eI 0]], .nil, .nil⟩ by kernel_rfl] at hB
  have hC := C.evolve_Check smT _ _ _ _ smT_ok ch3 ch_ok.2.2.1
  have hD := C.evolve_Check smT _ _ _ _ smT_ok ch4 ch_ok.2.2.2
  rw [evo3] at hC
  rw [evo4] at hD
  refine F.bt_law14_awake.go mixed rfl ?_
  repeat' first|refine st ?_|((with_reducible apply go_i);conv=>whnf)|((with_reducible first|apply k_pn|apply k_pc);(·first|exact hS|exact hI|exact hA|exact hB|exact hC|exact hD))|with_reducible apply k_d<;>intro _|with_reducible apply k_b<;>intro _
  all_goals rfl
end Go.Proofs
end
section
/- The laws EvolveValid and EvolveComposes. No condition. -/
set_option linter.unusedSimpArgs false
set_option linter.unusedVariables false
set_option maxRecDepth 10000
set_option maxHeartbeats 4000000
namespace Go.Proofs
open Go.Bi
theorem evo_nf {t u : Tb} (h : nf t = nf u) (c : Ch) : evoE t c = evoE u c ∧ nf (evoT t c) = nf (evoT u c) := by
  refine ⟨?_, ?_⟩
  · rw [← evoE_nf, h, evoE_nf]
  · rw [← nf_evo, h, nf_evo]
/-! ### Runs, one after another -/
theorem run_ok : ∀ (l : List Ch) (x : TD) (i : Nat), x.ok → (∀ c ∈ l, Cok c) → (TD.run x i l).1.ok
  | [], x, i, h, _ => h
  | c :: r, x, i, h, hc => by
    unfold TD.run
    split
    · rename_i hq
      exact run_ok r _ _ (TD.evo_ok h (hc c (by simp)) hq) fun d hd => hc d (by simp [hd])
    · exact zTD_ok
theorem runs_ok {x : TD} {l : List Ch} (h : x.ok) (hc : ∀ c ∈ l, Cok c) : (x.runs l).1.ok := by
  unfold TD.runs
  split
  · exact run_ok l _ _ (TD.cp_ok h) hc
  · exact zTD_ok
theorem run_vd : ∀ (l : List Ch) (x : TD) (i : Nat), tabE x.t = 0 → (TD.run x i l).2.2 = 0 → tabE (TD.run x i l).1.t = 0 ∧ (TD.run x i l).2.1 = i + l.length
  | [], x, i, h, _ => ⟨h, rfl⟩
  | c :: r, x, i, h, hr => by
    unfold TD.run at hr ⊢
    by_cases hq : evoE x.t c = 0
    · rw [if_pos hq] at hr ⊢
      have := run_vd r _ (i + 1) (tab_vd.2 (evo_vd hq)) hr
      exact ⟨this.1, by rw [this.2, List.length_cons]; omega⟩
    · rw [if_neg hq] at hr
      exact absurd hr hq
theorem run_le : ∀ (l : List Ch) (x : TD) (i : Nat), (TD.run x i l).2.1 ≤ i + l.length
  | [], x, i => Nat.le_refl _
  | c :: r, x, i => by
    unfold TD.run
    split
    · have := run_le r (x.evo c) (i + 1)
      rw [List.length_cons]
      omega
    · rw [List.length_cons]
      dsimp only
      omega
theorem runs_le (x : TD) (l : List Ch) : (x.runs l).2.1 ≤ l.length := by
  unfold TD.runs
  split
  · have := run_le l x.cp 0
    omega
  · exact Nat.zero_le _
theorem run_app : ∀ (l1 l2 : List Ch) (x : TD) (i : Nat), TD.run x i (l1 ++ l2) = if (TD.run x i l1).2.2 = 0 then TD.run (TD.run x i l1).1 (i + l1.length) l2 else TD.run x i l1
  | [], l2, x, i => rfl
  | c :: r, l2, x, i => by
    rw [List.cons_append]
    by_cases hq : evoE x.t c = 0
    · have e1 : TD.run x i (c :: (r ++ l2)) = TD.run (x.evo c) (i + 1) (r ++ l2) := by rw [TD.run, if_pos hq]
      have e2 : TD.run x i (c :: r) = TD.run (x.evo c) (i + 1) r := by rw [TD.run, if_pos hq]
      rw [e1, e2, run_app r l2, List.length_cons, show i + 1 + r.length = i + (r.length + 1) by omega]
    · have e1 : TD.run x i (c :: (r ++ l2)) = (zTD, i, evoE x.t c) := by rw [TD.run, if_neg hq]
      have e2 : TD.run x i (c :: r) = (zTD, i, evoE x.t c) := by rw [TD.run, if_neg hq]
      rw [e1, e2, if_neg hq]
theorem run_nf : ∀ (l : List Ch) (x y : TD) (i j : Nat), nf x.t = nf y.t → (TD.run x i l).2.2 = (TD.run y j l).2.2 ∧ (TD.run x i l).2.1 + j = (TD.run y j l).2.1 + i ∧ nf (TD.run x i l).1.t = nf (TD.run y j l).1.t
  | [], x, y, i, j, h => ⟨rfl, Nat.add_comm .., h⟩
  | c :: r, x, y, i, j, h => by
    obtain ⟨h1, h2⟩ := evo_nf h c
    by_cases hq : evoE x.t c = 0
    · have e1 : TD.run x i (c :: r) = TD.run (x.evo c) (i + 1) r := by rw [TD.run, if_pos hq]
      have e2 : TD.run y j (c :: r) = TD.run (y.evo c) (j + 1) r := by rw [TD.run, if_pos (by rw [← h1]; exact hq)]
      rw [e1, e2]
      have := run_nf r (x.evo c) (y.evo c) (i + 1) (j + 1) h2
      exact ⟨this.1, by omega, this.2.2⟩
    · have e1 : TD.run x i (c :: r) = (zTD, i, evoE x.t c) := by rw [TD.run, if_neg hq]
      have e2 : TD.run y j (c :: r) = (zTD, j, evoE y.t c) := by rw [TD.run, if_neg (by rw [← h1]; exact hq)]
      rw [e1, e2]
      exact ⟨h1, Nat.add_comm .., rfl⟩
/-- Changes followed by others are the others after the first ones. -/
theorem runs_split (x : TD) (l1 l2 : List Ch) : ((x.runs l1).2.2 ≠ 0 → x.runs (l1 ++ l2) = x.runs l1) ∧ ((x.runs l1).2.2 = 0 → (x.runs l1).2.1 = l1.length ∧ (x.runs (l1 ++ l2)).2.2 = ((x.runs l1).1.runs l2).2.2 ∧ (x.runs (l1 ++ l2)).2.1 = l1.length + ((x.runs l1).1.runs l2).2.1 ∧
    nf (x.runs (l1 ++ l2)).1.t = nf ((x.runs l1).1.runs l2).1.t) := by
  by_cases hq : tabE x.t = 0
  · have e1 : ∀ l, x.runs l = TD.run x.cp 0 l := fun l => by unfold TD.runs; rw [if_pos hq]
    rw [e1, e1, run_app]
    refine ⟨fun h => by rw [if_neg h], fun h => ?_⟩
    rw [if_pos h]
    obtain ⟨a1, a2⟩ := run_vd l1 x.cp 0 (TD.cp_vd hq) h
    have e2 : (TD.run x.cp 0 l1).1.runs l2 = TD.run (TD.run x.cp 0 l1).1.cp 0 l2 := by unfold TD.runs; rw [if_pos a1]
    rw [e2]
    have := run_nf l2 (TD.run x.cp 0 l1).1 (TD.run x.cp 0 l1).1.cp (0 + l1.length) 0 (nf_cp _).symm
    exact ⟨by omega, this.1, by omega, this.2.2⟩
  · have e1 : ∀ l, x.runs l = (zTD, 0, tabE x.t) := fun l => by unfold TD.runs; rw [if_neg hq]
    rw [e1, e1]
    exact ⟨fun _ => rfl, fun h => absurd h hq⟩
theorem L.EvolveComposes (x : TD) (h : x.ok) (l : List Ch) (hl : l.length ≤ 1048576) (hls : ∀ c ∈ l, Cok c) (d : D) (hd : SlD d (eChs l)) (at' : Int) : Pure Try.prog N.bt_law14_EvolveComposes [x.av, .d d, .d (eI at')] (.d (.bool true)) := by
  have h1 := eChs_len l
  have hm := eChs_mem l
  by_cases g1 : at' < 0
  · obtain ⟨es, hes⟩ : ∃ es, es = eChs l := ⟨_, rfl⟩
    rw [← hes] at h1 hm hd
    refine F.bt_law14_EvolveComposes.go mixed rfl ?_
    repeat' first|refine st ?_|((with_reducible apply go_i);conv=>whnf)|((with_reducible first|apply k_pn|apply k_pc);(·exact C.law14_awake))|with_reducible apply k_d<;>intro _|with_reducible apply k_b<;>intro _
    all_goals rfl
  by_cases g2 : (l.length : Int) < at'
  · obtain ⟨es, hes⟩ : ∃ es, es = eChs l := ⟨_, rfl⟩
    rw [← hes] at h1 hm hd
    refine F.bt_law14_EvolveComposes.go mixed rfl ?_
    repeat' first|refine st ?_|((with_reducible apply go_i);conv=>whnf)|((with_reducible first|apply k_pn|apply k_pc);(·exact C.law14_awake))|with_reducible apply k_d<;>intro _|with_reducible apply k_b<;>intro _
    all_goals rfl
  obtain ⟨n, rfl⟩ : ∃ n : Nat, at' = n := ⟨at'.toNat, by omega⟩
  have hn : n ≤ l.length := by omega
  have hsp := runs_split x (l.take n) (l.drop n)
  rw [List.take_append_drop] at hsp
  have hlt : (l.take n).length = n := by rw [List.length_take]; omega
  have hR1 := C.evo_Run x h l hl hls d hd
  have hR2 := fun d' hd' => C.evo_Run x h (l.take n) (by rw [hlt]; omega) (fun c hc => hls c (List.mem_of_mem_take hc)) d' hd'
  have ok1 := runs_ok h hls
  have ok2 := runs_ok (l := l.take n) h fun c hc => hls c (List.mem_of_mem_take hc)
  have hR3 := fun d' hd' => C.evo_Run _ ok2 (l.drop n) (by rw [List.length_drop]; omega) (fun c hc => hls c (List.mem_of_mem_drop hc)) d' hd'
  have ok3 := runs_ok (l := l.drop n) ok2 fun c hc => hls c (List.mem_of_mem_drop hc)
  rw [← eChs_take] at hR2
  rw [← eChs_drop] at hR3
  have hS := fun e => C.r13_Same _ _ _ _ _ _ _ _ _ _ ok1.tok ok3.tok e
  have le1 := runs_le x l
  have le2 := runs_le x (l.take n)
  have le3 := runs_le (x.runs (l.take n)).1 (l.drop n)
  rw [List.length_drop] at le3
  rw [hlt] at le2
  have hnil : l = [] → x.runs (l.take n) = x.runs l := fun e => by rw [e, List.take_nil]
  obtain ⟨s1, s2⟩ := hsp
  obtain ⟨⟨y1, n1, e1⟩, hy1⟩ : ∃ z, z = x.runs l := ⟨_, rfl⟩
  rw [← hy1] at s1 s2 hR1 hS le1 hnil
  obtain ⟨⟨y2, n2, e2⟩, hy2⟩ : ∃ z, z = x.runs (l.take n) := ⟨_, rfl⟩
  rw [← hy2] at s1 s2 hR2 hR3 hS le2 le3 hnil
  obtain ⟨⟨y3, n3, e3⟩, hy3⟩ : ∃ z, z = y2.runs (l.drop n) := ⟨_, rfl⟩
  dsimp only at s1 s2 hR1 hR2 hR3 hS le1 le2 le3
  rw [← hy3] at s2 hR3 hS le3
  dsimp only at s2 hR3 hS le3
  rw [hlt] at s2
  obtain ⟨es, hes⟩ : ∃ es, es = eChs l := ⟨_, rfl⟩
  rw [← hes] at h1 hm hd hR2 hR3
  clear ok1 ok2 ok3 hy1 hy2 hy3 hls h
  have hR1 : Bi.Pure Try.prog N.evolve_Run [x.av, .d d] (.tup [eT y1.t.nm y1.dc y1.dk y1.df y1.dx, .d (eI n1), .d (eI e1)]) := hR1
  have hR2 : ∀ d', SlD d' (es.take n) → Bi.Pure Try.prog N.evolve_Run [x.av, .d d'] (.tup [eT y2.t.nm y2.dc y2.dk y2.df y2.dx, .d (eI n2), .d (eI e2)]) := hR2
  have hR3 : ∀ d', SlD d' (es.drop n) → Bi.Pure Try.prog N.evolve_Run [eT y2.t.nm y2.dc y2.dk y2.df y2.dx, .d d'] (.tup [eT y3.t.nm y3.dc y3.dk y3.df y3.dx, .d (eI n3), .d (eI e3)]) := hR3
  by_cases g3 : e2 = 0
  · obtain ⟨a1, a2, a3, a4⟩ := s2 g3
    have hS : Bi.Pure Try.prog N.bt_ref13_Same [eT y1.t.nm y1.dc y1.dk y1.df y1.dx, eT y3.t.nm y3.dc y3.dk y3.df y3.dx] (.d (.bool true)) := hS a4
    subst g3; subst a2; subst a3
    subst a1
    have b1 : n3 ≤ 1048576 := by omega
    have r1 : ((n2 + n3 : Nat) : Int) = (n2 : Int) + n3 := by omega
    rw [r1] at hR1
    have r2 : e1 = e1 := rfl
    have r3 : (n2 : Int) + n3 = (n2 : Int) + n3 := rfl
    obtain ⟨⟨nm, cs, ks, fs, xs⟩, dc, dk, df, dx⟩ := x
    rcases hd with ⟨rfl, he⟩ | rfl
    · have hn0 : n2 = 0 := by rw [he] at h1; simp at h1; omega
      have hl0 : l = [] := by rw [he] at h1; exact List.length_eq_zero_iff.1 (by simpa using h1.symm)
      have h0 := hnil hl0
      injection h0 with h01 h02
      injection h02 with h02 h03
      subst h01; subst h03
      subst hn0
      have hn30 : n3 = 0 := by omega
      subst hn30
      clear hR1
      have hR2 := hR2 .nil (by rw [he]; exact sld_nil)
      have hR3 := hR3 .nil (by rw [he]; exact sld_nil)
      refine F.bt_law14_EvolveComposes.go mixed rfl ?_
      repeat' first|refine st ?_|((with_reducible apply go_i);conv=>whnf)|((with_reducible first|apply k_pn|apply k_pc);(·first|exact hR2|exact hR3|exact hS|exact C.law14_awake))|with_reducible apply k_d<;>intro _|with_reducible apply k_b<;>intro _
      all_goals first | rfl | (exfalso; simp_all; done)
    · have hR2 := hR2 (.sl ((es.drop (0 : Int).toNat).take ((n2 : Int).toNat - (0 : Int).toNat))) sld_sl
      have hR3 := hR3 (.sl ((es.drop (n2 : Int).toNat).take ((es.length : Int).toNat - (n2 : Int).toNat))) (.inr (by
        rw [Int.toNat_natCast, Int.toNat_natCast, List.take_of_length_le (by rw [List.length_drop]; omega)]))
      refine F.bt_law14_EvolveComposes.go mixed rfl ?_
      repeat' first|refine st ?_|((with_reducible apply go_i);conv=>whnf)|((with_reducible first|apply k_pn|apply k_pc);(·first|exact hR1|exact hR2|exact hR3|exact hS|exact C.law14_awake))|with_reducible apply k_d<;>intro _|with_reducible apply k_b<;>intro _
      all_goals first | rfl | (exfalso; simp_all; done)
  · have := s1 g3
    injection this with a1 a2
    injection a2 with a2 a3
    subst a1; subst a2; subst a3
    have r1 : e1 = e1 := rfl
    obtain ⟨⟨nm, cs, ks, fs, xs⟩, dc, dk, df, dx⟩ := x
    rcases hd with ⟨rfl, he⟩ | rfl
    · have hn0 : n = 0 := by rw [he] at h1; simp at h1; omega
      subst hn0
      have hR2 := hR2 .nil (by rw [he]; exact sld_nil)
      refine F.bt_law14_EvolveComposes.go mixed rfl ?_
      repeat' first|refine st ?_|((with_reducible apply go_i);conv=>whnf)|((with_reducible first|apply k_pn|apply k_pc);(·first|exact hR1|exact hR2|exact C.law14_awake))|with_reducible apply k_d<;>intro _|with_reducible apply k_b<;>intro _
      all_goals first | rfl | (exfalso; simp_all; done)
    · have hR2 := hR2 (.sl ((es.drop (0 : Int).toNat).take ((n : Int).toNat - (0 : Int).toNat))) sld_sl
      refine F.bt_law14_EvolveComposes.go mixed rfl ?_
      repeat' first|refine st ?_|((with_reducible apply go_i);conv=>whnf)|((with_reducible first|apply k_pn|apply k_pc);(·first|exact hR1|exact hR2|exact C.law14_awake))|with_reducible apply k_d<;>intro _|with_reducible apply k_b<;>intro _
      all_goals first | rfl | (exfalso; simp_all; done)
end Go.Proofs
end
section
/- What the laws are handed: definitions of tables. No condition. -/
set_option linter.unusedSimpArgs false
set_option linter.unusedVariables false
set_option maxRecDepth 10000
set_option maxHeartbeats 4000000
namespace Go.Proofs
open Go.Bi
abbrev T.co : TypeId := 29
abbrev T.cos : TypeId := 22
abbrev T.fo : TypeId := 62
abbrev T.fos : TypeId := 24
abbrev T.tb : TypeId := 27
theorem cells_co : Try.prog.cellsOf T.co = 3 := by kernel_rfl
theorem cells_cos : Try.prog.cellsOf T.cos = 1 := by kernel_rfl
theorem cells_ints : Try.prog.cellsOf T.ints = 1 := by kernel_rfl
theorem cells_fo : Try.prog.cellsOf T.fo = 2 := by kernel_rfl
theorem cells_fos : Try.prog.cellsOf T.fos = 1 := by kernel_rfl
theorem cells_tb : Try.prog.cellsOf T.tb = 5 := by kernel_rfl
theorem wt_co {ds : List D} (h : WT Try.prog T.co ds) : ∃ c : Co, ds = c.ds := by
  obtain ⟨hl, hf⟩ := h.st' Try.underlying29
  rw [cells_co] at hl
  match ds, hl with
  | [x, y, z], _ =>
    have h0 := hf _ (List.mem_cons_self ..)
    have h1 := hf _ (List.mem_cons_of_mem _ (List.mem_cons_self ..))
    have h2 := hf _ (List.mem_cons_of_mem _ (List.mem_cons_of_mem _ (List.mem_cons_self ..)))
    dsimp only at h0 h1 h2
    rw [cells_str] at h0
    rw [cells_int] at h1
    rw [cells_bool] at h2
    obtain ⟨a, ha⟩ := wt_str h0
    obtain ⟨b, hb⟩ := wt_int h1
    obtain ⟨s, hs⟩ := wt_bool h2
    simp at ha hb hs
    exact ⟨⟨a, b, s⟩, by rw [ha, hb, hs]⟩
theorem wt_cos {ds : List D} (h : WT Try.prog T.cos ds) : ∃ d l, ds = [d] ∧ SlD d (eCs l) := by
  obtain ⟨d, es, h1, h2, h4, h3⟩ := h.sl' Try.underlying22
  have : ∃ l, es = eCs l := by
    clear h1 h2 h4
    induction es with
    | nil => exact ⟨[], rfl⟩
    | cons x es ih =>
      obtain ⟨n, hn⟩ := wt_co (h3 x (by simp))
      obtain ⟨ks, hk⟩ := ih fun y hy => h3 y (by simp [hy])
      exact ⟨n :: ks, by rw [hn, hk]; rfl⟩
  obtain ⟨ks, rfl⟩ := this
  exact ⟨d, ks, h1, h2⟩
theorem wt_fo {ds : List D} (h : WT Try.prog T.fo ds) : ∃ f : Fo, ds = f.ds := by
  obtain ⟨hl, hf⟩ := h.st' Try.underlying62
  rw [cells_fo] at hl
  match ds, hl with
  | [x, y], _ =>
    have h0 := hf _ (List.mem_cons_self ..)
    have h1 := hf _ (List.mem_cons_of_mem _ (List.mem_cons_self ..))
    dsimp only at h0 h1
    rw [cells_ints] at h0
    rw [cells_str] at h1
    obtain ⟨d, ks, ha, hd⟩ := wt_ints h0
    obtain ⟨s, hs⟩ := wt_str h1
    simp at ha hs
    rcases hd with ⟨rfl, he⟩ | rfl
    · have : ks = [] := by cases ks with
        | nil => rfl
        | cons k ks => cases he
      subst this
      exact ⟨⟨true, [], s⟩, by rw [ha, hs]; rfl⟩
    · exact ⟨⟨false, ks, s⟩, by rw [ha, hs]; rfl⟩
theorem wt_fos {ds : List D} (h : WT Try.prog T.fos ds) : ∃ d l, ds = [d] ∧ SlD d (eFs l) := by
  obtain ⟨d, es, h1, h2, h4, h3⟩ := h.sl' Try.underlying24
  have : ∃ l, es = eFs l := by
    clear h1 h2 h4
    induction es with
    | nil => exact ⟨[], rfl⟩
    | cons x es ih =>
      obtain ⟨n, hn⟩ := wt_fo (h3 x (by simp))
      obtain ⟨ks, hk⟩ := ih fun y hy => h3 y (by simp [hy])
      exact ⟨n :: ks, by rw [hn, hk]; rfl⟩
  obtain ⟨ks, rfl⟩ := this
  exact ⟨d, ks, h1, h2⟩
theorem av_tb (n dc dk df dx : D) : avOf Try.prog T.tb [n, dc, dk, df, dx] = .agg [.d n, .d dc, .d dk, .d df, .d dx] := by unfold avOf; rw [Try.underlying27]; rfl
theorem cos_bulk {d : D} {l : List Co} (h : SlD d (eCs l)) : l.length ≤ bulkL [d] ∧ ∀ v ∈ l, v.nm.length ≤ bulkL [d] := by
  have h1 := sld_bulk h
  have h2 : (eCs l).length ≤ bulkLL (eCs l) := bulkLL_len fun x hx => by
    obtain ⟨k, _, rfl⟩ := List.mem_map.1 hx
    simp only [Co.ds, bulkL, bulkD]; omega
  rw [eCs_len] at h2
  refine ⟨by omega, fun v hv => ?_⟩
  have h3 : bulkL v.ds ≤ bulkLL (eCs l) := bulkLL_mem (List.mem_map.2 ⟨v, hv, rfl⟩)
  have h4 : v.nm.length ≤ bulkL v.ds := by simp only [Co.ds, bulkL, bulkD]; omega
  omega
theorem fos_bulk {d : D} {l : List Fo} (h : SlD d (eFs l)) : l.length ≤ bulkL [d] ∧ ∀ f ∈ l, f.cs.length ≤ bulkL [d] ∧ f.tb.length ≤ bulkL [d] := by
  have h1 := sld_bulk h
  have h2 : (eFs l).length ≤ bulkLL (eFs l) := bulkLL_len fun x hx => by
    obtain ⟨k, _, rfl⟩ := List.mem_map.1 hx
    simp only [Fo.ds, bulkL, bulkD]; omega
  rw [eFs_len] at h2
  refine ⟨by omega, fun v hv => ?_⟩
  have h3 : bulkL v.ds ≤ bulkLL (eFs l) := bulkLL_mem (List.mem_map.2 ⟨v, hv, rfl⟩)
  have h4 : v.tb.length ≤ bulkL v.ds := by simp only [Fo.ds, bulkL, bulkD]; omega
  have h5 : v.cs.length ≤ bulkL [v.d] := ints_bulk v.sld
  have h6 : bulkL [v.d] ≤ bulkL v.ds := by simp only [Fo.ds, bulkL]; omega
  omega
theorem exs_bulk {d : D} {l : List Ex} (h : SlD d (xL l)) : l.length ≤ bulkL [d] ∧ ∀ e ∈ l, e.bk ≤ bulkL [d] := by
  have h1 := sld_bulk h
  have h2 := xL_bulk_len l
  refine ⟨by omega, fun v hv => ?_⟩
  have h3 : bulkL v.ds ≤ bulkLL (xL l) := bulkLL_mem (List.mem_map.2 ⟨v, hv, rfl⟩)
  unfold Ex.bk
  omega
theorem tb_tok {t : Tb} {dc dk df dx : D} (hb : bulkL [.str t.nm, dc, dk, df, dx] ≤ 1048576) (hc : SlD dc (eCs t.cs)) (hk : SlD dk (eIs t.ks)) (hf : SlD df (eFs t.fs)) (hx : SlD dx (xL t.xs)) : Tok t dc dk df dx := by
  have h1 := cos_bulk hc
  have h2 := ints_bulk hk
  have h3 := fos_bulk hf
  have h4 := exs_bulk hx
  have e : bulkL [.str t.nm, dc, dk, df, dx] = t.nm.length + 1 + (bulkL [dc] + (bulkL [dk] + (bulkL [df] + bulkL [dx]))) := by simp only [bulkL, bulkD]; omega
  rw [e] at hb
  exact { hn := by omega, hl := by omega, hls := fun c hc => Nat.le_trans (h1.2 c hc) (by omega), hk := by omega, hfl := by omega, hfc := fun f hf => ⟨Nat.le_trans (h3.2 f hf).1 (by omega), Nat.le_trans (h3.2 f hf).2 (by omega)⟩, hxs := by omega, hxb := fun e he => Nat.le_trans (h4.2 e he) (by omega), dc := hc, dk := hk, df := hf, dx := hx }
end Go.Proofs
end
section
/- The law on checked changes, and what it is handed. No condition. -/
set_option linter.unusedSimpArgs false
set_option linter.unusedVariables false
set_option maxRecDepth 10000
set_option maxHeartbeats 4000000
namespace Go.Proofs
open Go.Bi
abbrev T.ch : TypeId := 33
theorem cells_ch : Try.prog.cellsOf T.ch = 9 := by kernel_rfl
abbrev Ch.ds (c : Ch) : List D := [eI c.k, .str c.nm, .str c.to, .str c.co.nm, eI c.co.k, .bool c.co.nl, eI c.df.k, eI c.df.n, .str c.df.s]
theorem wt_ch {ds : List D} (h : WT Try.prog T.ch ds) : ∃ c : Ch, ds = c.ds := by
  obtain ⟨hl, hf⟩ := h.st' Try.underlying33
  rw [cells_ch] at hl
  match ds, hl with
  | [d0, d1, d2, d3, d4, d5, d6, d7, d8], _ =>
    have h0 := hf _ (List.mem_cons_self ..)
    have h1 := hf _ (List.mem_cons_of_mem _ (List.mem_cons_self ..))
    have h2 := hf _ (List.mem_cons_of_mem _ (List.mem_cons_of_mem _ (List.mem_cons_self ..)))
    have h3 := hf _ (List.mem_cons_of_mem _ (List.mem_cons_of_mem _ (List.mem_cons_of_mem _ (List.mem_cons_self ..))))
    have h4 := hf _ (List.mem_cons_of_mem _ (List.mem_cons_of_mem _ (List.mem_cons_of_mem _ (List.mem_cons_of_mem _ (List.mem_cons_self ..)))))
    dsimp only at h0 h1 h2 h3 h4
    rw [cells_int] at h0
    rw [cells_str] at h1 h2
    rw [cells_co] at h3
    rw [cells_val] at h4
    obtain ⟨k, h0⟩ := wt_int h0
    obtain ⟨nm, h1⟩ := wt_str h1
    obtain ⟨to, h2⟩ := wt_str h2
    obtain ⟨co, h3⟩ := wt_co h3
    obtain ⟨df, h4⟩ := wt_val h4
    simp at h0 h1 h2 h3 h4
    obtain ⟨e3, e4, e5⟩ := h3
    obtain ⟨e6, e7, e8⟩ := h4
    exact ⟨⟨k, nm, to, co, df⟩, by rw [h0, h1, h2, e3, e4, e5, e6, e7, e8]⟩
theorem ch_cok {c : Ch} (hb : bulkL c.ds ≤ 1048576) : Cok c := by
  simp only [Ch.ds, bulkL, bulkD] at hb
  exact ⟨by omega, by omega, by omega, by omega⟩
end Go.Proofs
end
section
/- What the laws are handed: definitions with expressions in range, lists of changes. No condition. -/
set_option linter.unusedSimpArgs false
set_option linter.unusedVariables false
set_option maxRecDepth 10000
set_option maxHeartbeats 4000000
namespace Go.Proofs
open Go.Bi
abbrev TD.ds (x : TD) : List D := [.str x.t.nm, x.dc, x.dk, x.df, x.dx]
theorem wt_td {ds : List D} (h : WT Try.prog T.tb ds) : ∃ x : TD, ds = x.ds ∧ SlD x.dc (eCs x.t.cs) ∧ SlD x.dk (eIs x.t.ks) ∧ SlD x.df (eFs x.t.fs) ∧ SlD x.dx (xL x.t.xs) ∧ x.t.Rg := by
  obtain ⟨hl, hf⟩ := h.st' Try.underlying27
  rw [cells_tb] at hl
  match ds, hl with
  | [d0, d1, d2, d3, d4], _ =>
    have h0 := hf _ (List.mem_cons_self ..)
    have h1 := hf _ (List.mem_cons_of_mem _ (List.mem_cons_self ..))
    have h2 := hf _ (List.mem_cons_of_mem _ (List.mem_cons_of_mem _ (List.mem_cons_self ..)))
    have h3 := hf _ (List.mem_cons_of_mem _ (List.mem_cons_of_mem _ (List.mem_cons_of_mem _ (List.mem_cons_self ..))))
    have h4 := hf _ (List.mem_cons_of_mem _ (List.mem_cons_of_mem _ (List.mem_cons_of_mem _ (List.mem_cons_of_mem _ (List.mem_cons_self ..)))))
    dsimp only at h0 h1 h2 h3 h4
    rw [cells_str] at h0
    rw [cells_cos] at h1
    rw [cells_ints] at h2
    rw [cells_fos] at h3
    rw [cells_exs] at h4
    obtain ⟨s, hs⟩ := wt_str h0
    obtain ⟨dc, l, h1, hc⟩ := wt_cos h1
    obtain ⟨dk, ks, h2, hk⟩ := wt_ints h2
    obtain ⟨df, fs, h3, hf⟩ := wt_fos h3
    obtain ⟨nl, xs, h4, hx⟩ := wt_exsr h4
    simp at hs h1 h2 h3 h4
    exact ⟨⟨⟨s, l, ks, fs, xs⟩, dc, dk, df, ng nl (xL xs)⟩, by rw [hs, h1, h2, h3, h4], hc, hk, hf, sld_ng, hx⟩
theorem td_ok {x : TD} (hb : bulkL x.ds ≤ 1048576) (h : SlD x.dc (eCs x.t.cs) ∧ SlD x.dk (eIs x.t.ks) ∧ SlD x.df (eFs x.t.fs) ∧ SlD x.dx (xL x.t.xs) ∧ x.t.Rg) : x.ok :=
  ⟨tb_tok hb h.1 h.2.1 h.2.2.1 h.2.2.2.1, h.2.2.2.2⟩
abbrev T.chs : TypeId := 43
theorem wt_chs {ds : List D} (h : WT Try.prog T.chs ds) : ∃ d l, ds = [d] ∧ SlD d (eChs l) := by
  obtain ⟨d, es, h1, h2, h4, h3⟩ := h.sl' Try.underlying43
  have : ∃ l, es = eChs l := by
    clear h1 h2 h4
    induction es with
    | nil => exact ⟨[], rfl⟩
    | cons x es ih =>
      obtain ⟨n, hn⟩ := wt_ch (h3 x (by simp))
      obtain ⟨ks, hk⟩ := ih fun y hy => h3 y (by simp [hy])
      exact ⟨n :: ks, by rw [hn, hk]; rfl⟩
  obtain ⟨ks, rfl⟩ := this
  exact ⟨d, ks, h1, h2⟩
theorem av_chs (d : D) : avOf Try.prog T.chs [d] = .d d := by unfold avOf; rw [Try.underlying43]
theorem chs_bulk {d : D} {l : List Ch} (h : SlD d (eChs l)) (hb : bulkL [d] ≤ 1048576) : l.length ≤ 1048576 ∧ ∀ c ∈ l, Cok c := by
  have h1 := sld_bulk h
  have h2 : (eChs l).length ≤ bulkLL (eChs l) := bulkLL_len fun x hx => by
    obtain ⟨k, _, rfl⟩ := List.mem_map.1 hx
    simp only [chds, bulkL, bulkD]; omega
  rw [eChs_len] at h2
  refine ⟨by omega, fun v hv => ?_⟩
  have h3 : bulkL (chds v) ≤ bulkLL (eChs l) := bulkLL_mem (List.mem_map.2 ⟨v, hv, rfl⟩)
  exact ch_cok (c := v) (by show bulkL (chds v) ≤ _; omega)
end Go.Proofs
end
