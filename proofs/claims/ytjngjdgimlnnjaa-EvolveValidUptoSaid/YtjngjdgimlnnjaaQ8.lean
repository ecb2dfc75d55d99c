/- Texts of this claim, joined. No condition. -/
import Derived.Test.YtjngjdgimlnnjaaQ7
set_option linter.unusedSimpArgs false
set_option linter.unusedVariables false
set_option maxRecDepth 10000
set_option maxHeartbeats 4000000
section
namespace Go.Proofs
open Go.Bi
theorem getD_at {t : Tb} {i : Nat} {co : Co} (h : t.cs[i]? = some co) : t.cs.getD i ⟨[], 0, false⟩ = co := by
 rw [List.getD_eq_getElem?_getD, h]; rfl
theorem evoT_tok {t : Tb} {dc dk df dx : D} (h : Tok t dc dk df dx) {c : Ch} (hc : Cok c) (hv : Vd t) (b : Bool) (hb : b = true → t.xs = []) :
  Tok (evoT t c) (.sl (eCs (evoT t c).cs)) (slD (isN dk) (eIs (evoT t c).ks)) (dF (evoT t c).fs) (slD b (xL (evoT t c).xs)) := by
 have hF : ∀ l : List Fo, SlD (dF l) (eFs l) := fun l => sld_slD fun e => by
  cases l with
  | nil => rfl
  | cons a r => cases e
 have hK : isN dk = true → t.ks = [] := fun e => by
  have := isN_nil h.dk e
  cases hks : t.ks with
  | nil => rfl
  | cons a l => rw [hks] at this; cases this
 have hl := hv.l2
 have hkd : ∀ i, (t.cs.getD i ⟨[], 0, false⟩).nm.length ≤ 1048576 := fun i => by
  rw [List.getD_eq_getElem?_getD]
  cases hh : t.cs[i]? with
  | none => simp
  | some x => exact h.hls x (List.mem_of_getElem? hh)
 have hset : ∀ i (n : Co), n.nm.length ≤ 1048576 → ∀ x ∈ t.cs.set i n, x.nm.length ≤ 1048576 := fun i n hn x hx => by
  rcases List.mem_or_eq_of_mem_set hx with hx | rfl
  ·exact h.hls x hx
  ·exact hn
 unfold evoT
 split
 ·refine ⟨h.hn, by rw [List.length_append]; simp; omega, fun x hx => ?_, h.hk, h.hfl, h.hfc, by rw [List.length_map]; exact h.hxs, fun e he => ?_, sld_sl, sld_slD fun e => by rw [hK e]; rfl, hF _, sld_slD fun e => by rw [hb e]; rfl⟩
  ·rcases List.mem_append.1 hx with hx | hx
   ·exact h.hls x hx
   ·cases List.mem_singleton.1 hx; exact hc.cn
  ·obtain ⟨a, ha, rfl⟩ := List.mem_map.1 he
   exact Nat.le_trans (cp_bk a) (h.hxb a ha)
 ·split
  ·refine ⟨h.hn, Nat.le_trans (List.length_eraseIdx_le ..) (by omega), fun x hx => h.hls x (List.mem_of_mem_eraseIdx hx), by rw [List.length_map]; exact h.hk, by rw [List.length_map]; exact h.hfl, fun f hf => ?_, by rw [List.length_map]; exact h.hxs, fun e he => ?_, sld_sl, sld_slD fun e => by rw [hK e]; rfl, hF _, sld_slD fun e => by rw [hb e]; rfl⟩
   ·obtain ⟨g, hg, rfl⟩ := List.mem_map.1 hf
    exact ⟨by unfold blF; rw [List.length_map]; exact (h.hfc g hg).1, (h.hfc g hg).2⟩
   ·obtain ⟨a, ha, rfl⟩ := List.mem_map.1 he
    exact Nat.le_trans (dn_bk _ a) (h.hxb a ha)
  ·have hx1 : ∀ e ∈ t.xs.map cpX, e.bk ≤ 1048576 := fun e he => by
    obtain ⟨a, ha, rfl⟩ := List.mem_map.1 he
    exact Nat.le_trans (cp_bk a) (h.hxb a ha)
   split
   ·exact ⟨h.hn, by rw [List.length_set]; omega, hset _ _ hc.to, h.hk, h.hfl, h.hfc, by rw [List.length_map]; exact h.hxs, hx1, sld_sl, sld_slD fun e => by rw [hK e]; rfl, hF _, sld_slD fun e => by rw [hb e]; rfl⟩
   ·exact ⟨h.hn, by rw [List.length_set]; omega, hset _ _ (hkd _), h.hk, h.hfl, h.hfc, by rw [List.length_map]; exact h.hxs, hx1, sld_sl, sld_slD fun e => by rw [hK e]; rfl, hF _, sld_slD fun e => by rw [hb e]; rfl⟩
theorem xs_shf {t : Tb} (hr : t.Rg) : t.xs.map (shf 0) = t.xs.map cpX := map_same fun a ha => shf0_cp a (hr a ha)
theorem list4 {α : Type} {l : List α} (h : l.length ≤ 4) : l = [] ∨ (∃ a, l = [a]) ∨ (∃ a b, l = [a, b]) ∨ (∃ a b c, l = [a, b, c]) ∨ ∃ a b c d, l = [a, b, c, d] := by
 match l, h with
 | [], _ => exact .inl rfl
 | [a], _ => exact .inr (.inl ⟨a, rfl⟩)
 | [a, b], _ => exact .inr (.inr (.inl ⟨a, b, rfl⟩))
 | [a, b, c], _ => exact .inr (.inr (.inr (.inl ⟨a, b, c, rfl⟩)))
 | [a, b, c, d], _ => exact .inr (.inr (.inr (.inr ⟨a, b, c, d, rfl⟩)))
 | _ :: _ :: _ :: _ :: _ :: _, h => simp at h
theorem dc_sl {t : Tb} {dc dk df dx : D} (h : Tok t dc dk df dx) (hv : Vd t) : dc = .sl (eCs t.cs) := by
 rcases h.dc with ⟨_, h2⟩ | h2
 ·have := hv.l1
  cases hcs : t.cs with
  | nil => rw [hcs] at this; simp at this
  | cons a l => rw [hcs] at h2; cases h2
 ·exact h2
end Go.Proofs
end
section
namespace Go.Proofs
open Go.Bi
theorem nodup_set {α : Type} {x : α} : ∀ {l : List α} {i : Nat}, l.Nodup → ¬ x ∈ l → (l.set i x).Nodup
 | [], _, _, _ => by simp
 | a :: l, 0, h, hx => by
  rw [List.nodup_cons] at h
  rw [List.set_cons_zero, List.nodup_cons]
  exact ⟨fun hm => hx (by simp [hm]), h.2⟩
 | a :: l, i + 1, h, hx => by
  rw [List.nodup_cons] at h
  rw [List.set_cons_succ, List.nodup_cons]
  refine ⟨fun hm => ?_, nodup_set h.2 fun hm => hx (by simp [hm])⟩
  rcases List.mem_or_eq_of_mem_set hm with hm | rfl
  ·exact h.1 hm
  ·exact hx (by simp)
theorem nodup_map_on {α β : Type} {f : α → β} : ∀ {l : List α}, (∀ a ∈ l, ∀ b ∈ l, f a = f b → a = b) → l.Nodup → (l.map f).Nodup
 | [], _, _ => by simp
 | a :: l, hf, h => by
  rw [List.nodup_cons] at h
  rw [List.map_cons, List.nodup_cons]
  refine ⟨fun hm => ?_, nodup_map_on (fun x hx y hy => hf x (by simp [hx]) y (by simp [hy])) h.2⟩
  obtain ⟨b, hb, e⟩ := List.mem_map.1 hm
  have := hf b (by simp [hb]) a (by simp) e
  subst this
  exact h.1 hb
theorem pairwise_map_on {f : Int → Int} : ∀ {l : List Int}, (∀ a ∈ l, ∀ b ∈ l, a < b → f a < f b) → l.Pairwise (· < ·) → (l.map f).Pairwise (· < ·)
 | [], _, _ => by simp
 | a :: l, hf, h => by
  rw [List.pairwise_cons] at h
  rw [List.map_cons, List.pairwise_cons]
  refine ⟨fun b hb => ?_, pairwise_map_on (fun x hx y hy => hf x (by simp [hx]) y (by simp [hy])) h.2⟩
  obtain ⟨y, hy, rfl⟩ := List.mem_map.1 hb
  exact hf a (by simp) y (by simp [hy]) (h.1 y hy)
theorem belowI_lt {i : Nat} {a b : Int} (ha : a ≠ i) (hb : b ≠ i) (h : a < b) : belowI a i < belowI b i := by unfold belowI; split <;> split <;> omega
theorem belowI_inj {i : Nat} {a b : Int} (ha : a ≠ i) (hb : b ≠ i) (h : belowI a i = belowI b i) : a = b := by unfold belowI at h; split at h <;> split at h <;> omega
theorem belowI_in {i n : Nat} {a : Int} (hi : i < n) (ha : a ≠ i) (h0 : 0 ≤ a) (h1 : a < n) : 0 ≤ belowI a i ∧ belowI a i < ((n - 1 : Nat) : Int) := by unfold belowI; split <;> omega
theorem co_below (l : List Co) (i : Nat) {n : Int} (h0 : 0 ≤ n) (hne : n ≠ i) : (l.eraseIdx i).getD (belowI n i).toNat ⟨[], 0, false⟩ = l.getD n.toNat ⟨[], 0, false⟩ := by
 rw [List.getD_eq_getElem?_getD, List.getD_eq_getElem?_getD, List.getElem?_eraseIdx]
 unfold belowI
 by_cases h : (i : Int) < n
 ·rw [if_pos h, if_neg (by omega)]
  congr 2
  omega
 ·rw [if_neg h, if_pos (by omega)]
theorem find_none {t : Tb} (h : tabE t = 0) {nm : List UInt8} (hf : findC nm t.cs < 0) : ¬ nm ∈ t.cs.map Co.nm := by
 intro hm
 obtain ⟨c, hc, rfl⟩ := List.mem_map.1 hm
 obtain ⟨i, hi⟩ := List.mem_iff_getElem?.1 hc
 rw [findC_at (tabE_ok h).2.1 hi] at hf
 omega
theorem evo_vd {t : Tb} {c : Ch} (h : evoE t c = 0) : Vd (evoT t c) := by
 obtain ⟨q1, q2, q3, q4, q5⟩ := evo_inv h
 have hv := tab_vd.1 q1
 have hcp : ∀ ks, (∀ x ∈ t.xs, chk ks x = chk (kd t.cs) x) → ∀ x ∈ t.xs.map cpX, dep x ≤ 24 ∧ (chk ks x).2 = 0 ∧ ((chk ks x).1 = 3 ∨ (chk ks x).1 = 0) := fun ks hk x hx => by
  obtain ⟨a, ha, rfl⟩ := List.mem_map.1 hx
  rw [cp_dep, cp_chk, hk a ha]
  exact hv.xs a ha
 by_cases k1 : c.k = 1
 ·obtain ⟨a1, a2, a3, a4, _⟩ := add_inv (q4 k1)
  have e : evoT t c = ⟨t.nm, t.cs ++ [c.co], t.ks, t.fs, t.xs.map cpX⟩ := by unfold evoT; rw [if_pos k1]
  rw [e]
  refine ⟨hv.nm, by rw [List.length_append]; simp, by rw [List.length_append]; simp; omega, fun x hx => ?_, ?_, hv.k0, fun k hk => ?_, hv.ka, hv.fl, fun f hf => ?_, by rw [List.length_map]; exact hv.xl, ?_⟩
  ·rcases List.mem_append.1 hx with hx | hx
   ·exact hv.co x hx
   ·cases List.mem_singleton.1 hx; exact ⟨a2, a3⟩
  ·rw [List.map_append, List.map_singleton, List.nodup_append]
   refine ⟨hv.nd, by simp, fun a ha b hb => ?_⟩
   cases List.mem_singleton.1 hb
   intro e
   subst e
   exact find_none q1 a4 ha
  ·obtain ⟨b1, b2, b3⟩ := hv.ks k hk
   refine ⟨b1, by rw [List.length_append]; simp; omega, ?_⟩
   rw [List.getD_eq_getElem?_getD, List.getElem?_append_left (by omega), ← List.getD_eq_getElem?_getD]
   exact b3
  ·obtain ⟨b1, b2, b3, b4⟩ := hv.fs f hf
   exact ⟨b1, b2, fun k hk => by have := b3 k hk; rw [List.length_append]; simp; omega, b4⟩
  ·have ek : kd (t.cs ++ [c.co]) = kd t.cs ++ [c.co.k] := by simp [kd]
   dsimp only
   rw [ek]
   exact hcp _ fun x hx => chk_ext _ x (hv.xs x hx).2.1
 ·obtain ⟨i, co, hi, hco, hcn, hus, h4, h3⟩ := chg_inv (q5 k1)
  have hil := (List.getElem?_eq_some_iff.1 hco).1
  have hiN : (findC c.nm t.cs).toNat = i := by omega
  have hgd : t.cs.getD i ⟨[], 0, false⟩ = co := by rw [List.getD_eq_getElem?_getD, hco]; rfl
  by_cases k2 : c.k = 2
  ·have e : evoT t c = ⟨t.nm, t.cs.eraseIdx i, t.ks.map (fun x => belowI x i), t.fs.map (blF i), t.xs.map (dnX i)⟩ := by unfold evoT; rw [if_neg k1, if_pos k2, hiN]
   have hu := hus (by omega)
   unfold usedL at hu
   simp only [List.mem_append, not_or] at hu
   have u1 : ∀ k ∈ t.ks, k ≠ i := fun k hk e => hu.1.1 (e ▸ hk)
   have u2 : ∀ f ∈ t.fs, ∀ k ∈ f.cs, k ≠ i := fun f hf k hk e => hu.1.2 (List.mem_flatMap.2 ⟨f, hf, e ▸ hk⟩)
   have u3 : ∀ x ∈ t.xs, ¬ (i : Int) ∈ rawC x := fun x hx hm => hu.2 (List.mem_flatMap.2 ⟨x, hx, (cols_mem x i).2 hm⟩)
   have hlen : (t.cs.eraseIdx i).length = t.cs.length - 1 := by rw [List.length_eraseIdx, if_pos hil]
   have hk2 : ∀ k ∈ t.ks, 0 ≤ belowI k i ∧ belowI k i < (t.cs.eraseIdx i).length := fun k hk => by
    obtain ⟨b1, b2, b3⟩ := hv.ks k hk
    rw [hlen]
    exact belowI_in hil (u1 k hk) b1 b2
   have hl1 := hv.l2
   rw [e]
   refine ⟨hv.nm, ?_, by rw [hlen]; omega, fun x hx => hv.co x (List.mem_of_mem_eraseIdx hx), ?_, fun e => hv.k0 (List.map_eq_nil_iff.1 e), fun k hk => ?_, ?_, by rw [List.length_map]; exact hv.fl, fun f hf => ?_, by rw [List.length_map]; exact hv.xl, fun x hx => ?_⟩
   ·obtain ⟨k, hk⟩ := List.exists_mem_of_ne_nil _ hv.k0
    have := hk2 k hk
    dsimp only
    omega
   ·dsimp only
    rw [map_erase]
    exact hv.nd.sublist (List.eraseIdx_sublist ..)
   ·obtain ⟨a, ha, rfl⟩ := List.mem_map.1 hk
    obtain ⟨b1, b2, b3⟩ := hv.ks a ha
    refine ⟨(hk2 a ha).1, (hk2 a ha).2, ?_⟩
    dsimp only
    rw [co_below _ _ b1 (u1 a ha)]
    exact b3
   ·exact pairwise_map_on (fun a ha b hb hab => belowI_lt (u1 a ha) (u1 b hb) hab) hv.ka
   ·obtain ⟨g, hg, rfl⟩ := List.mem_map.1 hf
    obtain ⟨b1, b2, b3, b4⟩ := hv.fs g hg
    refine ⟨b1, fun e => b2 (List.map_eq_nil_iff.1 e), fun k hk => ?_, nodup_map_on (fun a ha b hb e => belowI_inj (u2 g hg a ha) (u2 g hg b hb) e) b4⟩
    obtain ⟨a, ha, rfl⟩ := List.mem_map.1 hk
    dsimp only
    rw [hlen]
    exact belowI_in hil (u2 g hg a ha) (b3 a ha).1 (b3 a ha).2
   ·obtain ⟨a, ha, rfl⟩ := List.mem_map.1 hx
    have ek : kd (t.cs.eraseIdx i) = (kd t.cs).eraseIdx i := map_erase _ _ _
    dsimp only
    rw [ek, dn_dep, chk_dn (by rw [kd_len]; exact hil) a (hv.xs a ha).2.1 (u3 a ha)]
    exact hv.xs a ha
  ·have hset : ∀ n : Co, n.nl = co.nl → (nameB n.nm = true ∧ 1 ≤ n.k ∧ n.k ≤ 3) → ((t.cs.set i n).map Co.nm).Nodup → (∀ x ∈ t.xs, chk (kd (t.cs.set i n)) x = chk (kd t.cs) x) → Vd ⟨t.nm, t.cs.set i n, t.ks, t.fs, t.xs.map cpX⟩ := by
    intro n hn1 hn2 hn3 hn4
    refine ⟨hv.nm, by rw [List.length_set]; exact hv.l1, by rw [List.length_set]; exact hv.l2, fun x hx => ?_, hn3, hv.k0, fun k hk => ?_, hv.ka, hv.fl, fun f hf => ?_, by rw [List.length_map]; exact hv.xl, hcp _ hn4⟩
    ·rcases List.mem_or_eq_of_mem_set hx with hx | rfl
     ·exact hv.co x hx
     ·exact hn2
    ·obtain ⟨b1, b2, b3⟩ := hv.ks k hk
     refine ⟨b1, by rw [List.length_set]; exact b2, ?_⟩
     by_cases hki : k.toNat = i
     ·dsimp only
      rw [List.getD_eq_getElem?_getD, hki, List.getElem?_set_self hil, Option.getD_some, hn1]
      rw [hki, hgd] at b3
      exact b3
     ·dsimp only
      rw [List.getD_eq_getElem?_getD, List.getElem?_set_ne (fun e => hki e.symm), ← List.getD_eq_getElem?_getD]
      exact b3
    ·obtain ⟨b1, b2, b3, b4⟩ := hv.fs f hf
     exact ⟨b1, b2, fun k hk => by have := b3 k hk; rw [List.length_set]; exact this, b4⟩
   have hcm := hv.co co (List.mem_of_getElem? hco)
   by_cases k3 : c.k = 3
   ·have e : evoT t c = ⟨t.nm, t.cs.set i ⟨c.to, co.k, co.nl⟩, t.ks, t.fs, t.xs.map cpX⟩ := by unfold evoT; rw [if_neg k1, if_neg k2, if_pos k3, hiN, hgd]
    rw [e]
    refine hset ⟨c.to, co.k, co.nl⟩ rfl ⟨(h3 k3).1, hcm.2⟩ ?_ fun x hx => ?_
    ·rw [List.map_set]
     exact nodup_set hv.nd (find_none q1 (h3 k3).2)
    ·congr 1
     unfold kd
     rw [List.map_set]
     refine List.ext_getElem? fun j => ?_
     by_cases hj : i = j
     ·subst hj
      rw [List.getElem?_set_self (by rw [List.length_map]; exact hil), List.getElem?_map, hco]; rfl
     ·rw [List.getElem?_set_ne hj]
   ·have k4 : c.k = 4 := by omega
    have e : evoT t c = ⟨t.nm, t.cs.set i ⟨co.nm, 2, co.nl⟩, t.ks, t.fs, t.xs.map cpX⟩ := by unfold evoT; rw [if_neg k1, if_neg k2, if_neg k3, hiN, hgd]
    have hu := hus (by omega)
    unfold usedL at hu
    simp only [List.mem_append, not_or] at hu
    have u3 : ∀ x ∈ t.xs, ¬ (i : Int) ∈ rawC x := fun x hx hm => hu.2 (List.mem_flatMap.2 ⟨x, hx, (cols_mem x i).2 hm⟩)
    rw [e]
    refine hset ⟨co.nm, 2, co.nl⟩ rfl ⟨hcm.1, (by decide : (1 : Int) ≤ 2), (by decide : (2 : Int) ≤ 3)⟩ ?_ fun x hx => ?_
    ·have : (t.cs.set i ⟨co.nm, 2, co.nl⟩).map Co.nm = t.cs.map Co.nm := by
      rw [List.map_set]
      refine List.ext_getElem? fun j => ?_
      by_cases hj : i = j
      ·subst hj
       rw [List.getElem?_set_self (by rw [List.length_map]; exact hil), List.getElem?_map, hco]; rfl
      ·rw [List.getElem?_set_ne hj]
     rw [this]
     exact hv.nd
    ·have ek : kd (t.cs.set i ⟨co.nm, 2, co.nl⟩) = (kd t.cs).set i 2 := by unfold kd; rw [List.map_set]
     rw [ek]
     exact chk_set 2 x (u3 x hx)
end Go.Proofs
end
section
namespace Go.Proofs
open Go.Bi
theorem C.r13_Same (t u : Tb) (dc dk df dx dc' dk' df' dx' : D) (h : Tok t dc dk df dx) (h' : Tok u dc' dk' df' dx') (e : nf t = nf u) : Pure Try.prog N.bt_ref13_Same [eT t.nm dc dk df dx, eT u.nm dc' dk' df' dx'] (.d (.bool true)) := by
 obtain ⟨nm, cs, ks, fs, xs⟩ := t
 obtain ⟨nm', cs', ks', fs', xs'⟩ := u
 unfold nf at e
 injection e with e1 e2 e3 e4 e5
 dsimp only at e1 e2 e3 e4 e5
 subst e1; subst e2; subst e3
 have hI := C.r13_Ints_same ks h.hk dk dk' h.dk h'.dk
 have hfl : fs.length = fs'.length := by rw [← List.length_map (f := nfF), e4, List.length_map]
 have hxl : xs.length = xs'.length := by rw [← List.length_map (f := cpX), e5, List.length_map]
 have hX := C.r11_List xs xs' hxl h.hxs (fun i x y hx hy => by
  have e6 : smE x y = true := by
   refine cp_sm x y ?_
   have a1 : (xs.map cpX)[i]? = some (cpX x) := by rw [List.getElem?_map, hx]; rfl
   have a2 : (xs'.map cpX)[i]? = some (cpX y) := by rw [List.getElem?_map, hy]; rfl
   rw [e5, a2] at a1
   exact (Option.some.inj a1).symm
  have b1 : x.bk ≤ 2097152 := Nat.le_trans (h.hxb x (List.mem_of_getElem? hx)) (by decide)
  have b2 : y.bk ≤ 2097152 := Nat.le_trans (h'.hxb y (List.mem_of_getElem? hy)) (by decide)
  have := C.r11_SameL x (lb_bk x b1) y (lb_bk y b2)
  rw [e6] at this
  exact this) dx dx' h.dx h'.dx
 have hdc := h.dc
 have hdc' := h'.dc
 have hdf := h.df
 have hdf' := h'.df
 have hl := h.hl
 have hfl0 := h.hfl
 have hfc := h.hfc
 have hcl := eCs_len cs
 have hcm := eCs_mem cs
 have hgc := fun i c => @eCs_get cs i c
 have hf1 := eFs_len fs
 have hf2 := eFs_len fs'
 have hf3 := eFs_mem fs
 have hf4 := eFs_mem fs'
 have hgf := fun i c => @eFs_get fs i c
 have hgf' := fun i c => @eFs_get fs' i c
 dsimp only at hdc hdc' hdf hdf' hl hfl0 hfc hI
 obtain ⟨Cs, hC⟩ : ∃ x, x = eCs cs := ⟨_, rfl⟩
 obtain ⟨Fs, hFs⟩ : ∃ x, x = eFs fs := ⟨_, rfl⟩
 obtain ⟨Fs', hFs'⟩ : ∃ x, x = eFs fs' := ⟨_, rfl⟩
 rw [← hC] at hdc hdc' hcl hcm hgc
 rw [← hFs] at hdf hf1 hf3 hgf
 rw [← hFs'] at hdf' hf2 hf4 hgf'
 have r0 : nm = nm := rfl
 clear h h'
 refine F.bt_ref13_Same.go mixed rfl ?_
 repeat' first|refine st ?_|((with_reducible apply go_i);conv=>whnf)|((with_reducible first|apply k_pn|apply k_pc);(·first|exact hI|exact hX))|with_reducible apply k_d<;>intro _|with_reducible apply k_b<;>intro _
 refine x_loop1 mixed Lt.bt_ref13_Same_l0 Lk.bt_ref13_Same_l0 (fun (i : Nat) => [.d (eI i)]) (fun i => [.cells [.d (.str nm), .d dc, .d dk, .d df, .d dx], .cells [.d (.str nm), .d dc', .d dk', .d df', .d dx']]) (fun i => i ≤ cs.length) (fun i => cs.length - i) 0 rfl rfl rfl rfl (fun _ _ => ⟨rfl, rfl⟩) rfl (by omega) ?_
 repeat' first|refine st ?_|((with_reducible apply go_i);conv=>whnf)|with_reducible apply k_d<;>intro _|with_reducible apply k_b<;>intro _
 intro i h4
 cases hx : cs[i]? with
 | some x =>
  have hlt := (List.getElem?_eq_some_iff.1 hx).1
  obtain ⟨n1, k1, l1⟩ := x
  have hg := hgc i _ hx
  have hg' : Cs[((i : Nat) : Int).toNat]? = _ := hgc i _ hx
  have r1 : n1 = n1 := rfl
  have r2 : k1 = k1 := rfl
  have r3 : l1 = l1 := rfl
  repeat' first|refine st ?_|((with_reducible apply go_i);conv=>whnf)|with_reducible apply k_d<;>intro _|with_reducible apply k_b<;>intro _
  all_goals first | exact ⟨i + 1, rfl, rfl, rfl, by omega, by omega⟩ | (exfalso; simp_all; done)
 | none =>
  have hge := List.getElem?_eq_none_iff.1 hx
  repeat' first|refine st ?_|((with_reducible apply go_i);conv=>whnf)|with_reducible apply k_d<;>intro _|with_reducible apply k_b<;>intro _
  refine x_loop1 mixed Lt.bt_ref13_Same_l1 Lk.bt_ref13_Same_l1 (fun (i : Nat) => [.d (eI i)]) (fun i => [.cells [.d (.str nm), .d dc, .d dk, .d df, .d dx], .cells [.d (.str nm), .d dc', .d dk', .d df', .d dx']]) (fun i => i ≤ fs.length) (fun i => fs.length - i) 0 rfl rfl rfl rfl (fun _ _ => ⟨rfl, rfl⟩) rfl (by omega) ?_
  repeat' first|refine st ?_|((with_reducible apply go_i);conv=>whnf)|with_reducible apply k_d<;>intro _|with_reducible apply k_b<;>intro _
  intro j h5
  cases hy : fs[j]? with
  | some f =>
   have hlt := (List.getElem?_eq_some_iff.1 hy).1
   obtain ⟨g, hgg⟩ : ∃ g, fs'[j]? = some g := ⟨_, List.getElem?_eq_getElem (by omega)⟩
   have e6 : nfF f = nfF g := by
    have a1 : (fs.map nfF)[j]? = some (nfF f) := by rw [List.getElem?_map, hy]; rfl
    have a2 : (fs'.map nfF)[j]? = some (nfF g) := by rw [List.getElem?_map, hgg]; rfl
    rw [e4, a2] at a1
    exact (Option.some.inj a1).symm
   have hfb := (hfc f (List.mem_of_getElem? hy)).1
   obtain ⟨f1, f2, f3⟩ := f
   obtain ⟨g1, g2, g3⟩ := g
   unfold nfF at e6
   injection e6 with _ e7 e8
   dsimp only at e7 e8
   subst e7; subst e8
   have hJ := C.r13_Ints_same f2 hfb (Fo.mk f1 f2 f3).d (Fo.mk g1 f2 f3).d (Fo.sld _) (Fo.sld _)
   have hg := hgf j _ hy
   have hg' : Fs'[((j : Nat) : Int).toNat]? = _ := hgf' j _ hgg
   have hg2 : Fs[((j : Nat) : Int).toNat]? = _ := hgf j _ hy
   unfold Fo.ds at hg hg' hg2
   obtain ⟨d1, hd1⟩ : ∃ d, d = (Fo.mk f1 f2 f3).d := ⟨_, rfl⟩
   obtain ⟨d2, hd2⟩ : ∃ d, d = (Fo.mk g1 f2 f3).d := ⟨_, rfl⟩
   rw [← hd1] at hJ hg hg2
   rw [← hd2] at hJ hg'
   have r1 : f3 = f3 := rfl
   have hlt' : (j : Int) < Fs'.length := by omega
   repeat' first|refine st ?_|((with_reducible apply go_i);conv=>whnf)|((with_reducible first|apply k_pn|apply k_pc);(·exact hJ))|with_reducible apply k_d<;>intro _|with_reducible apply k_b<;>intro _
   all_goals first | exact ⟨j + 1, rfl, rfl, rfl, by omega, by omega⟩ | (exfalso; simp_all; done)
  | none =>
   have hge2 := List.getElem?_eq_none_iff.1 hy
   repeat' first|refine st ?_|((with_reducible apply go_i);conv=>whnf)|with_reducible apply k_d<;>intro _|with_reducible apply k_b<;>intro _
   all_goals rfl
end Go.Proofs
end
section
namespace Go.Proofs
open Go.Bi
structure TD where
 t : Tb
 dc : D
 dk : D
 df : D
 dx : D
abbrev TD.av (x : TD) : AV := eT x.t.nm x.dc x.dk x.df x.dx
structure TD.ok (x : TD) : Prop where
 tok : Tok x.t x.dc x.dk x.df x.dx
 rg : x.t.Rg
def zTD : TD := ⟨⟨[], [], [], [], []⟩, .nil, .nil, .nil, .nil⟩
theorem zTD_ok : zTD.ok := ⟨⟨by decide, by decide, by decide, by decide, by decide, fun f hf => by simp [zTD] at hf, by decide, fun e he => by simp [zTD] at he, sld_nil, sld_nil, sld_nil, sld_nil⟩, fun e he => by simp [zTD] at he⟩
def slX (l : List Ex) : D := slD (xL l).isEmpty (xL l)
def TD.evo (x : TD) (c : Ch) : TD := ⟨evoT x.t c, .sl (eCs (evoT x.t c).cs), slD (isN x.dk) (eIs (evoT x.t c).ks), dF (evoT x.t c).fs, slX (evoT x.t c).xs⟩
theorem TD.evo_ok {x : TD} (h : x.ok) {c : Ch} (hc : Cok c) (hq : evoE x.t c = 0) : (x.evo c).ok := by
 have hx : slX (evoT x.t c).xs = slD (xL (x.t.xs.map cpX)).isEmpty (xL (evoT x.t c).xs) := by
  unfold slX
  congr 1
  unfold evoT
  split
  ·rfl
  ·split
   ·cases x.t.xs <;> rfl
   ·split <;> rfl
 have hb : (xL (x.t.xs.map cpX)).isEmpty = true → x.t.xs = [] := fun e => by
  cases hxs : x.t.xs with
  | nil => rfl
  | cons a l => rw [hxs] at e; cases e
 refine ⟨?_, evoT_rg h.rg c⟩
 unfold TD.evo
 dsimp only
 rw [hx]
 exact evoT_tok h.tok hc (tab_vd.1 (evo_inv hq).1) _ hb
theorem C.evo_Apply (x : TD) (h : x.ok) (c : Ch) (hc : Cok c) (hq : evoE x.t c = 0) : Pure Try.prog N.evolve_Apply [x.av, c.av] (.tup [(x.evo c).av, .d (eI 0)]) := by
 obtain ⟨t, dc, dk, df, dx⟩ := x
 obtain ⟨h, hr⟩ := h
 dsimp only at h hr hq
 obtain ⟨q1, q2, q3, q4, q5⟩ := evo_inv hq
 have hv := tab_vd.1 q1
 have hdc := dc_sl h hv
 have hx := xs_shf hr
 have hnm : (evoT t c).nm = t.nm := by unfold evoT; split; rfl; split; rfl; split <;> rfl
 have he : slX (evoT t c).xs = slD (xL (t.xs.map (shf 0))).isEmpty (xL (evoT t c).xs) := by
  rw [hx]
  unfold slX
  congr 1
  unfold evoT
  split
  ·rfl
  ·split
   ·cases t.xs <;> rfl
   ·split <;> rfl
 unfold TD.av TD.evo
 dsimp only
 rw [hnm, he]
 by_cases k1 : c.k = 1
 ·have e : evoT t c = ⟨t.nm, t.cs ++ [c.co], t.ks, t.fs, t.xs.map cpX⟩ := by unfold evoT; rw [if_pos k1]
  rw [e, ← hx]
  rcases list4 hv.fl with hf | ⟨a0, hf⟩ | ⟨a0, a1, hf⟩ | ⟨a0, a1, a2, hf⟩ | ⟨a0, a1, a2, a3, hf⟩
  ·exact C.app0_add t dc dk df dx h c hc hq hf k1
  ·exact C.app1_add t dc dk df dx h c hc hq a0 hf k1
  ·exact C.app2_add t dc dk df dx h c hc hq a0 a1 hf k1
  ·exact C.app3_add t dc dk df dx h c hc hq a0 a1 a2 hf k1
  ·exact C.app4_add t dc dk df dx h c hc hq a0 a1 a2 a3 hf k1
 ·obtain ⟨i, co, hi, hco, hcn, hus, _, _⟩ := chg_inv (q5 k1)
  have hil := (List.getElem?_eq_some_iff.1 hco).1
  have hiN : (findC c.nm t.cs).toNat = i := by omega
  by_cases k2 : c.k = 2
  ·have e : evoT t c = ⟨t.nm, t.cs.eraseIdx i, t.ks.map (fun x => belowI x i), t.fs.map (blF i), t.xs.map (dnX i)⟩ := by unfold evoT; rw [if_neg k1, if_pos k2, hiN]
   have hxd : (t.xs.map (shf 0)).map (subX (mvL t.cs.length i)) = t.xs.map (dnX i) := by
    rw [hx]
    exact map_comp fun a ha => sub_dn i (kd_len _) a (hv.xs a ha).2.1
   rw [e, ← hxd]
   have b1 : ∀ k ∈ t.ks, 0 ≤ k ∧ k ≤ 1048576 := fun k hk => by have := hv.ks k hk; have := hv.l2; omega
   have b2 : ∀ g ∈ t.fs, ∀ k ∈ g.cs, 0 ≤ k ∧ k ≤ 1048576 := fun g hg k hk => by have := (hv.fs g hg).2.2.1 k hk; have := hv.l2; omega
   have b3 : ∀ e ∈ t.xs.map (shf 0), e.bk ≤ 1048576 := fun e he => by
    rw [hx] at he
    obtain ⟨a, ha, rfl⟩ := List.mem_map.1 he
    exact Nat.le_trans (cp_bk a) (h.hxb a ha)
   rcases list4 hv.fl with hf | ⟨a0, hf⟩ | ⟨a0, a1, hf⟩ | ⟨a0, a1, a2, hf⟩ | ⟨a0, a1, a2, a3, hf⟩
   ·exact C.app0_drp t dc dk df dx h c hc hq hf k2 i hi hil hdc b1 b2 b3
   ·exact C.app1_drp t dc dk df dx h c hc hq a0 hf k2 i hi hil hdc b1 b2 b3
   ·exact C.app2_drp t dc dk df dx h c hc hq a0 a1 hf k2 i hi hil hdc b1 b2 b3
   ·exact C.app3_drp t dc dk df dx h c hc hq a0 a1 a2 hf k2 i hi hil hdc b1 b2 b3
   ·exact C.app4_drp t dc dk df dx h c hc hq a0 a1 a2 a3 hf k2 i hi hil hdc b1 b2 b3
  ·by_cases k3 : c.k = 3
   ·have e : evoT t c = ⟨t.nm, t.cs.set i ⟨c.to, co.k, co.nl⟩, t.ks, t.fs, t.xs.map cpX⟩ := by unfold evoT; rw [if_neg k1, if_neg k2, if_pos k3, hiN, getD_at hco]
    rw [e, ← hx]
    rcases list4 hv.fl with hf | ⟨a0, hf⟩ | ⟨a0, a1, hf⟩ | ⟨a0, a1, a2, hf⟩ | ⟨a0, a1, a2, a3, hf⟩
    ·exact C.app0_ren t dc dk df dx h c hc hq hf k3 i hi co hco hdc
    ·exact C.app1_ren t dc dk df dx h c hc hq a0 hf k3 i hi co hco hdc
    ·exact C.app2_ren t dc dk df dx h c hc hq a0 a1 hf k3 i hi co hco hdc
    ·exact C.app3_ren t dc dk df dx h c hc hq a0 a1 a2 hf k3 i hi co hco hdc
    ·exact C.app4_ren t dc dk df dx h c hc hq a0 a1 a2 a3 hf k3 i hi co hco hdc
   ·have k4 : c.k = 4 := by omega
    have e : evoT t c = ⟨t.nm, t.cs.set i ⟨co.nm, 2, co.nl⟩, t.ks, t.fs, t.xs.map cpX⟩ := by unfold evoT; rw [if_neg k1, if_neg k2, if_neg k3, hiN, getD_at hco]
    rw [e, ← hx]
    rcases list4 hv.fl with hf | ⟨a0, hf⟩ | ⟨a0, a1, hf⟩ | ⟨a0, a1, a2, hf⟩ | ⟨a0, a1, a2, a3, hf⟩
    ·exact C.app0_txt t dc dk df dx h c hc hq hf k4 i hi co hco hdc
    ·exact C.app1_txt t dc dk df dx h c hc hq a0 hf k4 i hi co hco hdc
    ·exact C.app2_txt t dc dk df dx h c hc hq a0 a1 hf k4 i hi co hco hdc
    ·exact C.app3_txt t dc dk df dx h c hc hq a0 a1 a2 hf k4 i hi co hco hdc
    ·exact C.app4_txt t dc dk df dx h c hc hq a0 a1 a2 a3 hf k4 i hi co hco hdc
theorem C.evo_ApplyErr (x : TD) (h : x.ok) (c : Ch) (hc : Cok c) (hq : evoE x.t c ≠ 0) : Pure Try.prog N.evolve_Apply [x.av, c.av] (.tup [zTD.av, .d (eI (evoE x.t c))]) :=
 C.apply_err x.t x.dc x.dk x.df x.dx h.tok c hc hq
def Fi.of (g : Fo) : Fi := ⟨g.d, eIs g.cs, isN g.d, g.tb⟩
end Go.Proofs
end
section
namespace Go.Proofs
open Go.Bi
def TD.run (x : TD) (i : Nat) : List Ch → TD × Nat × Int
 | [] => (x, i, 0)
 | c :: r => if evoE x.t c = 0 then TD.run (x.evo c) (i + 1) r else (zTD, i, evoE x.t c)
end Go.Proofs
end
section
namespace Go.Proofs
open Go.Bi
def smT : Tb := ⟨[116], [⟨[97], 1, false⟩, ⟨[98], 2, true⟩], [0], [], []⟩
def smU : Tb := ⟨[116], [⟨[98], 2, false⟩, ⟨[97], 1, false⟩, ⟨[99], 1, false⟩], [1], [], []⟩
def ch1 : Ch := ⟨1, [], [], ⟨[99], 1, true⟩, ⟨1, 7, []⟩⟩
def ch2 : Ch := ⟨2, [98], [], ⟨[], 0, false⟩, ⟨0, 0, []⟩⟩
def ch3 : Ch := ⟨2, [97], [], ⟨[], 0, false⟩, ⟨0, 0, []⟩⟩
def ch4 : Ch := ⟨2, [99], [], ⟨[], 0, false⟩, ⟨0, 0, []⟩⟩
theorem smT_ok : Tok smT (.sl (eCs smT.cs)) (.sl (eIs smT.ks)) .nil .nil :=
 ⟨by decide, by decide, by decide, by decide, by decide, fun f hf => by simp [smT] at hf, by decide, fun e he => by simp [smT] at he, sld_sl, sld_sl, sld_nil, sld_nil⟩
theorem smU_ok : Tok smU (.sl (eCs smU.cs)) (.sl (eIs smU.ks)) .nil .nil :=
 ⟨by decide, by decide, by decide, by decide, by decide, fun f hf => by simp [smU] at hf, by decide, fun e he => by simp [smU] at he, sld_sl, sld_sl, sld_nil, sld_nil⟩
theorem ch_ok : Cok ch1 ∧ Cok ch2 ∧ Cok ch3 ∧ Cok ch4 := ⟨⟨by decide, by decide, by decide, by decide⟩, ⟨by decide, by decide, by decide, by decide⟩, ⟨by decide, by decide, by decide, by decide⟩, ⟨by decide, by decide, by decide, by decide⟩⟩
theorem evo1 : evoE smT ch1 = 0 := by kernel_rfl
theorem evo2 : evoE smU ch2 = 0 := by kernel_rfl
theorem evo3 : evoE smT ch3 = 25 := by kernel_rfl
theorem evo4 : evoE smT ch4 = 11 := by kernel_rfl
theorem C.law14_sample : Pure Try.prog N.bt_law14_sample [] (eT smT.nm (.sl (eCs smT.cs)) (.sl (eIs smT.ks)) .nil .nil) := by
 refine F.bt_law14_sample.go mixed rfl ?_
 repeat' first|refine st ?_|((with_reducible apply go_i);conv=>whnf)|with_reducible apply k_d<;>intro _|with_reducible apply k_b<;>intro _
 all_goals rfl
theorem C.law14_awake : Pure Try.prog N.bt_law14_awake [] (.d (.bool true)) := by
 have hS := C.law14_sample
 have hI : Bi.Pure Try.prog N.bt_ref07_Int [.d (eI 7)] (eV ⟨1, 7, []⟩) := C.r7_Int 7
 have hA := C.evo_Apply ⟨smT, .sl (eCs smT.cs), .sl (eIs smT.ks), .nil, .nil⟩ ⟨smT_ok, fun e he => by simp [smT] at he⟩ ch1 ch_ok.1 evo1
 have hB := C.evo_Apply ⟨smU, .sl (eCs smU.cs), .sl (eIs smU.ks), .nil, .nil⟩ ⟨smU_ok, fun e he => by simp [smU] at he⟩ ch2 ch_ok.2.1 evo2
 rw [show TD.evo ⟨smT, .sl (eCs smT.cs), .sl (eIs smT.ks), .nil, .nil⟩ ch1 = ⟨⟨[116], smT.cs ++ [ch1.co], [0], [], []⟩, .sl (eCs (smT.cs ++ [ch1.co])), .sl [[eI 0]], .nil, .nil⟩ by kernel_rfl] at hA
 rw [show TD.evo ⟨smU, .sl (eCs smU.cs), .sl (eIs smU.ks), .nil, .nil⟩ ch2 = ⟨⟨[116], [⟨[97], 1, false⟩, ⟨[99], 1, false⟩], [0], [], []⟩, .sl (eCs [⟨[97], 1, false⟩, ⟨[99], 1, false⟩]), .sl [[eI 0]], .nil, .nil⟩ by kernel_rfl] at hB
 have hC := C.evolve_Check smT _ _ _ _ smT_ok ch3 ch_ok.2.2.1
 have hD := C.evolve_Check smT _ _ _ _ smT_ok ch4 ch_ok.2.2.2
 rw [evo3] at hC
 rw [evo4] at hD
 refine F.bt_law14_awake.go mixed rfl ?_
 repeat' first|refine st ?_|((with_reducible apply go_i);conv=>whnf)|((with_reducible first|apply k_pn|apply k_pc);(·first|exact hS|exact hI|exact hA|exact hB|exact hC|exact hD))|with_reducible apply k_d<;>intro _|with_reducible apply k_b<;>intro _
 all_goals rfl
end Go.Proofs
end
section
namespace Go.Proofs
open Go.Bi
theorem evoT_nm (t : Tb) (c : Ch) : (evoT t c).nm = t.nm := by unfold evoT; split; rfl; split; rfl; split <;> rfl
theorem evoT_kl (t : Tb) (c : Ch) : (evoT t c).ks.length = t.ks.length := by
 unfold evoT
 split
 ·rfl
 ·split
  ·exact List.length_map ..
  ·split <;> rfl
theorem L.EvolveValid (x : TD) (h : x.ok) (c : Ch) (hc : Cok c) : Pure Try.prog N.bt_law14_EvolveValid [x.av, c.av] (.d (.bool true)) := by
 have hE := C.evolve_Check x.t x.dc x.dk x.df x.dx h.tok c hc
 by_cases hq : evoE x.t c = 0
 ·have hA := C.evo_Apply x h c hc hq
  have hok := TD.evo_ok h hc hq
  have hK := C.r13_Check (x.evo c).t _ _ _ _ hok.tok
  rw [show tabE (x.evo c).t = 0 from tab_vd.2 (evo_vd hq)] at hK
  have hn : (x.evo c).t.nm = x.t.nm := evoT_nm _ _
  have hl : (eIs (x.evo c).t.ks).length = (eIs x.t.ks).length := by rw [eIs_len, eIs_len]; exact evoT_kl _ _
  have d1 := hok.tok.dk
  have d2 := h.tok.dk
  have l1 : (eIs x.t.ks).length ≤ 1048576 := by rw [eIs_len]; exact h.tok.hk
  rw [hq] at hE
  have hA : Bi.Pure Try.prog N.evolve_Apply [x.av, c.av] (.tup [eT (x.evo c).t.nm (x.evo c).dc (x.evo c).dk (x.evo c).df (x.evo c).dx, .d (eI 0)]) := hA
  rw [hn] at hA hK
  obtain ⟨y, hy⟩ : ∃ y, y = x.evo c := ⟨_, rfl⟩
  rw [← hy] at hA hK hl d1
  obtain ⟨K, hKK⟩ : ∃ y, y = eIs x.t.ks := ⟨_, rfl⟩
  rw [← hKK] at hl d2 l1
  obtain ⟨K', hKK'⟩ : ∃ z, z = eIs y.t.ks := ⟨_, rfl⟩
  rw [← hKK'] at hl d1
  obtain ⟨⟨nm, cs, ks, fs, xs⟩, dc, dk, df, dx⟩ := x
  obtain ⟨k, cnm, to, ⟨cn, ck, cl⟩, ⟨vk, vn, vs⟩⟩ := c
  have r1 : nm = nm := rfl
  have r2 : ((K'.length : Nat) : Int) = K.length := by omega
  dsimp only at hA hK hE d2
  refine F.bt_law14_EvolveValid.go mixed rfl ?_
  repeat' first|refine st ?_|((with_reducible apply go_i);conv=>whnf)|((with_reducible first|apply k_pn|apply k_pc);(·first|exact hA|exact hE|exact hK|exact C.law14_awake))|with_reducible apply k_d<;>intro _|with_reducible apply k_b<;>intro _
  all_goals first | rfl | (exfalso; simp_all; done)
 ·have hA := C.evo_ApplyErr x h c hc hq
  have hS := C.r13_Same zTD.t zTD.t _ _ _ _ _ _ _ _ zTD_ok.tok zTD_ok.tok rfl
  obtain ⟨e, he⟩ : ∃ e, e = evoE x.t c := ⟨_, rfl⟩
  rw [← he] at hA hq hE
  have hA : Bi.Pure Try.prog N.evolve_Apply [x.av, c.av] (.tup [eT [] .nil .nil .nil .nil, .d (eI e)]) := hA
  have hS : Bi.Pure Try.prog N.bt_ref13_Same [eT [] .nil .nil .nil .nil, eT [] .nil .nil .nil .nil] (.d (.bool true)) := hS
  obtain ⟨⟨nm, cs, ks, fs, xs⟩, dc, dk, df, dx⟩ := x
  obtain ⟨k, cnm, to, ⟨cn, ck, cl⟩, ⟨vk, vn, vs⟩⟩ := c
  have r1 : e = e := rfl
  refine F.bt_law14_EvolveValid.go mixed rfl ?_
  repeat' first|refine st ?_|((with_reducible apply go_i);conv=>whnf)|((with_reducible first|apply k_pn|apply k_pc);(·first|exact hA|exact hE|exact hS|exact C.law14_awake))|with_reducible apply k_d<;>intro _|with_reducible apply k_b<;>intro _
  all_goals first | rfl | (exfalso; simp_all; done)
end Go.Proofs
end
section
namespace Go.Proofs
open Go.Bi
abbrev T.co : TypeId := 29
abbrev T.cos : TypeId := 22
abbrev T.fo : TypeId := 62
abbrev T.fos : TypeId := 24
abbrev T.tb : TypeId := 27
theorem cells_co : Try.prog.cellsOf T.co = 3 := by kernel_rfl
theorem cells_cos : Try.prog.cellsOf T.cos = 1 := by kernel_rfl
theorem cells_ints : Try.prog.cellsOf T.ints = 1 := by kernel_rfl
theorem cells_fo : Try.prog.cellsOf T.fo = 2 := by kernel_rfl
theorem cells_fos : Try.prog.cellsOf T.fos = 1 := by kernel_rfl
theorem cells_tb : Try.prog.cellsOf T.tb = 5 := by kernel_rfl
theorem wt_co {ds : List D} (h : WT Try.prog T.co ds) : ∃ c : Co, ds = c.ds := by
 obtain ⟨hl, hf⟩ := h.st' Try.underlying29
 rw [cells_co] at hl
 match ds, hl with
 | [x, y, z], _ =>
  have h0 := hf _ (List.mem_cons_self ..)
  have h1 := hf _ (List.mem_cons_of_mem _ (List.mem_cons_self ..))
  have h2 := hf _ (List.mem_cons_of_mem _ (List.mem_cons_of_mem _ (List.mem_cons_self ..)))
  dsimp only at h0 h1 h2
  rw [cells_str] at h0
  rw [cells_int] at h1
  rw [cells_bool] at h2
  obtain ⟨a, ha⟩ := wt_str h0
  obtain ⟨b, hb⟩ := wt_int h1
  obtain ⟨s, hs⟩ := wt_bool h2
  simp at ha hb hs
  exact ⟨⟨a, b, s⟩, by rw [ha, hb, hs]⟩
theorem wt_cos {ds : List D} (h : WT Try.prog T.cos ds) : ∃ d l, ds = [d] ∧ SlD d (eCs l) := by
 obtain ⟨d, es, h1, h2, h4, h3⟩ := h.sl' Try.underlying22
 have : ∃ l, es = eCs l := by
  clear h1 h2 h4
  induction es with
  | nil => exact ⟨[], rfl⟩
  | cons x es ih =>
   obtain ⟨n, hn⟩ := wt_co (h3 x (by simp))
   obtain ⟨ks, hk⟩ := ih fun y hy => h3 y (by simp [hy])
   exact ⟨n :: ks, by rw [hn, hk]; rfl⟩
 obtain ⟨ks, rfl⟩ := this
 exact ⟨d, ks, h1, h2⟩
theorem wt_fo {ds : List D} (h : WT Try.prog T.fo ds) : ∃ f : Fo, ds = f.ds := by
 obtain ⟨hl, hf⟩ := h.st' Try.underlying62
 rw [cells_fo] at hl
 match ds, hl with
 | [x, y], _ =>
  have h0 := hf _ (List.mem_cons_self ..)
  have h1 := hf _ (List.mem_cons_of_mem _ (List.mem_cons_self ..))
  dsimp only at h0 h1
  rw [cells_ints] at h0
  rw [cells_str] at h1
  obtain ⟨d, ks, ha, hd⟩ := wt_ints h0
  obtain ⟨s, hs⟩ := wt_str h1
  simp at ha hs
  rcases hd with ⟨rfl, he⟩ | rfl
  ·have : ks = [] := by cases ks with
    | nil => rfl
    | cons k ks => cases he
   subst this
   exact ⟨⟨true, [], s⟩, by rw [ha, hs]; rfl⟩
  ·exact ⟨⟨false, ks, s⟩, by rw [ha, hs]; rfl⟩
theorem wt_fos {ds : List D} (h : WT Try.prog T.fos ds) : ∃ d l, ds = [d] ∧ SlD d (eFs l) := by
 obtain ⟨d, es, h1, h2, h4, h3⟩ := h.sl' Try.underlying24
 have : ∃ l, es = eFs l := by
  clear h1 h2 h4
  induction es with
  | nil => exact ⟨[], rfl⟩
  | cons x es ih =>
   obtain ⟨n, hn⟩ := wt_fo (h3 x (by simp))
   obtain ⟨ks, hk⟩ := ih fun y hy => h3 y (by simp [hy])
   exact ⟨n :: ks, by rw [hn, hk]; rfl⟩
 obtain ⟨ks, rfl⟩ := this
 exact ⟨d, ks, h1, h2⟩
theorem av_tb (n dc dk df dx : D) : avOf Try.prog T.tb [n, dc, dk, df, dx] = .agg [.d n, .d dc, .d dk, .d df, .d dx] := by unfold avOf; rw [Try.underlying27]; rfl
theorem cos_bulk {d : D} {l : List Co} (h : SlD d (eCs l)) : l.length ≤ bulkL [d] ∧ ∀ v ∈ l, v.nm.length ≤ bulkL [d] := by
 have h1 := sld_bulk h
 have h2 : (eCs l).length ≤ bulkLL (eCs l) := bulkLL_len fun x hx => by
  obtain ⟨k, _, rfl⟩ := List.mem_map.1 hx
  simp only [Co.ds, bulkL, bulkD]; omega
 rw [eCs_len] at h2
 refine ⟨by omega, fun v hv => ?_⟩
 have h3 : bulkL v.ds ≤ bulkLL (eCs l) := bulkLL_mem (List.mem_map.2 ⟨v, hv, rfl⟩)
 have h4 : v.nm.length ≤ bulkL v.ds := by simp only [Co.ds, bulkL, bulkD]; omega
 omega
theorem fos_bulk {d : D} {l : List Fo} (h : SlD d (eFs l)) : l.length ≤ bulkL [d] ∧ ∀ f ∈ l, f.cs.length ≤ bulkL [d] ∧ f.tb.length ≤ bulkL [d] := by
 have h1 := sld_bulk h
 have h2 : (eFs l).length ≤ bulkLL (eFs l) := bulkLL_len fun x hx => by
  obtain ⟨k, _, rfl⟩ := List.mem_map.1 hx
  simp only [Fo.ds, bulkL, bulkD]; omega
 rw [eFs_len] at h2
 refine ⟨by omega, fun v hv => ?_⟩
 have h3 : bulkL v.ds ≤ bulkLL (eFs l) := bulkLL_mem (List.mem_map.2 ⟨v, hv, rfl⟩)
 have h4 : v.tb.length ≤ bulkL v.ds := by simp only [Fo.ds, bulkL, bulkD]; omega
 have h5 : v.cs.length ≤ bulkL [v.d] := ints_bulk v.sld
 have h6 : bulkL [v.d] ≤ bulkL v.ds := by simp only [Fo.ds, bulkL]; omega
 omega
theorem exs_bulk {d : D} {l : List Ex} (h : SlD d (xL l)) : l.length ≤ bulkL [d] ∧ ∀ e ∈ l, e.bk ≤ bulkL [d] := by
 have h1 := sld_bulk h
 have h2 := xL_bulk_len l
 refine ⟨by omega, fun v hv => ?_⟩
 have h3 : bulkL v.ds ≤ bulkLL (xL l) := bulkLL_mem (List.mem_map.2 ⟨v, hv, rfl⟩)
 unfold Ex.bk
 omega
theorem tb_tok {t : Tb} {dc dk df dx : D} (hb : bulkL [.str t.nm, dc, dk, df, dx] ≤ 1048576) (hc : SlD dc (eCs t.cs)) (hk : SlD dk (eIs t.ks)) (hf : SlD df (eFs t.fs)) (hx : SlD dx (xL t.xs)) : Tok t dc dk df dx := by
 have h1 := cos_bulk hc
 have h2 := ints_bulk hk
 have h3 := fos_bulk hf
 have h4 := exs_bulk hx
 have e : bulkL [.str t.nm, dc, dk, df, dx] = t.nm.length + 1 + (bulkL [dc] + (bulkL [dk] + (bulkL [df] + bulkL [dx]))) := by simp only [bulkL, bulkD]; omega
 rw [e] at hb
 exact { hn := by omega, hl := by omega, hls := fun c hc => Nat.le_trans (h1.2 c hc) (by omega), hk := by omega, hfl := by omega, hfc := fun f hf => ⟨Nat.le_trans (h3.2 f hf).1 (by omega), Nat.le_trans (h3.2 f hf).2 (by omega)⟩, hxs := by omega, hxb := fun e he => Nat.le_trans (h4.2 e he) (by omega), dc := hc, dk := hk, df := hf, dx := hx }
end Go.Proofs
end
section
namespace Go.Proofs
open Go.Bi
abbrev T.ch : TypeId := 33
theorem cells_ch : Try.prog.cellsOf T.ch = 9 := by kernel_rfl
abbrev Ch.ds (c : Ch) : List D := [eI c.k, .str c.nm, .str c.to, .str c.co.nm, eI c.co.k, .bool c.co.nl, eI c.df.k, eI c.df.n, .str c.df.s]
theorem wt_ch {ds : List D} (h : WT Try.prog T.ch ds) : ∃ c : Ch, ds = c.ds := by
 obtain ⟨hl, hf⟩ := h.st' Try.underlying33
 rw [cells_ch] at hl
 match ds, hl with
 | [d0, d1, d2, d3, d4, d5, d6, d7, d8], _ =>
  have h0 := hf _ (List.mem_cons_self ..)
  have h1 := hf _ (List.mem_cons_of_mem _ (List.mem_cons_self ..))
  have h2 := hf _ (List.mem_cons_of_mem _ (List.mem_cons_of_mem _ (List.mem_cons_self ..)))
  have h3 := hf _ (List.mem_cons_of_mem _ (List.mem_cons_of_mem _ (List.mem_cons_of_mem _ (List.mem_cons_self ..))))
  have h4 := hf _ (List.mem_cons_of_mem _ (List.mem_cons_of_mem _ (List.mem_cons_of_mem _ (List.mem_cons_of_mem _ (List.mem_cons_self ..)))))
  dsimp only at h0 h1 h2 h3 h4
  rw [cells_int] at h0
  rw [cells_str] at h1 h2
  rw [cells_co] at h3
  rw [cells_val] at h4
  obtain ⟨k, h0⟩ := wt_int h0
  obtain ⟨nm, h1⟩ := wt_str h1
  obtain ⟨to, h2⟩ := wt_str h2
  obtain ⟨co, h3⟩ := wt_co h3
  obtain ⟨df, h4⟩ := wt_val h4
  simp at h0 h1 h2 h3 h4
  obtain ⟨e3, e4, e5⟩ := h3
  obtain ⟨e6, e7, e8⟩ := h4
  exact ⟨⟨k, nm, to, co, df⟩, by rw [h0, h1, h2, e3, e4, e5, e6, e7, e8]⟩
theorem av_ch (c : Ch) : avOf Try.prog T.ch c.ds = c.av := by unfold avOf; rw [Try.underlying33]; rfl
theorem ch_cok {c : Ch} (hb : bulkL c.ds ≤ 1048576) : Cok c := by
 simp only [Ch.ds, bulkL, bulkD] at hb
 exact ⟨by omega, by omega, by omega, by omega⟩
end Go.Proofs
end
section
namespace Go.Proofs
open Go.Bi
abbrev TD.ds (x : TD) : List D := [.str x.t.nm, x.dc, x.dk, x.df, x.dx]
theorem wt_td {ds : List D} (h : WT Try.prog T.tb ds) : ∃ x : TD, ds = x.ds ∧ SlD x.dc (eCs x.t.cs) ∧ SlD x.dk (eIs x.t.ks) ∧ SlD x.df (eFs x.t.fs) ∧ SlD x.dx (xL x.t.xs) ∧ x.t.Rg := by
 obtain ⟨hl, hf⟩ := h.st' Try.underlying27
 rw [cells_tb] at hl
 match ds, hl with
 | [d0, d1, d2, d3, d4], _ =>
  have h0 := hf _ (List.mem_cons_self ..)
  have h1 := hf _ (List.mem_cons_of_mem _ (List.mem_cons_self ..))
  have h2 := hf _ (List.mem_cons_of_mem _ (List.mem_cons_of_mem _ (List.mem_cons_self ..)))
  have h3 := hf _ (List.mem_cons_of_mem _ (List.mem_cons_of_mem _ (List.mem_cons_of_mem _ (List.mem_cons_self ..))))
  have h4 := hf _ (List.mem_cons_of_mem _ (List.mem_cons_of_mem _ (List.mem_cons_of_mem _ (List.mem_cons_of_mem _ (List.mem_cons_self ..)))))
  dsimp only at h0 h1 h2 h3 h4
  rw [cells_str] at h0
  rw [cells_cos] at h1
  rw [cells_ints] at h2
  rw [cells_fos] at h3
  rw [cells_exs] at h4
  obtain ⟨s, hs⟩ := wt_str h0
  obtain ⟨dc, l, h1, hc⟩ := wt_cos h1
  obtain ⟨dk, ks, h2, hk⟩ := wt_ints h2
  obtain ⟨df, fs, h3, hf⟩ := wt_fos h3
  obtain ⟨nl, xs, h4, hx⟩ := wt_exsr h4
  simp at hs h1 h2 h3 h4
  exact ⟨⟨⟨s, l, ks, fs, xs⟩, dc, dk, df, ng nl (xL xs)⟩, by rw [hs, h1, h2, h3, h4], hc, hk, hf, sld_ng, hx⟩
theorem td_ok {x : TD} (hb : bulkL x.ds ≤ 1048576) (h : SlD x.dc (eCs x.t.cs) ∧ SlD x.dk (eIs x.t.ks) ∧ SlD x.df (eFs x.t.fs) ∧ SlD x.dx (xL x.t.xs) ∧ x.t.Rg) : x.ok :=
 ⟨tb_tok hb h.1 h.2.1 h.2.2.1 h.2.2.2.1, h.2.2.2.2⟩
end Go.Proofs
end
