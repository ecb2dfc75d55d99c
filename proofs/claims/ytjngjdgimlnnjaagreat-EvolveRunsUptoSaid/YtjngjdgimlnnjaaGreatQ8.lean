/- Texts of this claim, joined. No condition. -/
import Derived.Test.YtjngjdgimlnnjaaGreatQ7
set_option linter.unusedSimpArgs false
set_option linter.unusedVariables false
set_option maxRecDepth 10000
set_option maxHeartbeats 4000000
section
namespace Go.Proofs
open Go.Bi
theorem C.r13_Same (t u : Tb) (dc dk df dx dc' dk' df' dx' : D) (h : Tok t dc dk df dx) (h' : Tok u dc' dk' df' dx') (e : nf t = nf u) : Pure Tryz.prog N.bt_ref13_Same [eT t.nm dc dk df dx, eT u.nm dc' dk' df' dx'] (.d (.bool true)) := by
 obtain ⟨nm, cs, ks, fs, xs⟩ := t
 obtain ⟨nm', cs', ks', fs', xs'⟩ := u
 unfold nf at e
 injection e with e1 e2 e3 e4 e5
 dsimp only at e1 e2 e3 e4 e5
 subst e1; subst e2; subst e3
 have hI := C.r13_Ints_same ks h.hk dk dk' h.dk h'.dk
 have hfl : fs.length = fs'.length := by rw [← List.length_map (f := nfF), e4, List.length_map]
 have hxl : xs.length = xs'.length := by rw [← List.length_map (f := cpX), e5, List.length_map]
 have hX := C.r11_List xs xs' hxl h.hxs (fun i x y hx hy => by
  have e6 : smE x y = true := by
   refine cp_sm x y ?_
   have a1 : (xs.map cpX)[i]? = some (cpX x) := by rw [List.getElem?_map, hx]; rfl
   have a2 : (xs'.map cpX)[i]? = some (cpX y) := by rw [List.getElem?_map, hy]; rfl
   rw [e5, a2] at a1
   exact (Option.some.inj a1).symm
  have b1 : x.bk ≤ 2097152 := Nat.le_trans (h.hxb x (List.mem_of_getElem? hx)) (by decide)
  have b2 : y.bk ≤ 2097152 := Nat.le_trans (h'.hxb y (List.mem_of_getElem? hy)) (by decide)
  have := C.r11_SameL x (lb_bk x b1) y (lb_bk y b2)
  rw [e6] at this
  exact this) dx dx' h.dx h'.dx
 have hdc := h.dc
 have hdc' := h'.dc
 have hdf := h.df
 have hdf' := h'.df
 have hl := h.hl
 have hfl0 := h.hfl
 have hfc := h.hfc
 have hcl := eCs_len cs
 have hcm := eCs_mem cs
 have hgc := fun i c => @eCs_get cs i c
 have hf1 := eFs_len fs
 have hf2 := eFs_len fs'
 have hf3 := eFs_mem fs
 have hf4 := eFs_mem fs'
 have hgf := fun i c => @eFs_get fs i c
 have hgf' := fun i c => @eFs_get fs' i c
 dsimp only at hdc hdc' hdf hdf' hl hfl0 hfc hI
 obtain ⟨Cs, hC⟩ : ∃ x, x = eCs cs := ⟨_, rfl⟩
 obtain ⟨Fs, hFs⟩ : ∃ x, x = eFs fs := ⟨_, rfl⟩
 obtain ⟨Fs', hFs'⟩ : ∃ x, x = eFs fs' := ⟨_, rfl⟩
 rw [← hC] at hdc hdc' hcl hcm hgc
 rw [← hFs] at hdf hf1 hf3 hgf
 rw [← hFs'] at hdf' hf2 hf4 hgf'
 have r0 : nm = nm := rfl
 clear h h'
 refine F.bt_ref13_Same.go mixed rfl ?_
 repeat' first|refine st ?_|((with_reducible apply go_i);conv=>whnf)|((with_reducible first|apply k_pn|apply k_pc);(·first|exact hI|exact hX))|(with_reducible first|apply k_d|apply k_b)<;>intro _
 refine x_loop1 mixed Lt.bt_ref13_Same_l0 Lk.bt_ref13_Same_l0 (fun (i : Nat) => [.d (eI i)]) (fun i => [.cells [.d (.str nm), .d dc, .d dk, .d df, .d dx], .cells [.d (.str nm), .d dc', .d dk', .d df', .d dx']]) (fun i => i ≤ cs.length) (fun i => cs.length - i) 0 rfl rfl rfl rfl (fun _ _ => ⟨rfl, rfl⟩) rfl (by omega) ?_
 repeat' first|refine st ?_|((with_reducible apply go_i);conv=>whnf)|(with_reducible first|apply k_d|apply k_b)<;>intro _
 intro i h4
 cases hx : cs[i]? with
 | some x =>
  have hlt := (List.getElem?_eq_some_iff.1 hx).1
  obtain ⟨n1, k1, l1⟩ := x
  have hg := hgc i _ hx
  have hg' : Cs[((i : Nat) : Int).toNat]? = _ := hgc i _ hx
  have r1 : n1 = n1 := rfl
  have r2 : k1 = k1 := rfl
  have r3 : l1 = l1 := rfl
  repeat' first|refine st ?_|((with_reducible apply go_i);conv=>whnf)|(with_reducible first|apply k_d|apply k_b)<;>intro _
  all_goals first | exact ⟨i + 1, rfl, rfl, rfl, by omega, by omega⟩ | (exfalso; simp_all; done)
 | none =>
  have hge := List.getElem?_eq_none_iff.1 hx
  repeat' first|refine st ?_|((with_reducible apply go_i);conv=>whnf)|(with_reducible first|apply k_d|apply k_b)<;>intro _
  refine x_loop1 mixed Lt.bt_ref13_Same_l1 Lk.bt_ref13_Same_l1 (fun (i : Nat) => [.d (eI i)]) (fun i => [.cells [.d (.str nm), .d dc, .d dk, .d df, .d dx], .cells [.d (.str nm), .d dc', .d dk', .d df', .d dx']]) (fun i => i ≤ fs.length) (fun i => fs.length - i) 0 rfl rfl rfl rfl (fun _ _ => ⟨rfl, rfl⟩) rfl (by omega) ?_
  repeat' first|refine st ?_|((with_reducible apply go_i);conv=>whnf)|(with_reducible first|apply k_d|apply k_b)<;>intro _
  intro j h5
  cases hy : fs[j]? with
  | some f =>
   have hlt := (List.getElem?_eq_some_iff.1 hy).1
   obtain ⟨g, hgg⟩ : ∃ g, fs'[j]? = some g := ⟨_, List.getElem?_eq_getElem (by omega)⟩
   have e6 : nfF f = nfF g := by
    have a1 : (fs.map nfF)[j]? = some (nfF f) := by rw [List.getElem?_map, hy]; rfl
    have a2 : (fs'.map nfF)[j]? = some (nfF g) := by rw [List.getElem?_map, hgg]; rfl
    rw [e4, a2] at a1
    exact (Option.some.inj a1).symm
   have hfb := (hfc f (List.mem_of_getElem? hy)).1
   obtain ⟨f1, f2, f3⟩ := f
   obtain ⟨g1, g2, g3⟩ := g
   unfold nfF at e6
   injection e6 with _ e7 e8
   dsimp only at e7 e8
   subst e7; subst e8
   have hJ := C.r13_Ints_same f2 hfb (Fo.mk f1 f2 f3).d (Fo.mk g1 f2 f3).d (Fo.sld _) (Fo.sld _)
   have hg := hgf j _ hy
   have hg' : Fs'[((j : Nat) : Int).toNat]? = _ := hgf' j _ hgg
   have hg2 : Fs[((j : Nat) : Int).toNat]? = _ := hgf j _ hy
   unfold Fo.ds at hg hg' hg2
   obtain ⟨d1, hd1⟩ : ∃ d, d = (Fo.mk f1 f2 f3).d := ⟨_, rfl⟩
   obtain ⟨d2, hd2⟩ : ∃ d, d = (Fo.mk g1 f2 f3).d := ⟨_, rfl⟩
   rw [← hd1] at hJ hg hg2
   rw [← hd2] at hJ hg'
   have r1 : f3 = f3 := rfl
   have hlt' : (j : Int) < Fs'.length := by omega
   repeat' first|refine st ?_|((with_reducible apply go_i);conv=>whnf)|((with_reducible first|apply k_pn|apply k_pc);(·exact hJ))|(with_reducible first|apply k_d|apply k_b)<;>intro _
   all_goals first | exact ⟨j + 1, rfl, rfl, rfl, by omega, by omega⟩ | (exfalso; simp_all; done)
  | none =>
   have hge2 := List.getElem?_eq_none_iff.1 hy
   repeat' first|refine st ?_|((with_reducible apply go_i);conv=>whnf)|(with_reducible first|apply k_d|apply k_b)<;>intro _
   all_goals rfl
end Go.Proofs
end
section
namespace Go.Proofs
open Go.Bi
structure TD where
 t : Tb
 dc : D
 dk : D
 df : D
 dx : D
abbrev TD.av (x : TD) : AV := eT x.t.nm x.dc x.dk x.df x.dx
structure TD.ok (x : TD) : Prop where
 tok : Tok x.t x.dc x.dk x.df x.dx
 rg : x.t.Rg
def zTD : TD := ⟨⟨[], [], [], [], []⟩, .nil, .nil, .nil, .nil⟩
theorem zTD_ok : zTD.ok := ⟨⟨by decide, by decide, by decide, by decide, by decide, fun f hf => by simp [zTD] at hf, by decide, fun e he => by simp [zTD] at he, sld_nil, sld_nil, sld_nil, sld_nil⟩, fun e he => by simp [zTD] at he⟩
def slX (l : List Ex) : D := slD (xL l).isEmpty (xL l)
theorem slX_sld (l : List Ex) : SlD (slX l) (xL l) := sld_slD fun e => List.isEmpty_iff.1 e
theorem dF_sld (l : List Fo) : SlD (dF l) (eFs l) := sld_slD fun e => by
 cases l with
 | nil => rfl
 | cons a r => cases e
def TD.cp (x : TD) : TD := ⟨⟨x.t.nm, x.t.cs, x.t.ks, x.t.fs, x.t.xs.map cpX⟩, x.dc, x.dk, dF x.t.fs, slX (x.t.xs.map cpX)⟩
theorem TD.cp_ok {x : TD} (h : x.ok) : x.cp.ok := by
 obtain ⟨h, hr⟩ := h
 refine ⟨⟨h.hn, h.hl, h.hls, h.hk, h.hfl, h.hfc, by show (x.t.xs.map cpX).length ≤ _; rw [List.length_map]; exact h.hxs, fun e he => ?_, h.dc, h.dk, dF_sld _, slX_sld _⟩, fun e he => ?_⟩
 ·obtain ⟨a, ha, rfl⟩ := List.mem_map.1 he
  exact Nat.le_trans (cp_bk a) (h.hxb a ha)
 ·obtain ⟨a, ha, rfl⟩ := List.mem_map.1 he
  exact cp_rg a (hr a ha)
theorem nf_cp (x : TD) : nf x.cp.t = nf x.t := by
 unfold nf TD.cp
 dsimp only
 rw [map_comp (h := cpX) fun a ha => cp_cp a]
def TD.evo (x : TD) (c : Ch) : TD := ⟨evoT x.t c, .sl (eCs (evoT x.t c).cs), slD (isN x.dk) (eIs (evoT x.t c).ks), dF (evoT x.t c).fs, slX (evoT x.t c).xs⟩
theorem TD.evo_ok {x : TD} (h : x.ok) {c : Ch} (hc : Cok c) (hq : evoE x.t c = 0) : (x.evo c).ok := by
 have hx : slX (evoT x.t c).xs = slD (xL (x.t.xs.map cpX)).isEmpty (xL (evoT x.t c).xs) := by
  unfold slX
  congr 1
  unfold evoT
  split
  ·rfl
  ·split
   ·cases x.t.xs <;> rfl
   ·split <;> rfl
 have hb : (xL (x.t.xs.map cpX)).isEmpty = true → x.t.xs = [] := fun e => by
  cases hxs : x.t.xs with
  | nil => rfl
  | cons a l => rw [hxs] at e; cases e
 refine ⟨?_, evoT_rg h.rg c⟩
 unfold TD.evo
 dsimp only
 rw [hx]
 exact evoT_tok h.tok hc (tab_vd.1 (evo_inv hq).1) _ hb
theorem C.evo_Apply (x : TD) (h : x.ok) (c : Ch) (hc : Cok c) (hq : evoE x.t c = 0) : Pure Tryz.prog N.evolve_Apply [x.av, c.av] (.tup [(x.evo c).av, .d (eI 0)]) := by
 obtain ⟨t, dc, dk, df, dx⟩ := x
 obtain ⟨h, hr⟩ := h
 dsimp only at h hr hq
 obtain ⟨q1, q2, q3, q4, q5⟩ := evo_inv hq
 have hv := tab_vd.1 q1
 have hdc := dc_sl h hv
 have hx := xs_shf hr
 have hnm : (evoT t c).nm = t.nm := by unfold evoT; split; rfl; split; rfl; split <;> rfl
 have he : slX (evoT t c).xs = slD (xL (t.xs.map (shf 0))).isEmpty (xL (evoT t c).xs) := by
  rw [hx]
  unfold slX
  congr 1
  unfold evoT
  split
  ·rfl
  ·split
   ·cases t.xs <;> rfl
   ·split <;> rfl
 unfold TD.av TD.evo
 dsimp only
 rw [hnm, he]
 by_cases k1 : c.k = 1
 ·have e : evoT t c = ⟨t.nm, t.cs ++ [c.co], t.ks, t.fs, t.xs.map cpX⟩ := by unfold evoT; rw [if_pos k1]
  rw [e, ← hx]
  rcases list4 hv.fl with hf | ⟨a0, hf⟩ | ⟨a0, a1, hf⟩ | ⟨a0, a1, a2, hf⟩ | ⟨a0, a1, a2, a3, hf⟩
  ·exact C.app0_add t dc dk df dx h c hc hq hf k1
  ·exact C.app1_add t dc dk df dx h c hc hq a0 hf k1
  ·exact C.app2_add t dc dk df dx h c hc hq a0 a1 hf k1
  ·exact C.app3_add t dc dk df dx h c hc hq a0 a1 a2 hf k1
  ·exact C.app4_add t dc dk df dx h c hc hq a0 a1 a2 a3 hf k1
 ·obtain ⟨i, co, hi, hco, hcn, hus, _, _⟩ := chg_inv (q5 k1)
  have hil := (List.getElem?_eq_some_iff.1 hco).1
  have hiN : (findC c.nm t.cs).toNat = i := by omega
  by_cases k2 : c.k = 2
  ·have e : evoT t c = ⟨t.nm, t.cs.eraseIdx i, t.ks.map (fun x => belowI x i), t.fs.map (blF i), t.xs.map (dnX i)⟩ := by unfold evoT; rw [if_neg k1, if_pos k2, hiN]
   have hxd : (t.xs.map (shf 0)).map (subX (mvL t.cs.length i)) = t.xs.map (dnX i) := by
    rw [hx]
    exact map_comp fun a ha => sub_dn i (kd_len _) a (hv.xs a ha).2.1
   rw [e, ← hxd]
   have b1 : ∀ k ∈ t.ks, 0 ≤ k ∧ k ≤ 1048576 := fun k hk => by have := hv.ks k hk; have := hv.l2; omega
   have b2 : ∀ g ∈ t.fs, ∀ k ∈ g.cs, 0 ≤ k ∧ k ≤ 1048576 := fun g hg k hk => by have := (hv.fs g hg).2.2.1 k hk; have := hv.l2; omega
   have b3 : ∀ e ∈ t.xs.map (shf 0), e.bk ≤ 1048576 := fun e he => by
    rw [hx] at he
    obtain ⟨a, ha, rfl⟩ := List.mem_map.1 he
    exact Nat.le_trans (cp_bk a) (h.hxb a ha)
   rcases list4 hv.fl with hf | ⟨a0, hf⟩ | ⟨a0, a1, hf⟩ | ⟨a0, a1, a2, hf⟩ | ⟨a0, a1, a2, a3, hf⟩
   ·exact C.app0_drp t dc dk df dx h c hc hq hf k2 i hi hil hdc b1 b2 b3
   ·exact C.app1_drp t dc dk df dx h c hc hq a0 hf k2 i hi hil hdc b1 b2 b3
   ·exact C.app2_drp t dc dk df dx h c hc hq a0 a1 hf k2 i hi hil hdc b1 b2 b3
   ·exact C.app3_drp t dc dk df dx h c hc hq a0 a1 a2 hf k2 i hi hil hdc b1 b2 b3
   ·exact C.app4_drp t dc dk df dx h c hc hq a0 a1 a2 a3 hf k2 i hi hil hdc b1 b2 b3
  ·by_cases k3 : c.k = 3
   ·have e : evoT t c = ⟨t.nm, t.cs.set i ⟨c.to, co.k, co.nl⟩, t.ks, t.fs, t.xs.map cpX⟩ := by unfold evoT; rw [if_neg k1, if_neg k2, if_pos k3, hiN, getD_at hco]
    rw [e, ← hx]
    rcases list4 hv.fl with hf | ⟨a0, hf⟩ | ⟨a0, a1, hf⟩ | ⟨a0, a1, a2, hf⟩ | ⟨a0, a1, a2, a3, hf⟩
    ·exact C.app0_ren t dc dk df dx h c hc hq hf k3 i hi co hco hdc
    ·exact C.app1_ren t dc dk df dx h c hc hq a0 hf k3 i hi co hco hdc
    ·exact C.app2_ren t dc dk df dx h c hc hq a0 a1 hf k3 i hi co hco hdc
    ·exact C.app3_ren t dc dk df dx h c hc hq a0 a1 a2 hf k3 i hi co hco hdc
    ·exact C.app4_ren t dc dk df dx h c hc hq a0 a1 a2 a3 hf k3 i hi co hco hdc
   ·have k4 : c.k = 4 := by omega
    have e : evoT t c = ⟨t.nm, t.cs.set i ⟨co.nm, 2, co.nl⟩, t.ks, t.fs, t.xs.map cpX⟩ := by unfold evoT; rw [if_neg k1, if_neg k2, if_neg k3, hiN, getD_at hco]
    rw [e, ← hx]
    rcases list4 hv.fl with hf | ⟨a0, hf⟩ | ⟨a0, a1, hf⟩ | ⟨a0, a1, a2, hf⟩ | ⟨a0, a1, a2, a3, hf⟩
    ·exact C.app0_txt t dc dk df dx h c hc hq hf k4 i hi co hco hdc
    ·exact C.app1_txt t dc dk df dx h c hc hq a0 hf k4 i hi co hco hdc
    ·exact C.app2_txt t dc dk df dx h c hc hq a0 a1 hf k4 i hi co hco hdc
    ·exact C.app3_txt t dc dk df dx h c hc hq a0 a1 a2 hf k4 i hi co hco hdc
    ·exact C.app4_txt t dc dk df dx h c hc hq a0 a1 a2 a3 hf k4 i hi co hco hdc
theorem C.evo_ApplyErr (x : TD) (h : x.ok) (c : Ch) (hc : Cok c) (hq : evoE x.t c ≠ 0) : Pure Tryz.prog N.evolve_Apply [x.av, c.av] (.tup [zTD.av, .d (eI (evoE x.t c))]) :=
 C.apply_err x.t x.dc x.dk x.df x.dx h.tok c hc hq
theorem dg_tabF {os : List AO} {nm : List UInt8} {a b f x : Nat} {K X Cs : List (List D)} {rows : List (List AV)} {fs : List Fo} {cn kn xn nl : Bool} {cz kz xz cf kf xf lf : Nat} (hlf : lf = rows.length)
  (h1 : os[a]? = some (.arr Cs cz cf cn)) (h2 : os[b]? = some (.arr K kz kf kn)) (h3 : os[f]? = some (.rarr rows 2 nl)) (h4 : os[x]? = some (.arr X xz xf xn)) (hl : fs.length = rows.length)
  (hr : ∀ (i : Nat) e (g : Fo), rows[i]? = some e → fs[i]? = some g → ∃ q es fl, e = [.arr q es.length, .d (.str g.tb)] ∧ os[q]? = some (.arr es 1 0 fl) ∧ g.d = slD fl es) :
  DA os (.agg [.d (.str nm), .arr a Cs.length, .arr b K.length, .rs f lf, .arr x X.length]) (eT nm (slD cn Cs) (slD kn K) (slD nl (eFs fs)) (slD xn X)) := by
 subst hlf
 have h := da_tabF (nm := nm) (e := .nil) (.inl (.inr ⟨a, Cs, cz, cf, cn, rfl, h1, rfl⟩)) h2 h3 h4 hl hr
 rcases h with h | ⟨cs, rs, e1, e2, e3, e4⟩
 ·rcases h with ⟨x, hx, _⟩ | ⟨_, _, hx, _⟩
  ·rcases hx with (hx | ⟨_, _, _, _, _, hx, _⟩) | ⟨_, _, _, _, _, hx, _⟩ <;> cases hx
  ·cases hx
 ·cases e1; cases e2
  exact .inl (e4 0 _ _ rfl rfl)
theorem rowsF_len : ∀ (k : Nat) (l : List Fi), (rowsF k l).length = l.length
 | _, [] => rfl
 | k, f :: fs => by rw [rowsF, List.length_cons, rowsF_len (k + 1) fs, List.length_cons]
theorem rowsF_get : ∀ (l : List Fi) (k i : Nat) (f : Fi), l[i]? = some f → (rowsF k l)[i]? = some [.arr (k + i) f.es.length, .d (.str f.tb)]
 | [], _, i, f, h => by simp at h
 | a :: l, k, 0, f, h => by cases h; rfl
 | a :: l, k, i + 1, f, h => by
  rw [rowsF, List.getElem?_cons_succ, rowsF_get l (k + 1) i f (by simpa using h), show k + 1 + i = k + (i + 1) by omega]
def Fi.of (g : Fo) : Fi := ⟨g.d, eIs g.cs, isN g.d, g.tb⟩
theorem C.clone_any (x : TD) (h : x.ok) (hf4 : x.t.fs.length ≤ 4) : Pure Tryz.prog N.schema_Clone [x.av] x.cp.av := by
 obtain ⟨t, dc, dk, df, dx⟩ := x
 obtain ⟨h, hr⟩ := h
 dsimp only at h hr hf4
 have hx := xs_shf hr
 have hok : ∀ g ∈ t.fs, (Fi.of g).ok := fun g hg => C.cloneI _ (by rw [eIs_len]; have := (h.hfc g hg).1; omega) (eIs_mem _) g.d g.sld
 have hC := C.cloneC (eCs t.cs) (by rw [eCs_len]; have := h.hl; omega) (eCs_mem _) dc h.dc
 have hI := C.cloneI (eIs t.ks) (by rw [eIs_len]; have := h.hk; omega) (eIs_mem _) dk h.dk
 have key : ∀ (l : List Fi) (hl : l = t.fs.map Fi.of) (n : Nat) (hn : n = l.length) (tab out : List AV), DA (clB tab out t.nm (eCs t.cs) (eIs t.ks) (isN dc) (isN dk) l (xL (t.xs.map (shf 0))) (xL (t.xs.map (shf 0))).isEmpty) (.agg (oB t.nm (eCs t.cs).length (eIs t.ks).length n (xL (t.xs.map (shf 0))).length))
   (eT t.nm (slD (isN dc) (eCs t.cs)) (slD (isN dk) (eIs t.ks)) (slD l.isEmpty (eFs t.fs)) (slD (xL (t.xs.map (shf 0))).isEmpty (xL (t.xs.map (shf 0))))) := by
  intro l hl n hn tab out
  refine dg_tabF (rows := rowsF 7 l) (fs := t.fs) (by rw [rowsF_len]; exact hn) rfl rfl rfl rfl (by rw [rowsF_len, hl, List.length_map]) fun i e g he hg => ?_
  have h1 : l[i]? = some (Fi.of g) := by rw [hl, List.getElem?_map, hg]; rfl
  rw [rowsF_get l 7 i _ h1] at he
  cases he
  refine ⟨7 + i, eIs g.cs, isN g.d, rfl, ?_, (slD_isN g.sld).symm⟩
  unfold clB
  rw [List.getElem?_append_right (by simp)]
  show (innF l)[7 + i - 7]? = _
  unfold innF
  rw [show 7 + i - 7 = i by omega, List.getElem?_map, h1]
  rfl
 have fin : ∀ (l : List Fi), l = t.fs.map Fi.of → TD.av (TD.cp ⟨t, dc, dk, df, dx⟩) = eT t.nm (slD (isN dc) (eCs t.cs)) (slD (isN dk) (eIs t.ks)) (slD l.isEmpty (eFs t.fs)) (slD (xL (t.xs.map (shf 0))).isEmpty (xL (t.xs.map (shf 0)))) := by
  intro l hl
  rw [slD_isN h.dc, slD_isN h.dk, hx, hl]
  unfold TD.av TD.cp dF slX
  dsimp only
  have e : (t.fs.map Fi.of).isEmpty = t.fs.isEmpty := by cases t.fs <;> rfl
  rw [e]
 have hdf := h.df
 rcases list4 hf4 with hf | ⟨a0, hf⟩ | ⟨a0, a1, hf⟩ | ⟨a0, a1, a2, hf⟩ | ⟨a0, a1, a2, a3, hf⟩
 ·have hd : SlD df [] := by rw [hf] at hdf; exact hdf
  refine CallSpec.deepP (C.clone0 t.nm dc dk df dx (eCs t.cs) (eIs t.ks) (isN dc) (isN dk) hC hI hd t.xs h.hxb h.hxs h.dx) ?_
  rintro r os ⟨rfl, rfl⟩
  rw [fin [] (by rw [hf]; rfl)]
  exact key [] (by rw [hf]; rfl) 0 rfl _ _
 all_goals
  have hd : df = .sl (eFi (t.fs.map Fi.of)) := by
   have e : eFi (t.fs.map Fi.of) = eFs t.fs := by unfold eFi eFs; rw [List.map_map]; rfl
   rw [e]
   rcases hdf with ⟨_, h2⟩ | h2
   ·rw [hf] at h2; cases h2
   ·exact h2
  rw [hf] at hd
 ·refine CallSpec.deepP (C.clone1 t.nm dc dk df dx (eCs t.cs) (eIs t.ks) (isN dc) (isN dk) hC hI (Fi.of a0) (hok a0 (by rw [hf]; simp)) hd t.xs h.hxb h.hxs h.dx) ?_
  rintro r os ⟨rfl, rfl⟩
  rw [fin [Fi.of a0] (by rw [hf]; rfl)]
  exact key _ (by rw [hf]; rfl) 1 rfl _ _
 ·refine CallSpec.deepP (C.clone2 t.nm dc dk df dx (eCs t.cs) (eIs t.ks) (isN dc) (isN dk) hC hI (Fi.of a0) (Fi.of a1) (hok a0 (by rw [hf]; simp)) (hok a1 (by rw [hf]; simp)) hd t.xs h.hxb h.hxs h.dx) ?_
  rintro r os ⟨rfl, rfl⟩
  rw [fin [Fi.of a0, Fi.of a1] (by rw [hf]; rfl)]
  exact key _ (by rw [hf]; rfl) 2 rfl _ _
 ·refine CallSpec.deepP (C.clone3 t.nm dc dk df dx (eCs t.cs) (eIs t.ks) (isN dc) (isN dk) hC hI (Fi.of a0) (Fi.of a1) (Fi.of a2) (hok a0 (by rw [hf]; simp)) (hok a1 (by rw [hf]; simp)) (hok a2 (by rw [hf]; simp)) hd t.xs h.hxb h.hxs h.dx) ?_
  rintro r os ⟨rfl, rfl⟩
  rw [fin [Fi.of a0, Fi.of a1, Fi.of a2] (by rw [hf]; rfl)]
  exact key _ (by rw [hf]; rfl) 3 rfl _ _
 ·refine CallSpec.deepP (C.clone4 t.nm dc dk df dx (eCs t.cs) (eIs t.ks) (isN dc) (isN dk) hC hI (Fi.of a0) (Fi.of a1) (Fi.of a2) (Fi.of a3) (hok a0 (by rw [hf]; simp)) (hok a1 (by rw [hf]; simp)) (hok a2 (by rw [hf]; simp)) (hok a3 (by rw [hf]; simp)) hd t.xs h.hxb h.hxs h.dx) ?_
  rintro r os ⟨rfl, rfl⟩
  rw [fin [Fi.of a0, Fi.of a1, Fi.of a2, Fi.of a3] (by rw [hf]; rfl)]
  exact key _ (by rw [hf]; rfl) 4 rfl _ _
end Go.Proofs
end
section
namespace Go.Proofs
open Go.Bi
theorem C.r14_lower (ks : List Int) (hk : ks.length ≤ 1048576) (hb : ∀ k ∈ ks, 0 ≤ k ∧ k ≤ 1048576) (i : Int) (d : D) (hd : SlD d (eIs ks)) : Pure Tryz.prog N.bt_ref14_lower [.d d, .d (eI i)] (.d (.sl (eIs (ks.map fun c => belowI c i)))) := by
 refine F.bt_ref14_lower.go mixed rfl ?_
 have h1 := eIs_len ks
 obtain ⟨R, hR⟩ : ∃ R, R = eIs (ks.map fun c => belowI c i) := ⟨_, rfl⟩
 rw [← hR]
 repeat' first|refine st ?_|((with_reducible apply go_i);conv=>whnf)|(with_reducible first|apply k_d|apply k_b)<;>intro _
 refine x_loop2 mixed Lt.bt_ref14_lower_l0 Lk.bt_ref14_lower_l0 (fun (j : Nat) (es : List (List D)) => [.arr 0 es.length, .d (eI j)]) (fun j es => [.arr es 1 0 false]) (fun j es => j ≤ ks.length ∧ es = eIs ((ks.take j).map fun c => belowI c i)) (fun j _ => ks.length - j) 0 [] rfl rfl rfl rfl (fun _ _ _ => ⟨rfl, rfl⟩) rfl ⟨by omega, rfl⟩ ?_
 repeat' first|refine st ?_|((with_reducible apply go_i);conv=>whnf)|(with_reducible first|apply k_d|apply k_b)<;>intro _
 intro j es ⟨h2, h3⟩
 have hes : es.length = j := by rw [h3, eIs_len, List.length_map, List.length_take]; omega
 have hem : ∀ e ∈ es, e.length = 1 := by rw [h3]; exact eIs_mem _
 cases hx : ks[j]? with
 | some c =>
  have hlt := (List.getElem?_eq_some_iff.1 hx).1
  have hg := eIs_get hx
  obtain ⟨b1, b2⟩ := hb c (List.mem_of_getElem? hx)
  have hs : es ++ [[eI (belowI c i)]] = eIs ((ks.take (j + 1)).map fun c => belowI c i) := by rw [h3, List.take_add_one, hx]; simp [eIs]
  unfold belowI at hs
  by_cases hc : i < c
  ·rw [if_pos hc] at hs
   clear h3
   repeat' first|refine st ?_|((with_reducible apply go_i);conv=>whnf)|(with_reducible first|apply k_d|apply k_b)<;>intro _
   exact ⟨j + 1, es ++ [[eI (c - 1)]], rfl, rfl, rfl, by omega, by omega, hs⟩
  ·rw [if_neg hc] at hs
   clear h3
   repeat' first|refine st ?_|((with_reducible apply go_i);conv=>whnf)|(with_reducible first|apply k_d|apply k_b)<;>intro _
   exact ⟨j + 1, es ++ [[eI c]], rfl, rfl, rfl, by omega, by omega, hs⟩
 | none =>
  have hge := List.getElem?_eq_none_iff.1 hx
  rw [List.take_of_length_le hge, ← hR] at h3
  subst h3
  repeat' first|refine st ?_|((with_reducible apply go_i);conv=>whnf)|(with_reducible first|apply k_d|apply k_b)<;>intro _
  all_goals rfl
theorem C.r14_moved (i : Nat) : ∀ e : Ex, e.bk ≤ 1048576 → e.Rg → Pure Tryz.prog N.bt_ref14_moved [e.av, .d (eI i)] (dnX i e).av := by
 refine Ex.ind fun op n v nm nl args ih hb hr => ?_
 obtain ⟨b1, b2, b3, b4⟩ := Ex.bk_bounds hb
 cases hr with
 | mk r1 r2 hra =>
 rw [dn_mk, Ex.av_mk]
 have h1 := xL_len args
 have hm := xL_mem args
 obtain ⟨da, hda⟩ : ∃ d, d = ng nl (xL args) := ⟨_, rfl⟩
 have hsd : SlD da (xL args) := by rw [hda]; exact sld_ng
 rw [← hda]
 have r0 : v.k = v.k := rfl
 have r1' : v.s = v.s := rfl
 have r2' : nm = nm := rfl
 have q1 : IntKind.i64.min = -9223372036854775808 := rfl
 have q2 : IntKind.i64.max = 9223372036854775807 := rfl
 obtain ⟨n', hn'⟩ : ∃ n', n' = (if op = 2 then belowI n i else n) := ⟨_, rfl⟩
 rw [← hn', Ex.av_mk, ng_true]
 have key : (op = 2 ∧ (i : Int) < n ∧ n - 1 = n') ∨ (op = 2 ∧ ¬ (i : Int) < n ∧ n = n') ∨ (op ≠ 2 ∧ n = n') := by
  by_cases h2 : op = 2
  ·rw [if_pos h2] at hn'
   unfold belowI at hn'
   by_cases h3 : (i : Int) < n
   ·rw [if_pos h3] at hn'; exact .inl ⟨h2, h3, hn'.symm⟩
   ·rw [if_neg h3] at hn'; exact .inr (.inl ⟨h2, h3, hn'.symm⟩)
  ·rw [if_neg h2] at hn'; exact .inr (.inr ⟨h2, hn'.symm⟩)
 clear hn'
 refine F.bt_ref14_moved.go mixed rfl ?_
 rcases key with ⟨g1, g2, rfl⟩ | ⟨g1, g2, rfl⟩ | ⟨g1, rfl⟩
 ·subst g1
  repeat' first|refine st ?_|((with_reducible apply go_i);conv=>whnf)|(with_reducible first|apply k_d|apply k_b)<;>intro _
  refine x_nilc 2 6 7 rfl rfl rfl ?_
  refine x_loop2 mixed Lt.bt_ref14_moved_l0 Lk.bt_ref14_moved_l0 (fun (j : Nat) (w : List (List D) × Bool) => [.d (eI j)]) (fun j w => [.cells [.d (eI 2), .d (eI n), .d (eI v.k), .d (eI v.n), .d (.str v.s), .d (.str nm), .d da], .cells [.d (eI 0), .d (eI 0), .d (eI 0), .d (eI 0), .d (.str []), .d (.str []), .d .nil], .cells [.d (eI 2), .d (eI (n - 1)), .d (eI v.k), .d (eI v.n), .d (.str v.s), .d (.str nm), .arr 3 w.1.length], .arr w.1 7 0 w.2]) (fun j w => j ≤ args.length ∧ w.1 = Mt (dnX i) args j ∧ w.2 = w.1.isEmpty) (fun j w => args.length - j) 0 ([], true) rfl rfl rfl rfl (fun _ _ _ => ⟨rfl, rfl⟩) rfl ⟨by omega, rfl, rfl⟩ ?_
  repeat' first|refine st ?_|((with_reducible apply go_i);conv=>whnf)|(with_reducible first|apply k_d|apply k_b)<;>intro _
  intro j w ⟨h4, h5, h6⟩
  obtain ⟨A, b⟩ := w
  dsimp only at h5 h6 ⊢
  have hAl : A.length = j := by rw [h5]; exact Mt_len _ args j (by omega)
  have hAm : ∀ e ∈ A, e.length = 7 := by rw [h5]; exact Mt_mem _ _ _
  cases hx : args[j]? with
  | some x =>
   have hlt := (List.getElem?_eq_some_iff.1 hx).1
   have hs := Mt_succ (φ := dnX i) hx
   have hg := xL_get hx
   have hi := ih x (List.mem_of_getElem? hx) (b4 x (List.mem_of_getElem? hx)) (hra x (List.mem_of_getElem? hx))
   rw [← h5] at hs
   obtain ⟨z, hz⟩ : ∃ z, z = dnX i x := ⟨_, rfl⟩
   rw [← hz] at hs hi
   obtain ⟨o1, n1, v1, m1, l1, a1⟩ := x
   obtain ⟨o2, n2, v2, m2, l2, a2⟩ := z
   rw [Ex.ds_mk] at hg hs
   rw [Ex.av_mk, Ex.av_mk] at hi
   repeat' first|refine st ?_|((with_reducible apply go_i);conv=>whnf)|((with_reducible first|apply k_pn|apply k_pc);(·exact hi))|(with_reducible first|apply k_d|apply k_b)<;>intro _
   exact ⟨j + 1, (A ++ [xds o2 n2 v2 m2 (ng l2 (xL a2))], false), rfl, rfl, rfl, by omega, by omega, hs, by simp⟩
  | none =>
   have hge := List.getElem?_eq_none_iff.1 hx
   rw [Mt_end hge] at h5
   rw [← h5, ← h6]
   cases b with
   | true =>
    rw [if_pos rfl]
    repeat' first|refine st ?_|((with_reducible apply go_i);conv=>whnf)|(with_reducible first|apply k_d|apply k_b)<;>intro _
    all_goals rfl
   | false =>
    rw [if_neg (by simp)]
    repeat' first|refine st ?_|((with_reducible apply go_i);conv=>whnf)|(with_reducible first|apply k_d|apply k_b)<;>intro _
    all_goals rfl
 all_goals
  repeat' first|refine st ?_|((with_reducible apply go_i);conv=>whnf)|(with_reducible first|apply k_d|apply k_b)<;>intro _
  refine x_nilc 2 6 7 rfl rfl rfl ?_
  refine x_loop2 mixed Lt.bt_ref14_moved_l0 Lk.bt_ref14_moved_l0 (fun (j : Nat) (w : List (List D) × Bool) => [.d (eI j)]) (fun j w => [.cells [.d (eI op), .d (eI n), .d (eI v.k), .d (eI v.n), .d (.str v.s), .d (.str nm), .d da], .cells [.d (eI 0), .d (eI 0), .d (eI 0), .d (eI 0), .d (.str []), .d (.str []), .d .nil], .cells [.d (eI op), .d (eI n), .d (eI v.k), .d (eI v.n), .d (.str v.s), .d (.str nm), .arr 3 w.1.length], .arr w.1 7 0 w.2]) (fun j w => j ≤ args.length ∧ w.1 = Mt (dnX i) args j ∧ w.2 = w.1.isEmpty) (fun j w => args.length - j) 0 ([], true) rfl rfl rfl rfl (fun _ _ _ => ⟨rfl, rfl⟩) rfl ⟨by omega, rfl, rfl⟩ ?_
  repeat' first|refine st ?_|((with_reducible apply go_i);conv=>whnf)|(with_reducible first|apply k_d|apply k_b)<;>intro _
  intro j w ⟨h4, h5, h6⟩
  obtain ⟨A, b⟩ := w
  dsimp only at h5 h6 ⊢
  have hAl : A.length = j := by rw [h5]; exact Mt_len _ args j (by omega)
  have hAm : ∀ e ∈ A, e.length = 7 := by rw [h5]; exact Mt_mem _ _ _
  cases hx : args[j]? with
  | some x =>
   have hlt := (List.getElem?_eq_some_iff.1 hx).1
   have hs := Mt_succ (φ := dnX i) hx
   have hg := xL_get hx
   have hi := ih x (List.mem_of_getElem? hx) (b4 x (List.mem_of_getElem? hx)) (hra x (List.mem_of_getElem? hx))
   rw [← h5] at hs
   obtain ⟨z, hz⟩ : ∃ z, z = dnX i x := ⟨_, rfl⟩
   rw [← hz] at hs hi
   obtain ⟨o1, n1, v1, m1, l1, a1⟩ := x
   obtain ⟨o2, n2, v2, m2, l2, a2⟩ := z
   rw [Ex.ds_mk] at hg hs
   rw [Ex.av_mk, Ex.av_mk] at hi
   repeat' first|refine st ?_|((with_reducible apply go_i);conv=>whnf)|((with_reducible first|apply k_pn|apply k_pc);(·exact hi))|(with_reducible first|apply k_d|apply k_b)<;>intro _
   exact ⟨j + 1, (A ++ [xds o2 n2 v2 m2 (ng l2 (xL a2))], false), rfl, rfl, rfl, by omega, by omega, hs, by simp⟩
  | none =>
   have hge := List.getElem?_eq_none_iff.1 hx
   rw [Mt_end hge] at h5
   rw [← h5, ← h6]
   cases b with
   | true =>
    rw [if_pos rfl]
    repeat' first|refine st ?_|((with_reducible apply go_i);conv=>whnf)|(with_reducible first|apply k_d|apply k_b)<;>intro _
    all_goals rfl
   | false =>
    rw [if_neg (by simp)]
    repeat' first|refine st ?_|((with_reducible apply go_i);conv=>whnf)|(with_reducible first|apply k_d|apply k_b)<;>intro _
    all_goals rfl
end Go.Proofs
end
section
namespace Go.Proofs
open Go.Bi
def F0 (l : List Fo) : List (List D) := eFs (l.map nfF)
theorem F0_len (l : List Fo) : (F0 l).length = l.length := by unfold F0; rw [eFs_len, List.length_map]
theorem F0_mem (l : List Fo) : ∀ e ∈ F0 l, e.length = 2 := eFs_mem _
theorem F0_succ {l : List Fo} {i : Nat} {f : Fo} (h : l[i]? = some f) : F0 (l.take i) ++ [[.sl (eIs f.cs), .str f.tb]] = F0 (l.take (i + 1)) := by
 unfold F0
 rw [List.take_add_one, h]
 simp [eFs, nfF, Fo.ds, Fo.d, ng]
theorem C.r13_CloneO (x : TD) (h : x.ok) : CallSpec Tryz.prog N.bt_ref13_Clone [x.av] [] (fun r os => r = .agg [.d (.str x.t.nm), .arr 3 (eCs x.t.cs).length, .arr 4 (eIs x.t.ks).length, .arr 5 (F0 x.t.fs).length, .arr 6 (xL (x.t.xs.map cpX)).length] ∧
  ∃ a b c, os = [a, b, c, .arr (eCs x.t.cs) 3 0 (eCs x.t.cs).isEmpty, .arr (eIs x.t.ks) 1 0 (eIs x.t.ks).isEmpty, .arr (F0 x.t.fs) 2 0 (F0 x.t.fs).isEmpty, .arr (xL (x.t.xs.map cpX)) 7 0 (xL (x.t.xs.map cpX)).isEmpty]) := by
 obtain ⟨⟨nm, cs, ks, fs, xs⟩, dc, dk, df, dx⟩ := x
 obtain ⟨⟨h1, h2, h3, h4, h5, h6, h7, h8, h9, h10, h11, h12⟩, hr⟩ := h
 dsimp only at h1 h2 h3 h4 h5 h6 h7 h8 h9 h10 h11 h12 hr ⊢
 have c1 := eCs_len cs
 have c2 := eCs_mem cs
 have k1 := eIs_len ks
 have k2 := eIs_mem ks
 have f1 := eFs_len fs
 have f2 := eFs_mem fs
 have f3 := fun i f => @eFs_get fs i f
 have x1 := xL_len xs
 have x2 := xL_mem xs
 have x3 := xL_get'' (args := xs)
 obtain ⟨Cs, hCs⟩ : ∃ z, z = eCs cs := ⟨_, rfl⟩
 obtain ⟨Ks, hKs⟩ : ∃ z, z = eIs ks := ⟨_, rfl⟩
 obtain ⟨Fs, hFs⟩ : ∃ z, z = eFs fs := ⟨_, rfl⟩
 obtain ⟨Xs, hXs⟩ : ∃ z, z = xL xs := ⟨_, rfl⟩
 obtain ⟨FR, hFR⟩ : ∃ z, z = F0 fs := ⟨_, rfl⟩
 obtain ⟨XR, hXR⟩ : ∃ z, z = xL (xs.map cpX) := ⟨_, rfl⟩
 rw [← hCs] at c1 c2 h9 ⊢
 rw [← hKs] at k1 k2 h10 ⊢
 rw [← hFs] at f1 f2 f3 h11
 rw [← hXs] at x1 x2 x3 h12
 rw [← hFR, ← hXR]
 have b1 : (([] : List (List D)).length + Cs.length) * 32 ≤ 140737488355328 ∧ ([] : List (List D)).length + Cs.length ≤ 9223372036854775807 := by rw [List.length_nil]; omega
 have b2 : (([] : List (List D)).length + Ks.length) * 8 ≤ 140737488355328 ∧ ([] : List (List D)).length + Ks.length ≤ 9223372036854775807 := by rw [List.length_nil]; omega
 refine F.bt_ref13_Clone.goO mixed rfl ?_
 repeat' first|refine st ?_|(with_reducible first|apply k_d|apply k_b)<;>intro _
 refine x_nilc 2 3 2 rfl rfl rfl ?_
 refine x_loop2 mixed Lt.bt_ref13_Clone_l0 Lk.bt_ref13_Clone_l0 (fun (i : Nat) (w : List (List D) × Bool) => [.d (eI i)]) (fun i w => [.cells [.d (.str nm), .d dc, .d dk, .d df, .d dx], .cells [.d (.str []), .d .nil, .d .nil, .d .nil, .d .nil], .cells [.d (.str nm), .arr 3 Cs.length, .arr 4 Ks.length, .arr 5 w.1.length, .d .nil], .arr Cs 3 0 Cs.isEmpty, .arr Ks 1 0 Ks.isEmpty, .arr w.1 2 0 w.2]) (fun i w => i ≤ fs.length ∧ w.1 = F0 (fs.take i) ∧ w.2 = w.1.isEmpty) (fun i w => fs.length - i) 0 ([], true) rfl rfl rfl rfl (fun _ _ _ => ⟨rfl, rfl⟩) rfl ⟨by omega, rfl, rfl⟩ ?_
 repeat' first|refine st ?_|(with_reducible first|apply k_d|apply k_b)<;>intro _
 intro i w ⟨g1, g2, g3⟩
 obtain ⟨A, b⟩ := w
 dsimp only at g2 g3 ⊢
 have hAl : A.length = i := by rw [g2, F0_len, List.length_take]; omega
 have hAm : ∀ e ∈ A, e.length = 2 := by rw [g2]; exact F0_mem _
 cases hy : fs[i]? with
 | some f =>
  have hlt := (List.getElem?_eq_some_iff.1 hy).1
  have hg := f3 i f hy
  have hs := F0_succ hy
  rw [← g2] at hs
  have hfb := (h6 f (List.mem_of_getElem? hy)).1
  have e1 := f.sld
  have e2 := eIs_len f.cs
  have e3 := eIs_mem f.cs
  unfold Fo.ds at hg
  obtain ⟨fd, hfd⟩ : ∃ z, z = f.d := ⟨_, rfl⟩
  obtain ⟨E, hE⟩ : ∃ z, z = eIs f.cs := ⟨_, rfl⟩
  obtain ⟨tb, htb⟩ : ∃ z, z = f.tb := ⟨_, rfl⟩
  rw [← hfd] at hg e1
  rw [← htb] at hg hs
  rw [← hE] at e1 e2 e3 hs
  have b3 : (([] : List (List D)).length + E.length) * 8 ≤ 140737488355328 ∧ ([] : List (List D)).length + E.length ≤ 9223372036854775807 := by rw [List.length_nil]; omega
  clear g2
  repeat' first|refine st ?_|(with_reducible first|apply k_d|apply k_b)<;>intro _
  exact ⟨i + 1, (A ++ [[.sl E, .str tb]], false), rfl, rfl, by first | rfl | (simp [CnD]; done), by omega, by omega, hs, by simp⟩
 | none =>
  have hge := List.getElem?_eq_none_iff.1 hy
  rw [List.take_of_length_le hge, ← hFR] at g2
  subst g2
  subst g3
  repeat' first|refine st ?_|(with_reducible first|apply k_d|apply k_b)<;>intro _
  refine x_nilc 2 4 7 rfl rfl rfl ?_
  refine x_loop2 mixed Lt.bt_ref13_Clone_l1 Lk.bt_ref13_Clone_l1 (fun (i : Nat) (w : List (List D) × Bool) => [.d (eI i)]) (fun i w => [.cells [.d (.str nm), .d dc, .d dk, .d df, .d dx], .cells [.d (.str []), .d .nil, .d .nil, .d .nil, .d .nil], .cells [.d (.str nm), .arr 3 Cs.length, .arr 4 Ks.length, .arr 5 A.length, .arr 6 w.1.length], .arr Cs 3 0 Cs.isEmpty, .arr Ks 1 0 Ks.isEmpty, .arr A 2 0 A.isEmpty, .arr w.1 7 0 w.2]) (fun i w => i ≤ xs.length ∧ w.1 = Mt cpX xs i ∧ w.2 = w.1.isEmpty) (fun i w => xs.length - i) 0 ([], true) rfl rfl rfl rfl (fun _ _ _ => ⟨rfl, rfl⟩) rfl ⟨by omega, rfl, rfl⟩ ?_
  repeat' first|refine st ?_|(with_reducible first|apply k_d|apply k_b)<;>intro _
  intro q w ⟨g4, g5, g6⟩
  obtain ⟨B, b⟩ := w
  dsimp only at g5 g6 ⊢
  have hBl : B.length = q := by rw [g5]; exact Mt_len _ xs q (by omega)
  have hBm : ∀ e ∈ B, e.length = 7 := by rw [g5]; exact Mt_mem _ _ _
  cases hx : xs[q]? with
  | some y =>
   have hlt := (List.getElem?_eq_some_iff.1 hx).1
   have hs := Mt_succ (φ := cpX) hx
   have hS := C.r11_Shift 0 y (h8 y (List.mem_of_getElem? hx))
   rw [shf0_cp y (hr y (List.mem_of_getElem? hx))] at hS
   rw [← g5] at hs
   obtain ⟨z, hz⟩ : ∃ z, z = cpX y := ⟨_, rfl⟩
   rw [← hz] at hs hS
   obtain ⟨o1, n1, v1, m1, l1, a1⟩ := y
   obtain ⟨o2, n2, v2, m2, l2, a2⟩ := z
   have hg := x3 _ _ _ _ _ _ _ hx
   rw [Ex.ds_mk] at hs
   rw [Ex.av_mk, Ex.av_mk] at hS
   clear g5
   repeat' first|refine st ?_|((with_reducible first|apply k_pn|apply k_pc);(·exact hS))|(with_reducible first|apply k_d|apply k_b)<;>intro _
   exact ⟨q + 1, (B ++ [xds o2 n2 v2 m2 (ng l2 (xL a2))], false), rfl, rfl, rfl, by omega, by omega, hs, by simp⟩
  | none =>
   have hge := List.getElem?_eq_none_iff.1 hx
   rw [Mt_end hge, ← hXR] at g5
   subst g5
   subst g6
   repeat' first|refine st ?_|(with_reducible first|apply k_d|apply k_b)<;>intro _
   all_goals exact ⟨rfl, _, _, _, rfl⟩
def eD (l : List (List D)) : D := slD l.isEmpty l
theorem eD_sld (l : List (List D)) : SlD (eD l) l := sld_slD fun e => List.isEmpty_iff.1 e
def TD.cpR (x : TD) : TD := ⟨⟨x.t.nm, x.t.cs, x.t.ks, x.t.fs.map nfF, x.t.xs.map cpX⟩, eD (eCs x.t.cs), eD (eIs x.t.ks), eD (F0 x.t.fs), eD (xL (x.t.xs.map cpX))⟩
theorem TD.cpR_ok {x : TD} (h : x.ok) : x.cpR.ok := by
 obtain ⟨h, hr⟩ := h
 refine ⟨⟨h.hn, h.hl, h.hls, h.hk, by show (x.t.fs.map nfF).length ≤ _; rw [List.length_map]; exact h.hfl, fun f hf => ?_, by show (x.t.xs.map cpX).length ≤ _; rw [List.length_map]; exact h.hxs, fun e he => ?_, eD_sld _, eD_sld _, eD_sld _, eD_sld _⟩, fun e he => ?_⟩
 ·obtain ⟨g, hg, rfl⟩ := List.mem_map.1 hf
  exact h.hfc g hg
 ·obtain ⟨a, ha, rfl⟩ := List.mem_map.1 he
  exact Nat.le_trans (cp_bk a) (h.hxb a ha)
 ·obtain ⟨a, ha, rfl⟩ := List.mem_map.1 he
  exact cp_rg a (hr a ha)
theorem nf_cpR (x : TD) : nf x.cpR.t = nf x.t := nf_nf x.t
theorem dg_tabA {os : List AO} {nm : List UInt8} {a b f x : Nat} {Cs K F X : List (List D)} {cn kn fn xn : Bool} {cz kz fz xz cf kf ff xf : Nat}
  (h1 : os[a]? = some (.arr Cs cz cf cn)) (h2 : os[b]? = some (.arr K kz kf kn)) (h3 : os[f]? = some (.arr F fz ff fn)) (h4 : os[x]? = some (.arr X xz xf xn)) :
  DG os (.agg [.d (.str nm), .arr a Cs.length, .arr b K.length, .arr f F.length, .arr x X.length]) (eT nm (slD cn Cs) (slD kn K) (slD fn F) (slD xn X)) := by
 refine .inr ⟨_, [.str nm, slD cn Cs, slD kn K, slD fn F, slD xn X], rfl, rfl, rfl, fun j c y hc hy => ?_⟩
 match j, hc, hy with
 | 0, hc, hy => cases hc; cases hy; exact .inl (.inl rfl)
 | 1, hc, hy => cases hc; cases hy; exact .inl (.inr ⟨a, Cs, cz, cf, cn, rfl, h1, rfl⟩)
 | 2, hc, hy => cases hc; cases hy; exact .inl (.inr ⟨b, K, kz, kf, kn, rfl, h2, rfl⟩)
 | 3, hc, hy => cases hc; cases hy; exact .inl (.inr ⟨f, F, fz, ff, fn, rfl, h3, rfl⟩)
 | 4, hc, hy => cases hc; cases hy; exact .inl (.inr ⟨x, X, xz, xf, xn, rfl, h4, rfl⟩)
 | j + 5, hc, hy => simp at hc
theorem C.r13_Clone (x : TD) (h : x.ok) : Pure Tryz.prog N.bt_ref13_Clone [x.av] x.cpR.av := by
 refine CallSpec.deepP (C.r13_CloneO x h) ?_
 rintro r os ⟨rfl, a, b, c, rfl⟩
 exact .inl (dg_tabA rfl rfl rfl rfl)
end Go.Proofs
end
section
namespace Go.Proofs
open Go.Bi
def FD (i : Nat) (l : List Fo) : List (List D) := F0 (l.map (blF i))
theorem FD_succ (i : Nat) {l : List Fo} {j : Nat} {f : Fo} (h : l[j]? = some f) : FD i (l.take j) ++ [[.sl (eIs (f.cs.map fun c => belowI c i)), .str f.tb]] = FD i (l.take (j + 1)) := by
 have h1 := F0_succ (l := l.map (blF i)) (i := j) (f := blF i f) (by rw [List.getElem?_map, h]; rfl)
 rw [← List.map_take, ← List.map_take] at h1
 exact h1
theorem FD_len (i : Nat) (l : List Fo) : (FD i l).length = l.length := by unfold FD; rw [F0_len, List.length_map]
theorem erase_app {α : Type} (l : List α) (i : Nat) : l.take i ++ l.drop (i + 1) = l.eraseIdx i := (List.eraseIdx_eq_take_drop_succ ..).symm
def TD.wo (x : TD) (i : Nat) : TD := ⟨⟨x.t.nm, x.t.cs.eraseIdx i, x.t.ks.map (fun c => belowI c i), (x.t.fs.map (blF i)).map nfF, x.t.xs.map (dnX i)⟩, eD (eCs (x.t.cs.eraseIdx i)), .sl (eIs (x.t.ks.map fun c => belowI c i)), eD (FD i x.t.fs), eD (xL (x.t.xs.map (dnX i)))⟩
theorem C.r14_withoutO (x : TD) (h : x.ok) (i : Nat) (hi : i < x.t.cs.length) (hkb : ∀ k ∈ x.t.ks, 0 ≤ k ∧ k ≤ 1048576) (hfb : ∀ g ∈ x.t.fs, ∀ k ∈ g.cs, 0 ≤ k ∧ k ≤ 1048576) :
  CallSpec Tryz.prog N.bt_ref14_without [x.av, .d (eI i)] [] (fun r os => ∃ T : List (List D), T = eCs (x.t.cs.eraseIdx i) ∧ r = .agg [.d (.str x.t.nm), .arr 3 T.length, .d (.sl (eIs (x.t.ks.map fun c => belowI c i))), .arr 4 (FD i x.t.fs).length, .arr 5 (xL (x.t.xs.map (dnX i))).length] ∧
  ∃ a b c fl, fl = T.isEmpty ∧ os = [a, b, c, .arr T 3 0 fl, .arr (FD i x.t.fs) 2 0 (FD i x.t.fs).isEmpty, .arr (xL (x.t.xs.map (dnX i))) 7 0 (xL (x.t.xs.map (dnX i))).isEmpty]) := by
 obtain ⟨⟨nm, cs, ks, fs, xs⟩, dc, dk, df, dx⟩ := x
 obtain ⟨⟨h1, h2, h3, h4, h5, h6, h7, h8, h9, h10, h11, h12⟩, hr⟩ := h
 dsimp only at h1 h2 h3 h4 h5 h6 h7 h8 h9 h10 h11 h12 hr hi hkb hfb ⊢
 have hT : (eCs cs).take i ++ (eCs cs).drop (i + 1) = eCs (cs.eraseIdx i) := by rw [eCs_erase, erase_app]
 have hK := C.r14_lower ks h4 hkb i dk h10
 have c1 := eCs_len cs
 have c2 := eCs_mem cs
 have f1 := eFs_len fs
 have f2 := eFs_mem fs
 have f3 := fun i f => @eFs_get fs i f
 have x1 := xL_len xs
 have x2 := xL_mem xs
 have x3 := xL_get'' (args := xs)
 have hdc : dc = .sl (eCs cs) := by
  rcases h9 with ⟨_, h⟩ | h
  ·rw [h] at c1; simp at c1; omega
  ·exact h
 obtain ⟨T, hT0⟩ : ∃ T, T = eCs (cs.eraseIdx i) := ⟨_, rfl⟩
 rw [← hT0] at hT
 obtain ⟨Cs, hCs⟩ : ∃ z, z = eCs cs := ⟨_, rfl⟩
 obtain ⟨Fs, hFs⟩ : ∃ z, z = eFs fs := ⟨_, rfl⟩
 obtain ⟨Xs, hXs⟩ : ∃ z, z = xL xs := ⟨_, rfl⟩
 obtain ⟨FR, hFR⟩ : ∃ z, z = FD i fs := ⟨_, rfl⟩
 obtain ⟨XR, hXR⟩ : ∃ z, z = xL (xs.map (dnX i)) := ⟨_, rfl⟩
 obtain ⟨KR, hKR⟩ : ∃ z, z = eIs (ks.map fun c => belowI c i) := ⟨_, rfl⟩
 rw [← hCs] at c1 c2 hdc hT
 rw [← hFs] at f1 f2 f3 h11
 rw [← hXs] at x1 x2 x3 h12
 rw [← hKR] at hK ⊢
 rw [← hFR, ← hXR]
 subst hdc
 obtain ⟨T1, hT1⟩ : ∃ z, z = Cs.take i := ⟨_, rfl⟩
 obtain ⟨T2, hT2⟩ : ∃ z, z = Cs.drop (i + 1) := ⟨_, rfl⟩
 have t1 : List.take ((i : Int).toNat - ((0 : Nat) : Int).toNat) (List.drop ((0 : Nat) : Int).toNat Cs) = T1 := by rw [hT1]; rfl
 have t2 : List.take ((Cs.length : Int).toNat - ((i : Int) + 1).toNat) (List.drop ((i : Int) + 1).toNat Cs) = T2 := by
  rw [hT2]
  exact List.take_of_length_le (by rw [List.length_drop]; omega)
 have cm1 : ∀ e ∈ T1, e.length = 3 := fun e he => c2 e (List.mem_of_mem_take (hT1 ▸ he))
 have cm2 : ∀ e ∈ T2, e.length = 3 := fun e he => c2 e (List.mem_of_mem_drop (hT2 ▸ he))
 have l1 : T1.length ≤ 1048576 := by rw [hT1]; exact Nat.le_trans (List.length_take_le ..) (by omega)
 have l2 : T2.length ≤ 1048576 := by rw [hT2, List.length_drop]; omega
 rw [← hT1, ← hT2] at hT
 have hfl : (bif T2.isEmpty then T1.isEmpty else false) = T.isEmpty := by rw [← hT]; cases T1 <;> cases T2 <;> rfl
 have b1 : (([] : List (List D)).length + T1.length) * 32 ≤ 140737488355328 ∧ ([] : List (List D)).length + T1.length ≤ 9223372036854775807 := by rw [List.length_nil]; omega
 have b2 : (T1.length + T2.length) * 32 ≤ 140737488355328 ∧ T1.length + T2.length ≤ 9223372036854775807 := by omega
 refine F.bt_ref14_without.goO mixed rfl ?_
 repeat' first|refine st ?_|((with_reducible first|apply k_pn|apply k_pc);(·exact hK))|(with_reducible first|apply k_d|apply k_b)<;>intro _
 rw [t1]
 repeat' first|refine st ?_|(with_reducible first|apply k_d|apply k_b)<;>intro _
 rw [t2]
 repeat' first|refine st ?_|(with_reducible first|apply k_d|apply k_b)<;>intro _
 rw [hT]
 refine x_nilc 2 3 2 rfl rfl rfl ?_
 refine x_loop2 mixed Lt.bt_ref14_without_l0 Lk.bt_ref14_without_l0 (fun (j : Nat) (w : List (List D) × Bool) => [.d (eI j)]) (fun j w => [.cells [.d (.str nm), .d (.sl Cs), .d dk, .d df, .d dx], .cells [.d (.str []), .d .nil, .d .nil, .d .nil, .d .nil], .cells [.d (.str nm), .arr 3 T.length, .d (.sl KR), .arr 4 w.1.length, .d .nil], .arr T 3 0 (bif T2.isEmpty then T1.isEmpty else false), .arr w.1 2 0 w.2]) (fun j w => j ≤ fs.length ∧ w.1 = FD i (fs.take j) ∧ w.2 = w.1.isEmpty) (fun j w => fs.length - j) 0 ([], true) rfl rfl rfl rfl (fun _ _ _ => ⟨rfl, rfl⟩) rfl ⟨by omega, rfl, rfl⟩ ?_
 repeat' first|refine st ?_|(with_reducible first|apply k_d|apply k_b)<;>intro _
 intro j w ⟨g1, g2, g3⟩
 obtain ⟨A, b⟩ := w
 dsimp only at g2 g3 ⊢
 have hAl : A.length = j := by rw [g2, FD_len, List.length_take]; omega
 have hAm : ∀ e ∈ A, e.length = 2 := by rw [g2]; exact F0_mem _
 cases hy : fs[j]? with
 | some f =>
  have hlt := (List.getElem?_eq_some_iff.1 hy).1
  have hg := f3 j f hy
  have hs := FD_succ i hy
  rw [← g2] at hs
  have hfm := List.mem_of_getElem? hy
  have hL := C.r14_lower f.cs (h6 f hfm).1 (hfb f hfm) i f.d f.sld
  unfold Fo.ds at hg
  obtain ⟨fd, hfd⟩ : ∃ z, z = f.d := ⟨_, rfl⟩
  obtain ⟨E, hE⟩ : ∃ z, z = eIs (f.cs.map fun c => belowI c i) := ⟨_, rfl⟩
  obtain ⟨tb, htb⟩ : ∃ z, z = f.tb := ⟨_, rfl⟩
  rw [← hfd] at hg hL
  rw [← htb] at hg hs
  rw [← hE] at hL hs
  clear g2
  repeat' first|refine st ?_|((with_reducible first|apply k_pn|apply k_pc);(·exact hL))|(with_reducible first|apply k_d|apply k_b)<;>intro _
  exact ⟨j + 1, (A ++ [[.sl E, .str tb]], false), rfl, rfl, by first | rfl | (simp [CnD]; done), by omega, by omega, hs, by simp⟩
 | none =>
  have hge := List.getElem?_eq_none_iff.1 hy
  rw [List.take_of_length_le hge, ← hFR] at g2
  subst g2
  subst g3
  repeat' first|refine st ?_|(with_reducible first|apply k_d|apply k_b)<;>intro _
  refine x_nilc 2 4 7 rfl rfl rfl ?_
  refine x_loop2 mixed Lt.bt_ref14_without_l1 Lk.bt_ref14_without_l1 (fun (j : Nat) (w : List (List D) × Bool) => [.d (eI j)]) (fun j w => [.cells [.d (.str nm), .d (.sl Cs), .d dk, .d df, .d dx], .cells [.d (.str []), .d .nil, .d .nil, .d .nil, .d .nil], .cells [.d (.str nm), .arr 3 T.length, .d (.sl KR), .arr 4 A.length, .arr 5 w.1.length], .arr T 3 0 (bif T2.isEmpty then T1.isEmpty else false), .arr A 2 0 A.isEmpty, .arr w.1 7 0 w.2]) (fun j w => j ≤ xs.length ∧ w.1 = Mt (dnX i) xs j ∧ w.2 = w.1.isEmpty) (fun j w => xs.length - j) 0 ([], true) rfl rfl rfl rfl (fun _ _ _ => ⟨rfl, rfl⟩) rfl ⟨by omega, rfl, rfl⟩ ?_
  repeat' first|refine st ?_|(with_reducible first|apply k_d|apply k_b)<;>intro _
  intro q w ⟨g4, g5, g6⟩
  obtain ⟨B, b⟩ := w
  dsimp only at g5 g6 ⊢
  have hBl : B.length = q := by rw [g5]; exact Mt_len _ xs q (by omega)
  have hBm : ∀ e ∈ B, e.length = 7 := by rw [g5]; exact Mt_mem _ _ _
  cases hx : xs[q]? with
  | some y =>
   have hlt := (List.getElem?_eq_some_iff.1 hx).1
   have hs := Mt_succ (φ := dnX i) hx
   have hS := C.r14_moved i y (h8 y (List.mem_of_getElem? hx)) (hr y (List.mem_of_getElem? hx))
   rw [← g5] at hs
   obtain ⟨z, hz⟩ : ∃ z, z = dnX i y := ⟨_, rfl⟩
   rw [← hz] at hs hS
   obtain ⟨o1, n1, v1, m1, l1, a1⟩ := y
   obtain ⟨o2, n2, v2, m2, l2, a2⟩ := z
   have hg := x3 _ _ _ _ _ _ _ hx
   rw [Ex.ds_mk] at hs
   rw [Ex.av_mk, Ex.av_mk] at hS
   clear g5
   repeat' first|refine st ?_|((with_reducible first|apply k_pn|apply k_pc);(·exact hS))|(with_reducible first|apply k_d|apply k_b)<;>intro _
   exact ⟨q + 1, (B ++ [xds o2 n2 v2 m2 (ng l2 (xL a2))], false), rfl, rfl, rfl, by omega, by omega, hs, by simp⟩
  | none =>
   have hge := List.getElem?_eq_none_iff.1 hx
   rw [Mt_end hge, ← hXR] at g5
   subst g5
   subst g6
   repeat' first|refine st ?_|(with_reducible first|apply k_d|apply k_b)<;>intro _
   all_goals exact ⟨T, hT0, rfl, _, _, _, _, hfl, rfl⟩
theorem dg_tabW {os : List AO} {nm : List UInt8} {a f x : Nat} {Cs F X : List (List D)} {k : D} {cn fn xn : Bool} {cz fz xz cf ff xf : Nat}
  (h1 : os[a]? = some (.arr Cs cz cf cn)) (h3 : os[f]? = some (.arr F fz ff fn)) (h4 : os[x]? = some (.arr X xz xf xn)) :
  DG os (.agg [.d (.str nm), .arr a Cs.length, .d k, .arr f F.length, .arr x X.length]) (eT nm (slD cn Cs) k (slD fn F) (slD xn X)) := by
 refine .inr ⟨_, [.str nm, slD cn Cs, k, slD fn F, slD xn X], rfl, rfl, rfl, fun j c y hc hy => ?_⟩
 match j, hc, hy with
 | 0, hc, hy => cases hc; cases hy; exact .inl (.inl rfl)
 | 1, hc, hy => cases hc; cases hy; exact .inl (.inr ⟨a, Cs, cz, cf, cn, rfl, h1, rfl⟩)
 | 2, hc, hy => cases hc; cases hy; exact .inl (.inl rfl)
 | 3, hc, hy => cases hc; cases hy; exact .inl (.inr ⟨f, F, fz, ff, fn, rfl, h3, rfl⟩)
 | 4, hc, hy => cases hc; cases hy; exact .inl (.inr ⟨x, X, xz, xf, xn, rfl, h4, rfl⟩)
 | j + 5, hc, hy => simp at hc
theorem C.r14_without (x : TD) (h : x.ok) (i : Nat) (hi : i < x.t.cs.length) (hkb : ∀ k ∈ x.t.ks, 0 ≤ k ∧ k ≤ 1048576) (hfb : ∀ g ∈ x.t.fs, ∀ k ∈ g.cs, 0 ≤ k ∧ k ≤ 1048576) : Pure Tryz.prog N.bt_ref14_without [x.av, .d (eI i)] (x.wo i).av := by
 refine CallSpec.deepP (C.r14_withoutO x h i hi hkb hfb) ?_
 rintro r os ⟨T, hT, rfl, a, b, c, fl, hfl, rfl⟩
 subst hT
 subst hfl
 exact .inl (dg_tabW rfl rfl rfl)
end Go.Proofs
end
section
namespace Go.Proofs
open Go.Bi
abbrev chds (c : Ch) : List D := [eI c.k, .str c.nm, .str c.to, .str c.co.nm, eI c.co.k, .bool c.co.nl, eI c.df.k, eI c.df.n, .str c.df.s]
def eChs (l : List Ch) : List (List D) := l.map chds
theorem eChs_len (l : List Ch) : (eChs l).length = l.length := by simp [eChs]
theorem eChs_get {l : List Ch} {i : Nat} {c : Ch} (h : l[i]? = some c) : (eChs l)[i]? = some (chds c) := by simp [eChs, h]
theorem eChs_mem (l : List Ch) : ∀ e ∈ eChs l, e.length = 9 := by
 intro e he
 obtain ⟨x, _, rfl⟩ := List.mem_map.1 he
 rfl
def TD.run (x : TD) (i : Nat) : List Ch → TD × Nat × Int
 | [] => (x, i, 0)
 | c :: r => if evoE x.t c = 0 then TD.run (x.evo c) (i + 1) r else (zTD, i, evoE x.t c)
def TD.runs (x : TD) (l : List Ch) : TD × Nat × Int := if tabE x.t = 0 then TD.run x.cp 0 l else (zTD, 0, tabE x.t)
theorem run_drop {x : TD} {l : List Ch} {i : Nat} {c : Ch} (h : l[i]? = some c) : TD.run x i (l.drop i) = if evoE x.t c = 0 then TD.run (x.evo c) (i + 1) (l.drop (i + 1)) else (zTD, i, evoE x.t c) := by
 obtain ⟨hlt, he⟩ := List.getElem?_eq_some_iff.1 h
 rw [List.drop_eq_getElem_cons hlt, he]; rfl
theorem C.evo_Run (x : TD) (h : x.ok) (l : List Ch) (hl : l.length ≤ 1048576) (hls : ∀ c ∈ l, Cok c) (d : D) (hd : SlD d (eChs l)) :
  Pure Tryz.prog N.evolve_Run [x.av, .d d] (.tup [(x.runs l).1.av, .d (eI ((x.runs l).2.1 : Nat)), .d (eI (x.runs l).2.2)]) := by
 have hT := C.schema_Check x.t x.dc x.dk x.df x.dx h.tok
 obtain ⟨R, hR⟩ : ∃ R, R = x.runs l := ⟨_, rfl⟩
 rw [← hR]
 unfold TD.runs at hR
 have h1 := eChs_len l
 have hm := eChs_mem l
 have hg0 := fun i c => @eChs_get l i c
 obtain ⟨es, hes⟩ : ∃ es, es = eChs l := ⟨_, rfl⟩
 rw [← hes] at h1 hm hd hg0
 by_cases hq : tabE x.t = 0
 rotate_left
 ·rw [if_neg hq] at hR
  subst hR
  obtain ⟨q, hqq⟩ : ∃ q, q = tabE x.t := ⟨_, rfl⟩
  rw [← hqq] at hT hq ⊢
  refine F.evolve_Run.go mixed rfl ?_
  repeat' first|refine st ?_|((with_reducible apply go_i);conv=>whnf)|((with_reducible first|apply k_pn|apply k_pc);(·exact hT))|(with_reducible first|apply k_d|apply k_b)<;>intro _
  all_goals rfl
 ·rw [if_pos hq] at hR
  rw [hq] at hT
  have hC := C.clone_any x h (tab_vd.1 hq).fl
  have hok := TD.cp_ok h
  obtain ⟨y, hy⟩ : ∃ y, y = x.cp := ⟨_, rfl⟩
  rw [← hy] at hC hR hok
  clear hy
  obtain ⟨⟨nm, cs, ks, fs, xs⟩, dc, dk, df, dx⟩ := x
  have hC : Bi.Pure Tryz.prog N.schema_Clone [eT nm dc dk df dx] (eT y.t.nm y.dc y.dk y.df y.dx) := hC
  have hT : Bi.Pure Tryz.prog N.schema_Check [eT nm dc dk df dx] (.d (eI 0)) := hT
  refine F.evolve_Run.go mixed rfl ?_
  repeat' first|refine st ?_|((with_reducible apply go_i);conv=>whnf)|((with_reducible first|apply k_pn|apply k_pc);(·first|exact hT|exact hC))|(with_reducible first|apply k_d|apply k_b)<;>intro _
  refine x_loop2 mixed Lt.evolve_Run_l0 Lk.evolve_Run_l0 (fun (i : Nat) (w : TD) => [.d (eI i)]) (fun i w => [.cells [.d (.str nm), .d dc, .d dk, .d df, .d dx], .cells [.d (.str []), .d .nil, .d .nil, .d .nil, .d .nil], .cells [.d (.str w.t.nm), .d w.dc, .d w.dk, .d w.df, .d w.dx]]) (fun i w => i ≤ l.length ∧ w.ok ∧ R = TD.run w i (l.drop i)) (fun i w => l.length - i) 0 y rfl rfl rfl rfl (fun _ _ _ => ⟨rfl, rfl⟩) rfl ⟨by omega, hok, hR⟩ ?_
  repeat' first|refine st ?_|((with_reducible apply go_i);conv=>whnf)|(with_reducible first|apply k_d|apply k_b)<;>intro _
  intro i w ⟨h4, h5, h6⟩
  cases hx : l[i]? with
  | some c =>
   have hlt := (List.getElem?_eq_some_iff.1 hx).1
   have hcok := hls c (List.mem_of_getElem? hx)
   have hg := hg0 i c hx
   rw [run_drop hx] at h6
   by_cases he : evoE w.t c = 0
   ·rw [if_pos he] at h6
    have hA := C.evo_Apply w h5 c hcok he
    have hok2 := TD.evo_ok h5 hcok he
    obtain ⟨z, hz⟩ : ∃ z, z = w.evo c := ⟨_, rfl⟩
    rw [← hz] at hA h6 hok2
    obtain ⟨ck, cnm, to, ⟨cn, cck, cl⟩, ⟨vk, vn, vs⟩⟩ := c
    have hA : Bi.Pure Tryz.prog N.evolve_Apply [eT w.t.nm w.dc w.dk w.df w.dx, chD ck cnm to cn cck cl vk vn vs] (.tup [eT z.t.nm z.dc z.dk z.df z.dx, .d (eI 0)]) := hA
    clear hR
    repeat' first|refine st ?_|((with_reducible apply go_i);conv=>whnf)|((with_reducible first|apply k_pn|apply k_pc);(·exact hA))|(with_reducible first|apply k_d|apply k_b)<;>intro _
    exact ⟨i + 1, z, rfl, rfl, rfl, by omega, by omega, hok2, h6⟩
   ·rw [if_neg he] at h6
    have hA := C.evo_ApplyErr w h5 c hcok he
    subst h6
    obtain ⟨q, hqq⟩ : ∃ q, q = evoE w.t c := ⟨_, rfl⟩
    rw [← hqq] at hA he ⊢
    obtain ⟨ck, cnm, to, ⟨cn, cck, cl⟩, ⟨vk, vn, vs⟩⟩ := c
    have hA : Bi.Pure Tryz.prog N.evolve_Apply [eT w.t.nm w.dc w.dk w.df w.dx, chD ck cnm to cn cck cl vk vn vs] (.tup [eT [] .nil .nil .nil .nil, .d (eI q)]) := hA
    clear hR
    repeat' first|refine st ?_|((with_reducible apply go_i);conv=>whnf)|((with_reducible first|apply k_pn|apply k_pc);(·exact hA))|(with_reducible first|apply k_d|apply k_b)<;>intro _
    all_goals rfl
  | none =>
   have hge := List.getElem?_eq_none_iff.1 hx
   rw [List.drop_of_length_le hge] at h6
   have hil : i = l.length := by omega
   subst h6
   clear hR
   repeat' first|refine st ?_|((with_reducible apply go_i);conv=>whnf)|(with_reducible first|apply k_d|apply k_b)<;>intro _
   all_goals (first | rfl | (simp only [TD.run, hil, h1]; done) | (rw [h1, ← hil]; rfl))
end Go.Proofs
end
section
namespace Go.Proofs
open Go.Bi
def smT : Tb := ⟨[116], [⟨[97], 1, false⟩, ⟨[98], 2, true⟩], [0], [], []⟩
def smU : Tb := ⟨[116], [⟨[98], 2, false⟩, ⟨[97], 1, false⟩, ⟨[99], 1, false⟩], [1], [], []⟩
def ch1 : Ch := ⟨1, [], [], ⟨[99], 1, true⟩, ⟨1, 7, []⟩⟩
def ch2 : Ch := ⟨2, [98], [], ⟨[], 0, false⟩, ⟨0, 0, []⟩⟩
def ch3 : Ch := ⟨2, [97], [], ⟨[], 0, false⟩, ⟨0, 0, []⟩⟩
def ch4 : Ch := ⟨2, [99], [], ⟨[], 0, false⟩, ⟨0, 0, []⟩⟩
theorem smT_ok : Tok smT (.sl (eCs smT.cs)) (.sl (eIs smT.ks)) .nil .nil :=
 ⟨by decide, by decide, by decide, by decide, by decide, fun f hf => by simp [smT] at hf, by decide, fun e he => by simp [smT] at he, sld_sl, sld_sl, sld_nil, sld_nil⟩
theorem smU_ok : Tok smU (.sl (eCs smU.cs)) (.sl (eIs smU.ks)) .nil .nil :=
 ⟨by decide, by decide, by decide, by decide, by decide, fun f hf => by simp [smU] at hf, by decide, fun e he => by simp [smU] at he, sld_sl, sld_sl, sld_nil, sld_nil⟩
theorem ch_ok : Cok ch1 ∧ Cok ch2 ∧ Cok ch3 ∧ Cok ch4 := ⟨⟨by decide, by decide, by decide, by decide⟩, ⟨by decide, by decide, by decide, by decide⟩, ⟨by decide, by decide, by decide, by decide⟩, ⟨by decide, by decide, by decide, by decide⟩⟩
theorem evo1 : evoE smT ch1 = 0 := by kernel_rfl
theorem evo2 : evoE smU ch2 = 0 := by kernel_rfl
theorem evo3 : evoE smT ch3 = 25 := by kernel_rfl
theorem evo4 : evoE smT ch4 = 11 := by kernel_rfl
theorem C.law14_sample : Pure Tryz.prog N.bt_law14_sample [] (eT smT.nm (.sl (eCs smT.cs)) (.sl (eIs smT.ks)) .nil .nil) := by
 refine F.bt_law14_sample.go mixed rfl ?_
 repeat' first|refine st ?_|(with_reducible first|apply k_d|apply k_b)<;>intro _
 all_goals rfl
theorem C.law14_awake : Pure Tryz.prog N.bt_law14_awake [] (.d (.bool true)) := by
 have hS := C.law14_sample
 have hI : Bi.Pure Tryz.prog N.bt_ref07_Int [.d (eI 7)] (eV ⟨1, 7, []⟩) := C.r7_Int 7
 have hA := C.evo_Apply ⟨smT, .sl (eCs smT.cs), .sl (eIs smT.ks), .nil, .nil⟩ ⟨smT_ok, fun e he => by simp [smT] at he⟩ ch1 ch_ok.1 evo1
 have hB := C.evo_Apply ⟨smU, .sl (eCs smU.cs), .sl (eIs smU.ks), .nil, .nil⟩ ⟨smU_ok, fun e he => by simp [smU] at he⟩ ch2 ch_ok.2.1 evo2
 rw [show TD.evo ⟨smT, .sl (eCs smT.cs), .sl (eIs smT.ks), .nil, .nil⟩ ch1 = ⟨⟨[116], smT.cs ++ [ch1.co], [0], [], []⟩, .sl (eCs (smT.cs ++ [ch1.co])), .sl [[eI 0]], .nil, .nil⟩ by kernel_rfl] at hA
 rw [show TD.evo ⟨smU, .sl (eCs smU.cs), .sl (eIs smU.ks), .nil, .nil⟩ ch2 = ⟨⟨[116], [⟨[97], 1, false⟩, ⟨[99], 1, false⟩], [0], [], []⟩, .sl (eCs [⟨[97], 1, false⟩, ⟨[99], 1, false⟩]), .sl [[eI 0]], .nil, .nil⟩ by kernel_rfl] at hB
 have hC := C.evolve_Check smT _ _ _ _ smT_ok ch3 ch_ok.2.2.1
 have hD := C.evolve_Check smT _ _ _ _ smT_ok ch4 ch_ok.2.2.2
 rw [evo3] at hC
 rw [evo4] at hD
 refine F.bt_law14_awake.go mixed rfl ?_
 repeat' first|refine st ?_|((with_reducible first|apply k_pn|apply k_pc);(·first|exact hS|exact hI|exact hA|exact hB|exact hC|exact hD))|(with_reducible first|apply k_d|apply k_b)<;>intro _
 all_goals rfl
end Go.Proofs
end
section
namespace Go.Proofs
open Go.Bi
theorem r14_err (x : TD) (h : x.ok) (c : Ch) (hc : Cok c) (hq : evoE x.t c ≠ 0) : Pure Tryz.prog N.bt_ref14_Apply [x.av, c.av] (.tup [zTD.av, .d (eI (evoE x.t c))]) := by
 have hC := C.r14_Check x.t x.dc x.dk x.df x.dx h.tok c hc
 obtain ⟨q, hqq⟩ : ∃ q, q = evoE x.t c := ⟨_, rfl⟩
 rw [← hqq] at hC hq ⊢
 obtain ⟨⟨nm, cs, ks, fs, xs⟩, dc, dk, df, dx⟩ := x
 obtain ⟨k, cnm, to, ⟨cn, ck, cl⟩, ⟨vk, vn, vs⟩⟩ := c
 refine F.bt_ref14_Apply.go mixed rfl ?_
 repeat' first|refine st ?_|((with_reducible first|apply k_pn|apply k_pc);(·exact hC))|(with_reducible first|apply k_d|apply k_b)<;>intro _
 all_goals rfl
def TD.evoR (x : TD) (c : Ch) : TD :=
 if c.k = 2 then x.wo (findC c.nm x.t.cs).toNat
 else ⟨⟨x.t.nm, (evoT x.t c).cs, x.t.ks, x.t.fs.map nfF, x.t.xs.map cpX⟩, .sl (eCs (evoT x.t c).cs), eD (eIs x.t.ks), eD (F0 x.t.fs), eD (xL (x.t.xs.map cpX))⟩
theorem nf_evoR {x : TD} {c : Ch} (hk : 1 ≤ c.k ∧ c.k ≤ 4) : nf (x.evoR c).t = nf (evoT x.t c) := by
 have e1 : (x.t.fs.map nfF).map nfF = x.t.fs.map nfF := by rw [List.map_map]; rfl
 have e3 (i : Nat) : ((x.t.fs.map (blF i)).map nfF).map nfF = (x.t.fs.map (blF i)).map nfF := by rw [List.map_map, List.map_map, List.map_map]; rfl
 unfold TD.evoR
 by_cases k2 : c.k = 2
 ·rw [if_pos k2]
  unfold evoT
  rw [if_neg (by omega), if_pos k2]
  unfold TD.wo nf
  dsimp only
  rw [e3]
 ·rw [if_neg k2]
  unfold evoT
  rw [if_neg k2]
  by_cases k1 : c.k = 1
  ·rw [if_pos k1]; unfold nf; dsimp only; rw [e1]
  ·rw [if_neg k1]
   by_cases k3 : c.k = 3
   ·rw [if_pos k3]; unfold nf; dsimp only; rw [e1]
   ·rw [if_neg k3]; unfold nf; dsimp only; rw [e1]
theorem TD.evoR_ok {x : TD} (h : x.ok) {c : Ch} (hc : Cok c) (hq : evoE x.t c = 0) : (x.evoR c).ok := by
 obtain ⟨q1, q2, _⟩ := evo_inv hq
 have h1 := TD.evo_ok h hc hq
 have h2 := TD.cpR_ok h
 unfold TD.evoR
 by_cases k2 : c.k = 2
 ·rw [if_pos k2]
  have e : evoT x.t c = ⟨x.t.nm, x.t.cs.eraseIdx (findC c.nm x.t.cs).toNat, x.t.ks.map (fun y => belowI y (findC c.nm x.t.cs).toNat), x.t.fs.map (blF (findC c.nm x.t.cs).toNat), x.t.xs.map (dnX (findC c.nm x.t.cs).toNat)⟩ := by unfold evoT; rw [if_neg (by omega), if_pos k2]
  obtain ⟨⟨a1, a2, a3, a4, a5, a6, a7, a8, a9, a10, a11, a12⟩, hr⟩ := h1
  have hr : (evoT x.t c).Rg := hr
  have a2 : (evoT x.t c).cs.length ≤ 1048576 := a2
  have a3 : ∀ c' ∈ (evoT x.t c).cs, c'.nm.length ≤ 1048576 := a3
  have a4 : (evoT x.t c).ks.length ≤ 1048576 := a4
  have a5 : (evoT x.t c).fs.length ≤ 1048576 := a5
  have a6 : ∀ f ∈ (evoT x.t c).fs, f.cs.length ≤ 1048576 ∧ f.tb.length ≤ 1048576 := a6
  have a7 : (evoT x.t c).xs.length ≤ 1048576 := a7
  have a8 : ∀ e ∈ (evoT x.t c).xs, e.bk ≤ 1048576 := a8
  rw [e] at hr a2 a3 a4 a5 a6 a7 a8
  refine ⟨⟨h.tok.hn, a2, a3, a4, ?_, fun f hf => ?_, a7, a8, eD_sld _, sld_sl, eD_sld _, eD_sld _⟩, hr⟩
  ·show ((x.t.fs.map _).map nfF).length ≤ _
   rw [List.length_map]; exact a5
  ·obtain ⟨g, hg, rfl⟩ := List.mem_map.1 hf
   exact a6 g hg
 ·rw [if_neg k2]
  exact ⟨⟨h.tok.hn, h1.tok.hl, h1.tok.hls, h.tok.hk, h2.tok.hfl, h2.tok.hfc, h2.tok.hxs, h2.tok.hxb, sld_sl, eD_sld _, eD_sld _, eD_sld _⟩, h2.rg⟩
theorem C.r14_Apply (x : TD) (h : x.ok) (c : Ch) (hc : Cok c) (hq : evoE x.t c = 0) : Pure Tryz.prog N.bt_ref14_Apply [x.av, c.av] (.tup [(x.evoR c).av, .d (eI 0)]) := by
 obtain ⟨q1, q2, q3, q4, q5⟩ := evo_inv hq
 have hv := tab_vd.1 q1
 have hC := C.r14_Check x.t x.dc x.dk x.df x.dx h.tok c hc
 rw [hq] at hC
 have hF := C.r13_Find x.t.nm x.t.cs h.tok.hl x.dc x.dk x.df x.dx h.tok.dc c.nm
 have hne : (eCs x.t.cs).isEmpty = false := by
  have := hv.l1
  cases hcs : x.t.cs with
  | nil => rw [hcs] at this; simp at this
  | cons a l => rfl
 have hl := hv.l2
 have hcl := eCs_len x.t.cs
 have hcm := eCs_mem x.t.cs
 by_cases k2 : c.k = 2
 ·obtain ⟨i, co, hi, hco, hcn, hus, _, _⟩ := chg_inv (q5 (by omega))
  have hil := (List.getElem?_eq_some_iff.1 hco).1
  have hR := C.r13_Clone x h
  have hW := C.r14_without x h i hil (fun k hk => by have := hv.ks k hk; omega) (fun g hg k hk => by have := (hv.fs g hg).2.2.1 k hk; omega)
  have e : x.evoR c = x.wo i := by unfold TD.evoR; rw [if_pos k2, hi]; rfl
  rw [e]
  rw [hi] at hF
  obtain ⟨y, hy⟩ : ∃ y, y = x.wo i := ⟨_, rfl⟩
  obtain ⟨z, hz⟩ : ∃ y, y = x.cpR := ⟨_, rfl⟩
  rw [← hy] at hW ⊢
  rw [← hz] at hR
  clear hy hz hcl hcm hne
  obtain ⟨⟨nm, cs, ks, fs, xs⟩, dc, dk, df, dx⟩ := x
  obtain ⟨k, cnm, to, ⟨cn, ck, cl⟩, ⟨vk, vn, vs⟩⟩ := c
  dsimp only at k2
  subst k2
  have hR : Bi.Pure Tryz.prog N.bt_ref13_Clone [eT nm dc dk df dx] (eT z.t.nm z.dc z.dk z.df z.dx) := hR
  have hW : Bi.Pure Tryz.prog N.bt_ref14_without [eT nm dc dk df dx, .d (eI i)] (eT y.t.nm y.dc y.dk y.df y.dx) := hW
  have hF : Bi.Pure Tryz.prog N.bt_ref13_Find [eT nm dc dk df dx, .d (.str cnm)] (.d (eI i)) := hF
  refine F.bt_ref14_Apply.go mixed rfl ?_
  repeat' first|refine st ?_|((with_reducible first|apply k_pn|apply k_pc);(·first|exact hC|exact hR|exact hF|exact hW))|(with_reducible first|apply k_d|apply k_b)<;>intro _
  all_goals rfl
 ·have e : x.evoR c = ⟨⟨x.t.nm, (evoT x.t c).cs, x.t.ks, x.t.fs.map nfF, x.t.xs.map cpX⟩, .sl (eCs (evoT x.t c).cs), eD (eIs x.t.ks), eD (F0 x.t.fs), eD (xL (x.t.xs.map cpX))⟩ := by unfold TD.evoR; rw [if_neg k2]
  rw [e]
  have hR := C.r13_CloneO x h
  rw [hne] at hR
  by_cases k1 : c.k = 1
  ·have e2 : (evoT x.t c).cs = x.t.cs ++ [c.co] := by unfold evoT; rw [if_pos k1]
   have e3 : eCs (x.t.cs ++ [c.co]) = eCs x.t.cs ++ [c.co.ds] := by simp [eCs]
   unfold TD.av
   dsimp only
   rw [e2, e3]
   obtain ⟨f, hf⟩ : ∃ f, f = findC c.nm x.t.cs := ⟨_, rfl⟩
   rw [← hf] at hF
   generalize eCs x.t.cs = Cs at hR hcl hcm ⊢
   generalize eIs x.t.ks = Ks at hR ⊢
   generalize F0 x.t.fs = Fs at hR ⊢
   generalize xL (x.t.xs.map cpX) = Xs at hR ⊢
   obtain ⟨⟨nm, cs, ks, fs, xs⟩, dc, dk, df, dx⟩ := x
   obtain ⟨k, cnm, to, ⟨cn, ck, cl⟩, ⟨vk, vn, vs⟩⟩ := c
   dsimp only at k1 hF hcl hl
   subst k1
   refine CallSpec.deepP (Q := fun r os => r = .tup [.agg [.d (.str nm), .arr 6 (Cs ++ [[.str cn, eI ck, .bool cl]]).length, .arr 7 Ks.length, .arr 8 Fs.length, .arr 9 Xs.length], .d (eI 0)] ∧ os[6]? = some (.arr (Cs ++ [[.str cn, eI ck, .bool cl]]) 3 0 false) ∧ os[7]? = some (.arr Ks 1 0 Ks.isEmpty) ∧ os[8]? = some (.arr Fs 2 0 Fs.isEmpty) ∧ os[9]? = some (.arr Xs 7 0 Xs.isEmpty)) ?_ ?_
   ·refine F.bt_ref14_Apply.goO2 mixed rfl ?_
    repeat' first|refine st ?_|((with_reducible apply k_nc);  (· exact hR);  (rintro _ _ ⟨rfl, a, b, c, rfl⟩))|((with_reducible first|apply k_pn|apply k_pc);(·first|exact hC|exact hF))|(with_reducible first|apply k_d|apply k_b)<;>intro _
    exact ⟨rfl, rfl, rfl, rfl, rfl⟩
   ·rintro r os ⟨rfl, h1, h2, h3, h4⟩
    refine .inr ⟨_, [_, .d (eI 0)], rfl, rfl, rfl, fun j c x hc hx => ?_⟩
    match j, hc, hx with
    | 0, hc, hx => cases hc; cases hx; exact dg_tabA h1 h2 h3 h4
    | 1, hc, hx => cases hc; cases hx; exact .inl ⟨eI 0, .inl (.inl rfl), rfl⟩
    | j + 2, hc, hx => simp at hc
  ·obtain ⟨i, co, hi, hco, hcn, hus, _, _⟩ := chg_inv (q5 (by omega))
   have hil := (List.getElem?_eq_some_iff.1 hco).1
   have hiN : (findC c.nm x.t.cs).toNat = i := by omega
   have hgd : x.t.cs.getD i ⟨[], 0, false⟩ = co := by rw [List.getD_eq_getElem?_getD, hco]; rfl
   rw [hi] at hF
   have hg : (eCs x.t.cs)[((i : Nat) : Int).toNat]? = some [.str co.nm, eI co.k, .bool co.nl] := eCs_get hco
   have hg2 : (eCs x.t.cs)[i]? = some [.str co.nm, eI co.k, .bool co.nl] := eCs_get hco
   have hilt : i < (eCs x.t.cs).length := by rw [hcl]; exact hil
   have key : ∃ N : Co, (evoT x.t c).cs = x.t.cs.set i N ∧ ((c.k = 3 ∧ N = ⟨c.to, co.k, co.nl⟩) ∨ (c.k = 4 ∧ N = ⟨co.nm, 2, co.nl⟩)) := by
    by_cases k3 : c.k = 3
    ·exact ⟨⟨c.to, co.k, co.nl⟩, by unfold evoT; rw [if_neg k1, if_neg k2, if_pos k3, hiN, hgd], .inl ⟨k3, rfl⟩⟩
    ·exact ⟨⟨co.nm, 2, co.nl⟩, by unfold evoT; rw [if_neg k1, if_neg k2, if_neg k3, hiN, hgd], .inr ⟨by omega, rfl⟩⟩
   obtain ⟨N, e2, e4⟩ := key
   have e3 : eCs (x.t.cs.set i N) = (eCs x.t.cs).set i N.ds := by unfold eCs; rw [List.map_set]
   unfold TD.av
   dsimp only
   rw [e2, e3]
   generalize eCs x.t.cs = Cs at hR hcl hcm hg hg2 hilt ⊢
   generalize eIs x.t.ks = Ks at hR ⊢
   generalize F0 x.t.fs = Fs at hR ⊢
   generalize xL (x.t.xs.map cpX) = Xs at hR ⊢
   obtain ⟨⟨nm, cs, ks, fs, xs⟩, dc, dk, df, dx⟩ := x
   obtain ⟨k, cnm, to, ⟨cn, ck, cl⟩, ⟨vk, vn, vs⟩⟩ := c
   dsimp only at hF hcl hl e4
   refine CallSpec.deepP (Q := fun r os => r = .tup [.agg [.d (.str nm), .arr 6 (Cs.set i N.ds).length, .arr 7 Ks.length, .arr 8 Fs.length, .arr 9 Xs.length], .d (eI 0)] ∧ os[6]? = some (.arr (Cs.set i N.ds) 3 0 false) ∧ os[7]? = some (.arr Ks 1 0 Ks.isEmpty) ∧ os[8]? = some (.arr Fs 2 0 Fs.isEmpty) ∧ os[9]? = some (.arr Xs 7 0 Xs.isEmpty)) ?_ ?_
   ·rw [List.length_set]
    rcases e4 with ⟨k3, rfl⟩ | ⟨k4, rfl⟩
    ·subst k3
     refine F.bt_ref14_Apply.goO2 mixed rfl ?_
     repeat' first|refine st ?_|((with_reducible apply k_nc);  (· exact hR);  (rintro _ _ ⟨rfl, a, b, c, rfl⟩))|((with_reducible first|apply k_pn|apply k_pc);(·first|exact hC|exact hF))|(with_reducible first|apply k_d|apply k_b)<;>intro _
     exact ⟨rfl, rfl, rfl, rfl, rfl⟩
    ·subst k4
     refine F.bt_ref14_Apply.goO2 mixed rfl ?_
     repeat' first|refine st ?_|((with_reducible apply k_nc);  (· exact hR);  (rintro _ _ ⟨rfl, a, b, c, rfl⟩))|((with_reducible first|apply k_pn|apply k_pc);(·first|exact hC|exact hF))|(with_reducible first|apply k_d|apply k_b)<;>intro _
     exact ⟨rfl, rfl, rfl, rfl, rfl⟩
   ·rintro r os ⟨rfl, h1, h2, h3, h4⟩
    refine .inr ⟨_, [_, .d (eI 0)], rfl, rfl, rfl, fun j c x hc hx => ?_⟩
    match j, hc, hx with
    | 0, hc, hx => cases hc; cases hx; exact dg_tabA h1 h2 h3 h4
    | 1, hc, hx => cases hc; cases hx; exact .inl ⟨eI 0, .inl (.inl rfl), rfl⟩
    | j + 2, hc, hx => simp at hc
end Go.Proofs
end
section
namespace Go.Proofs
open Go.Bi
def TD.runR (x : TD) (i : Nat) : List Ch → TD × Nat × Int
 | [] => (x, i, 0)
 | c :: r => if evoE x.t c = 0 then TD.runR (x.evoR c) (i + 1) r else (zTD, i, evoE x.t c)
def TD.runsR (x : TD) (l : List Ch) : TD × Nat × Int := if tabE x.t = 0 then TD.runR x.cpR 0 l else (zTD, 0, tabE x.t)
theorem runR_drop {x : TD} {l : List Ch} {i : Nat} {c : Ch} (h : l[i]? = some c) : TD.runR x i (l.drop i) = if evoE x.t c = 0 then TD.runR (x.evoR c) (i + 1) (l.drop (i + 1)) else (zTD, i, evoE x.t c) := by
 obtain ⟨hlt, he⟩ := List.getElem?_eq_some_iff.1 h
 rw [List.drop_eq_getElem_cons hlt, he]; rfl
theorem runR_nf : ∀ (l : List Ch) (x y : TD) (i : Nat), nf x.t = nf y.t → (TD.run x i l).2 = (TD.runR y i l).2 ∧ nf (TD.run x i l).1.t = nf (TD.runR y i l).1.t
 | [], x, y, i, h => ⟨rfl, h⟩
 | c :: r, x, y, i, h => by
  have h1 : evoE x.t c = evoE y.t c := by rw [← evoE_nf, h, evoE_nf]
  by_cases hq : evoE x.t c = 0
  ·have e1 : TD.run x i (c :: r) = TD.run (x.evo c) (i + 1) r := by rw [TD.run, if_pos hq]
   have e2 : TD.runR y i (c :: r) = TD.runR (y.evoR c) (i + 1) r := by rw [TD.runR, if_pos (by rw [← h1]; exact hq)]
   rw [e1, e2]
   refine runR_nf r (x.evo c) (y.evoR c) (i + 1) ?_
   rw [nf_evoR (evo_inv hq).2.1, ← nf_evo y.t, ← h, nf_evo]
   rfl
  ·have e1 : TD.run x i (c :: r) = (zTD, i, evoE x.t c) := by rw [TD.run, if_neg hq]
   have e2 : TD.runR y i (c :: r) = (zTD, i, evoE y.t c) := by rw [TD.runR, if_neg (by rw [← h1]; exact hq)]
   rw [e1, e2, h1]
   exact ⟨rfl, rfl⟩
theorem runsR_nf (x : TD) (l : List Ch) : (x.runs l).2 = (x.runsR l).2 ∧ nf (x.runs l).1.t = nf (x.runsR l).1.t := by
 unfold TD.runs TD.runsR
 by_cases hq : tabE x.t = 0
 ·rw [if_pos hq, if_pos hq]
  exact runR_nf l x.cp x.cpR 0 (by rw [nf_cp, nf_cpR])
 ·rw [if_neg hq, if_neg hq]
  exact ⟨rfl, rfl⟩
theorem runR_ok : ∀ (l : List Ch) (x : TD) (i : Nat), x.ok → (∀ c ∈ l, Cok c) → (TD.runR x i l).1.ok
 | [], x, i, h, _ => h
 | c :: r, x, i, h, hc => by
  unfold TD.runR
  split
  ·rename_i hq
   exact runR_ok r _ _ (TD.evoR_ok h (hc c (by simp)) hq) fun d hd => hc d (by simp [hd])
  ·exact zTD_ok
theorem runsR_ok {x : TD} {l : List Ch} (h : x.ok) (hc : ∀ c ∈ l, Cok c) : (x.runsR l).1.ok := by
 unfold TD.runsR
 split
 ·exact runR_ok l _ _ (TD.cpR_ok h) hc
 ·exact zTD_ok
theorem run_ok' : ∀ (l : List Ch) (x : TD) (i : Nat), x.ok → (∀ c ∈ l, Cok c) → (TD.run x i l).1.ok
 | [], x, i, h, _ => h
 | c :: r, x, i, h, hc => by
  unfold TD.run
  split
  ·rename_i hq
   exact run_ok' r _ _ (TD.evo_ok h (hc c (by simp)) hq) fun d hd => hc d (by simp [hd])
  ·exact zTD_ok
theorem runs_ok' {x : TD} {l : List Ch} (h : x.ok) (hc : ∀ c ∈ l, Cok c) : (x.runs l).1.ok := by
 unfold TD.runs
 split
 ·exact run_ok' l _ _ (TD.cp_ok h) hc
 ·exact zTD_ok
theorem C.r14_Run (x : TD) (h : x.ok) (l : List Ch) (hl : l.length ≤ 1048576) (hls : ∀ c ∈ l, Cok c) (d : D) (hd : SlD d (eChs l)) :
  Pure Tryz.prog N.bt_ref14_Run [x.av, .d d] (.tup [(x.runsR l).1.av, .d (eI ((x.runsR l).2.1 : Nat)), .d (eI (x.runsR l).2.2)]) := by
 have hT := C.r13_Check x.t x.dc x.dk x.df x.dx h.tok
 obtain ⟨R, hR⟩ : ∃ R, R = x.runsR l := ⟨_, rfl⟩
 rw [← hR]
 unfold TD.runsR at hR
 have h1 := eChs_len l
 have hm := eChs_mem l
 have hg0 := fun i c => @eChs_get l i c
 obtain ⟨es, hes⟩ : ∃ es, es = eChs l := ⟨_, rfl⟩
 rw [← hes] at h1 hm hd hg0
 by_cases hq : tabE x.t = 0
 rotate_left
 ·rw [if_neg hq] at hR
  subst hR
  obtain ⟨q, hqq⟩ : ∃ q, q = tabE x.t := ⟨_, rfl⟩
  rw [← hqq] at hT hq ⊢
  refine F.bt_ref14_Run.go mixed rfl ?_
  repeat' first|refine st ?_|((with_reducible apply go_i);conv=>whnf)|((with_reducible first|apply k_pn|apply k_pc);(·exact hT))|(with_reducible first|apply k_d|apply k_b)<;>intro _
  all_goals rfl
 ·rw [if_pos hq] at hR
  rw [hq] at hT
  have hC := C.r13_Clone x h
  have hok := TD.cpR_ok h
  obtain ⟨y, hy⟩ : ∃ y, y = x.cpR := ⟨_, rfl⟩
  rw [← hy] at hC hR hok
  clear hy
  obtain ⟨⟨nm, cs, ks, fs, xs⟩, dc, dk, df, dx⟩ := x
  have hC : Bi.Pure Tryz.prog N.bt_ref13_Clone [eT nm dc dk df dx] (eT y.t.nm y.dc y.dk y.df y.dx) := hC
  have hT : Bi.Pure Tryz.prog N.bt_ref13_Check [eT nm dc dk df dx] (.d (eI 0)) := hT
  refine F.bt_ref14_Run.go mixed rfl ?_
  repeat' first|refine st ?_|((with_reducible apply go_i);conv=>whnf)|((with_reducible first|apply k_pn|apply k_pc);(·first|exact hT|exact hC))|(with_reducible first|apply k_d|apply k_b)<;>intro _
  refine x_loop2 mixed Lt.bt_ref14_Run_l0 Lk.bt_ref14_Run_l0 (fun (i : Nat) (w : TD) => [.d (eI i)]) (fun i w => [.cells [.d (.str nm), .d dc, .d dk, .d df, .d dx], .cells [.d (.str []), .d .nil, .d .nil, .d .nil, .d .nil], .cells [.d (.str w.t.nm), .d w.dc, .d w.dk, .d w.df, .d w.dx]]) (fun i w => i ≤ l.length ∧ w.ok ∧ R = TD.runR w i (l.drop i)) (fun i w => l.length - i) 0 y rfl rfl rfl rfl (fun _ _ _ => ⟨rfl, rfl⟩) rfl ⟨by omega, hok, hR⟩ ?_
  repeat' first|refine st ?_|((with_reducible apply go_i);conv=>whnf)|(with_reducible first|apply k_d|apply k_b)<;>intro _
  intro i w ⟨h4, h5, h6⟩
  cases hx : l[i]? with
  | some c =>
   have hlt := (List.getElem?_eq_some_iff.1 hx).1
   have hcok := hls c (List.mem_of_getElem? hx)
   have hg := hg0 i c hx
   rw [runR_drop hx] at h6
   by_cases he : evoE w.t c = 0
   ·rw [if_pos he] at h6
    have hA := C.r14_Apply w h5 c hcok he
    have hok2 := TD.evoR_ok h5 hcok he
    obtain ⟨z, hz⟩ : ∃ z, z = w.evoR c := ⟨_, rfl⟩
    rw [← hz] at hA h6 hok2
    obtain ⟨ck, cnm, to, ⟨cn, cck, cl⟩, ⟨vk, vn, vs⟩⟩ := c
    have hA : Bi.Pure Tryz.prog N.bt_ref14_Apply [eT w.t.nm w.dc w.dk w.df w.dx, chD ck cnm to cn cck cl vk vn vs] (.tup [eT z.t.nm z.dc z.dk z.df z.dx, .d (eI 0)]) := hA
    clear hR
    repeat' first|refine st ?_|((with_reducible apply go_i);conv=>whnf)|((with_reducible first|apply k_pn|apply k_pc);(·exact hA))|(with_reducible first|apply k_d|apply k_b)<;>intro _
    exact ⟨i + 1, z, rfl, rfl, rfl, by omega, by omega, hok2, h6⟩
   ·rw [if_neg he] at h6
    have hA := r14_err w h5 c hcok he
    subst h6
    obtain ⟨q, hqq⟩ : ∃ q, q = evoE w.t c := ⟨_, rfl⟩
    rw [← hqq] at hA he ⊢
    obtain ⟨ck, cnm, to, ⟨cn, cck, cl⟩, ⟨vk, vn, vs⟩⟩ := c
    have hA : Bi.Pure Tryz.prog N.bt_ref14_Apply [eT w.t.nm w.dc w.dk w.df w.dx, chD ck cnm to cn cck cl vk vn vs] (.tup [eT [] .nil .nil .nil .nil, .d (eI q)]) := hA
    clear hR
    repeat' first|refine st ?_|((with_reducible apply go_i);conv=>whnf)|((with_reducible first|apply k_pn|apply k_pc);(·exact hA))|(with_reducible first|apply k_d|apply k_b)<;>intro _
    all_goals rfl
  | none =>
   have hge := List.getElem?_eq_none_iff.1 hx
   rw [List.drop_of_length_le hge] at h6
   have hil : i = l.length := by omega
   subst h6
   clear hR
   repeat' first|refine st ?_|((with_reducible apply go_i);conv=>whnf)|(with_reducible first|apply k_d|apply k_b)<;>intro _
   all_goals (first | rfl | (simp only [TD.runR, hil, h1]; done) | (rw [h1, ← hil]; rfl))
theorem L.EvolveRuns (x : TD) (h : x.ok) (l : List Ch) (hl : l.length ≤ 1048576) (hls : ∀ c ∈ l, Cok c) (d : D) (hd : SlD d (eChs l)) : Pure Tryz.prog N.bt_law14_EvolveRuns [x.av, .d d] (.d (.bool true)) := by
 have hA := C.evo_Run x h l hl hls d hd
 have hB := C.r14_Run x h l hl hls d hd
 have hn := runsR_nf x l
 have hS := C.r13_Same _ _ _ _ _ _ _ _ _ _ (runs_ok' h hls).tok (runsR_ok h hls).tok hn.2
 have h2 := hn.1
 clear hn
 obtain ⟨⟨y1, n1, e1⟩, hy1⟩ : ∃ z, z = x.runs l := ⟨_, rfl⟩
 obtain ⟨⟨y2, n2, e2⟩, hy2⟩ : ∃ z, z = x.runsR l := ⟨_, rfl⟩
 rw [← hy1] at hA hS h2
 rw [← hy2] at hB hS h2
 dsimp only at h2
 injection h2 with h3 h4
 subst h3; subst h4
 have hA : Bi.Pure Tryz.prog N.evolve_Run [x.av, .d d] (.tup [eT y1.t.nm y1.dc y1.dk y1.df y1.dx, .d (eI n1), .d (eI e1)]) := hA
 have hB : Bi.Pure Tryz.prog N.bt_ref14_Run [x.av, .d d] (.tup [eT y2.t.nm y2.dc y2.dk y2.df y2.dx, .d (eI n1), .d (eI e1)]) := hB
 have r1 : e1 = e1 := rfl
 have r2 : (n1 : Int) = n1 := rfl
 clear hd
 obtain ⟨⟨nm, cs, ks, fs, xs⟩, dc, dk, df, dx⟩ := x
 refine F.bt_law14_EvolveRuns.go mixed rfl ?_
 repeat' first|refine st ?_|((with_reducible apply go_i);conv=>whnf)|((with_reducible first|apply k_pn|apply k_pc);(·first|exact hA|exact hB|exact hS|exact C.law14_awake))|(with_reducible first|apply k_d|apply k_b)<;>intro _
 all_goals first | rfl | (exfalso; simp_all; done)
end Go.Proofs
end
section
namespace Go.Proofs
open Go.Bi
abbrev T.co : TypeId := 29
abbrev T.cos : TypeId := 22
abbrev T.fo : TypeId := 56
abbrev T.fos : TypeId := 24
abbrev T.tb : TypeId := 27
theorem cells_co : Tryz.prog.cellsOf T.co = 3 := by kernel_rfl
theorem cells_cos : Tryz.prog.cellsOf T.cos = 1 := by kernel_rfl
theorem cells_ints : Tryz.prog.cellsOf T.ints = 1 := by kernel_rfl
theorem cells_fo : Tryz.prog.cellsOf T.fo = 2 := by kernel_rfl
theorem cells_fos : Tryz.prog.cellsOf T.fos = 1 := by kernel_rfl
theorem cells_tb : Tryz.prog.cellsOf T.tb = 5 := by kernel_rfl
theorem wt_co {ds : List D} (h : WT Tryz.prog T.co ds) : ∃ c : Co, ds = c.ds := by
 obtain ⟨hl, hf⟩ := h.st' Tryz.underlying29
 rw [cells_co] at hl
 match ds, hl with
 | [x, y, z], _ =>
  have h0 := hf _ (List.mem_cons_self ..)
  have h1 := hf _ (List.mem_cons_of_mem _ (List.mem_cons_self ..))
  have h2 := hf _ (List.mem_cons_of_mem _ (List.mem_cons_of_mem _ (List.mem_cons_self ..)))
  dsimp only at h0 h1 h2
  rw [cells_str] at h0
  rw [cells_int] at h1
  rw [cells_bool] at h2
  obtain ⟨a, ha⟩ := wt_str h0
  obtain ⟨b, hb⟩ := wt_int h1
  obtain ⟨s, hs⟩ := wt_bool h2
  simp at ha hb hs
  exact ⟨⟨a, b, s⟩, by rw [ha, hb, hs]⟩
theorem wt_cos {ds : List D} (h : WT Tryz.prog T.cos ds) : ∃ d l, ds = [d] ∧ SlD d (eCs l) := by
 obtain ⟨d, es, h1, h2, h4, h3⟩ := h.sl' Tryz.underlying22
 have : ∃ l, es = eCs l := by
  clear h1 h2 h4
  induction es with
  | nil => exact ⟨[], rfl⟩
  | cons x es ih =>
   obtain ⟨n, hn⟩ := wt_co (h3 x (by simp))
   obtain ⟨ks, hk⟩ := ih fun y hy => h3 y (by simp [hy])
   exact ⟨n :: ks, by rw [hn, hk]; rfl⟩
 obtain ⟨ks, rfl⟩ := this
 exact ⟨d, ks, h1, h2⟩
theorem wt_fo {ds : List D} (h : WT Tryz.prog T.fo ds) : ∃ f : Fo, ds = f.ds := by
 obtain ⟨hl, hf⟩ := h.st' Tryz.underlying56
 rw [cells_fo] at hl
 match ds, hl with
 | [x, y], _ =>
  have h0 := hf _ (List.mem_cons_self ..)
  have h1 := hf _ (List.mem_cons_of_mem _ (List.mem_cons_self ..))
  dsimp only at h0 h1
  rw [cells_ints] at h0
  rw [cells_str] at h1
  obtain ⟨d, ks, ha, hd⟩ := wt_ints h0
  obtain ⟨s, hs⟩ := wt_str h1
  simp at ha hs
  rcases hd with ⟨rfl, he⟩ | rfl
  ·have : ks = [] := by cases ks with
    | nil => rfl
    | cons k ks => cases he
   subst this
   exact ⟨⟨true, [], s⟩, by rw [ha, hs]; rfl⟩
  ·exact ⟨⟨false, ks, s⟩, by rw [ha, hs]; rfl⟩
theorem wt_fos {ds : List D} (h : WT Tryz.prog T.fos ds) : ∃ d l, ds = [d] ∧ SlD d (eFs l) := by
 obtain ⟨d, es, h1, h2, h4, h3⟩ := h.sl' Tryz.underlying24
 have : ∃ l, es = eFs l := by
  clear h1 h2 h4
  induction es with
  | nil => exact ⟨[], rfl⟩
  | cons x es ih =>
   obtain ⟨n, hn⟩ := wt_fo (h3 x (by simp))
   obtain ⟨ks, hk⟩ := ih fun y hy => h3 y (by simp [hy])
   exact ⟨n :: ks, by rw [hn, hk]; rfl⟩
 obtain ⟨ks, rfl⟩ := this
 exact ⟨d, ks, h1, h2⟩
theorem av_tb (n dc dk df dx : D) : avOf Tryz.prog T.tb [n, dc, dk, df, dx] = .agg [.d n, .d dc, .d dk, .d df, .d dx] := by unfold avOf; rw [Tryz.underlying27]; rfl
theorem cos_bulk {d : D} {l : List Co} (h : SlD d (eCs l)) : l.length ≤ bulkL [d] ∧ ∀ v ∈ l, v.nm.length ≤ bulkL [d] := by
 have h1 := sld_bulk h
 have h2 : (eCs l).length ≤ bulkLL (eCs l) := bulkLL_len fun x hx => by
  obtain ⟨k, _, rfl⟩ := List.mem_map.1 hx
  simp only [Co.ds, bulkL, bulkD]; omega
 rw [eCs_len] at h2
 refine ⟨by omega, fun v hv => ?_⟩
 have h3 : bulkL v.ds ≤ bulkLL (eCs l) := bulkLL_mem (List.mem_map.2 ⟨v, hv, rfl⟩)
 have h4 : v.nm.length ≤ bulkL v.ds := by simp only [Co.ds, bulkL, bulkD]; omega
 omega
theorem fos_bulk {d : D} {l : List Fo} (h : SlD d (eFs l)) : l.length ≤ bulkL [d] ∧ ∀ f ∈ l, f.cs.length ≤ bulkL [d] ∧ f.tb.length ≤ bulkL [d] := by
 have h1 := sld_bulk h
 have h2 : (eFs l).length ≤ bulkLL (eFs l) := bulkLL_len fun x hx => by
  obtain ⟨k, _, rfl⟩ := List.mem_map.1 hx
  simp only [Fo.ds, bulkL, bulkD]; omega
 rw [eFs_len] at h2
 refine ⟨by omega, fun v hv => ?_⟩
 have h3 : bulkL v.ds ≤ bulkLL (eFs l) := bulkLL_mem (List.mem_map.2 ⟨v, hv, rfl⟩)
 have h4 : v.tb.length ≤ bulkL v.ds := by simp only [Fo.ds, bulkL, bulkD]; omega
 have h5 : v.cs.length ≤ bulkL [v.d] := ints_bulk v.sld
 have h6 : bulkL [v.d] ≤ bulkL v.ds := by simp only [Fo.ds, bulkL]; omega
 omega
theorem exs_bulk {d : D} {l : List Ex} (h : SlD d (xL l)) : l.length ≤ bulkL [d] ∧ ∀ e ∈ l, e.bk ≤ bulkL [d] := by
 have h1 := sld_bulk h
 have h2 := xL_bulk_len l
 refine ⟨by omega, fun v hv => ?_⟩
 have h3 : bulkL v.ds ≤ bulkLL (xL l) := bulkLL_mem (List.mem_map.2 ⟨v, hv, rfl⟩)
 unfold Ex.bk
 omega
theorem tb_tok {t : Tb} {dc dk df dx : D} (hb : bulkL [.str t.nm, dc, dk, df, dx] ≤ 1048576) (hc : SlD dc (eCs t.cs)) (hk : SlD dk (eIs t.ks)) (hf : SlD df (eFs t.fs)) (hx : SlD dx (xL t.xs)) : Tok t dc dk df dx := by
 have h1 := cos_bulk hc
 have h2 := ints_bulk hk
 have h3 := fos_bulk hf
 have h4 := exs_bulk hx
 have e : bulkL [.str t.nm, dc, dk, df, dx] = t.nm.length + 1 + (bulkL [dc] + (bulkL [dk] + (bulkL [df] + bulkL [dx]))) := by simp only [bulkL, bulkD]; omega
 rw [e] at hb
 exact { hn := by omega, hl := by omega, hls := fun c hc => Nat.le_trans (h1.2 c hc) (by omega), hk := by omega, hfl := by omega, hfc := fun f hf => ⟨Nat.le_trans (h3.2 f hf).1 (by omega), Nat.le_trans (h3.2 f hf).2 (by omega)⟩, hxs := by omega, hxb := fun e he => Nat.le_trans (h4.2 e he) (by omega), dc := hc, dk := hk, df := hf, dx := hx }
end Go.Proofs
end
