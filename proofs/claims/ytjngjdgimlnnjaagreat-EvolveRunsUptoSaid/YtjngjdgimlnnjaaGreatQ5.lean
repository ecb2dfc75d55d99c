/- Texts of this claim, joined. No condition. -/
import Derived.Test.YtjngjdgimlnnjaaGreatQ4
set_option linter.unusedSimpArgs false
set_option linter.unusedVariables false
set_option maxRecDepth 10000
set_option maxHeartbeats 4000000
section
namespace Go.Proofs
open Go.Bi
inductive Ex.Lb (B : Nat) : Ex → Prop
 | mk {op n : Int} {v : Vl} {nm : List UInt8} {nl : Bool} {args : List Ex} (h1 : args.length ≤ B) (h2 : v.s.length ≤ B) (h3 : nm.length ≤ B) (h : ∀ a ∈ args, Ex.Lb B a) : Ex.Lb B (.mk op n v nm nl args)
theorem Lb.bounds {B : Nat} {op n : Int} {v : Vl} {nm : List UInt8} {nl : Bool} {args : List Ex} (h : (Ex.mk op n v nm nl args).Lb B) : args.length ≤ B ∧ v.s.length ≤ B ∧ nm.length ≤ B ∧ ∀ a ∈ args, a.Lb B := by
 cases h with
 | mk h1 h2 h3 h => exact ⟨h1, h2, h3, h⟩
theorem lb_bk {B : Nat} : ∀ e : Ex, e.bk ≤ B → e.Lb B := by
 refine Ex.ind fun op n v nm nl args ih hb => ?_
 obtain ⟨b1, b2, b3, b4⟩ := Ex.bk_bounds hb
 exact .mk b1 b2 b3 fun a ha => ih a ha (b4 a ha)
theorem C.r11_SameL : ∀ a : Ex, a.Lb 2097152 → ∀ b : Ex, b.Lb 2097152 → Pure Tryz.prog N.bt_ref11_Same [a.av, b.av] (.d (.bool (smE a b))) := by
 refine Ex.ind fun op n v name nl args ih hbk b hbb => ?_
 obtain ⟨op', n', v', name', nl', args'⟩ := b
 obtain ⟨b1, b2, b3, b4⟩ := Lb.bounds hbk
 obtain ⟨c1, c2, c3, c4⟩ := Lb.bounds hbb
 have ih' : ∀ a ∈ args, ∀ b ∈ args', Pure Tryz.prog N.bt_ref11_Same [a.av, b.av] (.d (.bool (smE a b))) := fun a ha b hb => ih a ha (b4 a ha) b (c4 b hb)
 clear ih
 rw [Ex.av_mk, Ex.av_mk, smE_mk]
 have hd : SlD (ng nl (xL args)) (xL args) := sld_ng
 have hd' : SlD (ng nl' (xL args')) (xL args') := sld_ng
 have hlen := xL_len args
 have hm := xL_mem args
 have hlen' := xL_len args'
 have hm' := xL_mem args'
 have hget := xL_get' (args := args)
 have hget' := xL_get' (args := args')
 obtain ⟨d, hde⟩ : ∃ d, d = ng nl (xL args) := ⟨_, rfl⟩
 obtain ⟨d', hde'⟩ : ∃ d, d = ng nl' (xL args') := ⟨_, rfl⟩
 rw [← hde] at hd ⊢
 rw [← hde'] at hd' ⊢
 obtain ⟨es, hes⟩ : ∃ es, es = xL args := ⟨_, rfl⟩
 rw [← hes] at hlen hm hd hget
 obtain ⟨es', hes'⟩ : ∃ es, es = xL args' := ⟨_, rfl⟩
 rw [← hes'] at hlen' hm' hd' hget'
 refine F.bt_ref11_Same.go mixed rfl ?_
 have hv : decide (v = v') = (decide (v.k = v'.k) && (decide (v.n = v'.n) && decide (v.s = v'.s))) := by
  rw [Bool.eq_iff_iff]
  simp only [decide_eq_true_eq, Bool.and_eq_true, vl_eq]
 by_cases hall : op = op' ∧ n = n' ∧ v = v' ∧ name = name' ∧ args.length = args'.length
 rotate_left
 ·have hr : (decide (op = op') && decide (n = n') && decide (v = v') && decide (name = name') && smL args args') = false := by
   rw [Bool.eq_false_iff]
   intro h
   simp only [Bool.and_eq_true, decide_eq_true_eq, smL_eq] at h
   exact hall ⟨h.1.1.1.1, h.1.1.1.2, h.1.1.2, h.1.2, h.2.1⟩
  rw [hr]
  clear hr
  have hlle : ((es.length : Int) = es'.length) ↔ args.length = args'.length := by omega
  rw [vl_eq] at hall
  clear hget hget' ih'
  by_cases g1 : op = op'
  rotate_left
  ·repeat' first|refine st ?_|(with_reducible first|apply k_d|apply k_b)<;>intro _
   all_goals rfl
  by_cases g2 : n = n'
  rotate_left
  ·repeat' first|refine st ?_|(with_reducible first|apply k_d|apply k_b)<;>intro _
   all_goals rfl
  by_cases g3 : v.k = v'.k ∧ v.n = v'.n ∧ v.s = v'.s
  rotate_left
  ·repeat' first|refine st ?_|(with_reducible first|apply k_d|apply k_b)<;>intro _
   all_goals first | rfl | (exfalso; simp_all)
  obtain ⟨g3, g4, g5⟩ := g3
  by_cases g6 : name = name'
  rotate_left
  ·repeat' first|refine st ?_|(with_reducible first|apply k_d|apply k_b)<;>intro _
   all_goals first | rfl | (exfalso; simp_all)
  have g7 : ¬ (es.length : Int) = es'.length := fun h => hall ⟨g1, g2, ⟨g3, g4, g5⟩, g6, hlle.1 h⟩
  repeat' first|refine st ?_|(with_reducible first|apply k_d|apply k_b)<;>intro _
  all_goals first | rfl | (exfalso; simp_all; done) | (exfalso; omega)
 obtain ⟨rfl, rfl, rfl, rfl, hll⟩ := hall
 obtain ⟨q, hq⟩ : ∃ q, q = (decide (op = op) && decide (n = n) && decide (v = v) && decide (name = name) && smL args args') := ⟨_, rfl⟩
 rw [← hq]
 rw [smL_eq, decide_eq_true hll] at hq
 simp only [decide_true, Bool.true_and] at hq
 have hl2 : (es.length : Int) = es'.length := by omega
 have hl3 : es.length = es'.length := by omega
 have r1 : v.s = v.s := rfl
 have r2 : name = name := rfl
 repeat' first|refine st ?_|(with_reducible first|apply k_d|apply k_b)<;>intro _
 refine x_loop1 mixed Lt.bt_ref11_Same_l0 Lk.bt_ref11_Same_l0 (fun (i : Nat) => [.d (eI i)]) (fun i => [.cells [.d (eI op), .d (eI n), .d (eI v.k), .d (eI v.n), .d (.str v.s), .d (.str name), .d d], .cells [.d (eI op), .d (eI n), .d (eI v.k), .d (eI v.n), .d (.str v.s), .d (.str name), .d d']]) (fun i => i ≤ args.length ∧ ((args.zip args').take i).all (fun p => smE p.1 p.2) = true) (fun i => args.length - i) 0 rfl rfl rfl rfl (fun _ _ => ⟨rfl, rfl⟩) rfl ⟨by omega, rfl⟩ ?_
 repeat' first|refine st ?_|(with_reducible first|apply k_d|apply k_b)<;>intro _
 intro i ⟨h4, h5⟩
 cases hx : args[i]? with
 | some x =>
  have hlt := (List.getElem?_eq_some_iff.1 hx).1
  obtain ⟨y, hy⟩ : ∃ y, args'[i]? = some y := ⟨_, List.getElem?_eq_getElem (by omega)⟩
  have hz : (args.zip args')[i]? = some (x, y) := List.getElem?_zip_eq_some.2 ⟨hx, hy⟩
  have hI := ih' x (List.mem_of_getElem? hx) y (List.mem_of_getElem? hy)
  have hs := all_take_succ3 (p := fun p : Ex × Ex => smE p.1 p.2) hz
  have hn := all_none3 (p := fun p : Ex × Ex => smE p.1 p.2) hz
  rw [h5, Bool.true_and] at hs
  dsimp only at hs hn
  obtain ⟨b, hb⟩ : ∃ b, b = smE x y := ⟨_, rfl⟩
  rw [← hb] at hI hs hn
  obtain ⟨o1, n1, v1, m1, l1, a1⟩ := x
  obtain ⟨o2, n2, v2, m2, l2, a2⟩ := y
  rw [Ex.av_mk, Ex.av_mk] at hI
  have hg := hget i _ _ _ _ _ _ hx
  have hg' : es'[((i : Nat) : Int).toNat]? = _ := hget' i _ _ _ _ _ _ hy
  have hlt' : (i : Int) < es'.length := by omega
  cases b with
  | true =>
   repeat' first|refine st ?_|((with_reducible first|apply k_pn|apply k_pc);(·exact hI))|(with_reducible first|apply k_d|apply k_b)<;>intro _
   exact ⟨i + 1, rfl, rfl, rfl, by omega, by omega, hs⟩
  | false =>
   rw [hn rfl] at hq
   rw [hq]
   repeat' first|refine st ?_|((with_reducible first|apply k_pn|apply k_pc);(·exact hI))|(with_reducible first|apply k_d|apply k_b)<;>intro _
   all_goals rfl
 | none =>
  have hge := List.getElem?_eq_none_iff.1 hx
  rw [List.take_of_length_le (by rw [List.length_zip]; omega)] at h5
  rw [h5] at hq
  rw [hq]
  repeat' first|refine st ?_|(with_reducible first|apply k_d|apply k_b)<;>intro _
  all_goals rfl
theorem C.expr_mappedF (g : FuncId) (φ : Ex → Ex) (hg : ∀ x : Ex, Pure Tryz.prog g [x.av] (φ x).av) : ∀ e : Ex, e.bk ≤ 1048576 → Pure Tryz.prog N.expr_mapped [e.av, .d (.fn g)] (mapX φ e).av := by
 refine Ex.ind fun op n v nm nl args ih hb => ?_
 obtain ⟨b1, b2, b3, b4⟩ := Ex.bk_bounds hb
 obtain ⟨Z, hZ⟩ : ∃ Z, Z = (mapX φ (.mk op n v nm nl args)).av := ⟨_, rfl⟩
 rw [← hZ]
 rw [mapX_mk] at hZ
 rw [Ex.av_mk]
 refine F.expr_mapped.go mixed rfl ?_
 have h1 := xL_len args
 have hm := xL_mem args
 obtain ⟨da, hda⟩ : ∃ d, d = ng nl (xL args) := ⟨_, rfl⟩
 have hsd : SlD da (xL args) := by rw [hda]; exact sld_ng
 rw [← hda]
 have r0 : v.k = v.k := rfl
 have r1 : v.s = v.s := rfl
 have r2 : nm = nm := rfl
 repeat' first|refine st ?_|(with_reducible first|apply k_d|apply k_b)<;>intro _
 refine x_nil 5 7 rfl rfl ?_
 repeat' first|refine st ?_|(with_reducible first|apply k_d|apply k_b)<;>intro _
 refine x_loop2 mixed Lt.expr_mapped_l0 Lk.expr_mapped_l0 (fun (i : Nat) (w : List (List D) × Bool) => [.arr 2 w.1.length, .d (eI i)]) (fun i w => [.cells [.d (eI op), .d (eI n), .d (eI v.k), .d (eI v.n), .d (.str v.s), .d (.str nm), .d da], .cells [.d (eI 0), .d (eI 0), .d (eI 0), .d (eI 0), .d (.str []), .d (.str []), .d .nil], .arr w.1 7 0 w.2]) (fun i w => i ≤ args.length ∧ w.1 = Mt (mapX φ) args i ∧ w.2 = w.1.isEmpty) (fun i _ => args.length - i) 0 ([], true) rfl rfl rfl rfl (fun _ _ _ => ⟨rfl, rfl⟩) rfl ⟨by omega, rfl, rfl⟩ ?_
 repeat' first|refine st ?_|(with_reducible first|apply k_d|apply k_b)<;>intro _
 intro i w ⟨h4, h5, h6⟩
 obtain ⟨A, b⟩ := w
 dsimp only at h5 h6 ⊢
 have hAl : A.length = i := by rw [h5]; exact Mt_len _ args i (by omega)
 have hAm : ∀ e ∈ A, e.length = 7 := by rw [h5]; exact Mt_mem _ _ _
 cases hx : args[i]? with
 | some x =>
  have hlt := (List.getElem?_eq_some_iff.1 hx).1
  have hs := Mt_succ (φ := mapX φ) hx
  have hg := xL_get hx
  have hi := ih x (List.mem_of_getElem? hx) (b4 x (List.mem_of_getElem? hx))
  rw [← h5] at hs
  obtain ⟨z, hz⟩ : ∃ z, z = mapX φ x := ⟨_, rfl⟩
  rw [← hz] at hs hi
  obtain ⟨o1, n1, v1, m1, l1, a1⟩ := x
  obtain ⟨o2, n2, v2, m2, l2, a2⟩ := z
  rw [Ex.ds_mk] at hg hs
  simp only [Ex.av_mk] at hi
  repeat' first|refine st ?_|((with_reducible first|apply k_pn|apply k_pc);(·exact hi))|(with_reducible first|apply k_d|apply k_b)<;>intro _
  exact ⟨i + 1, (A ++ [xds o2 n2 v2 m2 (ng l2 (xL a2))], false), rfl, rfl, rfl, by omega, by omega, hs, by simp⟩
 | none =>
  have hge := List.getElem?_eq_none_iff.1 hx
  rw [Mt_end hge] at h5
  have hx' : (Ex.mk op n v nm true (args.map (mapX φ))).av = eX op n v nm (if A.isEmpty then .nil else .sl A) := by rw [Ex.av_mk, ng_true, ← h5]
  have hφ := hg (.mk op n v nm true (args.map (mapX φ)))
  rw [← h6] at hx'
  by_cases h2 : op = 2
  ·rw [if_pos h2] at hZ
   obtain ⟨z, hz⟩ : ∃ z, z = φ (.mk op n v nm true (args.map (mapX φ))) := ⟨_, rfl⟩
   rw [← hz] at hZ hφ
   rw [hx'] at hφ
   obtain ⟨o2, n2, v2, m2, l2, a2⟩ := z
   simp only [Ex.av_mk] at hZ hφ
   rw [hZ]
   cases b with
   | true =>
    rw [if_pos rfl] at hφ
    repeat' first|refine st ?_|((with_reducible first|apply k_pn|apply k_pc);(·exact hφ))|(with_reducible first|apply k_d|apply k_b)<;>intro _
    all_goals rfl
   | false =>
    rw [if_neg (by simp)] at hφ
    repeat' first|refine st ?_|((with_reducible first|apply k_pn|apply k_pc);(·exact hφ))|(with_reducible first|apply k_d|apply k_b)<;>intro _
    all_goals rfl
  ·rw [if_neg h2, hx'] at hZ
   rw [hZ]
   cases b with
   | true =>
    repeat' first|refine st ?_|(with_reducible first|apply k_d|apply k_b)<;>intro _
    all_goals rfl
   | false =>
    repeat' first|refine st ?_|(with_reducible first|apply k_d|apply k_b)<;>intro _
    all_goals rfl
def cpX (e : Ex) : Ex := mapX id e
def nulE : Ex := .mk 0 0 vNull [] true []
def inC (l : List Ex) (n : Int) (v : Vl) (nm : List UInt8) (k : Nat) : Bool := decide (k = 0 ∧ nm = [] ∧ (v.k = 0 ∧ v.n = 0 ∧ v.s = []) ∧ 0 ≤ n ∧ n < l.length)
def subC (l : List Ex) : Ex → Ex
 | .mk op n v nm nl args => if inC l n v nm args.length then cpX (l.getD n.toNat nulE) else .mk op n v nm nl args
theorem C.Sub_c1_c1 (x : Ex) : Pure Tryz.prog N.expr_Substitute_c1_c1 [x.av] (id x).av := by
 obtain ⟨op, n, v, nm, nl, args⟩ := x
 show Pure Tryz.prog _ _ (Ex.mk op n v nm nl args).av
 rw [Ex.av_mk]
 refine F.expr_Substitute_c1_c1.go mixed rfl ?_
 repeat' first|refine st ?_|(with_reducible first|apply k_d|apply k_b)<;>intro _
 all_goals rfl
theorem C.Sub_c1 (l : List Ex) (hl : l.length ≤ 1048576) (hlb : ∀ a ∈ l, a.bk ≤ 1048576) (dl : D) (hdl : SlD dl (xL l)) (x : Ex) : CallSpec Tryz.prog N.expr_Substitute_c1 [x.av, .ptr 0 0] [.cells [.d dl]] (fun r os => r = (subC l x).av ∧ os = [.cells [.d dl]]) := by
 obtain ⟨op, n, v, nm, nl, args⟩ := x
 obtain ⟨Z, hZ⟩ : ∃ Z, Z = (subC l (.mk op n v nm nl args)).av := ⟨_, rfl⟩
 rw [← hZ]
 rw [subC] at hZ
 rw [Ex.av_mk]
 have h1 := xL_len args
 have hm := xL_mem args
 have h2 := xL_len l
 have hm2 := xL_mem l
 obtain ⟨da, hda⟩ : ∃ d, d = ng nl (xL args) := ⟨_, rfl⟩
 have hsd : SlD da (xL args) := by rw [hda]; exact sld_ng
 cases hc : inC l n v nm args.length with
 | true =>
  rw [hc, if_pos rfl] at hZ
  obtain ⟨c1, c2, ⟨c3, c4, c5⟩, c6, c7⟩ := of_decide_eq_true hc
  obtain ⟨m, rfl⟩ : ∃ m : Nat, n = m := ⟨n.toNat, by omega⟩
  have hlm : m < l.length := by omega
  have hx : l[m]? = some l[m] := List.getElem?_eq_getElem hlm
  have hgd : l.getD (m : Int).toNat nulE = l[m] := by rw [Int.toNat_natCast, List.getD_eq_getElem?_getD, hx]; rfl
  rw [hgd] at hZ
  have hM := C.expr_mappedF N.expr_Substitute_c1_c1 id C.Sub_c1_c1 l[m] (hlb _ (List.getElem_mem _))
  have hg := xL_get hx
  obtain ⟨y, hy⟩ : ∃ y, y = l[m] := ⟨_, rfl⟩
  rw [← hy] at hM hg hZ
  unfold cpX at hZ
  obtain ⟨z, hz⟩ : ∃ z, z = mapX id y := ⟨_, rfl⟩
  rw [← hz] at hM hZ
  obtain ⟨o1, n1, v1, m1, l1, a1⟩ := y
  obtain ⟨o2, n2, v2, m2, l2, a2⟩ := z
  rw [Ex.ds_mk] at hg
  rw [Ex.av_mk, Ex.av_mk] at hM
  rw [Ex.av_mk] at hZ
  rw [hZ, ← hda]
  clear hda
  subst c2
  refine F.expr_Substitute_c1.goX mixed rfl ?_
  repeat' first|refine st ?_|((with_reducible first|apply k_pn|apply k_pc);(·exact hM))|(with_reducible first|apply k_d|apply k_b)<;>intro _
  all_goals exact ⟨rfl, rfl⟩
 | false =>
  rw [hc, if_neg (by decide), Ex.av_mk, ← hda] at hZ
  rw [hZ, ← hda]
  have hno : ¬ (args.length = 0 ∧ nm = [] ∧ (v.k = 0 ∧ v.n = 0 ∧ v.s = []) ∧ 0 ≤ n ∧ n < l.length) := of_decide_eq_false hc
  clear hda hZ hc
  refine F.expr_Substitute_c1.goX mixed rfl ?_
  by_cases g1 : args.length = 0
  rotate_left
  ·repeat' first|refine st ?_|(with_reducible first|apply k_d|apply k_b)<;>intro _
   all_goals exact ⟨rfl, rfl⟩
  by_cases g2 : nm = []
  rotate_left
  ·repeat' first|refine st ?_|(with_reducible first|apply k_d|apply k_b)<;>intro _
   all_goals exact ⟨rfl, rfl⟩
  subst g2
  by_cases g3 : v.k = 0 ∧ v.n = 0 ∧ v.s = []
  rotate_left
  ·repeat' first|refine st ?_|(with_reducible first|apply k_d|apply k_b)<;>intro _
   all_goals first | exact ⟨rfl, rfl⟩ | (exfalso; simp_all; done)
  obtain ⟨g4, g5, g6⟩ := g3
  by_cases g7 : 0 ≤ n
  ·by_cases g8 : n < l.length
   ·exact absurd ⟨g1, rfl, ⟨g4, g5, g6⟩, g7, g8⟩ hno
   ·repeat' first|refine st ?_|(with_reducible first|apply k_d|apply k_b)<;>intro _
    all_goals exact ⟨rfl, rfl⟩
  ·repeat' first|refine st ?_|(with_reducible first|apply k_d|apply k_b)<;>intro _
   all_goals exact ⟨rfl, rfl⟩
def subX (l : List Ex) (e : Ex) : Ex := mapX (subC l) e
theorem C.expr_Substitute (l : List Ex) (hl : l.length ≤ 1048576) (hlb : ∀ a ∈ l, a.bk ≤ 1048576) (dl : D) (hdl : SlD dl (xL l)) (e : Ex) (he : e.bk ≤ 1048576) : Pure Tryz.prog N.expr_Substitute [e.av, .d dl] (subX l e).av := by
 have hM := C.expr_mapped N.expr_Substitute_c1 dl (subC l) (C.Sub_c1 l hl hlb dl hdl) e he
 have hL : ∀ os : List AO, os[1]? = some (.cells [.d dl]) → CallSpec Tryz.prog N.expr_mapped [e.av, .clo N.expr_Substitute_c1 [1]] os (fun r' os' => r' = (mapX (subC l) e).av ∧ os' = os.set 1 (.cells [.d dl])) := fun os ho => liftF (id := 1) hM (fun f => mA_ds f _) ho
 unfold subX
 obtain ⟨z, hz⟩ : ∃ z, z = mapX (subC l) e := ⟨_, rfl⟩
 rw [← hz] at hL ⊢
 obtain ⟨o1, n1, v1, m1, l1, a1⟩ := e
 obtain ⟨o2, n2, v2, m2, l2, a2⟩ := z
 simp only [Ex.av_mk] at hL ⊢
 refine F.expr_Substitute.go mixed rfl ?_
 repeat' first|refine st ?_|((with_reducible first|apply k_nc|apply k_cs);(·exact hL _ rfl);(try rintro _ _ ⟨rfl, rfl⟩))|((with_reducible apply k_pr);(·exact hL _ rfl))|((with_reducible apply k_cal);refine st ?_;(with_reducible apply k_chk);(·exact rfl);refine st ?_;(with_reducible apply k_cs);(·exact hL _ rfl);(try rintro _ _ ⟨rfl, rfl⟩))|(with_reducible first|apply k_d|apply k_b)<;>intro _
 all_goals rfl
theorem fmd2 (n : Int) (v : Vl) (nm : List UInt8) (k : Nat) : fmd 2 n v nm k = decide (k = 0 ∧ nm = [] ∧ (v.k = 0 ∧ v.n = 0 ∧ v.s = [])) := by
 have hc : (cnt 2 k).1 = decide ((k : Int) = 0) := rfl
 unfold fmd
 rw [hc, if_neg (by decide), if_neg (by decide), if_pos rfl, vNull_is, Bool.eq_iff_iff]
 simp only [Bool.and_eq_true, decide_eq_true_eq]
 constructor
 ·rintro ⟨⟨h1, h2⟩, h3⟩; exact ⟨by omega, h2, h3⟩
 ·rintro ⟨h1, h2, h3⟩; exact ⟨⟨by omega, h2⟩, h3⟩
end Go.Proofs
end
section
namespace Go.Proofs
open Go.Bi
def belowI (a b : Int) : Int := if b < a then a - 1 else a
theorem C.evolve_below (a b : Int) (ha : -4611686018427387904 ≤ a) (hb : a ≤ 4611686018427387904) : Pure Tryz.prog N.evolve_below [.d (eI a), .d (eI b)] (.d (eI (belowI a b))) := by
 unfold belowI
 by_cases h : b < a
 ·rw [if_pos h]
  refine F.evolve_below.go mixed rfl ?_
  repeat' first|refine st ?_|(with_reducible first|apply k_d|apply k_b)<;>intro _
  all_goals rfl
 ·rw [if_neg h]
  refine F.evolve_below.go mixed rfl ?_
  repeat' first|refine st ?_|(with_reducible first|apply k_d|apply k_b)<;>intro _
  all_goals rfl
end Go.Proofs
end
section
namespace Go.Proofs
open Go.Bi
def mvE (k i : Int) : Ex := .mk 2 (belowI k i) ⟨0, 0, []⟩ [] true []
def mvL (m i : Nat) : List Ex := (List.range m).map fun (k : Nat) => mvE (k : Int) (i : Int)
theorem mvL_len (m i : Nat) : (mvL m i).length = m := by simp [mvL]
theorem mvL_succ (m i : Nat) : xL (mvL m i) ++ [[.int .i64 2, eI (belowI m i), .int .i64 0, .int .i64 0, .str [], .str [], .nil]] = xL (mvL (m + 1) i) := by
 unfold mvL
 rw [List.range_succ, List.map_append]
 simp only [xL, List.map_append, List.map_cons, List.map_nil, List.append_cancel_left_eq]
 unfold mvE
 rw [Ex.ds_mk]
 rfl
def mixI (ks : List Int) (f : Int → Int) (k : Nat) : List Int := (ks.take k).map f ++ ks.drop k
theorem mixI_len (ks : List Int) (f : Int → Int) (k : Nat) (h : k ≤ ks.length) : (mixI ks f k).length = ks.length := by
 unfold mixI
 simp
 omega
theorem mixI_get {ks : List Int} (f : Int → Int) {k : Nat} {c : Int} (h : ks[k]? = some c) : (mixI ks f k)[k]? = some c := by
 have hlt := (List.getElem?_eq_some_iff.1 h).1
 unfold mixI
 rw [List.getElem?_append_right (by simp; omega), List.length_map, List.length_take, Nat.min_eq_left (by omega), Nat.sub_self, List.getElem?_drop]
 exact h
theorem mixI_set {ks : List Int} (f : Int → Int) {k : Nat} {c : Int} (h : ks[k]? = some c) : (mixI ks f k).set k (f c) = mixI ks f (k + 1) := by
 obtain ⟨hlt, he⟩ := List.getElem?_eq_some_iff.1 h
 unfold mixI
 rw [List.set_append_right _ _ (by simp; omega), List.length_map, List.length_take, Nat.min_eq_left (by omega), Nat.sub_self, List.drop_eq_getElem_cons hlt, he, List.set_cons_zero, List.take_add_one, h]
 simp
theorem mixI_zero (ks : List Int) (f : Int → Int) : mixI ks f 0 = ks := by simp [mixI]
theorem mixI_end (ks : List Int) (f : Int → Int) : mixI ks f ks.length = ks.map f := by simp [mixI]
theorem eIs_set (l : List Int) (k : Nat) (y : Int) : (eIs l).set k [eI y] = eIs (l.set k y) := by
 unfold eIs
 rw [List.map_set]
def mixX (xs : List Ex) (f : Ex → Ex) (k : Nat) : List Ex := (xs.take k).map f ++ xs.drop k
theorem mixX_len (xs : List Ex) (f : Ex → Ex) (k : Nat) (h : k ≤ xs.length) : (mixX xs f k).length = xs.length := by
 unfold mixX
 simp
 omega
theorem mixX_get {xs : List Ex} (f : Ex → Ex) {k : Nat} {c : Ex} (h : xs[k]? = some c) : (mixX xs f k)[k]? = some c := by
 have hlt := (List.getElem?_eq_some_iff.1 h).1
 unfold mixX
 rw [List.getElem?_append_right (by simp; omega), List.length_map, List.length_take, Nat.min_eq_left (by omega), Nat.sub_self, List.getElem?_drop]
 exact h
theorem mixX_set {xs : List Ex} (f : Ex → Ex) {k : Nat} {c : Ex} (h : xs[k]? = some c) : (mixX xs f k).set k (f c) = mixX xs f (k + 1) := by
 obtain ⟨hlt, he⟩ := List.getElem?_eq_some_iff.1 h
 unfold mixX
 rw [List.set_append_right _ _ (by simp; omega), List.length_map, List.length_take, Nat.min_eq_left (by omega), Nat.sub_self, List.drop_eq_getElem_cons hlt, he, List.set_cons_zero, List.take_add_one, h]
 simp
theorem mixX_zero (xs : List Ex) (f : Ex → Ex) : mixX xs f 0 = xs := by simp [mixX]
theorem mixX_end (xs : List Ex) (f : Ex → Ex) : mixX xs f xs.length = xs.map f := by simp [mixX]
theorem C.drop0 (nm : List UInt8) (es : List (List D)) (hm : ∀ e ∈ es, e.length = 3) (i : Nat) (hi : i < es.length) (hel : es.length ≤ 1048576) (ks : List Int) (hkb : ∀ k ∈ ks, 0 ≤ k ∧ k ≤ 1048576) (hkl : ks.length ≤ 1048576) (kn : Bool) (hkn : kn = true → ks = []) (xs : List Ex) (hxl : xs.length ≤ 1048576) (hxb : ∀ e ∈ xs, e.bk ≤ 1048576) (xn : Bool) (hxn : xn = true → xs = []) :
  CallSpec Tryz.prog N.evolve_drop [.ptr 0 0, .d (eI i)] [.cells [.d (.str nm), .arr 1 es.length, .arr 2 (eIs ks).length, .rs 3 0, .arr 4 (xL xs).length], .arr es 3 0 false, .arr (eIs ks) 1 0 kn, .rarr [] 2 true, .arr (xL xs) 7 0 xn]
   (fun r os => r = .tup [] ∧ os = [.cells [.d (.str nm), .d (.sl (es.eraseIdx i)), .arr 2 (eIs ks).length, .rs 3 0, .arr 4 (xL xs).length], .arr (es.eraseIdx i ++ [zRow]) 3 (es.length - 1) false, .arr (eIs (ks.map fun c => belowI c i)) 1 0 kn, .rarr [] 2 true, .arr (xL (xs.map (subX (mvL es.length i)))) 7 0 xn]) := by
 have hD := fun {os : List AO} (ho : os[1]? = some (.arr es 3 0 false)) => C.slices_Delete es hm i hi ho
 obtain ⟨m, hmm⟩ : ∃ m, m = es.length := ⟨_, rfl⟩
 refine F.evolve_drop.goX mixed rfl ?_
 repeat' first|refine st ?_|(with_reducible first|apply k_d|apply k_b)<;>intro _
 refine x_nil 4 7 rfl rfl ?_
 repeat' first|refine st ?_|(with_reducible first|apply k_d|apply k_b)<;>intro _
 refine x_loop2 mixed Lt.evolve_drop_l0 Lk.evolve_drop_l0 (fun (k : Nat) (A : List (List D)) => [.arr 5 A.length, .d (eI k)]) (fun k A => [.cells [.d (.str nm), .arr 1 es.length, .arr 2 (eIs ks).length, .rs 3 0, .arr 4 (xL xs).length], .arr es 3 0 false, .arr (eIs ks) 1 0 kn, .rarr [] 2 true, .arr (xL xs) 7 0 xn, .arr A 7 0 A.isEmpty]) (fun k A => k ≤ es.length ∧ A = xL (mvL k i)) (fun k A => es.length - k) 0 [] rfl rfl rfl rfl (fun _ _ _ => ⟨rfl, rfl⟩) rfl ⟨by omega, by simp [mvL, xL]⟩ ?_
 repeat' first|refine st ?_|(with_reducible first|apply k_d|apply k_b)<;>intro _
 intro k A ⟨h4, h5⟩
 have hAl : A.length = k := by rw [h5, xL_len, mvL_len]
 have hAm : ∀ e ∈ A, e.length = 7 := by rw [h5]; exact xL_mem _
 by_cases hlt : k < es.length
 ·have hB := C.evolve_below k i (by omega) (by omega)
  have hs := mvL_succ k i
  rw [← h5] at hs
  obtain ⟨b, hb⟩ : ∃ b, b = belowI k i := ⟨_, rfl⟩
  rw [← hb] at hB hs
  clear h5
  repeat' first|refine st ?_|((with_reducible first|apply k_pn|apply k_pc);(·exact hB))|(with_reducible first|apply k_d|apply k_b)<;>intro _
  refine ⟨k + 1, A ++ [[.int .i64 2, eI b, .int .i64 0, .int .i64 0, .str [], .str [], .nil]], ?_, rfl, ?_, by omega, by omega, hs⟩
  ·rfl
  ·rw [show (A ++ [[.int .i64 2, eI b, .int .i64 0, .int .i64 0, .str [], .str [], .nil]]).isEmpty = false by simp]
   first | rfl | skip
 ·have hke : k = es.length := by omega
  rw [hke] at h5
  have hDc := hD (os := [.cells [.d (.str nm), .arr 1 es.length, .arr 2 (eIs ks).length, .rs 3 0, .arr 4 (xL xs).length], .arr es 3 0 false, .arr (eIs ks) 1 0 kn, .rarr [] 2 true, .arr (xL xs) 7 0 xn, .arr A 7 0 A.isEmpty]) rfl
  obtain ⟨es', hes'⟩ : ∃ e, e = es.eraseIdx i := ⟨_, rfl⟩
  rw [← hes'] at hDc ⊢
  obtain ⟨M0, hM0⟩ : ∃ L, L = mvL es.length i := ⟨_, rfl⟩
  have hMl : M0.length ≤ 1048576 := by rw [hM0, mvL_len]; exact hel
  rw [← hM0] at h5 ⊢
  repeat' first|(with_reducible apply k_cal)|refine st ?_|((with_reducible first|apply k_nc|apply k_cs);(·exact hDc);(try rintro _ _ ⟨rfl, rfl⟩))|((with_reducible apply k_pr);(·exact hDc))|((with_reducible apply k_cal);refine st ?_;(with_reducible apply k_chk);(·exact rfl);refine st ?_;(with_reducible apply k_cs);(·exact hDc);(try rintro _ _ ⟨rfl, rfl⟩))|(with_reducible first|apply k_d|apply k_b)<;>intro _
  refine x_loop1 mixed Lt.evolve_drop_l1 Lk.evolve_drop_l1 (fun (j : Nat) => [.d (eI j)]) (fun j => [.cells [.d (.str nm), .d (.sl es'), .arr 2 (eIs ks).length, .rs 3 0, .arr 4 (xL xs).length], .arr (es' ++ [zRow]) 3 (es.length - 1) false, .arr (eIs (mixI ks (fun c => belowI c i) j)) 1 0 kn, .rarr [] 2 true, .arr (xL xs) 7 0 xn, .arr A 7 0 A.isEmpty]) (fun j => j ≤ ks.length) (fun j => ks.length - j) 0 rfl rfl rfl (by rw [mixI_zero]; rfl) (fun _ _ => ⟨rfl, rfl⟩) rfl (by omega) ?_
  repeat' first|refine st ?_|(with_reducible first|apply k_d|apply k_b)<;>intro _
  intro j h6
  have hKl := mixI_len ks (fun c => belowI c i) j h6
  cases hy : ks[j]? with
  | some c =>
   obtain ⟨hlt2, he2⟩ := List.getElem?_eq_some_iff.1 hy
   have hkf : kn = false := by
    cases kn with
    | false => rfl
    | true => rw [hkn rfl] at hlt2; simp at hlt2
   subst hkf
   have hg := eIs_get (mixI_get (fun c => belowI c i) hy)
   have hset := mixI_set (fun c => belowI c i) hy
   obtain ⟨cb1, cb2⟩ := hkb c (List.mem_of_getElem? hy)
   have hB := C.evolve_below c i (by omega) (by omega)
   have hks := eIs_len ks
   obtain ⟨y, hyy⟩ : ∃ y, y = belowI c i := ⟨_, rfl⟩
   rw [← hyy] at hB hset
   have hset2 : (eIs (mixI ks (fun c => belowI c i) j)).set j [eI y] = eIs (mixI ks (fun c => belowI c i) (j + 1)) := by rw [eIs_set, hset]
   have hml := eIs_len (mixI ks (fun c => belowI c i) j)
   have hmm2 := eIs_mem (mixI ks (fun c => belowI c i) j)
   obtain ⟨X, hX⟩ : ∃ X, X = eIs (mixI ks (fun c => belowI c i) j) := ⟨_, rfl⟩
   rw [← hX] at hg hset2 hml hmm2 ⊢
   repeat' first|refine st ?_|((with_reducible first|apply k_pn|apply k_pc);(·exact hB))|(with_reducible first|apply k_d|apply k_b)<;>intro _
   refine ⟨j + 1, rfl, rfl, ?_, by omega, by omega⟩
   rw [show ((j : Int)).toNat = j from Int.toNat_natCast j, hset2]
  | none =>
   have hge := List.getElem?_eq_none_iff.1 hy
   have hjk : j = ks.length := by omega
   subst hjk
   rw [mixI_end]
   have hks := eIs_len ks
   obtain ⟨K', hK'⟩ : ∃ K, K = eIs (ks.map fun c => belowI c i) := ⟨_, rfl⟩
   rw [← hK']
   repeat' first|refine st ?_|(with_reducible first|apply k_d|apply k_b)<;>intro _
   refine x_rounds 1 ?_
   refine x_round mixed ?_
   repeat' first|refine st ?_|(with_reducible first|apply k_d|apply k_b)<;>intro _
   have hAe : A.isEmpty = false := by cases A with
    | nil => simp at hAl; omega
    | cons a l => rfl
   rw [hAe]
   have hXl := xL_len xs
   refine x_frz 4 (id := 5) (len := A.length) (sz := 7) (frz := 0) (nl := false) (es := A) rfl rfl rfl ?_
   rw [if_neg (by decide : ¬ (false = true))]
   repeat' first|refine st ?_|(with_reducible first|apply k_d|apply k_b)<;>intro _
   refine x_loop1 mixed Lt.evolve_drop_l4 Lk.evolve_drop_l4 (fun (q : Nat) => [.d (eI q)]) (fun q => [.cells [.d (.str nm), .d (.sl es'), .arr 2 (eIs ks).length, .rs 3 0, .arr 4 (xL xs).length], .arr (es' ++ [zRow]) 3 (es.length - 1) false, .arr K' 1 0 kn, .rarr [] 2 true, .arr (xL (mixX xs (subX M0) q)) 7 0 xn, .arr A 7 A.length false]) (fun q => q ≤ xs.length) (fun q => xs.length - q) 0 rfl rfl rfl (by rw [mixX_zero]; rfl) (fun _ _ => ⟨rfl, rfl⟩) rfl (by omega) ?_
   repeat' first|refine st ?_|(with_reducible first|apply k_d|apply k_b)<;>intro _
   intro q h7
   have hMb : ∀ a ∈ M0, a.bk ≤ 1048576 := by
    intro a ha
    rw [hM0] at ha
    obtain ⟨b, _, rfl⟩ := List.mem_map.1 ha
    unfold mvE Ex.bk
    rw [Ex.ds_mk]
    exact Nat.le_of_ble_eq_true rfl
   have hXql := mixX_len xs (subX M0) q h7
   cases hx : xs[q]? with
   | some x =>
    obtain ⟨hlt3, he3⟩ := List.getElem?_eq_some_iff.1 hx
    have hxf : xn = false := by
     cases xn with
     | false => rfl
     | true => rw [hxn rfl] at hlt3; simp at hlt3
    subst hxf
    have hg := mixX_get (subX M0) hx
    have hset := mixX_set (subX M0) hx
    have hS := C.expr_Substitute M0 hMl hMb (.sl A) (by rw [h5]; exact sld_sl) x (hxb x (List.mem_of_getElem? hx))
    have hq1 := xL_len (mixX xs (subX M0) q)
    have hq2 := xL_mem (mixX xs (subX M0) q)
    obtain ⟨z, hz⟩ : ∃ z, z = subX M0 x := ⟨_, rfl⟩
    rw [← hz] at hS hset
    have hset2 : (xL (mixX xs (subX M0) q)).set q z.ds = xL (mixX xs (subX M0) (q + 1)) := by rw [← hset]; unfold xL; rw [List.map_set]
    obtain ⟨o1, n1, v1, m1, l1, a1⟩ := x
    obtain ⟨o2, n2, v2, m2, l2, a2⟩ := z
    have hg := xL_get'' _ _ _ _ _ _ _ hg
    rw [Ex.av_mk, Ex.av_mk] at hS
    rw [Ex.ds_mk] at hset2
    obtain ⟨X, hX⟩ : ∃ X, X = xL (mixX xs (subX M0) q) := ⟨_, rfl⟩
    rw [← hX] at hg hset2 hq1 hq2 ⊢
    repeat' first|refine st ?_|((with_reducible first|apply k_pn|apply k_pc);(·exact hS))|(with_reducible first|apply k_d|apply k_b)<;>intro _
    refine ⟨q + 1, rfl, rfl, ?_, by omega, by omega⟩
    rw [show ((q : Int)).toNat = q from Int.toNat_natCast q, hset2]
   | none =>
    have hge := List.getElem?_eq_none_iff.1 hx
    have hqk : q = xs.length := by omega
    subst hqk
    rw [mixX_end]
    repeat' first|refine st ?_|(with_reducible first|apply k_d|apply k_b)<;>intro _
    exact ⟨rfl, rfl⟩
end Go.Proofs
end
section
namespace Go.Proofs
open Go.Bi
theorem C.clone0 (nm : List UInt8) (dc dk df dx : D) (Cs Ks : List (List D)) (cn kn : Bool) (hC : CallSpec Tryz.prog N.slices_Clone__api_Column_api_Column [.d dc] [] (fun r os => r = .arr 0 Cs.length ∧ os = [.arr Cs 3 0 cn])) (hK : CallSpec Tryz.prog N.slices_Clone__int_int [.d dk] [] (fun r os => r = .arr 0 Ks.length ∧ os = [.arr Ks 1 0 kn]))
  (hd : SlD df []) (l : List Ex) (hb : ∀ x ∈ l, x.bk ≤ 1048576) (hl : l.length ≤ 1048576) (hdx : SlD dx (xL l)) :
  CallSpec Tryz.prog N.schema_Clone [eT nm dc dk df dx] [] (fun r os => r = .agg (oB nm Cs.length Ks.length 0 (xL (l.map (shf 0))).length) ∧ os = clB [.d (.str nm), .d dc, .d dk, .d df, .d dx] (oB nm Cs.length Ks.length 0 (xL (l.map (shf 0))).length) nm Cs Ks cn kn [] (xL (l.map (shf 0))) (xL (l.map (shf 0))).isEmpty) := by
 have h1 := xL_len l
 have hm := xL_mem l
 have hg0 := xL_get'' (args := l)
 obtain ⟨R, hR⟩ : ∃ R, R = xL (l.map (shf 0)) := ⟨_, rfl⟩
 rw [← hR]
 obtain ⟨es, hes⟩ : ∃ es, es = xL l := ⟨_, rfl⟩
 rw [← hes] at h1 hm hdx hg0
 refine F.schema_Clone.goO mixed rfl ?_
 repeat' first|refine st ?_|((with_reducible apply k_ow);(·first|exact hC|exact hK))|(with_reducible first|apply k_d|apply k_b)<;>intro _
 refine x_nilrc 4 3 2 rfl rfl rfl ?_
 refine x_nilcc 4 4 7 rfl rfl rfl ?_
 refine x_rounds 1 ?_
 refine x_round mixed ?_
 repeat' first|refine st ?_|((with_reducible apply k_ow);(·first|exact hC|exact hK))|(with_reducible first|apply k_d|apply k_b)<;>intro _
 refine x_selm [2, 3, 37, 38, 39] [.ptr 1 0, .ptr 4 0, .d dx, .d (.int .i64 es.length), .d (eI 0)] [0, 1, 2, 3, 4, 5, 6] (clB [.d (.str nm), .d dc, .d dk, .d df, .d dx] [.d (.str []), .d .nil, .d .nil, .d .nil, .d .nil] nm Cs Ks cn kn [] [] true) rfl rfl (by decide) rfl rfl rfl rfl rfl ?_
 refine x_loop2 mixed Lt.schema_Clone_l1 Lk.schema_Clone_l1 (fun (i : Nat) (w : List (List D) × Bool) => [.d (eI i)]) (fun i w => clB [.d (.str nm), .d dc, .d dk, .d df, .d dx] [.d (.str []), .d .nil, .d .nil, .d .nil, .d .nil] nm Cs Ks cn kn [] w.1 w.2) (fun i w => i ≤ l.length ∧ w.1 = Mt (shf 0) l i ∧ w.2 = w.1.isEmpty) (fun i w => l.length - i) 0 ([], true) rfl rfl rfl rfl (fun _ _ _ => ⟨rfl, rfl⟩) rfl ⟨by omega, rfl, rfl⟩ ?_
 repeat' first|refine st ?_|(with_reducible first|apply k_d|apply k_b)<;>intro _
 intro i w ⟨h4, h5, h6⟩
 obtain ⟨A, b⟩ := w
 dsimp only at h5 h6 ⊢
 have hAl : A.length = i := by rw [h5]; exact Mt_len _ l i (by omega)
 have hAm : ∀ e ∈ A, e.length = 7 := by rw [h5]; exact Mt_mem _ _ _
 cases hx : l[i]? with
 | some x =>
  have hlt := (List.getElem?_eq_some_iff.1 hx).1
  have hs := Mt_succ (φ := shf 0) hx
  have hS := C.expr_Shift x (hb x (List.mem_of_getElem? hx)) 0
  rw [← h5] at hs
  obtain ⟨z, hz⟩ : ∃ z, z = shf 0 x := ⟨_, rfl⟩
  rw [← hz] at hs hS
  obtain ⟨o1, n1, v1, m1, l1, a1⟩ := x
  obtain ⟨o2, n2, v2, m2, l2, a2⟩ := z
  have hg := hg0 _ _ _ _ _ _ _ hx
  rw [Ex.ds_mk] at hs
  rw [Ex.av_mk, Ex.av_mk] at hS
  repeat' first|refine st ?_|((with_reducible first|apply k_pn|apply k_pc);(·exact hS))|(with_reducible first|apply k_d|apply k_b)<;>intro _
  exact ⟨i + 1, (A ++ [xds o2 n2 v2 m2 (ng l2 (xL a2))], false), rfl, rfl, rfl, by omega, by omega, hs, by simp⟩
 | none =>
  have hge := List.getElem?_eq_none_iff.1 hx
  rw [Mt_end hge, ← hR] at h5
  subst h5
  subst h6
  repeat' first|refine st ?_|(with_reducible first|apply k_d|apply k_b)<;>intro _
  all_goals exact ⟨rfl, rfl⟩
theorem C.clone1 (nm : List UInt8) (dc dk df dx : D) (Cs Ks : List (List D)) (cn kn : Bool) (hC : CallSpec Tryz.prog N.slices_Clone__api_Column_api_Column [.d dc] [] (fun r os => r = .arr 0 Cs.length ∧ os = [.arr Cs 3 0 cn])) (hK : CallSpec Tryz.prog N.slices_Clone__int_int [.d dk] [] (fun r os => r = .arr 0 Ks.length ∧ os = [.arr Ks 1 0 kn]))
  (f0 : Fi) (hf0 : f0.ok) (hd : df = .sl (eFi [f0])) (l : List Ex) (hb : ∀ x ∈ l, x.bk ≤ 1048576) (hl : l.length ≤ 1048576) (hdx : SlD dx (xL l)) :
  CallSpec Tryz.prog N.schema_Clone [eT nm dc dk df dx] [] (fun r os => r = .agg (oB nm Cs.length Ks.length 1 (xL (l.map (shf 0))).length) ∧ os = clB [.d (.str nm), .d dc, .d dk, .d df, .d dx] (oB nm Cs.length Ks.length 1 (xL (l.map (shf 0))).length) nm Cs Ks cn kn [f0] (xL (l.map (shf 0))) (xL (l.map (shf 0))).isEmpty) := by
 have h1 := xL_len l
 have hm := xL_mem l
 have hg0 := xL_get'' (args := l)
 obtain ⟨R, hR⟩ : ∃ R, R = xL (l.map (shf 0)) := ⟨_, rfl⟩
 rw [← hR]
 obtain ⟨es, hes⟩ : ∃ es, es = xL l := ⟨_, rfl⟩
 rw [← hes] at h1 hm hdx hg0
 subst hd
 obtain ⟨fd0, fe0, fn0, ft0⟩ := f0
 have hf0 : CallSpec Tryz.prog N.slices_Clone__int_int [.d fd0] [] (fun r os => r = .arr 0 fe0.length ∧ os = [.arr fe0 1 0 fn0]) := hf0
 rw [show eFi [⟨fd0, fe0, fn0, ft0⟩] = [[fd0, .str ft0]] from rfl]
 refine F.schema_Clone.goO mixed rfl ?_
 repeat' first|refine st ?_|((with_reducible apply k_ow);(·first|exact hC|exact hK|exact hf0))|(with_reducible first|apply k_d|apply k_b)<;>intro _
 refine x_nilrc 4 3 2 rfl rfl rfl ?_
 refine x_nilcc 4 4 7 rfl rfl rfl ?_
 refine x_rounds 2 ?_
 refine x_round mixed ?_
 repeat' first|refine st ?_|((with_reducible apply k_ow);(·first|exact hC|exact hK|exact hf0))|(with_reducible first|apply k_d|apply k_b)<;>intro _
 refine x_round mixed ?_
 repeat' first|refine st ?_|((with_reducible apply k_ow);(·first|exact hC|exact hK|exact hf0))|(with_reducible first|apply k_d|apply k_b)<;>intro _
 refine x_selm [2, 3, 37, 38, 39] [.ptr 1 0, .ptr 4 0, .d dx, .d (.int .i64 es.length), .d (eI 0)] [0, 1, 2, 3, 4, 5, 6, 8] (clB [.d (.str nm), .d dc, .d dk, .d (.sl [[fd0, .str ft0]]), .d dx] [.d (.str []), .d .nil, .d .nil, .d .nil, .d .nil] nm Cs Ks cn kn [⟨fd0, fe0, fn0, ft0⟩] [] true) rfl rfl (by decide) rfl rfl rfl rfl rfl ?_
 refine x_loop2 mixed Lt.schema_Clone_l1 Lk.schema_Clone_l1 (fun (i : Nat) (w : List (List D) × Bool) => [.d (eI i)]) (fun i w => clB [.d (.str nm), .d dc, .d dk, .d (.sl [[fd0, .str ft0]]), .d dx] [.d (.str []), .d .nil, .d .nil, .d .nil, .d .nil] nm Cs Ks cn kn [⟨fd0, fe0, fn0, ft0⟩] w.1 w.2) (fun i w => i ≤ l.length ∧ w.1 = Mt (shf 0) l i ∧ w.2 = w.1.isEmpty) (fun i w => l.length - i) 0 ([], true) rfl rfl rfl rfl (fun _ _ _ => ⟨rfl, rfl⟩) rfl ⟨by omega, rfl, rfl⟩ ?_
 repeat' first|refine st ?_|(with_reducible first|apply k_d|apply k_b)<;>intro _
 intro i w ⟨h4, h5, h6⟩
 obtain ⟨A, b⟩ := w
 dsimp only at h5 h6 ⊢
 have hAl : A.length = i := by rw [h5]; exact Mt_len _ l i (by omega)
 have hAm : ∀ e ∈ A, e.length = 7 := by rw [h5]; exact Mt_mem _ _ _
 cases hx : l[i]? with
 | some x =>
  have hlt := (List.getElem?_eq_some_iff.1 hx).1
  have hs := Mt_succ (φ := shf 0) hx
  have hS := C.expr_Shift x (hb x (List.mem_of_getElem? hx)) 0
  rw [← h5] at hs
  obtain ⟨z, hz⟩ : ∃ z, z = shf 0 x := ⟨_, rfl⟩
  rw [← hz] at hs hS
  obtain ⟨o1, n1, v1, m1, l1, a1⟩ := x
  obtain ⟨o2, n2, v2, m2, l2, a2⟩ := z
  have hg := hg0 _ _ _ _ _ _ _ hx
  rw [Ex.ds_mk] at hs
  rw [Ex.av_mk, Ex.av_mk] at hS
  repeat' first|refine st ?_|((with_reducible first|apply k_pn|apply k_pc);(·exact hS))|(with_reducible first|apply k_d|apply k_b)<;>intro _
  exact ⟨i + 1, (A ++ [xds o2 n2 v2 m2 (ng l2 (xL a2))], false), rfl, rfl, rfl, by omega, by omega, hs, by simp⟩
 | none =>
  have hge := List.getElem?_eq_none_iff.1 hx
  rw [Mt_end hge, ← hR] at h5
  subst h5
  subst h6
  repeat' first|refine st ?_|(with_reducible first|apply k_d|apply k_b)<;>intro _
  all_goals exact ⟨rfl, rfl⟩
theorem C.clone2 (nm : List UInt8) (dc dk df dx : D) (Cs Ks : List (List D)) (cn kn : Bool) (hC : CallSpec Tryz.prog N.slices_Clone__api_Column_api_Column [.d dc] [] (fun r os => r = .arr 0 Cs.length ∧ os = [.arr Cs 3 0 cn])) (hK : CallSpec Tryz.prog N.slices_Clone__int_int [.d dk] [] (fun r os => r = .arr 0 Ks.length ∧ os = [.arr Ks 1 0 kn]))
  (f0 f1 : Fi) (hf0 : f0.ok) (hf1 : f1.ok) (hd : df = .sl (eFi [f0, f1])) (l : List Ex) (hb : ∀ x ∈ l, x.bk ≤ 1048576) (hl : l.length ≤ 1048576) (hdx : SlD dx (xL l)) :
  CallSpec Tryz.prog N.schema_Clone [eT nm dc dk df dx] [] (fun r os => r = .agg (oB nm Cs.length Ks.length 2 (xL (l.map (shf 0))).length) ∧ os = clB [.d (.str nm), .d dc, .d dk, .d df, .d dx] (oB nm Cs.length Ks.length 2 (xL (l.map (shf 0))).length) nm Cs Ks cn kn [f0, f1] (xL (l.map (shf 0))) (xL (l.map (shf 0))).isEmpty) := by
 have h1 := xL_len l
 have hm := xL_mem l
 have hg0 := xL_get'' (args := l)
 obtain ⟨R, hR⟩ : ∃ R, R = xL (l.map (shf 0)) := ⟨_, rfl⟩
 rw [← hR]
 obtain ⟨es, hes⟩ : ∃ es, es = xL l := ⟨_, rfl⟩
 rw [← hes] at h1 hm hdx hg0
 subst hd
 obtain ⟨fd0, fe0, fn0, ft0⟩ := f0
 have hf0 : CallSpec Tryz.prog N.slices_Clone__int_int [.d fd0] [] (fun r os => r = .arr 0 fe0.length ∧ os = [.arr fe0 1 0 fn0]) := hf0
 obtain ⟨fd1, fe1, fn1, ft1⟩ := f1
 have hf1 : CallSpec Tryz.prog N.slices_Clone__int_int [.d fd1] [] (fun r os => r = .arr 0 fe1.length ∧ os = [.arr fe1 1 0 fn1]) := hf1
 rw [show eFi [⟨fd0, fe0, fn0, ft0⟩, ⟨fd1, fe1, fn1, ft1⟩] = [[fd0, .str ft0], [fd1, .str ft1]] from rfl]
 refine F.schema_Clone.goO mixed rfl ?_
 repeat' first|refine st ?_|((with_reducible apply k_ow);(·first|exact hC|exact hK|exact hf0|exact hf1))|(with_reducible first|apply k_d|apply k_b)<;>intro _
 refine x_nilrc 4 3 2 rfl rfl rfl ?_
 refine x_nilcc 4 4 7 rfl rfl rfl ?_
 refine x_rounds 3 ?_
 refine x_round mixed ?_
 repeat' first|refine st ?_|((with_reducible apply k_ow);(·first|exact hC|exact hK|exact hf0|exact hf1))|(with_reducible first|apply k_d|apply k_b)<;>intro _
 refine x_round mixed ?_
 repeat' first|refine st ?_|((with_reducible apply k_ow);(·first|exact hC|exact hK|exact hf0|exact hf1))|(with_reducible first|apply k_d|apply k_b)<;>intro _
 refine x_round mixed ?_
 repeat' first|refine st ?_|((with_reducible apply k_ow);(·first|exact hC|exact hK|exact hf0|exact hf1))|(with_reducible first|apply k_d|apply k_b)<;>intro _
 refine x_selm [2, 3, 37, 38, 39] [.ptr 1 0, .ptr 4 0, .d dx, .d (.int .i64 es.length), .d (eI 0)] [0, 1, 2, 3, 4, 5, 6, 8, 11] (clB [.d (.str nm), .d dc, .d dk, .d (.sl [[fd0, .str ft0], [fd1, .str ft1]]), .d dx] [.d (.str []), .d .nil, .d .nil, .d .nil, .d .nil] nm Cs Ks cn kn [⟨fd0, fe0, fn0, ft0⟩, ⟨fd1, fe1, fn1, ft1⟩] [] true) rfl rfl (by decide) rfl rfl rfl rfl rfl ?_
 refine x_loop2 mixed Lt.schema_Clone_l1 Lk.schema_Clone_l1 (fun (i : Nat) (w : List (List D) × Bool) => [.d (eI i)]) (fun i w => clB [.d (.str nm), .d dc, .d dk, .d (.sl [[fd0, .str ft0], [fd1, .str ft1]]), .d dx] [.d (.str []), .d .nil, .d .nil, .d .nil, .d .nil] nm Cs Ks cn kn [⟨fd0, fe0, fn0, ft0⟩, ⟨fd1, fe1, fn1, ft1⟩] w.1 w.2) (fun i w => i ≤ l.length ∧ w.1 = Mt (shf 0) l i ∧ w.2 = w.1.isEmpty) (fun i w => l.length - i) 0 ([], true) rfl rfl rfl rfl (fun _ _ _ => ⟨rfl, rfl⟩) rfl ⟨by omega, rfl, rfl⟩ ?_
 repeat' first|refine st ?_|(with_reducible first|apply k_d|apply k_b)<;>intro _
 intro i w ⟨h4, h5, h6⟩
 obtain ⟨A, b⟩ := w
 dsimp only at h5 h6 ⊢
 have hAl : A.length = i := by rw [h5]; exact Mt_len _ l i (by omega)
 have hAm : ∀ e ∈ A, e.length = 7 := by rw [h5]; exact Mt_mem _ _ _
 cases hx : l[i]? with
 | some x =>
  have hlt := (List.getElem?_eq_some_iff.1 hx).1
  have hs := Mt_succ (φ := shf 0) hx
  have hS := C.expr_Shift x (hb x (List.mem_of_getElem? hx)) 0
  rw [← h5] at hs
  obtain ⟨z, hz⟩ : ∃ z, z = shf 0 x := ⟨_, rfl⟩
  rw [← hz] at hs hS
  obtain ⟨o1, n1, v1, m1, l1, a1⟩ := x
  obtain ⟨o2, n2, v2, m2, l2, a2⟩ := z
  have hg := hg0 _ _ _ _ _ _ _ hx
  rw [Ex.ds_mk] at hs
  rw [Ex.av_mk, Ex.av_mk] at hS
  repeat' first|refine st ?_|((with_reducible first|apply k_pn|apply k_pc);(·exact hS))|(with_reducible first|apply k_d|apply k_b)<;>intro _
  exact ⟨i + 1, (A ++ [xds o2 n2 v2 m2 (ng l2 (xL a2))], false), rfl, rfl, rfl, by omega, by omega, hs, by simp⟩
 | none =>
  have hge := List.getElem?_eq_none_iff.1 hx
  rw [Mt_end hge, ← hR] at h5
  subst h5
  subst h6
  repeat' first|refine st ?_|(with_reducible first|apply k_d|apply k_b)<;>intro _
  all_goals exact ⟨rfl, rfl⟩
end Go.Proofs
end
section
namespace Go.Bi
open Go
section
variable {P : Program} {n nb : Nat} {M : Mem} {G : Gh} {os : List AO} {w : World} {ρ : Rho} {a : Act}
def retOI2 (Q : AV → List AO → Prop) (rs : List RV) (ρ : Rho) (os : List AO) : Prop := resI ρ os rs fun l => match l with
 | [x, y] => x.one = true ∧ y.one = true ∧ Q (.tup [x, y]) os
 | _ => False
def retO2 (Q : AV → List AO → Prop) (rs : List RV) (L : Sl) (os : List AO) : Prop := xRes L os rs fun l => match l with
 | [x, y] => Chk (x.one = true) (Chk (y.one = true) (Q (.tup [x, y]) os))
 | _ => False
theorem resI_mono2 {ρ : Rho} {os : List AO} {K K' : List AV → Prop} (hk : ∀ l, K l → K' l) : ∀ {rs : List RV}, resI ρ os rs K → resI ρ os rs K'
 | [], h => hk _ h
 | .t s :: rs, h => resI_mono2 (rs := rs) (fun l hl => hk _ hl) h
 | .cell s m g :: rs, h => by
  simp only [resI] at h ⊢
  obtain ⟨r, h1, h2⟩ := loadI_iff h
  exact h2 _ (resI_mono2 (rs := rs) (fun l hl => hk _ hl) h1)
theorem retO2_ok {Q : AV → List AO → Prop} {rs : List RV} {L : Sl} {os : List AO} (h : retO2 Q rs L os) : retOI2 Q rs (ofL L) os := by
 have h1 := xRes_ok h
 refine resI_mono2 (fun l hl => ?_) h1
 match l, hl with
 | [x, y], hl => exact ⟨hl.1, hl.2.1, hl.2.2⟩
theorem own_ok2 {c : Ctx} (hR : Rel n nb c M G os w ρ a) {fn : Func} {rs : List RV} (hrs : fn.results.toList.mapM (cRV P) = some rs) {Q : AV → List AO → Prop} (h : retOI2 Q rs ρ os) :
  ∃ v, (results fn a.tmps).run P w = .ok v w ∧ ∃ M' G' r os', Env M' G' os' w ∧ Since c.M c.G c.os c.w M' G' os' w ∧ VA M' G' os' r v ∧ Q r os' := by
 obtain ⟨l, vs, h1, h2, h3, h4⟩ := resI_run hR.env hR.tmps _ rs hrs _ h
 match l, h1, h3, h4 with
 | [x, y], h1, h3, h4 =>
  simp only [List.length_cons, List.length_nil] at h3
  refine ⟨_, run_results h2, M, G, .tup [x, y], os, hR.env, hR.since, ?_, h1.2.2⟩
  rw [dif_neg (by omega)]
  refine ⟨vs.toArray, rfl, by simpa using h3, fun j c u hc hu => ?_⟩
  have hu : vs[j]? = some u := by simpa using hu
  match j, hc with
  | 0, hc => cases hc; exact one_vg (h4 0 _ u rfl hu) h1.1
  | 1, hc => cases hc; exact one_vg (h4 1 _ u rfl hu) h1.2.1
  | j + 2, hc => simp at hc
theorem fn_own2 (hm : P.follows .mixedOrders = true) {f : FuncId} {fn : Func} {code : Code} {ic : IC} {rs : List RV} (hf : P.funcs[f]? = some fn) (hname : fn.name ≠ "runtime.NumGoroutine") (hb : fn.body = some code) (hc : cC P fn.ntmps code = some ic)
  (hrs : fn.results.toList.mapM (cRV P) = some rs) {args : List AV} {bs : List AO} (hargs : args.length ≤ fn.ntmps) {Q : AV → List AO → Prop}
  (h : wpI P fn.ntmps bs.length ic { norm := retOI2 Q rs, exit := fun _ _ _ => False, ret := retOI2 Q rs } (argsRho args) bs) : CallSpec P f args bs Q := by
 refine ⟨⟨fn, hf, by rw [hb]; rfl, hname⟩, fun M G w vs he hl hv => ?_⟩
 refine calls_of_wp hf hb (wp_mono (wpI_tri hm code ic hc _ _ _ h ⟨M, G, bs, w⟩ M G w { tmps := vs ++ Array.replicate (fn.ntmps - vs.size) undef, defers := [] } ?_) fun e a' w' hp => ?_)
 ·exact {
   env := he, since := Since.refl .., size := by simp; omega, defers := rfl, base := rfl
   tmps := fun t => by
    unfold argsRho
    by_cases ht : t < args.length
    ·have h1 : (vs ++ Array.replicate (fn.ntmps - vs.size) undef).getD t undef = vs[t] := by
      simp [Array.getElem?_append_left (show t < vs.size by omega), show t < vs.size by omega]
     have h2 : args.getD t .junk = args[t] := by simp [ht]
     show VA M G bs (args.getD t .junk) ((vs ++ Array.replicate (fn.ntmps - vs.size) undef).getD t undef)
     rw [h1, h2]
     have := hv t args[t] vs[t] (List.getElem?_eq_getElem ht) (Array.getElem?_eq_getElem (by omega))
     generalize args[t] = c at this
     cases c with
     | tup cs => exact this.elim
     | junk => trivial
     | _ => exact this
    ·have : args.getD t .junk = .junk := by simp [List.getD_eq_getElem?_getD, List.getElem?_eq_none (Nat.le_of_not_lt ht)]
     rw [this]
     trivial }
 ·have fin : Fits fn.ntmps bs.length ⟨M, G, bs, w⟩ (retOI2 Q rs) a' w' → a'.defers = [] ∧ ∃ v, (results fn a'.tmps).run P w' = .ok v w' ∧ ∃ v', Ending.returned v = .returned v' ∧ ∃ M' G' r os', Env M' G' os' w' ∧ Since M G bs w M' G' os' w' ∧ VA M' G' os' r v' ∧ Q r os' := by
   rintro ⟨M', G', os', ρ', hR, hk⟩
   obtain ⟨v, h1, h2⟩ := own_ok2 hR hrs hk
   exact ⟨hR.defers, v, h1, v, rfl, h2⟩
  cases e with
  | normal => exact fin hp
  | ret => exact fin hp
  | exit id => obtain ⟨_, _, _, _, _, hk⟩ := hp; exact hk.elim
  | _ => exact hp.elim
end
theorem IsFn.goO2 {P : Program} (hm : P.follows .mixedOrders = true) {f n : Nat} {ic : IC} {rs : List RV} (h : IsFn P f n ic rs) {args : List AV} {bs : List AO} (hargs : Nat.ble args.length n = true) {Q : AV → List AO → Prop}
  (hw : Go (xI P n bs.length ic (retO2 Q rs) (fun _ _ _ => False) (retO2 Q rs) (argsL 0 args) bs)) : CallSpec P f args bs Q := by
 obtain ⟨fn, h1, h2, h3, h4, h5⟩ := h
 obtain ⟨code, hb, hc⟩ := Option.bind_eq_some_iff.1 h4
 subst h2
 refine fn_own2 hm h1 (by simpa using h3) hb hc h5 (Nat.le_of_ble_eq_true hargs) ?_
 rw [ofL_args]
 exact xI_ok (K := ⟨retO2 Q rs, fun _ _ _ => False, retO2 Q rs⟩) ⟨fun L os h => retO2_ok h, fun _ _ _ h => h, fun L os h => retO2_ok h⟩ hw
end Go.Bi
end
section
namespace Go.Proofs
open Go.Bi
theorem C.apply_err (t : Tb) (dc dk df dx : D) (h : Tok t dc dk df dx) (c : Ch) (hc : Cok c) (hq : evoE t c ≠ 0) : Pure Tryz.prog N.evolve_Apply [eT t.nm dc dk df dx, c.av] (.tup [eT [] .nil .nil .nil .nil, .d (eI (evoE t c))]) := by
 have hC := C.evolve_Check t dc dk df dx h c hc
 obtain ⟨q, hqq⟩ : ∃ q, q = evoE t c := ⟨_, rfl⟩
 rw [← hqq] at hC hq ⊢
 obtain ⟨k, nm, to, ⟨cn, ck, cl⟩, ⟨vk, vn, vs⟩⟩ := c
 refine F.evolve_Apply.go mixed rfl ?_
 repeat' first|refine st ?_|((with_reducible first|apply k_pn|apply k_pc);(·exact hC))|(with_reducible first|apply k_d|apply k_b)<;>intro _
 all_goals rfl
end Go.Proofs
end
section
namespace Go.Proofs
open Go.Bi
theorem C.drop0_lift (T0 T1 T2 T3 T4 T7 : AO) (nm : List UInt8) (es : List (List D)) (hm : ∀ e ∈ es, e.length = 3) (i : Nat) (hi : i < es.length) (hel : es.length ≤ 1048576) (ks : List Int) (hkb : ∀ k ∈ ks, 0 ≤ k ∧ k ≤ 1048576) (hkl : ks.length ≤ 1048576) (kn : Bool) (hkn : kn = true → ks = []) (xs : List Ex) (hxl : xs.length ≤ 1048576) (hxb : ∀ e ∈ xs, e.bk ≤ 1048576) (xn : Bool) (hxn : xn = true → xs = []) :
    CallSpec Tryz.prog N.evolve_drop [.ptr 10 0, .d (eI i)] [T0, T1, T2, T3, T4, .arr es 3 0 false, .arr (eIs ks) 1 0 kn, T7, .rarr [] 2 true, .arr (xL xs) 7 0 xn, .cells [.d (.str nm), .arr 5 es.length, .arr 6 (eIs ks).length, .rs 8 0, .arr 9 (xL xs).length]]
      (fun r os => r = .tup [] ∧ os = [T0, T1, T2, T3, T4, .arr (es.eraseIdx i ++ [zRow]) 3 (es.length - 1) false, .arr (eIs (ks.map fun c => belowI c i)) 1 0 kn, T7, .rarr [] 2 true, .arr (xL (xs.map (subX (mvL es.length i)))) 7 0 xn,
        .cells [.d (.str nm), .d (.sl (es.eraseIdx i)), .arr 6 (eIs ks).length, .rs 8 0, .arr 9 (xL xs).length]]) := by
  have := CallSpec.frame (K := fun r os => r = .tup [] ∧ os = [T0, T1, T2, T3, T4, .arr (es.eraseIdx i ++ [zRow]) 3 (es.length - 1) false, .arr (eIs (ks.map fun c => belowI c i)) 1 0 kn, T7, .rarr [] 2 true, .arr (xL (xs.map (subX (mvL es.length i)))) 7 0 xn,
        .cells [.d (.str nm), .d (.sl (es.eraseIdx i)), .arr 6 (eIs ks).length, .rs 8 0, .arr 9 (xL xs).length]]) (C.drop0 nm es hm i hi hel ks hkb hkl kn hkn xs hxl hxb xn hxn) [10, 5, 6, 8, 9]
    [T0, T1, T2, T3, T4, .arr es 3 0 false, .arr (eIs ks) 1 0 kn, T7, .rarr [] 2 true, .arr (xL xs) 7 0 xn, .cells [.d (.str nm), .arr 5 es.length, .arr 6 (eIs ks).length, .rs 8 0, .arr 9 (xL xs).length]] rfl (by decide) (fun i o h => by
      match i, h with
      | 0, h => cases h; rfl
      | 1, h => cases h; rfl
      | 2, h => cases h; rfl
      | 3, h => cases h; rfl
      | 4, h => cases h; rfl
      | i + 5, h => simp at h) (fun a ha => by
        simp only [List.mem_cons, List.not_mem_nil, or_false] at ha
        rcases ha with rfl | rfl <;> simp [AV.bnd2, AV.bnd1]) (fun o ho => by
        simp only [List.mem_cons, List.not_mem_nil, or_false] at ho
        rcases ho with rfl | rfl | rfl | rfl | rfl
        · exact bndo_of rfl
        · exact bndo_of rfl
        · exact bndo_of rfl
        · exact bndo_of rfl
        · exact bndo_of rfl) (by
      rintro r bs' ⟨rfl, rfl⟩
      exact ⟨rfl, rfl⟩)
  exact this
end Go.Proofs
end
section
namespace Go.Proofs
open Go.Bi
theorem slD_isN {d : D} {es : List (List D)} (h : SlD d es) : slD (isN d) es = d := by
 rcases h with ⟨rfl, rfl⟩ | rfl <;> rfl
theorem sld_slD {b : Bool} {es : List (List D)} (h : b = true → es = []) : SlD (slD b es) es := by
 cases b with
 | true => exact .inl ⟨rfl, h rfl⟩
 | false => exact .inr rfl
theorem isN_nil {d : D} {es : List (List D)} (h : SlD d es) (hn : isN d = true) : es = [] := by
 rcases h with ⟨_, h1⟩ | rfl
 ·exact h1
 ·cases hn
theorem da_tabF {os : List AO} {nm : List UInt8} {b f x : Nat} {dcv : AV} {dcd : D} {K X : List (List D)} {rows : List (List AV)} {fs : List Fo} {kn xn nl : Bool} {kz xz kf xf : Nat} {e : D}
  (h1 : DC os dcv dcd) (h2 : os[b]? = some (.arr K kz kf kn)) (h3 : os[f]? = some (.rarr rows 2 nl)) (h4 : os[x]? = some (.arr X xz xf xn)) (hl : fs.length = rows.length)
  (hr : ∀ (i : Nat) e (g : Fo), rows[i]? = some e → fs[i]? = some g → ∃ q es fl, e = [.arr q es.length, .d (.str g.tb)] ∧ os[q]? = some (.arr es 1 0 fl) ∧ g.d = slD fl es) :
  DA os (.tup [.agg [.d (.str nm), dcv, .arr b K.length, .rs f rows.length, .arr x X.length], .d e]) (.tup [eT nm dcd (slD kn K) (slD nl (eFs fs)) (slD xn X), .d e]) := by
 refine .inr ⟨_, _, rfl, rfl, rfl, fun j c y hc hy => ?_⟩
 match j, hc, hy with
 | 0, hc, hy =>
  cases hc; cases hy
  refine .inr ⟨_, [.str nm, dcd, slD kn K, slD nl (eFs fs), slD xn X], rfl, rfl, rfl, fun j c y hc hy => ?_⟩
  match j, hc, hy with
  | 0, hc, hy => cases hc; cases hy; exact .inl (.inl rfl)
  | 1, hc, hy => cases hc; cases hy; exact h1
  | 2, hc, hy => cases hc; cases hy; exact .inl (.inr ⟨b, K, kz, kf, kn, rfl, h2, rfl⟩)
  | 3, hc, hy =>
   cases hc; cases hy
   refine .inr ⟨f, rows, 2, nl, eFs fs, rfl, h3, by rw [eFs_len]; exact hl, fun i e e' he he' => ?_, rfl⟩
   obtain ⟨g, hg, rfl⟩ : ∃ g, fs[i]? = some g ∧ g.ds = e' := by
    unfold eFs at he'
    rw [List.getElem?_map] at he'
    exact Option.map_eq_some_iff.1 he'
   obtain ⟨q, es, fl, rfl, h5, h6⟩ := hr i e g he hg
   refine ⟨rfl, fun j c x hc hx => ?_⟩
   match j, hc, hx with
   | 0, hc, hx => cases hc; cases hx; exact .inr ⟨q, es, 1, 0, fl, rfl, h5, h6⟩
   | 1, hc, hx => cases hc; cases hx; exact .inl rfl
   | j + 2, hc, hx => simp at hc
  | 4, hc, hy => cases hc; cases hy; exact .inl (.inr ⟨x, X, xz, xf, xn, rfl, h4, rfl⟩)
  | j + 5, hc, hy => simp at hc
 | 1, hc, hy => cases hc; cases hy; exact .inl ⟨e, .inl (.inl rfl), rfl⟩
 | j + 2, hc, hy => simp at hc
theorem map_erase {α β : Type} (f : α → β) : ∀ (l : List α) (i : Nat), (l.eraseIdx i).map f = (l.map f).eraseIdx i
 | [], i => rfl
 | a :: l, 0 => rfl
 | a :: l, i + 1 => by simp [map_erase f l i]
theorem eCs_erase (l : List Co) (i : Nat) : eCs (l.eraseIdx i) = (eCs l).eraseIdx i := map_erase _ _ _
def dF (l : List Fo) : D := slD l.isEmpty (eFs l)
def blF (i : Nat) (g : Fo) : Fo := ⟨g.nl, g.cs.map fun c => belowI c i, g.tb⟩
theorem blF_d (i : Nat) (g : Fo) : (blF i g).d = slD (isN g.d) (eIs (g.cs.map fun c => belowI c i)) := by
 obtain ⟨nl, cs, tb⟩ := g
 unfold blF Fo.d ng
 cases nl <;> cases cs <;> rfl
end Go.Proofs
end
section
namespace Go.Proofs
open Go.Bi
def fitB (v : Vl) (k : Int) : Bool := vValid v && (decide (v.k = 0) || decide (v.k = k))
def fits (row : List Vl) (ks : List Int) : Bool := decide (row.length = ks.length) && (row.zip ks).all fun p => fitB p.1 p.2
theorem fe_zero : ∀ {l : List (Int × Int)}, fe l = 0 → ∀ x ∈ l, x.2 = 0
 | [], _, x, hx => by cases hx
 | y :: l, h, x, hx => by
  unfold fe at h
  by_cases hy : y.2 = 0
  ·rw [if_pos hy] at h
   rcases List.mem_cons.1 hx with rfl | hx
   ·exact hy
   ·exact fe_zero h x hx
  ·rw [if_neg hy] at h; exact absurd h hy
def Knd (l : List Vl) (ks : List Int) : Prop := l.length = ks.length ∧ ∀ i, (h : i < l.length) → (h2 : i < ks.length) → l[i].k = ks[i] ∨ l[i].k = 0
theorem Knd.all {l : List Vl} {ks : List Int} (h : Knd l ks) {r : Int} (hr : ∀ x ∈ ks, x = 0 ∨ x = r) : ∀ v ∈ l, v.k = r ∨ v.k = 0 := by
 intro v hv
 obtain ⟨i, hi, rfl⟩ := List.mem_iff_getElem.1 hv
 have h2 : i < ks.length := by have := h.1; omega
 have h3 := h.2 i hi h2
 have h4 := hr ks[i] (List.getElem_mem h2)
 omega
end Go.Proofs
end
section
namespace Go.Proofs
open Go.Bi
theorem cp_mk (op n : Int) (v : Vl) (nm : List UInt8) (nl : Bool) (args : List Ex) : cpX (.mk op n v nm nl args) = .mk op n v nm true (args.map cpX) := by
 unfold cpX
 rw [mapX_mk]
 split <;> rfl
theorem map_same {α β : Type} {f g : α → β} {l : List α} (h : ∀ a ∈ l, f a = g a) : l.map f = l.map g := List.map_congr_left h
theorem map_comp {α β γ : Type} {f : β → γ} {g : α → β} {h : α → γ} {l : List α} (hh : ∀ a ∈ l, f (g a) = h a) : (l.map g).map f = l.map h := by
 rw [List.map_map]; exact List.map_congr_left hh
theorem cp_cp : ∀ e : Ex, cpX (cpX e) = cpX e := by
 refine Ex.ind fun op n v nm nl args ih => ?_
 rw [cp_mk, cp_mk, map_comp (h := cpX) fun a ha => ih a ha]
theorem w64_in {n : Int} (h1 : IntKind.i64.min ≤ n) (h2 : n ≤ IntKind.i64.max) : w64 (n + 0) = n := by
 have e1 : IntKind.i64.min = -9223372036854775808 := rfl
 have e2 : IntKind.i64.max = 9223372036854775807 := rfl
 rw [Int.add_zero]
 show IntKind.i64.wrap n = n
 rw [IntKind.wrap_i64]
 omega
theorem shf0_cp : ∀ e : Ex, e.Rg → shf 0 e = cpX e := by
 refine Ex.ind fun op n v nm nl args ih hr => ?_
 cases hr with
 | mk h1 h2 h =>
  rw [shf_mk, cp_mk, map_same (g := cpX) fun a ha => ih a ha (h a ha), w64_in h1 h2]
  split <;> rfl
theorem cp_dep : ∀ e : Ex, dep (cpX e) = dep e := by
 refine Ex.ind fun op n v nm nl args ih => ?_
 rw [cp_mk, dep_mk, dep_mk, map_comp (h := dep) fun a ha => ih a ha]
theorem cp_chk (ks : List Int) : ∀ e : Ex, chk ks (cpX e) = chk ks e := by
 refine Ex.ind fun op n v nm nl args ih => ?_
 rw [cp_mk, chk_mk, chk_mk, List.length_map, map_comp (h := chk ks) fun a ha => ih a ha]
theorem flat_same {α : Type} {f g : α → List Int} : ∀ {l : List α}, (∀ a ∈ l, f a = g a) → l.flatMap f = l.flatMap g
 | [], _ => rfl
 | a :: l, h => by rw [List.flatMap_cons, List.flatMap_cons, h a (by simp), flat_same fun b hb => h b (by simp [hb])]
theorem flat_map' {α β : Type} (f : α → β) (g : β → List Int) : ∀ l : List α, (l.map f).flatMap g = l.flatMap fun a => g (f a)
 | [] => rfl
 | a :: l => by rw [List.map_cons, List.flatMap_cons, List.flatMap_cons, flat_map' f g l]
theorem cp_raw : ∀ e : Ex, rawC (cpX e) = rawC e := by
 refine Ex.ind fun op n v nm nl args ih => ?_
 rw [cp_mk, rawC_mk, rawC_mk, flat_map', flat_same (g := rawC) fun a ha => ih a ha]
theorem cp_cols (e : Ex) : cols (cpX e) = cols e := by unfold cols; rw [cp_raw]
theorem cp_rg : ∀ e : Ex, e.Rg → (cpX e).Rg := by
 refine Ex.ind fun op n v nm nl args ih hr => ?_
 cases hr with
 | mk h1 h2 h =>
  rw [cp_mk]
  refine .mk h1 h2 fun a ha => ?_
  obtain ⟨b, hb, rfl⟩ := List.mem_map.1 ha
  exact ih b hb (h b hb)
theorem bk_true (op n n' : Int) (v : Vl) (nm : List UInt8) (nl : Bool) (args args' : List Ex) (h : bulkLL (xL args') ≤ bulkLL (xL args)) : (Ex.mk op n' v nm true args').bk ≤ (Ex.mk op n v nm nl args).bk := by
 rw [Ex.bk, Ex.bk, Ex.ds_mk, Ex.ds_mk]
 simp only [bulkL, bulkD, bulk_ng]
 omega
theorem cp_bk : ∀ e : Ex, (cpX e).bk ≤ e.bk := by
 refine Ex.ind fun op n v nm nl args ih => ?_
 rw [cp_mk]
 exact bk_true _ _ _ _ _ _ _ _ (bulk_map cpX args ih)
theorem cp_sm : ∀ a b : Ex, cpX a = cpX b → smE a b = true := by
 refine Ex.ind fun op n v nm nl args ih b h => ?_
 obtain ⟨op', n', v', nm', nl', args'⟩ := b
 rw [cp_mk, cp_mk] at h
 injection h with e1 e2 e3 e4 e5 hm
 subst e1; subst e2; subst e3; subst e4
 rw [smE_mk, smL_eq]
 have hl : args.length = args'.length := by rw [← List.length_map (f := cpX), hm, List.length_map]
 simp only [decide_true, Bool.true_and, hl, List.all_eq_true]
 intro p hp
 obtain ⟨i, hi, rfl⟩ := List.mem_iff_getElem.1 hp
 rw [List.length_zip] at hi
 rw [List.getElem_zip]
 refine ih _ (List.getElem_mem _) _ ?_
 have e1 : (args.map cpX)[i]? = some (cpX (args[i]'(by omega))) := by rw [List.getElem?_map, List.getElem?_eq_getElem (by omega)]; rfl
 have e2 : (args'.map cpX)[i]? = some (cpX (args'[i]'(by omega))) := by rw [List.getElem?_map, List.getElem?_eq_getElem (by omega)]; rfl
 rw [hm, e2] at e1
 exact (Option.some.inj e1).symm
def dnC (i : Nat) : Ex → Ex
 | .mk op n v nm nl args => .mk op (belowI n i) v nm nl args
def dnX (i : Nat) (e : Ex) : Ex := mapX (dnC i) e
theorem dn_mk (i : Nat) (op n : Int) (v : Vl) (nm : List UInt8) (nl : Bool) (args : List Ex) : dnX i (.mk op n v nm nl args) = .mk op (if op = 2 then belowI n i else n) v nm true (args.map (dnX i)) := by
 unfold dnX
 rw [mapX_mk]
 split <;> rfl
theorem dn_cp (i : Nat) : ∀ e : Ex, dnX i (cpX e) = dnX i e := by
 refine Ex.ind fun op n v nm nl args ih => ?_
 rw [cp_mk, dn_mk, dn_mk, map_comp (h := dnX i) fun a ha => ih a ha]
theorem dn_bk (i : Nat) : ∀ e : Ex, (dnX i e).bk ≤ e.bk := by
 refine Ex.ind fun op n v nm nl args ih => ?_
 rw [dn_mk]
 exact bk_true _ _ _ _ _ _ _ _ (bulk_map (dnX i) args ih)
theorem belowI_rg {n : Int} (i : Nat) (h1 : IntKind.i64.min ≤ n) (h2 : n ≤ IntKind.i64.max) : IntKind.i64.min ≤ belowI n i ∧ belowI n i ≤ IntKind.i64.max := by
 have e1 : IntKind.i64.min = -9223372036854775808 := rfl
 have e2 : IntKind.i64.max = 9223372036854775807 := rfl
 unfold belowI
 split <;> omega
theorem dn_rg (i : Nat) : ∀ e : Ex, e.Rg → (dnX i e).Rg := by
 refine Ex.ind fun op n v nm nl args ih hr => ?_
 cases hr with
 | mk h1 h2 h =>
  rw [dn_mk]
  have hb := belowI_rg i h1 h2
  refine .mk (by split; exact hb.1; exact h1) (by split; exact hb.2; exact h2) fun a ha => ?_
  obtain ⟨b, hb, rfl⟩ := List.mem_map.1 ha
  exact ih b hb (h b hb)
theorem chk_ok {ks : List Int} {op n : Int} {v : Vl} {nm : List UInt8} {nl : Bool} {args : List Ex} (h : (chk ks (.mk op n v nm nl args)).2 = 0) :
  (cnt op args.length).2 = true ∧ fmd op n v nm args.length = true ∧ (op = 2 → 0 ≤ n ∧ n < ks.length ∧ args = [] ∧ nm = [] ∧ v = vNull) ∧ (op ≠ 2 → ∀ a ∈ args, (chk ks a).2 = 0) := by
 rw [chk_mk] at h
 unfold ckF at h
 by_cases h1 : (cnt op args.length).2 = false
 ·rw [if_pos h1] at h; cases h
 by_cases h2 : fmd op n v nm args.length = false
 ·rw [if_neg h1, if_pos h2] at h; cases h
 rw [if_neg h1, if_neg h2] at h
 have h2' : fmd op n v nm args.length = true := by simpa using h2
 refine ⟨by simpa using h1, h2', fun ho => ?_, fun ho a ha => ?_⟩
 ·subst ho
  rw [if_pos rfl] at h
  rw [fmd2] at h2'
  obtain ⟨a1, a2, a3, a4, a5⟩ := of_decide_eq_true h2'
  have hv : v = vNull := by
   obtain ⟨x, y, z⟩ := v
   simp only at a3 a4 a5
   subst a3; subst a4; subst a5; rfl
  by_cases hn : 0 ≤ n ∧ n < ks.length
  ·exact ⟨hn.1, hn.2, List.length_eq_zero_iff.1 a1, a2, hv⟩
  ·rw [if_neg hn] at h; cases h
 ·rw [if_neg ho] at h
  by_cases hf : fe (args.map (chk ks)) = 0
  ·exact fe_zero hf _ (List.mem_map.2 ⟨a, ha, rfl⟩)
  ·rw [if_neg hf] at h
   exact absurd h hf
theorem mvL_get {m : Nat} (i : Nat) {n : Int} (h0 : 0 ≤ n) (h1 : n < m) : (mvL m i).getD n.toNat nulE = mvE n i := by
 have hl : n.toNat < m := by omega
 unfold mvL
 rw [List.getD_eq_getElem?_getD, List.getElem?_map, List.getElem?_range hl, Option.map_some, Option.getD_some]
 congr 1
 omega
theorem sub_dn {ks : List Int} {m : Nat} (i : Nat) (hm : ks.length = m) : ∀ e : Ex, (chk ks e).2 = 0 → subX (mvL m i) (cpX e) = dnX i e := by
 refine Ex.ind fun op n v nm nl args ih h => ?_
 obtain ⟨_, _, h3, h4⟩ := chk_ok h
 rw [cp_mk, dn_mk]
 unfold subX
 rw [mapX_mk]
 by_cases ho : op = 2
 ·obtain ⟨a1, a2, rfl, rfl, rfl⟩ := h3 ho
  subst ho
  rw [if_pos rfl, if_pos rfl]
  have hin : inC (mvL m i) n vNull [] 0 = true := by
   unfold inC
   rw [mvL_len]
   exact decide_eq_true ⟨rfl, rfl, ⟨rfl, rfl, rfl⟩, a1, by omega⟩
  show (if inC (mvL m i) n vNull [] 0 = true then cpX ((mvL m i).getD n.toNat nulE) else _) = _
  rw [if_pos hin, mvL_get i a1 (by omega)]
  unfold mvE
  rw [cp_mk]
  rfl
 ·rw [if_neg ho, if_neg ho, map_comp (f := mapX (subC (mvL m i))) (h := dnX i) fun a ha => ih a ha (h4 ho a ha)]
end Go.Proofs
end
section
namespace Go.Proofs
open Go.Bi
def acF : List Vl → List Co → Int
 | v :: r, c :: l => if vValid v = false then 8 else if v.k = 0 then (if c.nl then acF r l else 12) else if v.k = c.k then acF r l else 7
 | _, _ => 0
def acc (row : List Vl) (cols : List Co) : Int := if row.length = cols.length then acF row cols else 13
end Go.Proofs
end
section
namespace Go.Proofs
open Go.Bi
def pick (row : List Vl) (ks : List Int) : List Vl := ks.map (vAt row)
theorem C.r13_Ints_same (ks : List Int) (hk : ks.length ≤ 1048576) (d d' : D) (hd : SlD d (eIs ks)) (hd' : SlD d' (eIs ks)) : Pure Tryz.prog N.bt_ref13_Ints [.d d, .d d'] (.d (.bool true)) := by
 refine F.bt_ref13_Ints.go mixed rfl ?_
 have h1 := eIs_len ks
 have hm := eIs_mem ks
 repeat' first|refine st ?_|(with_reducible first|apply k_d|apply k_b)<;>intro _
 refine x_loop1 mixed Lt.bt_ref13_Ints_l0 Lk.bt_ref13_Ints_l0 (fun (i : Nat) => [.d (eI i)]) (fun i => []) (fun i => i ≤ ks.length) (fun i => ks.length - i) 0 rfl rfl rfl rfl (fun _ _ => ⟨rfl, rfl⟩) rfl (Nat.zero_le _) ?_
 repeat' first|refine st ?_|(with_reducible first|apply k_d|apply k_b)<;>intro _
 intro i h4
 cases hx : ks[i]? with
 | some k =>
  have hlt := (List.getElem?_eq_some_iff.1 hx).1
  have hg := eIs_get hx
  repeat' first|refine st ?_|(with_reducible first|apply k_d|apply k_b)<;>intro _
  exact ⟨i + 1, rfl, rfl, rfl, by omega, by omega⟩
 | none =>
  have hge := List.getElem?_eq_none_iff.1 hx
  repeat' first|refine st ?_|(with_reducible first|apply k_d|apply k_b)<;>intro _
  all_goals rfl
end Go.Proofs
end
section
namespace Go.Proofs
open Go.Bi
theorem tabE_ok {t : Tb} (h : tabE t = 0) : nameB t.nm = true ∧ colE t.cs = 0 ∧ keyE t.cs t.ks = 0 ∧ conE t = 0 := by
 unfold tabE at h
 split at h
 ·rename_i h1
  split at h
  ·rename_i h2
   split at h
   ·rename_i h3; exact ⟨h1, h2, h3, h⟩
   ·rename_i h3; exact absurd h h3
  ·rename_i h2; exact absurd h h2
 ·cases h
theorem colE_ok {l : List Co} (h : colE l = 0) : 1 ≤ l.length ∧ l.length ≤ 12 ∧ colF [] l = 0 := by
 unfold colE at h
 split at h
 ·rename_i h1; exact ⟨h1.1, h1.2, h⟩
 ·cases h
end Go.Proofs
end
section
namespace Go.Proofs
open Go.Bi
def Tb.Rg (t : Tb) : Prop := ∀ e ∈ t.xs, e.Rg
def nfF (f : Fo) : Fo := ⟨false, f.cs, f.tb⟩
def nf (t : Tb) : Tb := ⟨t.nm, t.cs, t.ks, t.fs.map nfF, t.xs.map cpX⟩
theorem nf_nf (t : Tb) : nf (nf t) = nf t := by
 unfold nf
 congr 1
 ·rw [List.map_map]; rfl
 ·exact map_comp fun a ha => cp_cp a
theorem forsF_nf (n : Nat) : ∀ l : List Fo, forsF n (l.map nfF) = forsF n l
 | [] => rfl
 | f :: r => by rw [List.map_cons, forsF, forsF, forsF_nf n r]; rfl
theorem cheE_cp (ks : List Int) (e : Ex) : cheE ks (cpX e) = cheE ks e := by unfold cheE ckTop; rw [cp_dep, cp_chk]
theorem chesF_cp (ks : List Int) : ∀ l : List Ex, chesF ks (l.map cpX) = chesF ks l
 | [] => rfl
 | f :: r => by rw [List.map_cons, chesF, chesF, chesF_cp ks r, cheE_cp]
theorem tabE_nf (t : Tb) : tabE (nf t) = tabE t := by
 unfold tabE conE chesE nf
 dsimp only
 rw [List.length_map, List.length_map, forsF_nf, chesF_cp]
theorem usedL_nf (t : Tb) : usedL (nf t) = usedL t := by
 unfold usedL usedF usedX nf
 dsimp only
 rw [flat_map', flat_map', flat_same (f := fun a => (nfF a).cs) (g := Fo.cs) fun a _ => rfl, flat_same (f := fun a => cols (cpX a)) (g := cols) fun a _ => cp_cols a]
theorem evoE_nf (t : Tb) (c : Ch) : evoE (nf t) c = evoE t c := by
 unfold evoE
 rw [tabE_nf]
 unfold chgE
 rw [usedL_nf]
 rfl
def evoT (t : Tb) (c : Ch) : Tb :=
 if c.k = 1 then ⟨t.nm, t.cs ++ [c.co], t.ks, t.fs, t.xs.map cpX⟩
 else if c.k = 2 then ⟨t.nm, t.cs.eraseIdx (findC c.nm t.cs).toNat, t.ks.map (fun x => belowI x (findC c.nm t.cs).toNat), t.fs.map (blF (findC c.nm t.cs).toNat), t.xs.map (dnX (findC c.nm t.cs).toNat)⟩
 else if c.k = 3 then ⟨t.nm, t.cs.set (findC c.nm t.cs).toNat ⟨c.to, (t.cs.getD (findC c.nm t.cs).toNat ⟨[], 0, false⟩).k, (t.cs.getD (findC c.nm t.cs).toNat ⟨[], 0, false⟩).nl⟩, t.ks, t.fs, t.xs.map cpX⟩
 else ⟨t.nm, t.cs.set (findC c.nm t.cs).toNat ⟨(t.cs.getD (findC c.nm t.cs).toNat ⟨[], 0, false⟩).nm, 2, (t.cs.getD (findC c.nm t.cs).toNat ⟨[], 0, false⟩).nl⟩, t.ks, t.fs, t.xs.map cpX⟩
theorem nf_evo (t : Tb) (c : Ch) : nf (evoT (nf t) c) = nf (evoT t c) := by
 have e1 : (t.fs.map nfF).map nfF = t.fs.map nfF := by rw [List.map_map]; rfl
 have e2 : ((t.xs.map cpX).map cpX).map cpX = (t.xs.map cpX).map cpX := map_comp fun a ha => cp_cp a
 have e3 (i : Nat) : ((t.fs.map nfF).map (blF i)).map nfF = (t.fs.map (blF i)).map nfF := by rw [List.map_map, List.map_map, List.map_map]; rfl
 have e4 (i : Nat) : ((t.xs.map cpX).map (dnX i)) = t.xs.map (dnX i) := map_comp fun a ha => dn_cp i a
 unfold evoT
 split
 ·unfold nf; dsimp only; rw [e1, e2]
 ·split
  ·unfold nf; dsimp only; rw [e3, e4]
  ·split
   ·unfold nf; dsimp only; rw [e1, e2]
   ·unfold nf; dsimp only; rw [e1, e2]
theorem evoT_rg {t : Tb} (h : t.Rg) (c : Ch) : (evoT t c).Rg := by
 have h1 : ∀ e ∈ t.xs.map cpX, e.Rg := fun e he => by
  obtain ⟨a, ha, rfl⟩ := List.mem_map.1 he
  exact cp_rg a (h a ha)
 unfold evoT
 split
 ·exact h1
 ·split
  ·intro e he
   obtain ⟨a, ha, rfl⟩ := List.mem_map.1 he
   exact dn_rg _ a (h a ha)
  ·split <;> exact h1
theorem evo_inv {t : Tb} {c : Ch} (h : evoE t c = 0) : tabE t = 0 ∧ (1 ≤ c.k ∧ c.k ≤ 4) ∧ spareB c = false ∧ (c.k = 1 → addE t c = 0) ∧ (c.k ≠ 1 → chgE t c = 0) := by
 unfold evoE at h
 by_cases h1 : tabE t = 0
 ·rw [if_neg (by simpa using h1)] at h
  by_cases h2 : 1 ≤ c.k ∧ c.k ≤ 4
  ·rw [if_neg (by simpa using h2)] at h
   cases h3 : spareB c with
   | true => rw [h3, if_pos rfl] at h; cases h
   | false =>
    rw [h3, if_neg (by decide)] at h
    exact ⟨h1, h2, rfl, fun hk => by rw [if_pos hk] at h; exact h, fun hk => by rw [if_neg hk] at h; exact h⟩
  ·rw [if_pos h2] at h; cases h
 ·rw [if_pos h1] at h; exact absurd h h1
theorem chg_inv {t : Tb} {c : Ch} (h : chgE t c = 0) : ∃ (i : Nat) (co : Co), findC c.nm t.cs = i ∧ t.cs[i]? = some co ∧ co.nm = c.nm ∧ (c.k ≠ 3 → ¬ (i : Int) ∈ usedL t) ∧ (c.k = 4 → co.k ≠ 2) ∧ (c.k = 3 → nameB c.to = true ∧ findC c.to t.cs < 0) := by
 unfold chgE at h
 by_cases h0 : findC c.nm t.cs < 0
 ·rw [if_pos h0] at h; cases h
 rw [if_neg h0] at h
 obtain ⟨co, hc, hn⟩ := findC_some (nm := c.nm) (l := t.cs) (by omega)
 have hi : findC c.nm t.cs = ((findC c.nm t.cs).toNat : Int) := by omega
 by_cases h1 : c.k ≠ 3 ∧ 0 < (usedL t).count (findC c.nm t.cs)
 ·rw [if_pos h1] at h; cases h
 rw [if_neg h1] at h
 by_cases h2 : c.k = 4 ∧ ckAt t (findC c.nm t.cs) = 2
 ·rw [if_pos h2] at h; cases h
 rw [if_neg h2] at h
 by_cases h3 : c.k = 3 ∧ nameB c.to = false
 ·rw [if_pos h3] at h; cases h
 rw [if_neg h3] at h
 by_cases h4 : c.k = 3 ∧ 0 ≤ findC c.to t.cs
 ·rw [if_pos h4] at h; cases h
 refine ⟨_, co, hi, hc, hn, fun hk hm => h1 ⟨hk, ?_⟩, fun hk hh => h2 ⟨hk, ?_⟩, fun hk => ⟨?_, ?_⟩⟩
 ·rw [hi]; exact List.count_pos_iff.2 hm
 ·unfold ckAt; rw [hc]; exact hh
 ·cases hh : nameB c.to with
  | true => rfl
  | false => exact absurd ⟨hk, hh⟩ h3
 ·by_cases hh : findC c.to t.cs < 0
  ·exact hh
  ·exact absurd ⟨hk, by omega⟩ h4
structure Vd (t : Tb) : Prop where
 nm : nameB t.nm = true
 l1 : 1 ≤ t.cs.length
 l2 : t.cs.length ≤ 12
 co : ∀ c ∈ t.cs, nameB c.nm = true ∧ 1 ≤ c.k ∧ c.k ≤ 3
 nd : (t.cs.map Co.nm).Nodup
 k0 : t.ks ≠ []
 ks : ∀ k ∈ t.ks, 0 ≤ k ∧ k < t.cs.length ∧ (t.cs.getD k.toNat ⟨[], 0, false⟩).nl = false
 ka : t.ks.Pairwise (· < ·)
 fl : t.fs.length ≤ 4
 fs : ∀ f ∈ t.fs, nameB f.tb = true ∧ f.cs ≠ [] ∧ (∀ c ∈ f.cs, 0 ≤ c ∧ c < t.cs.length) ∧ f.cs.Nodup
 xl : t.xs.length ≤ 4
 xs : ∀ x ∈ t.xs, dep x ≤ 24 ∧ (chk (kd t.cs) x).2 = 0 ∧ ((chk (kd t.cs) x).1 = 3 ∨ (chk (kd t.cs) x).1 = 0)
theorem colF_iff : ∀ {l : List Co} {seen : List (List UInt8)}, colF seen l = 0 ↔ (∀ c ∈ l, nameB c.nm = true ∧ 1 ≤ c.k ∧ c.k ≤ 3) ∧ (l.map Co.nm).Nodup ∧ ∀ c ∈ l, ¬ c.nm ∈ seen
 | [], seen => by simp [colF]
 | a :: r, seen => by
  unfold colF
  by_cases h1 : nameB a.nm = true
  ·rw [if_pos h1]
   by_cases h2 : 1 ≤ a.k ∧ a.k ≤ 3
   ·rw [if_pos h2]
    by_cases h3 : a.nm ∈ seen
    ·rw [if_pos h3]
     constructor
     ·intro h; cases h
     ·intro h; exact absurd h3 (h.2.2 a (by simp))
    ·rw [if_neg h3, colF_iff]
     simp only [List.mem_cons, List.map_cons, List.nodup_cons, List.mem_append, List.not_mem_nil, or_false, not_or]
     constructor
     ·rintro ⟨g1, g2, g3⟩
      refine ⟨fun c hc => ?_, ⟨fun hm => ?_, g2⟩, fun c hc => ?_⟩
      ·rcases hc with rfl | hc
       ·exact ⟨h1, h2.1, h2.2⟩
       ·exact g1 c hc
      ·obtain ⟨c, hc, e⟩ := List.mem_map.1 hm
       exact (g3 c hc).2 e
      ·rcases hc with rfl | hc
       ·exact h3
       ·exact (g3 c hc).1
     ·rintro ⟨g1, ⟨g2, g3⟩, g4⟩
      exact ⟨fun c hc => g1 c (.inr hc), g3, fun c hc => ⟨g4 c (.inr hc), fun e => g2 (List.mem_map.2 ⟨c, hc, e⟩)⟩⟩
   ·rw [if_neg h2]
    constructor
    ·intro h; cases h
    ·intro h; exact absurd (h.1 a (by simp)).2 h2
  ·rw [if_neg h1]
   constructor
   ·intro h; cases h
   ·intro h; exact absurd (h.1 a (by simp)).1 h1
theorem keyF_iff {l : List Co} : ∀ {ks : List Int} {p : Option Int}, keyF l p ks = 0 ↔ (∀ k ∈ ks, 0 ≤ k ∧ k < l.length ∧ (l.getD k.toNat ⟨[], 0, false⟩).nl = false) ∧ ks.Pairwise (· < ·) ∧ ∀ q, p = some q → ∀ k ∈ ks, q < k
 | [], p => by simp [keyF]
 | a :: r, p => by
  have ih := keyF_iff (l := l) (ks := r) (p := some a)
  unfold keyF
  by_cases h1 : 0 ≤ a ∧ a < l.length
  ·rw [if_pos h1]
   have key : (if (l.getD a.toNat ⟨[], 0, false⟩).nl = true then 12 else keyF l (some a) r) = 0 ↔ (l.getD a.toNat ⟨[], 0, false⟩).nl = false ∧ keyF l (some a) r = 0 := by
    cases hh : (l.getD a.toNat ⟨[], 0, false⟩).nl with
    | true => simp
    | false => simp
   cases p with
   | none =>
    dsimp only
    rw [key, ih]
    simp only [List.mem_cons, List.pairwise_cons, forall_eq_or_imp]
    constructor
    ·rintro ⟨g1, g2, g3, g4⟩
     exact ⟨⟨⟨h1.1, h1.2, g1⟩, g2⟩, ⟨g4 a rfl, g3⟩, fun q hq => by cases hq⟩
    ·rintro ⟨⟨g1, g2⟩, ⟨g3, g4⟩, g5⟩
     exact ⟨g1.2.2, g2, g4, fun q hq k hk => by cases hq; exact g3 k hk⟩
   | some q =>
    dsimp only
    by_cases h2 : a ≤ q
    ·rw [if_pos h2]
     constructor
     ·intro h; cases h
     ·intro h
      have := h.2.2 q rfl a (by simp)
      omega
    ·rw [if_neg h2, key, ih]
     simp only [List.mem_cons, List.pairwise_cons, forall_eq_or_imp]
     constructor
     ·rintro ⟨g1, g2, g3, g4⟩
      refine ⟨⟨⟨h1.1, h1.2, g1⟩, g2⟩, ⟨g4 a rfl, g3⟩, fun q' hq => ?_⟩
      cases hq
      exact ⟨by omega, fun k hk => by have := g4 a rfl k hk; omega⟩
     ·rintro ⟨⟨g1, g2⟩, ⟨g3, g4⟩, g5⟩
      exact ⟨g1.2.2, g2, g4, fun q' hq k hk => by cases hq; exact g3 k hk⟩
  ·rw [if_neg h1]
   constructor
   ·intro h; cases h
   ·intro h; exact absurd ⟨(h.1 a (by simp)).1, (h.1 a (by simp)).2.1⟩ h1
theorem fcF_iff {n : Nat} : ∀ {l seen : List Int}, fcF n seen l = 0 ↔ (∀ c ∈ l, 0 ≤ c ∧ c < n) ∧ l.Nodup ∧ ∀ c ∈ l, ¬ c ∈ seen
 | [], seen => by simp [fcF]
 | a :: r, seen => by
  unfold fcF
  by_cases h : (0 ≤ a ∧ a < n) ∧ ¬ a ∈ seen
  ·rw [if_pos h, fcF_iff]
   simp only [List.mem_cons, List.nodup_cons, List.mem_append, List.not_mem_nil, or_false, not_or, forall_eq_or_imp]
   constructor
   ·rintro ⟨g1, g2, g3⟩
    exact ⟨⟨h.1, g1⟩, ⟨fun hm => (g3 a hm).2 rfl, g2⟩, h.2, fun c hc => (g3 c hc).1⟩
   ·rintro ⟨⟨g1, g2⟩, ⟨g3, g4⟩, g5, g6⟩
    exact ⟨g2, g4, fun c hc => ⟨g6 c hc, fun e => g3 (e ▸ hc)⟩⟩
  ·rw [if_neg h]
   constructor
   ·intro h; cases h
   ·intro hh; exact absurd ⟨hh.1 a (by simp), hh.2.2 a (by simp)⟩ h
theorem forsF_iff {n : Nat} : ∀ {l : List Fo}, forsF n l = 0 ↔ ∀ f ∈ l, nameB f.tb = true ∧ f.cs ≠ [] ∧ (∀ c ∈ f.cs, 0 ≤ c ∧ c < n) ∧ f.cs.Nodup
 | [] => by simp [forsF]
 | f :: r => by
  have h1 : forE n f = 0 ↔ nameB f.tb = true ∧ f.cs ≠ [] ∧ (∀ c ∈ f.cs, 0 ≤ c ∧ c < n) ∧ f.cs.Nodup := by
   unfold forE
   by_cases g1 : nameB f.tb = true
   ·rw [if_pos g1]
    by_cases g2 : f.cs.length = 0
    ·rw [if_pos g2]
     constructor
     ·intro h; cases h
     ·intro h; exact absurd (List.length_eq_zero_iff.1 g2) h.2.1
    ·rw [if_neg g2, fcF_iff]
     constructor
     ·rintro ⟨a, b, _⟩; exact ⟨g1, fun e => g2 (by rw [e]; rfl), a, b⟩
     ·rintro ⟨_, _, a, b⟩; exact ⟨a, b, by simp⟩
   ·rw [if_neg g1]
    constructor
    ·intro h; cases h
    ·intro h; exact absurd h.1 g1
  unfold forsF
  simp only [List.mem_cons, forall_eq_or_imp]
  rw [← h1, ← forsF_iff (l := r)]
  by_cases h2 : forE n f = 0
  ·rw [if_pos h2]; simp [h2]
  ·rw [if_neg h2]; simp [h2]
theorem cheE_iff {ks : List Int} {x : Ex} : cheE ks x = 0 ↔ dep x ≤ 24 ∧ (chk ks x).2 = 0 ∧ ((chk ks x).1 = 3 ∨ (chk ks x).1 = 0) := by
 unfold cheE ckTop
 by_cases h1 : 24 < dep x
 ·rw [if_pos h1]
  constructor
  ·intro h; simp at h
  ·intro h; omega
 ·rw [if_neg h1]
  by_cases h2 : (chk ks x).2 = 0
  ·rw [if_pos h2]
   by_cases h3 : (chk ks x).1 = 3 ∨ (chk ks x).1 = 0
   ·rw [if_pos h3]; simp [h2, h3]; omega
   ·rw [if_neg h3]; simp [h3]
  ·rw [if_neg h2]; simp [h2]
theorem chesF_iff {ks : List Int} : ∀ {l : List Ex}, chesF ks l = 0 ↔ ∀ x ∈ l, dep x ≤ 24 ∧ (chk ks x).2 = 0 ∧ ((chk ks x).1 = 3 ∨ (chk ks x).1 = 0)
 | [] => by simp [chesF]
 | f :: r => by
  unfold chesF
  simp only [List.mem_cons, forall_eq_or_imp]
  rw [← cheE_iff, ← chesF_iff (l := r)]
  by_cases h2 : cheE ks f = 0
  ·rw [if_pos h2]; simp [h2]
  ·rw [if_neg h2]; simp [h2]
theorem tab_vd {t : Tb} : tabE t = 0 ↔ Vd t := by
 constructor
 ·intro h
  obtain ⟨h1, h2, h3, h4⟩ := tabE_ok h
  obtain ⟨l1, l2, h5⟩ := colE_ok h2
  obtain ⟨c1, c2, _⟩ := colF_iff.1 h5
  unfold keyE at h3
  have k0 : t.ks.length ≠ 0 := by intro e; rw [if_pos e] at h3; cases h3
  rw [if_neg k0] at h3
  obtain ⟨k1, k2, _⟩ := keyF_iff.1 h3
  unfold conE at h4
  have f0 : t.fs.length ≤ 4 := by
   by_cases e : t.fs.length ≤ 4
   ·exact e
   ·rw [if_neg e] at h4; cases h4
  rw [if_pos f0] at h4
  by_cases f1 : forsF t.cs.length t.fs = 0
  ·rw [if_pos f1] at h4
   unfold chesE at h4
   have x0 : t.xs.length ≤ 4 := by
    by_cases e : t.xs.length ≤ 4
    ·exact e
    ·rw [if_neg e] at h4; cases h4
   rw [if_pos x0] at h4
   exact ⟨h1, l1, l2, c1, c2, fun e => k0 (by rw [e]; rfl), k1, k2, f0, forsF_iff.1 f1, x0, chesF_iff.1 h4⟩
  ·rw [if_neg f1] at h4; exact absurd h4 f1
 ·intro h
  have h2 : colE t.cs = 0 := by
   unfold colE
   rw [if_pos ⟨h.l1, h.l2⟩]
   exact colF_iff.2 ⟨h.co, h.nd, by simp⟩
  have h3 : keyE t.cs t.ks = 0 := by
   unfold keyE
   rw [if_neg (fun e => h.k0 (List.length_eq_zero_iff.1 e))]
   exact keyF_iff.2 ⟨h.ks, h.ka, fun q hq => by cases hq⟩
  have h4 : conE t = 0 := by
   unfold conE chesE
   rw [if_pos h.fl, if_pos (forsF_iff.2 h.fs), if_pos h.xl]
   exact chesF_iff.2 h.xs
  unfold tabE
  rw [if_pos h.nm, if_pos h2, if_pos h3, h4]
end Go.Proofs
end
