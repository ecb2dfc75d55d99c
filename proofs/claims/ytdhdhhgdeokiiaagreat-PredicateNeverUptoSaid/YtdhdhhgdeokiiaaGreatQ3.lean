/- Texts of this claim, joined. No condition. -/
import Derived.Test.YtdhdhhgdeokiiaaGreatQ2
section
/- Conditions and conjuncts of whole predicates. No condition. -/
set_option linter.unusedSimpArgs false
set_option linter.unusedVariables false
set_option maxRecDepth 10000
set_option maxHeartbeats 4000000
namespace Go.Proofs
open Go.Bi

def okA (sz : Nat) (k : Nat) (A : List (List D)) : Prop := A.length + k ≤ 2097152 ∧ ∀ e ∈ A, e.length = sz
def addC (A : List (List D)) (x : Ex) : List (List D) := A ++ (cond x).toList.map Cd.ds
theorem addC_fold (l : List Ex) : ∀ A, l.foldl addC A = A ++ eDs (l.filterMap cond) := by
  induction l with
  | nil => intro A; simp [eDs]
  | cons x l ih =>
    intro A
    rw [List.foldl_cons, ih, List.filterMap_cons, addC, List.append_assoc]
    cases cond x <;> simp [eDs]
def conds (e : Ex) : List Cd := (cj e).filterMap cond
theorem conds_len (e : Ex) : (conds e).length ≤ e.bk := Nat.le_trans (List.length_filterMap_le _ _) (cj_len e)
theorem conds_ok {e : Ex} {c : Cd} (h : c ∈ conds e) : cmpOp c.op = true ∧ c.v.k ≠ 0 ∧ vValid c.v = true := by
  obtain ⟨x, _, hx⟩ := List.mem_filterMap.1 h
  exact cond_ok hx
theorem C.Conditions_c1 (x : Ex) (hx : x.bk ≤ 1048576) (k : Nat) (A : List (List D)) (hA : okA 5 (k + 1) A) : okA 5 k (addC A x) ∧ CallSpec Tryz.prog N.predicate_Conditions_c1 [x.av, .ptr 0 0] [.cells [.arr 1 A.length], .arr A 5 0 A.isEmpty] (fun r os => r = .tup [] ∧ os = [.cells [.arr 1 (addC A x).length], .arr (addC A x) 5 0 (addC A x).isEmpty]) := by
  obtain ⟨k1, k2⟩ := hA
  have hC := C.predicate_condition x hx
  unfold addC
  cases hc : cond x with
  | none =>
    rw [hc] at hC
    simp only [Option.toList_none, List.map_nil, List.append_nil]
    refine ⟨⟨by omega, k2⟩, ?_⟩
    obtain ⟨op, n, v, nm, nl, args⟩ := x
    rw [Ex.av_mk] at hC ⊢
    refine F.predicate_Conditions_c1.goX mixed rfl ?_
    repeat' first
      | refine st ?_
      | ((with_reducible apply go_i); (conv => whnf))
      | ((with_reducible apply k_pn); (· exact hC))
      | ((with_reducible apply k_pc); (· exact hC))
      | (with_reducible apply k_d <;> intro _)
      | (with_reducible apply k_b <;> intro _)
    all_goals exact ⟨rfl, rfl⟩
  | some c =>
    rw [hc] at hC
    simp only [Option.toList_some, List.map_cons, List.map_nil]
    refine ⟨⟨by simp; omega, fun e he => ?_⟩, ?_⟩
    · rcases List.mem_append.1 he with h | h
      · exact k2 e h
      · simp at h; subst h; rfl
    obtain ⟨op, n, v, nm, nl, args⟩ := x
    obtain ⟨cop, col, cv⟩ := c
    rw [Ex.av_mk] at hC ⊢
    refine F.predicate_Conditions_c1.goX mixed rfl ?_
    obtain ⟨b, hb⟩ : ∃ b, b = A.isEmpty := ⟨_, rfl⟩
    rw [← hb]
    have e1 : (A ++ [Cd.ds ⟨cop, col, cv⟩]).isEmpty = false := by simp
    rw [e1]
    repeat' first
      | refine st ?_
      | ((with_reducible apply go_i); (conv => whnf))
      | ((with_reducible apply k_pn); (· exact hC))
      | ((with_reducible apply k_pc); (· exact hC))
      | (with_reducible apply k_d <;> intro _)
      | (with_reducible apply k_b <;> intro _)
    all_goals first | exact ⟨rfl, rfl⟩ | skip
theorem C.predicate_Conditions (e : Ex) (he : e.bk ≤ 1048576) : Pure Tryz.prog N.predicate_Conditions [e.av] (.d (nsl (eDs (conds e)))) := by
  have hl := cj_len e
  have hE := (C.each_l N.predicate_Conditions_c1 5 addC (okA 5) C.Conditions_c1 e he 0 [] ⟨by simp; omega, by simp⟩).2
  rw [addC_fold, List.nil_append] at hE
  obtain ⟨R, hR⟩ : ∃ R, R = eDs (conds e) := ⟨_, rfl⟩
  rw [show eDs ((cj e).filterMap cond) = R from hR.symm] at hE
  rw [← hR]
  have hB : ∀ (E : List AV), (∀ c ∈ E, ∃ x, c = .d x) → CallSpec Tryz.prog N.predicate_each [e.av, .clo N.predicate_Conditions_c1 [1]] [.cells E, .cells [.d .nil]] (fun r os => r = .tup [] ∧ os = [.cells E, .cells [.arr 2 R.length], .arr R 5 0 R.isEmpty]) := by
    intro E hEE
    refine CallSpec.nilc 1 0 5 rfl (cs := [.d .nil]) rfl rfl ?_
    have := CallSpec.frame (K := fun r os => r = .tup [] ∧ os = [.cells E, .cells [.arr 2 R.length], .arr R 5 0 R.isEmpty]) hE [1, 2] [.cells E, .cells [.arr 2 0], .arr [] 5 0 true] rfl (by decide) (fun i o h => by
      match i, h with
      | 0, h => cases h; rfl
      | 1, h => cases h; rfl
      | i + 2, h => simp at h) (fun a ha => by
        simp only [List.mem_cons, List.not_mem_nil, or_false] at ha
        rcases ha with rfl | rfl
        · exact bnd_ds _ _
        · simp [AV.bnd2, AV.bnd1]) (fun o ho => by
        simp only [List.mem_cons, List.not_mem_nil, or_false] at ho
        rcases ho with rfl | rfl <;> simp [AO.bnd, AV.bnd1]) (by rintro r bs' ⟨rfl, rfl⟩; exact ⟨rfl, rfl⟩)
    rw [List.map_cons, List.map_cons, List.map_nil, Ex.av, mG_ds] at this
    exact this
  obtain ⟨op, n, v, nm, nl, args⟩ := e
  rw [Ex.av_mk] at hB ⊢
  refine F.predicate_Conditions.go mixed rfl ?_
  have hB' := hB ((xds op n v nm (ng nl (xL args))).map .d) (fun c hc => by
    obtain ⟨y, _, rfl⟩ := List.mem_map.1 hc
    exact ⟨y, rfl⟩)
  obtain ⟨b, hb⟩ : ∃ b, b = R.isEmpty := ⟨_, rfl⟩
  rw [← hb] at hB'
  unfold nsl
  rw [← hb]
  cases b with
  | true =>
    repeat' first
      | refine st ?_
      | ((with_reducible apply go_i); (conv => whnf))
      | ((with_reducible apply k_nc); (· first | exact hB'); (try rintro _ _ ⟨rfl, rfl⟩))
      | ((with_reducible apply k_pr); (· first | exact hB'))
      | ((with_reducible apply k_cs); (· first | exact hB'); (try rintro _ _ ⟨rfl, rfl⟩))
      | ((with_reducible apply k_cal); refine st ?_; (with_reducible apply k_chk); (· exact rfl); refine st ?_; (with_reducible apply k_cs); (· first | exact hB'); (try rintro _ _ ⟨rfl, rfl⟩))
      | (with_reducible apply k_d <;> intro _)
      | (with_reducible apply k_b <;> intro _)
    all_goals rfl
  | false =>
    repeat' first
      | refine st ?_
      | ((with_reducible apply go_i); (conv => whnf))
      | ((with_reducible apply k_nc); (· first | exact hB'); (try rintro _ _ ⟨rfl, rfl⟩))
      | ((with_reducible apply k_pr); (· first | exact hB'))
      | ((with_reducible apply k_cs); (· first | exact hB'); (try rintro _ _ ⟨rfl, rfl⟩))
      | ((with_reducible apply k_cal); refine st ?_; (with_reducible apply k_chk); (· exact rfl); refine st ?_; (with_reducible apply k_cs); (· first | exact hB'); (try rintro _ _ ⟨rfl, rfl⟩))
      | (with_reducible apply k_d <;> intro _)
      | (with_reducible apply k_b <;> intro _)
    all_goals rfl
end Go.Proofs
end
section
/- Conjuncts, conditions of the reference, equations. No condition. -/
set_option linter.unusedSimpArgs false
set_option linter.unusedVariables false
set_option maxRecDepth 10000
set_option maxHeartbeats 4000000
namespace Go.Proofs
open Go.Bi

theorem each_use {g : FuncId} {sz : Nat} (hsz : Nat.blt 0 sz = true) {R : List (List D)} {ds : List D} (hE : CallSpec Tryz.prog N.predicate_each [.agg (ds.map .d), .clo g [0]] [.cells [.arr 1 0], .arr [] sz 0 true] (fun r os => r = .tup [] ∧ os = [.cells [.arr 1 R.length], .arr R sz 0 R.isEmpty])) (E : List AV) (hEE : ∀ c ∈ E, ∃ x, c = .d x) :
    CallSpec Tryz.prog N.predicate_each [.agg (ds.map .d), .clo g [1]] [.cells E, .cells [.d .nil]] (fun r os => r = .tup [] ∧ os = [.cells E, .cells [.arr 2 R.length], .arr R sz 0 R.isEmpty]) := by
  refine CallSpec.nilc 1 0 sz hsz (cs := [.d .nil]) rfl rfl ?_
  have := CallSpec.frame (K := fun r os => r = .tup [] ∧ os = [.cells E, .cells [.arr 2 R.length], .arr R sz 0 R.isEmpty]) hE [1, 2] [.cells E, .cells [.arr 2 0], .arr [] sz 0 true] rfl (by decide) (fun i o h => by
    match i, h with
    | 0, h => cases h; rfl
    | 1, h => cases h; rfl
    | i + 2, h => simp at h) (fun a ha => by
      simp only [List.mem_cons, List.not_mem_nil, or_false] at ha
      rcases ha with rfl | rfl
      · exact bnd_ds _ _
      · simp [AV.bnd2, AV.bnd1]) (fun o ho => by
      simp only [List.mem_cons, List.not_mem_nil, or_false] at ho
      rcases ho with rfl | rfl <;> simp [AO.bnd, AV.bnd1]) (by rintro r bs' ⟨rfl, rfl⟩; exact ⟨rfl, rfl⟩)
  rw [List.map_cons, List.map_cons, List.map_nil, mG_ds] at this
  exact this
theorem each_uses {g : FuncId} {sz : Nat} (hsz : Nat.blt 0 sz = true) {R : List (List D)} {ds : List D} {z : D} (hE : CallSpec Tryz.prog N.predicate_each [.agg (ds.map .d), .clo g [0, 1]] [.cells [.d z], .cells [.arr 2 0], .arr [] sz 0 true] (fun r os => r = .tup [] ∧ os = [.cells [.d z], .cells [.arr 2 R.length], .arr R sz 0 R.isEmpty])) (E : List AV) (hEE : ∀ c ∈ E, ∃ x, c = .d x) :
    CallSpec Tryz.prog N.predicate_each [.agg (ds.map .d), .clo g [1, 2]] [.cells E, .cells [.d z], .cells [.d .nil]] (fun r os => r = .tup [] ∧ os = [.cells E, .cells [.d z], .cells [.arr 3 R.length], .arr R sz 0 R.isEmpty]) := by
  refine CallSpec.nilc 2 0 sz hsz (cs := [.d .nil]) rfl rfl ?_
  have := CallSpec.frame (K := fun r os => r = .tup [] ∧ os = [.cells E, .cells [.d z], .cells [.arr 3 R.length], .arr R sz 0 R.isEmpty]) hE [1, 2, 3] [.cells E, .cells [.d z], .cells [.arr 3 0], .arr [] sz 0 true] rfl (by decide) (fun i o h => by
    match i, h with
    | 0, h => cases h; rfl
    | 1, h => cases h; rfl
    | 2, h => cases h; rfl
    | i + 3, h => simp at h) (fun a ha => by
      simp only [List.mem_cons, List.not_mem_nil, or_false] at ha
      rcases ha with rfl | rfl
      · exact bnd_ds _ _
      · simp [AV.bnd2, AV.bnd1]) (fun o ho => by
      simp only [List.mem_cons, List.not_mem_nil, or_false] at ho
      rcases ho with rfl | rfl | rfl <;> simp [AO.bnd, AV.bnd1]) (by rintro r bs' ⟨rfl, rfl⟩; exact ⟨rfl, rfl⟩)
  rw [List.map_cons, List.map_cons, List.map_nil, mG_ds] at this
  exact this
theorem all_d (ds : List D) : ∀ c ∈ ds.map AV.d, ∃ x, c = .d x := fun c hc => by
  obtain ⟨y, _, rfl⟩ := List.mem_map.1 hc
  exact ⟨y, rfl⟩

/-! ### Conjuncts -/
def addX (A : List (List D)) (x : Ex) : List (List D) := A ++ [(shf 0 x).ds]
theorem addX_fold (l : List Ex) : ∀ A, l.foldl addX A = A ++ xL (l.map (shf 0)) := by
  induction l with
  | nil => intro A; simp [xL]
  | cons x l ih =>
    intro A
    rw [List.foldl_cons, ih, addX, List.append_assoc]
    simp [xL]
theorem shf_ds_len (k : Int) (x : Ex) : (shf k x).ds.length = 7 := by
  obtain ⟨op, n, v, nm, nl, args⟩ := x
  rw [shf_mk, Ex.ds_mk]; rfl
theorem C.Conjuncts_c1 (x : Ex) (hx : x.bk ≤ 1048576) (k : Nat) (A : List (List D)) (hA : okA 7 (k + 1) A) : okA 7 k (addX A x) ∧ CallSpec Tryz.prog N.predicate_Conjuncts_c1 [x.av, .ptr 0 0] [.cells [.arr 1 A.length], .arr A 7 0 A.isEmpty] (fun r os => r = .tup [] ∧ os = [.cells [.arr 1 (addX A x).length], .arr (addX A x) 7 0 (addX A x).isEmpty]) := by
  obtain ⟨k1, k2⟩ := hA
  have hC := C.expr_Shift x hx 0
  have h7 := shf_ds_len 0 x
  unfold addX
  refine ⟨⟨by simp; omega, fun e he => ?_⟩, ?_⟩
  · rcases List.mem_append.1 he with h | h
    · exact k2 e h
    · simp at h; subst h; exact h7
  obtain ⟨z, hz⟩ : ∃ z, z = shf 0 x := ⟨_, rfl⟩
  rw [← hz] at hC ⊢
  obtain ⟨op, n, v, nm, nl, args⟩ := x
  obtain ⟨o2, n2, v2, m2, l2, a2⟩ := z
  rw [Ex.av_mk, Ex.av_mk] at hC
  rw [Ex.av_mk, Ex.ds_mk]
  have e1 : (A ++ [xds o2 n2 v2 m2 (ng l2 (xL a2))]).isEmpty = false := by simp
  rw [e1]
  obtain ⟨b, hb⟩ : ∃ b, b = A.isEmpty := ⟨_, rfl⟩
  rw [← hb]
  have g1 : 0 ≤ (A.length : Int) ∧ (A.length : Int) < ((A ++ [[eI 0, eI 0, eI 0, eI 0, .str [], .str [], .nil]]).length : Nat) := by simp; omega
  have g2 : (A ++ [[eI 0, eI 0, eI 0, eI 0, .str [], .str [], .nil]])[(A.length : Int).toNat]? = some [eI 0, eI 0, eI 0, eI 0, .str [], .str [], .nil] := by simp
  have g3 : (A ++ [[eI 0, eI 0, eI 0, eI 0, .str [], .str [], .nil]]).set (A.length : Int).toNat (xds o2 n2 v2 m2 (ng l2 (xL a2))) = A ++ [xds o2 n2 v2 m2 (ng l2 (xL a2))] := by simp
  refine F.predicate_Conjuncts_c1.goX mixed rfl ?_
  repeat' first
    | refine st ?_
    | ((with_reducible apply go_i); (conv => whnf))
    | ((with_reducible apply k_pn); (· exact hC))
    | ((with_reducible apply k_pc); (· exact hC))
    | (with_reducible apply k_d <;> intro _)
    | (with_reducible apply k_b <;> intro _)
  all_goals exact ⟨rfl, by simp⟩
theorem C.predicate_Conjuncts (e : Ex) (he : e.bk ≤ 1048576) : Pure Tryz.prog N.predicate_Conjuncts [e.av] (.d (nsl (xL ((cj e).map (shf 0))))) := by
  have hl := cj_len e
  have hE := (C.each_l N.predicate_Conjuncts_c1 7 addX (okA 7) C.Conjuncts_c1 e he 0 [] ⟨by simp; omega, by simp⟩).2
  rw [addX_fold, List.nil_append] at hE
  obtain ⟨R, hR⟩ : ∃ R, R = xL ((cj e).map (shf 0)) := ⟨_, rfl⟩
  rw [← hR] at hE ⊢
  obtain ⟨op, n, v, nm, nl, args⟩ := e
  have hB := each_use rfl hE ((xds op n v nm (ng nl (xL args))).map .d) (all_d _)
  rw [Ex.ds_mk] at hB
  rw [Ex.av_mk]
  refine F.predicate_Conjuncts.go mixed rfl ?_
  obtain ⟨b, hb⟩ : ∃ b, b = R.isEmpty := ⟨_, rfl⟩
  rw [← hb] at hB
  unfold nsl
  rw [← hb]
  cases b with
  | true =>
    repeat' first
      | refine st ?_
      | ((with_reducible apply go_i); (conv => whnf))
      | ((with_reducible apply k_nc); (· first | exact hB); (try rintro _ _ ⟨rfl, rfl⟩))
      | ((with_reducible apply k_pr); (· first | exact hB))
      | ((with_reducible apply k_cs); (· first | exact hB); (try rintro _ _ ⟨rfl, rfl⟩))
      | ((with_reducible apply k_cal); refine st ?_; (with_reducible apply k_chk); (· exact rfl); refine st ?_; (with_reducible apply k_cs); (· first | exact hB); (try rintro _ _ ⟨rfl, rfl⟩))
      | (with_reducible apply k_d <;> intro _)
      | (with_reducible apply k_b <;> intro _)
    all_goals rfl
  | false =>
    repeat' first
      | refine st ?_
      | ((with_reducible apply go_i); (conv => whnf))
      | ((with_reducible apply k_nc); (· first | exact hB); (try rintro _ _ ⟨rfl, rfl⟩))
      | ((with_reducible apply k_pr); (· first | exact hB))
      | ((with_reducible apply k_cs); (· first | exact hB); (try rintro _ _ ⟨rfl, rfl⟩))
      | ((with_reducible apply k_cal); refine st ?_; (with_reducible apply k_chk); (· exact rfl); refine st ?_; (with_reducible apply k_cs); (· first | exact hB); (try rintro _ _ ⟨rfl, rfl⟩))
      | (with_reducible apply k_d <;> intro _)
      | (with_reducible apply k_b <;> intro _)
    all_goals rfl
theorem fmd_and {n : Int} {v : Vl} {nm : List UInt8} {k : Nat} : fmd 5 n v nm k = isAnd 5 n v nm k := by
  have hc : (cnt 5 (k : Int)).1 = decide (2 ≤ k) := by
    unfold cnt
    simp
    omega
  unfold fmd isAnd
  rw [hc, Bool.eq_iff_iff]
  simp
  constructor
  · rintro ⟨⟨h1, h2⟩, h3, h4⟩; exact ⟨h1, h3, h2, h4⟩
  · rintro ⟨h1, h3, h2, h4⟩; exact ⟨⟨h1, h2⟩, h3, h4⟩
theorem C.r12_Conjuncts : ∀ e : Ex, e.bk ≤ 1048576 → Pure Tryz.prog N.bt_ref12_Conjuncts [e.av] (.d (.sl (xL (cj e)))) := by
  refine Ex.ind fun op n v nm nl args ih hb => ?_
  obtain ⟨b1, b2, b3, b4⟩ := Ex.bk_bounds hb
  have h1 := xL_len args
  have hm := xL_mem args
  have hF := C.r11_Formed op n v nm (ng nl (xL args)) (xL args) sld_ng b2 (by omega)
  rw [h1] at hF
  rw [cj_mk, Ex.av_mk]
  obtain ⟨da, hda⟩ : ∃ d, d = ng nl (xL args) := ⟨_, rfl⟩
  have hsd : SlD da (xL args) := by rw [hda]; exact sld_ng
  rw [← hda] at hF ⊢
  have r1 : v.s = v.s := rfl
  have r2 : nm = nm := rfl
  by_cases h5 : op = 5
  rotate_left
  · have : isAnd op n v nm args.length = false := by unfold isAnd; rw [decide_eq_false (fun h => h5 h.1)]
    rw [this, if_neg (by simp)]
    refine F.bt_ref12_Conjuncts.go mixed rfl ?_
    rw [show xL [Ex.mk op n v nm nl args] = [xds op n v nm da] by rw [xL, List.map_cons, List.map_nil, Ex.ds_mk, hda]]
    repeat' first
      | refine st ?_
      | ((with_reducible apply go_i); (conv => whnf))
      | (with_reducible apply k_d <;> intro _)
      | (with_reducible apply k_b <;> intro _)
    all_goals rfl
  subst h5
  rw [fmd_and] at hF
  cases hA : isAnd 5 n v nm args.length with
  | false =>
    rw [hA] at hF
    rw [if_neg (by simp)]
    refine F.bt_ref12_Conjuncts.go mixed rfl ?_
    rw [show xL [Ex.mk 5 n v nm nl args] = [xds 5 n v nm da] by rw [xL, List.map_cons, List.map_nil, Ex.ds_mk, hda]]
    repeat' first
      | refine st ?_
      | ((with_reducible apply go_i); (conv => whnf))
      | ((with_reducible apply k_pn); (· exact hF))
      | ((with_reducible apply k_pc); (· exact hF))
      | (with_reducible apply k_d <;> intro _)
      | (with_reducible apply k_b <;> intro _)
    all_goals rfl
  | true =>
    rw [hA] at hF
    rw [if_pos rfl]
    refine F.bt_ref12_Conjuncts.go mixed rfl ?_
    obtain ⟨R, hR⟩ : ∃ R, R = xL (args.flatMap cj) := ⟨_, rfl⟩
    rw [← hR]
    have hbl := Ex.bk_mk 5 n v nm nl args
    repeat' first
      | refine st ?_
      | ((with_reducible apply go_i); (conv => whnf))
      | ((with_reducible apply k_pn); (· exact hF))
      | ((with_reducible apply k_pc); (· exact hF))
      | (with_reducible apply k_d <;> intro _)
      | (with_reducible apply k_b <;> intro _)
    refine x_loop2 mixed Lt.bt_ref12_Conjuncts_l0 Lk.bt_ref12_Conjuncts_l0 (fun (i : Nat) (A : List (List D)) => [.arr 1 A.length, .d (eI i)]) (fun i A => [.cells [.d (eI 5), .d (eI n), .d (eI v.k), .d (eI v.n), .d (.str v.s), .d (.str nm), .d da], .arr A 7 0 false]) (fun i A => i ≤ args.length ∧ A = xL ((args.take i).flatMap cj)) (fun i _ => args.length - i) 0 [] rfl rfl rfl rfl (fun _ _ _ => ⟨rfl, rfl⟩) rfl ⟨by omega, rfl⟩ ?_
    repeat' first
      | refine st ?_
      | ((with_reducible apply go_i); (conv => whnf))
      | (with_reducible apply k_d <;> intro _)
      | (with_reducible apply k_b <;> intro _)
    intro i A ⟨h4, h5⟩
    have hAl : A.length ≤ 1048576 := by
      rw [h5, xL_len]
      have := cjt_len args i
      omega
    have hAm : ∀ e ∈ A, e.length = 7 := by rw [h5]; exact xL_mem _
    cases hx : args[i]? with
    | some x =>
      have hlt := (List.getElem?_eq_some_iff.1 hx).1
      have hg := xL_get hx
      have hi := ih x (List.mem_of_getElem? hx) (b4 x (List.mem_of_getElem? hx))
      have hcl := cj_len x
      have hbx := b4 x (List.mem_of_getElem? hx)
      have hs : A ++ xL (cj x) = xL ((args.take (i + 1)).flatMap cj) := by rw [cjt_succ hx, h5]; simp [xL]
      obtain ⟨B, hB⟩ : ∃ B, B = xL (cj x) := ⟨_, rfl⟩
      have hBl : B.length ≤ 1048576 := by rw [hB, xL_len]; omega
      have hBm : ∀ e ∈ B, e.length = 7 := by rw [hB]; exact xL_mem _
      rw [← hB] at hi hs
      obtain ⟨o1, n1, v1, m1, l1, a1⟩ := x
      rw [Ex.ds_mk] at hg
      rw [Ex.av_mk] at hi
      repeat' first
        | refine st ?_
        | ((with_reducible apply go_i); (conv => whnf))
        | ((with_reducible apply k_pn); (· exact hi))
        | ((with_reducible apply k_pc); (· exact hi))
        | (with_reducible apply k_d <;> intro _)
        | (with_reducible apply k_b <;> intro _)
      exact ⟨i + 1, A ++ B, rfl, rfl, by cases B <;> rfl, by omega, by omega, hs⟩
    | none =>
      have hge := List.getElem?_eq_none_iff.1 hx
      rw [List.take_of_length_le hge, ← hR] at h5
      rw [← h5]
      repeat' first
        | refine st ?_
        | ((with_reducible apply go_i); (conv => whnf))
        | (with_reducible apply k_d <;> intro _)
        | (with_reducible apply k_b <;> intro _)
      all_goals rfl
theorem condt_succ {l : List Ex} {i : Nat} {x : Ex} (h : l[i]? = some x) : (l.take (i + 1)).filterMap cond = (l.take i).filterMap cond ++ (cond x).toList := by
  rw [List.take_add_one, h, List.filterMap_append]
  congr 1
theorem C.r12_Conditions (e : Ex) (he : e.bk ≤ 1048576) : Pure Tryz.prog N.bt_ref12_Conditions [e.av] (.d (.sl (eDs (conds e)))) := by
  have hJ := C.r12_Conjuncts e he
  have hjl := cj_len e
  have hjb := cj_bk e
  unfold conds
  obtain ⟨J, hJe⟩ : ∃ J, J = cj e := ⟨_, rfl⟩
  rw [← hJe] at hJ hjl hjb ⊢
  obtain ⟨R, hR⟩ : ∃ R, R = eDs (J.filterMap cond) := ⟨_, rfl⟩
  rw [← hR]
  have h1 := xL_len J
  have hm := xL_mem J
  obtain ⟨op, n, v, nm, nl, args⟩ := e
  rw [Ex.av_mk] at hJ ⊢
  obtain ⟨da, hda⟩ : ∃ d, d = ng nl (xL args) := ⟨_, rfl⟩
  rw [← hda] at hJ ⊢
  refine F.bt_ref12_Conditions.go mixed rfl ?_
  repeat' first
    | refine st ?_
    | ((with_reducible apply go_i); (conv => whnf))
    | ((with_reducible apply k_pn); (· exact hJ))
    | ((with_reducible apply k_pc); (· exact hJ))
    | (with_reducible apply k_d <;> intro _)
    | (with_reducible apply k_b <;> intro _)
  refine x_loop2 mixed Lt.bt_ref12_Conditions_l0 Lk.bt_ref12_Conditions_l0 (fun (i : Nat) (A : List (List D)) => [.arr 1 A.length, .d (eI i)]) (fun i A => [.cells [.d (eI op), .d (eI n), .d (eI v.k), .d (eI v.n), .d (.str v.s), .d (.str nm), .d da], .arr A 5 0 false]) (fun i A => i ≤ J.length ∧ A = eDs ((J.take i).filterMap cond)) (fun i _ => J.length - i) 0 [] rfl rfl rfl rfl (fun _ _ _ => ⟨rfl, rfl⟩) rfl ⟨by omega, rfl⟩ ?_
  repeat' first
    | refine st ?_
    | ((with_reducible apply go_i); (conv => whnf))
    | (with_reducible apply k_d <;> intro _)
    | (with_reducible apply k_b <;> intro _)
  intro i A ⟨h4, h5⟩
  have hAl : A.length ≤ 1048576 := by
    rw [h5, eDs_len]
    have := List.length_filterMap_le cond (J.take i)
    rw [List.length_take] at this
    omega
  have hAm : ∀ e ∈ A, e.length = 5 := by rw [h5]; exact eDs_mem _
  cases hx : J[i]? with
  | some x =>
    have hlt := (List.getElem?_eq_some_iff.1 hx).1
    have hg := xL_get hx
    have hC := C.r12_condition x (by have := hjb x (List.mem_of_getElem? hx); omega)
    have hs := condt_succ hx
    obtain ⟨o1, n1, v1, m1, l1, a1⟩ := x
    rw [Ex.ds_mk] at hg
    rw [Ex.av_mk] at hC
    cases hc : cond (.mk o1 n1 v1 m1 l1 a1) with
    | none =>
      rw [hc, Option.toList_none, List.append_nil] at hs
      rw [hc] at hC
      repeat' first
        | refine st ?_
        | ((with_reducible apply go_i); (conv => whnf))
        | ((with_reducible apply k_pn); (· exact hC))
        | ((with_reducible apply k_pc); (· exact hC))
        | (with_reducible apply k_d <;> intro _)
        | (with_reducible apply k_b <;> intro _)
      exact ⟨i + 1, A, rfl, rfl, rfl, by omega, by omega, by rw [hs]; exact h5⟩
    | some c =>
      rw [hc, Option.toList_some] at hs
      rw [hc] at hC
      repeat' first
        | refine st ?_
        | ((with_reducible apply go_i); (conv => whnf))
        | ((with_reducible apply k_pn); (· exact hC))
        | ((with_reducible apply k_pc); (· exact hC))
        | (with_reducible apply k_d <;> intro _)
        | (with_reducible apply k_b <;> intro _)
      exact ⟨i + 1, A ++ [c.ds], rfl, rfl, rfl, by omega, by omega, by rw [hs, ← eDs_app, h5]⟩
  | none =>
    have hge := List.getElem?_eq_none_iff.1 hx
    rw [List.take_of_length_le hge, ← hR] at h5
    rw [← h5]
    repeat' first
      | refine st ?_
      | ((with_reducible apply go_i); (conv => whnf))
      | (with_reducible apply k_d <;> intro _)
      | (with_reducible apply k_b <;> intro _)
    all_goals rfl
end Go.Proofs
end
section
/- The window: the program's and the reference's. No condition. -/
set_option linter.unusedSimpArgs false
set_option linter.unusedVariables false
set_option maxRecDepth 10000
set_option maxHeartbeats 4000000
namespace Go.Proofs
open Go.Bi

def nar (r : Int × Int) (c : Cd) : Int × Int :=
  if c.op = 7 then (max r.1 c.v.n, min r.2 c.v.n) else if c.op = 9 then (r.1, min r.2 (c.v.n - 1)) else if c.op = 10 then (r.1, min r.2 c.v.n) else if c.op = 11 then (max r.1 (c.v.n + 1), r.2) else (max r.1 c.v.n, r.2)
theorem C.span_meet0 (a b : Int) (c : Cd) (hc : cmpOp c.op = true) (hn : nSm c.v.n) : CallSpec Tryz.prog N.ppredicate_span_meet [.ptr 0 0, .d (eI c.op), .d (eI c.v.n)] [.cells [.d (eI a), .d (eI b)]] (fun r os => r = .tup [] ∧ os = [.cells [.d (eI (nar (a, b) c).1), .d (eI (nar (a, b) c).2)]]) := by
  obtain ⟨op, col, k, n, s⟩ := c
  dsimp only at hc hn ⊢
  unfold cmpOp at hc
  have hc := of_decide_eq_true hc
  unfold nSm at hn
  obtain ⟨n1, n2⟩ := hn
  refine F.ppredicate_span_meet.goX mixed rfl ?_
  unfold nar
  dsimp only
  rcases hc with rfl | rfl | rfl | rfl | rfl
  · rw [if_pos rfl]
    repeat' first
      | refine st ?_
      | ((with_reducible apply go_i); (conv => whnf))
      | (with_reducible apply k_d <;> intro _)
      | (with_reducible apply k_b <;> intro _)
    all_goals exact ⟨rfl, rfl⟩
  · rw [if_neg (by decide), if_pos rfl]
    repeat' first
      | refine st ?_
      | ((with_reducible apply go_i); (conv => whnf))
      | (with_reducible apply k_d <;> intro _)
      | (with_reducible apply k_b <;> intro _)
    all_goals exact ⟨rfl, rfl⟩
  · rw [if_neg (by decide), if_neg (by decide), if_pos rfl]
    repeat' first
      | refine st ?_
      | ((with_reducible apply go_i); (conv => whnf))
      | (with_reducible apply k_d <;> intro _)
      | (with_reducible apply k_b <;> intro _)
    all_goals exact ⟨rfl, rfl⟩
  · rw [if_neg (by decide), if_neg (by decide), if_neg (by decide), if_pos rfl]
    repeat' first
      | refine st ?_
      | ((with_reducible apply go_i); (conv => whnf))
      | (with_reducible apply k_d <;> intro _)
      | (with_reducible apply k_b <;> intro _)
    all_goals exact ⟨rfl, rfl⟩
  · rw [if_neg (by decide), if_neg (by decide), if_neg (by decide), if_neg (by decide)]
    repeat' first
      | refine st ?_
      | ((with_reducible apply go_i); (conv => whnf))
      | (with_reducible apply k_d <;> intro _)
      | (with_reducible apply k_b <;> intro _)
    all_goals exact ⟨rfl, rfl⟩
theorem C.span_meet (a b : Int) (c : Cd) (hc : cmpOp c.op = true) (hn : nSm c.v.n) {os : List AO} {id : Nat} (ho : os[id]? = some (.cells [.d (eI a), .d (eI b)])) : CallSpec Tryz.prog N.ppredicate_span_meet [.ptr id 0, .d (eI c.op), .d (eI c.v.n)] os (fun r os' => r = .tup [] ∧ os' = os.set id (.cells [.d (eI (nar (a, b) c).1), .d (eI (nar (a, b) c).2)])) :=
  lift1 (fun id => [.ptr id 0, .d (eI c.op), .d (eI c.v.n)]) (C.span_meet0 a b c hc hn) (fun _ => rfl) (fun _ => rfl) (fun _ => rfl) (fun id n => rfl) (by simp [AV.bnd2, AV.bnd1]) (by simp [AO.bnd, AV.bnd1]) ho
theorem C.span_empty0 (a b : Int) : CallSpec Tryz.prog N.ppredicate_span_empty [.ptr 0 0] [.cells [.d (eI a), .d (eI b)]] (fun r os => r = .d (.bool (decide (b < a))) ∧ os = [.cells [.d (eI a), .d (eI b)]]) := by
  refine F.ppredicate_span_empty.goX mixed rfl ?_
  repeat' first
    | refine st ?_
    | ((with_reducible apply go_i); (conv => whnf))
    | (with_reducible apply k_d <;> intro _)
    | (with_reducible apply k_b <;> intro _)
  all_goals exact ⟨rfl, rfl⟩
theorem C.span_empty (a b : Int) {os : List AO} {id : Nat} (ho : os[id]? = some (.cells [.d (eI a), .d (eI b)])) : CallSpec Tryz.prog N.ppredicate_span_empty [.ptr id 0] os (fun r os' => r = .d (.bool (decide (b < a))) ∧ os' = os.set id (.cells [.d (eI a), .d (eI b)])) :=
  lift1 (fun id => [.ptr id 0]) (C.span_empty0 a b) (fun _ => rfl) (fun _ => rfl) (fun _ => rfl) (fun id n => rfl) (by simp [AV.bnd2, AV.bnd1]) (by simp [AO.bnd, AV.bnd1]) ho

def wf (f t : Int) : List Cd → Int × Int → Int × Int → Option ((Int × Int) × (Int × Int))
  | [], a, b => some (a, b)
  | c :: l, a, b => if c.col ≠ f ∧ c.col ≠ t then wf f t l a b else if c.v.k ≠ 1 then none else wf f t l (if c.col = f then nar a c else a) (if c.col = t then nar b c else b)
def bd (col : Int) : List Cd → Int × Int → Option (Int × Int)
  | [], r => some r
  | c :: l, r => if c.col = col then (if c.v.k ≠ 1 then none else bd col l (nar r c)) else bd col l r
theorem wf_bd (f t : Int) : ∀ (l : List Cd) (a b : Int × Int), wf f t l a b = match bd f l a, bd t l b with
    | some a', some b' => some (a', b')
    | _, _ => none
  | [], a, b => rfl
  | c :: l, a, b => by
    unfold wf bd
    by_cases h1 : c.col = f
    · by_cases h2 : c.col = t
      · by_cases h3 : c.v.k = 1
        · simp only [h1, h3, ne_eq, not_true, false_and, if_false, if_true]
          rw [← h1, if_pos h2, if_pos h2]
          exact wf_bd _ t l _ _
        · simp only [h1, h3, ne_eq, not_true, not_false_iff, false_and, if_false, if_true]
      · by_cases h3 : c.v.k = 1
        · simp only [h1, h3, ne_eq, not_true, false_and, if_false, if_true]
          rw [← h1, if_neg h2, if_neg h2]
          exact wf_bd _ t l _ _
        · simp only [h1, h3, ne_eq, not_true, not_false_iff, false_and, if_false, if_true]
    · by_cases h2 : c.col = t
      · by_cases h3 : c.v.k = 1
        · rw [if_neg (fun h => h.2 h2), if_neg (fun h => h h3), if_neg h1, if_neg h1, if_pos h2, if_pos h2, if_neg (fun h => h h3)]
          exact wf_bd f t l _ _
        · rw [if_neg (fun h => h.2 h2), if_pos h3, if_neg h1, if_pos h2, if_pos h3]
          cases bd f l a <;> rfl
      · rw [if_pos ⟨h1, h2⟩, if_neg h1, if_neg h2]
        exact wf_bd f t l _ _
theorem wf_drop {f t : Int} {l : List Cd} {i : Nat} {c : Cd} {a b : Int × Int} (h : l[i]? = some c) : wf f t (l.drop i) a b = if c.col ≠ f ∧ c.col ≠ t then wf f t (l.drop (i + 1)) a b else if c.v.k ≠ 1 then none else wf f t (l.drop (i + 1)) (if c.col = f then nar a c else a) (if c.col = t then nar b c else b) := by
  obtain ⟨hlt, he⟩ := List.getElem?_eq_some_iff.1 h
  rw [List.drop_eq_getElem_cons hlt, he, wf]
def wout : Option ((Int × Int) × (Int × Int)) → (Int × Int) × Bool
  | none => ((0, 0), false)
  | some (a, b) => if a.2 < a.1 ∨ b.2 < b.1 ∨ b.2 ≤ a.1 then ((0, 0), false) else if a.2 < b.1 then ((a.2, b.1), true) else ((a.1, b.2), true)
def win (e : Ex) (f t : Int) : (Int × Int) × Bool := wout (wf f t (conds e) (0, 1099511627775) (1, 1099511627776))
def winA (r : (Int × Int) × Bool) : AV := .tup [.agg [.d (eI r.1.1), .d (eI r.1.2)], .d (.bool r.2)]
theorem C.predicate_Window (e : Ex) (he : e.bk ≤ 1048576) (f t : Int) : Pure Tryz.prog N.predicate_Window [e.av, .d (eI f), .d (eI t)] (winA (win e f t)) := by
  have hJ := C.predicate_Conditions e he
  have hok : ∀ c ∈ conds e, cmpOp c.op = true ∧ nSm c.v.n := fun c hc => ⟨(conds_ok hc).1, valid_n (conds_ok hc).2.2⟩
  have hcl := conds_len e
  unfold win
  obtain ⟨J, hJe⟩ : ∃ J, J = conds e := ⟨_, rfl⟩
  rw [← hJe] at hJ hok hcl ⊢
  have h1 := eDs_len J
  have hm := eDs_mem J
  have hsl : SlD (nsl (eDs J)) (eDs J) := sld_nsl
  obtain ⟨dj, hdj⟩ : ∃ d, d = nsl (eDs J) := ⟨_, rfl⟩
  rw [← hdj] at hJ hsl
  obtain ⟨q, hq⟩ : ∃ q, q = wf f t J (0, 1099511627775) (1, 1099511627776) := ⟨_, rfl⟩
  rw [← hq]
  obtain ⟨op, n, v, nm, nl, args⟩ := e
  rw [Ex.av_mk] at hJ ⊢
  obtain ⟨da, hda⟩ : ∃ d, d = ng nl (xL args) := ⟨_, rfl⟩
  rw [← hda] at hJ ⊢
  refine F.predicate_Window.go mixed rfl ?_
  repeat' first
    | refine st ?_
    | ((with_reducible apply go_i); (conv => whnf))
    | ((with_reducible apply k_pn); (· exact hJ))
    | ((with_reducible apply k_pc); (· exact hJ))
    | (with_reducible apply k_d <;> intro _)
    | (with_reducible apply k_b <;> intro _)
  refine x_loop3 mixed Lt.predicate_Window_l0 Lk.predicate_Window_l0 (fun (i : Nat) (a b : Int × Int) => [.d (eI i)]) (fun i a b => [.cells [.d (eI op), .d (eI n), .d (eI v.k), .d (eI v.n), .d (.str v.s), .d (.str nm), .d da], .cells [.d (eI 0), .d (eI 0)], .cells [.d (eI a.1), .d (eI a.2)], .cells [.d (eI b.1), .d (eI b.2)]]) (fun i a b => i ≤ J.length ∧ q = wf f t (J.drop i) a b) (fun i _ _ => J.length - i) 0 (0, 1099511627775) (1, 1099511627776) rfl rfl rfl rfl (fun _ _ _ _ => ⟨rfl, rfl⟩) rfl ⟨by omega, hq⟩ ?_
  repeat' first
    | refine st ?_
    | ((with_reducible apply go_i); (conv => whnf))
    | (with_reducible apply k_d <;> intro _)
    | (with_reducible apply k_b <;> intro _)
  intro i a b ⟨h4, h5⟩
  obtain ⟨a1, a2⟩ := a
  obtain ⟨b1, b2⟩ := b
  cases hx : J[i]? with
  | some c =>
    have hlt := (List.getElem?_eq_some_iff.1 hx).1
    have hg := eDs_get hx
    obtain ⟨k1, k2⟩ := hok c (List.mem_of_getElem? hx)
    rw [wf_drop hx] at h5
    have hM1 : ∀ (os : List AO), os[2]? = some (.cells [.d (eI a1), .d (eI a2)]) → CallSpec Tryz.prog N.ppredicate_span_meet [.ptr 2 0, .d (eI c.op), .d (eI c.v.n)] os (fun r os' => r = .tup [] ∧ os' = os.set 2 (.cells [.d (eI (nar (a1, a2) c).1), .d (eI (nar (a1, a2) c).2)])) := fun os ho => C.span_meet a1 a2 c k1 k2 ho
    have hM2 : ∀ (os : List AO), os[3]? = some (.cells [.d (eI b1), .d (eI b2)]) → CallSpec Tryz.prog N.ppredicate_span_meet [.ptr 3 0, .d (eI c.op), .d (eI c.v.n)] os (fun r os' => r = .tup [] ∧ os' = os.set 3 (.cells [.d (eI (nar (b1, b2) c).1), .d (eI (nar (b1, b2) c).2)])) := fun os ho => C.span_meet b1 b2 c k1 k2 ho
    obtain ⟨A, hA⟩ : ∃ A, A = nar (a1, a2) c := ⟨_, rfl⟩
    obtain ⟨B, hB⟩ : ∃ B, B = nar (b1, b2) c := ⟨_, rfl⟩
    rw [← hA] at hM1 h5
    rw [← hB] at hM2 h5
    obtain ⟨cop, col, ck, cn, cs⟩ := c
    dsimp only at h5 hM1 hM2
    have r1 : cs = cs := rfl
    by_cases g1 : col = f
    · rw [if_neg (fun h => h.1 g1)] at h5
      by_cases g3 : ck = 1
      · rw [if_neg (fun h => h g3), if_pos g1] at h5
        by_cases g2 : col = t
        · rw [if_pos g2] at h5
          repeat' first
            | refine st ?_
            | ((with_reducible apply go_i); (conv => whnf))
            | ((with_reducible apply k_nc); (· first | exact hM1 _ rfl | exact hM2 _ rfl); (try rintro _ _ ⟨rfl, rfl⟩))
            | ((with_reducible apply k_pr); (· first | exact hM1 _ rfl | exact hM2 _ rfl))
            | ((with_reducible apply k_cs); (· first | exact hM1 _ rfl | exact hM2 _ rfl); (try rintro _ _ ⟨rfl, rfl⟩))
            | ((with_reducible apply k_cal); refine st ?_; (with_reducible apply k_chk); (· exact rfl); refine st ?_; (with_reducible apply k_cs); (· first | exact hM1 _ rfl | exact hM2 _ rfl); (try rintro _ _ ⟨rfl, rfl⟩))
            | (with_reducible apply k_d <;> intro _)
            | (with_reducible apply k_b <;> intro _)
          exact ⟨i + 1, A, B, rfl, rfl, rfl, by omega, by omega, h5⟩
        · rw [if_neg g2] at h5
          repeat' first
            | refine st ?_
            | ((with_reducible apply go_i); (conv => whnf))
            | ((with_reducible apply k_nc); (· first | exact hM1 _ rfl | exact hM2 _ rfl); (try rintro _ _ ⟨rfl, rfl⟩))
            | ((with_reducible apply k_pr); (· first | exact hM1 _ rfl | exact hM2 _ rfl))
            | ((with_reducible apply k_cs); (· first | exact hM1 _ rfl | exact hM2 _ rfl); (try rintro _ _ ⟨rfl, rfl⟩))
            | ((with_reducible apply k_cal); refine st ?_; (with_reducible apply k_chk); (· exact rfl); refine st ?_; (with_reducible apply k_cs); (· first | exact hM1 _ rfl | exact hM2 _ rfl); (try rintro _ _ ⟨rfl, rfl⟩))
            | (with_reducible apply k_d <;> intro _)
            | (with_reducible apply k_b <;> intro _)
          exact ⟨i + 1, A, (b1, b2), rfl, rfl, rfl, by omega, by omega, h5⟩
      · rw [if_pos g3] at h5
        rw [h5]
        repeat' first
          | refine st ?_
          | ((with_reducible apply go_i); (conv => whnf))
          | (with_reducible apply k_d <;> intro _)
          | (with_reducible apply k_b <;> intro _)
        all_goals rfl
    · by_cases g2 : col = t
      · rw [if_neg (fun h => h.2 g2)] at h5
        by_cases g3 : ck = 1
        · rw [if_neg (fun h => h g3), if_neg g1, if_pos g2] at h5
          repeat' first
            | refine st ?_
            | ((with_reducible apply go_i); (conv => whnf))
            | ((with_reducible apply k_nc); (· first | exact hM2 _ rfl); (try rintro _ _ ⟨rfl, rfl⟩))
            | ((with_reducible apply k_pr); (· first | exact hM2 _ rfl))
            | ((with_reducible apply k_cs); (· first | exact hM2 _ rfl); (try rintro _ _ ⟨rfl, rfl⟩))
            | ((with_reducible apply k_cal); refine st ?_; (with_reducible apply k_chk); (· exact rfl); refine st ?_; (with_reducible apply k_cs); (· first | exact hM2 _ rfl); (try rintro _ _ ⟨rfl, rfl⟩))
            | (with_reducible apply k_d <;> intro _)
            | (with_reducible apply k_b <;> intro _)
          exact ⟨i + 1, (a1, a2), B, rfl, rfl, rfl, by omega, by omega, h5⟩
        · rw [if_pos g3] at h5
          rw [h5]
          repeat' first
            | refine st ?_
            | ((with_reducible apply go_i); (conv => whnf))
            | (with_reducible apply k_d <;> intro _)
            | (with_reducible apply k_b <;> intro _)
          all_goals rfl
      · rw [if_pos ⟨g1, g2⟩] at h5
        repeat' first
          | refine st ?_
          | ((with_reducible apply go_i); (conv => whnf))
          | (with_reducible apply k_d <;> intro _)
          | (with_reducible apply k_b <;> intro _)
        exact ⟨i + 1, (a1, a2), (b1, b2), rfl, rfl, rfl, by omega, by omega, h5⟩
  | none =>
    have hge := List.getElem?_eq_none_iff.1 hx
    rw [List.drop_eq_nil_of_le hge] at h5
    have h5 : q = some ((a1, a2), (b1, b2)) := h5
    rw [h5]
    have hE1 : ∀ (os : List AO), os[2]? = some (.cells [.d (eI a1), .d (eI a2)]) → CallSpec Tryz.prog N.ppredicate_span_empty [.ptr 2 0] os (fun r os' => r = .d (.bool (decide (a2 < a1))) ∧ os' = os.set 2 (.cells [.d (eI a1), .d (eI a2)])) := fun os ho => C.span_empty a1 a2 ho
    have hE2 : ∀ (os : List AO), os[3]? = some (.cells [.d (eI b1), .d (eI b2)]) → CallSpec Tryz.prog N.ppredicate_span_empty [.ptr 3 0] os (fun r os' => r = .d (.bool (decide (b2 < b1))) ∧ os' = os.set 3 (.cells [.d (eI b1), .d (eI b2)])) := fun os ho => C.span_empty b1 b2 ho
    unfold wout
    dsimp only
    by_cases z : a2 < a1 ∨ b2 < b1 ∨ b2 ≤ a1
    · rw [if_pos z]
      repeat' first
        | refine st ?_
        | ((with_reducible apply go_i); (conv => whnf))
        | ((with_reducible apply k_nc); (· first | exact hE1 _ rfl | exact hE2 _ rfl); (try rintro _ _ ⟨rfl, rfl⟩))
        | ((with_reducible apply k_pr); (· first | exact hE1 _ rfl | exact hE2 _ rfl))
        | ((with_reducible apply k_cs); (· first | exact hE1 _ rfl | exact hE2 _ rfl); (try rintro _ _ ⟨rfl, rfl⟩))
        | ((with_reducible apply k_cal); refine st ?_; (with_reducible apply k_chk); (· exact rfl); refine st ?_; (with_reducible apply k_cs); (· first | exact hE1 _ rfl | exact hE2 _ rfl); (try rintro _ _ ⟨rfl, rfl⟩))
        | (with_reducible apply k_d <;> intro _)
        | (with_reducible apply k_b <;> intro _)
      all_goals first | rfl | (exfalso; omega)
    · rw [if_neg z]
      by_cases z2 : a2 < b1
      · rw [if_pos z2]
        repeat' first
          | refine st ?_
          | ((with_reducible apply go_i); (conv => whnf))
          | ((with_reducible apply k_nc); (· first | exact hE1 _ rfl | exact hE2 _ rfl); (try rintro _ _ ⟨rfl, rfl⟩))
          | ((with_reducible apply k_pr); (· first | exact hE1 _ rfl | exact hE2 _ rfl))
          | ((with_reducible apply k_cs); (· first | exact hE1 _ rfl | exact hE2 _ rfl); (try rintro _ _ ⟨rfl, rfl⟩))
          | ((with_reducible apply k_cal); refine st ?_; (with_reducible apply k_chk); (· exact rfl); refine st ?_; (with_reducible apply k_cs); (· first | exact hE1 _ rfl | exact hE2 _ rfl); (try rintro _ _ ⟨rfl, rfl⟩))
          | (with_reducible apply k_d <;> intro _)
          | (with_reducible apply k_b <;> intro _)
        all_goals first | rfl | (exfalso; omega)
      · rw [if_neg z2]
        repeat' first
          | refine st ?_
          | ((with_reducible apply go_i); (conv => whnf))
          | ((with_reducible apply k_nc); (· first | exact hE1 _ rfl | exact hE2 _ rfl); (try rintro _ _ ⟨rfl, rfl⟩))
          | ((with_reducible apply k_pr); (· first | exact hE1 _ rfl | exact hE2 _ rfl))
          | ((with_reducible apply k_cs); (· first | exact hE1 _ rfl | exact hE2 _ rfl); (try rintro _ _ ⟨rfl, rfl⟩))
          | ((with_reducible apply k_cal); refine st ?_; (with_reducible apply k_chk); (· exact rfl); refine st ?_; (with_reducible apply k_cs); (· first | exact hE1 _ rfl | exact hE2 _ rfl); (try rintro _ _ ⟨rfl, rfl⟩))
          | (with_reducible apply k_d <;> intro _)
          | (with_reducible apply k_b <;> intro _)
        all_goals first | rfl | (exfalso; omega)
end Go.Proofs
end
section
/- The window: the reference's. No condition. -/
set_option linter.unusedSimpArgs false
set_option linter.unusedVariables false
set_option maxRecDepth 10000
set_option maxHeartbeats 4000000
namespace Go.Proofs
open Go.Bi

def onC (col : Int) (l : List Cd) : List Cd := l.filter fun c => decide (c.col = col)
theorem onC_len (col : Int) (l : List Cd) : (onC col l).length ≤ l.length := List.length_filter_le _ _
theorem onC_succ {col : Int} {l : List Cd} {i : Nat} {c : Cd} (h : l[i]? = some c) : onC col (l.take (i + 1)) = if c.col = col then onC col (l.take i) ++ [c] else onC col (l.take i) := by
  unfold onC
  rw [List.take_add_one, h, List.filter_append]
  by_cases hc : c.col = col
  · rw [if_pos hc]; simp [hc]
  · rw [if_neg hc]; simp [hc]
theorem C.r12_on (l : List Cd) (hl : l.length ≤ 1048576) (d : D) (hd : SlD d (eDs l)) (col : Int) : Pure Tryz.prog N.bt_ref12_on [.d d, .d (eI col)] (.d (.sl (eDs (onC col l)))) := by
  refine F.bt_ref12_on.go mixed rfl ?_
  have h1 := eDs_len l
  have hm := eDs_mem l
  obtain ⟨R, hR⟩ : ∃ R, R = eDs (onC col l) := ⟨_, rfl⟩
  rw [← hR]
  repeat' first
    | refine st ?_
    | ((with_reducible apply go_i); (conv => whnf))
    | (with_reducible apply k_d <;> intro _)
    | (with_reducible apply k_b <;> intro _)
  refine x_loop2 mixed Lt.bt_ref12_on_l0 Lk.bt_ref12_on_l0 (fun (i : Nat) (A : List (List D)) => [.arr 0 A.length, .d (eI i)]) (fun i A => [.arr A 5 0 false]) (fun i A => i ≤ l.length ∧ A = eDs (onC col (l.take i))) (fun i _ => l.length - i) 0 [] rfl rfl rfl rfl (fun _ _ _ => ⟨rfl, rfl⟩) rfl ⟨by omega, rfl⟩ ?_
  repeat' first
    | refine st ?_
    | ((with_reducible apply go_i); (conv => whnf))
    | (with_reducible apply k_d <;> intro _)
    | (with_reducible apply k_b <;> intro _)
  intro i A ⟨h4, h5⟩
  have hAl : A.length ≤ 1048576 := by
    rw [h5, eDs_len]
    have := onC_len col (l.take i)
    rw [List.length_take] at this
    omega
  have hAm : ∀ e ∈ A, e.length = 5 := by rw [h5]; exact eDs_mem _
  cases hx : l[i]? with
  | some x =>
    have hlt := (List.getElem?_eq_some_iff.1 hx).1
    have hg := eDs_get hx
    have hs := onC_succ (col := col) hx
    by_cases hc : x.col = col
    · rw [if_pos hc] at hs
      have r1 : x.v.s = x.v.s := rfl
      repeat' first
        | refine st ?_
        | ((with_reducible apply go_i); (conv => whnf))
        | (with_reducible apply k_d <;> intro _)
        | (with_reducible apply k_b <;> intro _)
      exact ⟨i + 1, A ++ [x.ds], rfl, rfl, rfl, by omega, by omega, by rw [hs, ← eDs_app, h5]⟩
    · rw [if_neg hc] at hs
      repeat' first
        | refine st ?_
        | ((with_reducible apply go_i); (conv => whnf))
        | (with_reducible apply k_d <;> intro _)
        | (with_reducible apply k_b <;> intro _)
      exact ⟨i + 1, A, rfl, rfl, rfl, by omega, by omega, by rw [hs]; exact h5⟩
  | none =>
    have hge := List.getElem?_eq_none_iff.1 hx
    rw [List.take_of_length_le hge, ← hR] at h5
    rw [← h5]
    repeat' first
      | refine st ?_
      | ((with_reducible apply go_i); (conv => whnf))
      | (with_reducible apply k_d <;> intro _)
      | (with_reducible apply k_b <;> intro _)
    all_goals rfl
theorem C.r12_narrowed (r : Int × Int) (c : Cd) (hc : cmpOp c.op = true) (hn : nSm c.v.n) : Pure Tryz.prog N.bt_ref12_narrowed [.agg [.d (eI r.1), .d (eI r.2)], c.av] (.agg [.d (eI (nar r c).1), .d (eI (nar r c).2)]) := by
  obtain ⟨a, b⟩ := r
  obtain ⟨op, col, k, n, s⟩ := c
  dsimp only at hc hn ⊢
  unfold cmpOp at hc
  have hc := of_decide_eq_true hc
  unfold nSm at hn
  obtain ⟨n1, n2⟩ := hn
  unfold nar
  dsimp only
  show Pure Tryz.prog N.bt_ref12_narrowed [.agg [.d (eI a), .d (eI b)], .agg [.d (eI op), .d (eI col), .d (eI k), .d (eI n), .d (.str s)]] _
  refine F.bt_ref12_narrowed.go mixed rfl ?_
  rcases hc with rfl | rfl | rfl | rfl | rfl
  · rw [if_pos rfl]
    repeat' first
      | refine st ?_
      | ((with_reducible apply go_i); (conv => whnf))
      | (with_reducible apply k_d <;> intro _)
      | (with_reducible apply k_b <;> intro _)
    all_goals rfl
  · rw [if_neg (by decide), if_pos rfl]
    repeat' first
      | refine st ?_
      | ((with_reducible apply go_i); (conv => whnf))
      | (with_reducible apply k_d <;> intro _)
      | (with_reducible apply k_b <;> intro _)
    all_goals rfl
  · rw [if_neg (by decide), if_neg (by decide), if_pos rfl]
    repeat' first
      | refine st ?_
      | ((with_reducible apply go_i); (conv => whnf))
      | (with_reducible apply k_d <;> intro _)
      | (with_reducible apply k_b <;> intro _)
    all_goals rfl
  · rw [if_neg (by decide), if_neg (by decide), if_neg (by decide), if_pos rfl]
    repeat' first
      | refine st ?_
      | ((with_reducible apply go_i); (conv => whnf))
      | (with_reducible apply k_d <;> intro _)
      | (with_reducible apply k_b <;> intro _)
    all_goals rfl
  · rw [if_neg (by decide), if_neg (by decide), if_neg (by decide), if_neg (by decide)]
    repeat' first
      | refine st ?_
      | ((with_reducible apply go_i); (conv => whnf))
      | (with_reducible apply k_d <;> intro _)
      | (with_reducible apply k_b <;> intro _)
    all_goals rfl
def bdF : List Cd → Int × Int → (Int × Int) × Bool
  | [], r => (r, true)
  | c :: l, r => if c.v.k ≠ 1 then (r, false) else bdF l (nar r c)
theorem bd_bdF (col : Int) : ∀ (l : List Cd) (r : Int × Int), bd col l r = if (bdF (onC col l) r).2 then some (bdF (onC col l) r).1 else none
  | [], r => rfl
  | c :: l, r => by
    unfold bd
    by_cases h : c.col = col
    · rw [if_pos h, show onC col (c :: l) = c :: onC col l by unfold onC; simp [h], bdF]
      by_cases h2 : c.v.k = 1
      · simp only [h2, ne_eq, not_true, if_false]
        exact bd_bdF col l _
      · simp [h2]
    · rw [if_neg h, show onC col (c :: l) = onC col l by unfold onC; simp [h], bd_bdF col l]
theorem bdF_drop {l : List Cd} {i : Nat} {c : Cd} {r : Int × Int} (h : l[i]? = some c) : bdF (l.drop i) r = if c.v.k ≠ 1 then (r, false) else bdF (l.drop (i + 1)) (nar r c) := by
  obtain ⟨hlt, he⟩ := List.getElem?_eq_some_iff.1 h
  rw [List.drop_eq_getElem_cons hlt, he, bdF]
end Go.Proofs
end
section
/- Conditions on texts. No condition. -/
set_option linter.unusedSimpArgs false
set_option linter.unusedVariables false
set_option maxRecDepth 10000
set_option maxHeartbeats 4000000
namespace Go.Proofs
open Go.Bi

theorem cmpB_anti (a b : List UInt8) : cmpB b a = - cmpB a b := by
  obtain ⟨h1, h2, h3, h4⟩ := cmpB_less a b
  obtain ⟨g1, g2, g3, g4⟩ := cmpB_less b a
  have e1 : (cmpB b a < 0) ↔ (0 < cmpB a b) := by rw [← decide_eq_decide, ← g1, ← h2]
  have e2 : (0 < cmpB b a) ↔ (cmpB a b < 0) := by rw [← decide_eq_decide, ← g2, ← h1]
  omega
theorem cmpB_trans : ∀ {a b c : List UInt8}, cmpB a b < 0 → cmpB b c < 0 → cmpB a c < 0
  | [], [], _, h, _ => by simp [cmpB, Lib.compareBytes] at h
  | [], _ :: _, [], _, h => by simp [cmpB, Lib.compareBytes] at h
  | [], _ :: _, _ :: _, _, _ => by simp [cmpB, Lib.compareBytes]
  | _ :: _, [], _, h, _ => by simp [cmpB, Lib.compareBytes] at h
  | _ :: _, _ :: _, [], _, h => by simp [cmpB, Lib.compareBytes] at h
  | x :: a, y :: b, z :: c, h1, h2 => by
    simp only [cmpB, Lib.compareBytes] at h1 h2 ⊢
    have t : ∀ p q : UInt8, p < q ↔ p.toNat < q.toNat := fun p q => UInt8.lt_iff_toNat_lt
    simp only [t] at h1 h2 ⊢
    split at h1
    · split at h2
      · rw [if_pos (by omega)]; omega
      · split at h2
        · omega
        · rw [if_pos (by omega)]; omega
    · split at h1
      · omega
      · split at h2
        · rw [if_pos (by omega)]; omega
        · split at h2
          · omega
          · rw [if_neg (by omega), if_neg (by omega)]
            exact cmpB_trans h1 h2
theorem cmpB_nil (a : List UInt8) : ¬ cmpB a [] < 0 := by cases a <;> simp [cmpB, Lib.compareBytes]
theorem cmpB_eq {a b : List UInt8} : cmpB a b = 0 ↔ a = b := (cmpB_less a b).2.2.1

structure Lm where
  t : List UInt8
  st : Bool
  is : Bool
def tig (a b : Lm) (s : Int) : Lm := if a.is = false ∨ 0 < s * cmpB b.t a.t ∨ (s * cmpB b.t a.t = 0 ∧ b.st = true) then b else a
def loA (op : Int) : Bool := decide (op = 11 ∨ op = 12 ∨ op = 7)
def hiA (op : Int) : Bool := decide (op = 9 ∨ op = 10 ∨ op = 7)
def stA (op : Int) : Bool := decide (op = 11 ∨ op = 9)
def lmC (c : Cd) : Lm := ⟨c.v.s, stA c.op, true⟩
def txS (p : Lm × Lm) (c : Cd) : Lm × Lm := (if loA c.op then tig p.1 (lmC c) 1 else p.1, if hiA c.op then tig p.2 (lmC c) (-1) else p.2)
def lm0 : Lm := ⟨[], false, false⟩
def txO (p : Lm × Lm) : Bool := if p.2.is = true ∧ p.2.st = true ∧ p.2.t = [] then false else if p.1.is = false ∨ p.2.is = false then true else decide (cmpB p.1.t p.2.t < 0 ∨ (cmpB p.1.t p.2.t = 0 ∧ p.1.st = false ∧ p.2.st = false))
def txP (l : List Cd) : Bool := txO (l.foldl txS (lm0, lm0))
def tx2 (a b : Cd) : Bool := decide (b.op = 9 ∧ b.v.s = []) || (decide (loA a.op = true ∧ hiA b.op = true) && decide (0 < cmpB a.v.s b.v.s ∨ (a.v.s = b.v.s ∧ (a.op = 11 ∨ b.op = 9))))
/-- Below the lower limit. -/
def domL (x lo : Lm) : Prop := cmpB x.t lo.t < 0 ∨ (x.t = lo.t ∧ (x.st = true → lo.st = true))
def domH (x hi : Lm) : Prop := cmpB hi.t x.t < 0 ∨ (x.t = hi.t ∧ (x.st = true → hi.st = true))
theorem domL_trans {x y z : Lm} (h1 : domL x y) (h2 : domL y z) : domL x z := by
  rcases h1 with h1 | ⟨h1, h1'⟩
  · rcases h2 with h2 | ⟨h2, h2'⟩
    · exact .inl (cmpB_trans h1 h2)
    · exact .inl (by rw [← h2]; exact h1)
  · rcases h2 with h2 | ⟨h2, h2'⟩
    · exact .inl (by rw [h1]; exact h2)
    · exact .inr ⟨h1.trans h2, fun h => h2' (h1' h)⟩
theorem domH_trans {x y z : Lm} (h1 : domH x y) (h2 : domH y z) : domH x z := by
  rcases h1 with h1 | ⟨h1, h1'⟩
  · rcases h2 with h2 | ⟨h2, h2'⟩
    · exact .inl (cmpB_trans h2 h1)
    · exact .inl (by rw [← h2]; exact h1)
  · rcases h2 with h2 | ⟨h2, h2'⟩
    · exact .inl (by rw [h1]; exact h2)
    · exact .inr ⟨h1.trans h2, fun h => h2' (h1' h)⟩
theorem tigL {a b : Lm} (ha : a.is = true) : (tig a b 1 = b ∧ domL a b) ∨ (tig a b 1 = a ∧ domL b a) := by
  unfold tig
  have hn := cmpB_anti a.t b.t
  have he := cmpB_eq (a := b.t) (b := a.t)
  split
  · rename_i h
    left
    refine ⟨rfl, ?_⟩
    rcases h with h | h | ⟨h, h'⟩
    · rw [ha] at h; cases h
    · exact .inl (by omega)
    · exact .inr ⟨(he.1 (by omega)).symm, fun _ => h'⟩
  · rename_i h
    right
    refine ⟨rfl, ?_⟩
    simp only [not_or, not_and, Bool.not_eq_true] at h
    obtain ⟨_, h1, h2⟩ := h
    rcases (show cmpB b.t a.t < 0 ∨ 0 ≤ cmpB b.t a.t by omega) with g | g
    · exact .inl g
    · exact .inr ⟨he.1 (by omega), fun h => by rw [h2 (by omega)] at h; cases h⟩
theorem tigH {a b : Lm} (ha : a.is = true) : (tig a b (-1) = b ∧ domH a b) ∨ (tig a b (-1) = a ∧ domH b a) := by
  unfold tig
  have hn := cmpB_anti a.t b.t
  have he := cmpB_eq (a := b.t) (b := a.t)
  split
  · rename_i h
    left
    refine ⟨rfl, ?_⟩
    rcases h with h | h | ⟨h, h'⟩
    · rw [ha] at h; cases h
    · exact .inl (by omega)
    · exact .inr ⟨(he.1 (by omega)).symm, fun _ => h'⟩
  · rename_i h
    right
    refine ⟨rfl, ?_⟩
    simp only [not_or, not_and, Bool.not_eq_true] at h
    obtain ⟨_, h1, h2⟩ := h
    rcases (show cmpB a.t b.t < 0 ∨ 0 ≤ cmpB a.t b.t by omega) with g | g
    · exact .inl g
    · exact .inr ⟨he.1 (by omega), fun h => by rw [h2 (by omega)] at h; cases h⟩
def InvL (l : List Cd) (lo : Lm) : Prop := (lo.is = false ∧ ∀ a ∈ l, loA a.op = false) ∨ (lo.is = true ∧ (∃ a ∈ l, loA a.op = true ∧ lmC a = lo) ∧ ∀ a ∈ l, loA a.op = true → domL (lmC a) lo)
def InvH (l : List Cd) (hi : Lm) : Prop := (hi.is = false ∧ ∀ a ∈ l, hiA a.op = false) ∨ (hi.is = true ∧ (∃ a ∈ l, hiA a.op = true ∧ lmC a = hi) ∧ ∀ a ∈ l, hiA a.op = true → domH (lmC a) hi)
theorem InvL_step {l : List Cd} {lo : Lm} {c : Cd} (h : InvL l lo) : InvL (l ++ [c]) (if loA c.op then tig lo (lmC c) 1 else lo) := by
  cases hc : loA c.op with
  | false =>
    rw [if_neg (by simp)]
    rcases h with ⟨h1, h2⟩ | ⟨h1, ⟨a, ha, hb⟩, h3⟩
    · exact .inl ⟨h1, fun a ha => by rcases List.mem_append.1 ha with h | h; exact h2 a h; simp at h; subst h; exact hc⟩
    · exact .inr ⟨h1, ⟨a, by simp [ha], hb⟩, fun a ha hl => by rcases List.mem_append.1 ha with h | h; exact h3 a h hl; simp at h; subst h; rw [hc] at hl; cases hl⟩
  | true =>
    rw [if_pos rfl]
    rcases h with ⟨h1, h2⟩ | ⟨h1, ⟨a, ha, hb⟩, h3⟩
    · have : tig lo (lmC c) 1 = lmC c := by unfold tig; rw [if_pos (.inl h1)]
      rw [this]
      refine .inr ⟨rfl, ⟨c, by simp, hc, rfl⟩, fun a ha hl => ?_⟩
      rcases List.mem_append.1 ha with h | h
      · rw [h2 a h] at hl; cases hl
      · simp at h; subst h; exact .inr ⟨rfl, id⟩
    · rcases tigL (a := lo) (b := lmC c) h1 with ⟨e, hd⟩ | ⟨e, hd⟩
      · rw [e]
        refine .inr ⟨rfl, ⟨c, by simp, hc, rfl⟩, fun a ha hl => ?_⟩
        rcases List.mem_append.1 ha with h | h
        · exact domL_trans (h3 a h hl) hd
        · simp at h; subst h; exact .inr ⟨rfl, id⟩
      · rw [e]
        refine .inr ⟨h1, ⟨a, by simp [ha], hb⟩, fun a ha hl => ?_⟩
        rcases List.mem_append.1 ha with h | h
        · exact h3 a h hl
        · simp at h; subst h; exact hd
theorem InvH_step {l : List Cd} {hi : Lm} {c : Cd} (h : InvH l hi) : InvH (l ++ [c]) (if hiA c.op then tig hi (lmC c) (-1) else hi) := by
  cases hc : hiA c.op with
  | false =>
    rw [if_neg (by simp)]
    rcases h with ⟨h1, h2⟩ | ⟨h1, ⟨a, ha, hb⟩, h3⟩
    · exact .inl ⟨h1, fun a ha => by rcases List.mem_append.1 ha with h | h; exact h2 a h; simp at h; subst h; exact hc⟩
    · exact .inr ⟨h1, ⟨a, by simp [ha], hb⟩, fun a ha hl => by rcases List.mem_append.1 ha with h | h; exact h3 a h hl; simp at h; subst h; rw [hc] at hl; cases hl⟩
  | true =>
    rw [if_pos rfl]
    rcases h with ⟨h1, h2⟩ | ⟨h1, ⟨a, ha, hb⟩, h3⟩
    · have : tig hi (lmC c) (-1) = lmC c := by unfold tig; rw [if_pos (.inl h1)]
      rw [this]
      refine .inr ⟨rfl, ⟨c, by simp, hc, rfl⟩, fun a ha hl => ?_⟩
      rcases List.mem_append.1 ha with h | h
      · rw [h2 a h] at hl; cases hl
      · simp at h; subst h; exact .inr ⟨rfl, id⟩
    · rcases tigH (a := hi) (b := lmC c) h1 with ⟨e, hd⟩ | ⟨e, hd⟩
      · rw [e]
        refine .inr ⟨rfl, ⟨c, by simp, hc, rfl⟩, fun a ha hl => ?_⟩
        rcases List.mem_append.1 ha with h | h
        · exact domH_trans (h3 a h hl) hd
        · simp at h; subst h; exact .inr ⟨rfl, id⟩
      · rw [e]
        refine .inr ⟨h1, ⟨a, by simp [ha], hb⟩, fun a ha hl => ?_⟩
        rcases List.mem_append.1 ha with h | h
        · exact h3 a h hl
        · simp at h; subst h; exact hd
theorem inv_fold : ∀ (l pre : List Cd) (p : Lm × Lm), InvL pre p.1 → InvH pre p.2 → InvL (pre ++ l) (l.foldl txS p).1 ∧ InvH (pre ++ l) (l.foldl txS p).2
  | [], pre, p, h1, h2 => by simpa using ⟨h1, h2⟩
  | c :: l, pre, p, h1, h2 => by
    have := inv_fold l (pre ++ [c]) (txS p c) (InvL_step h1) (InvH_step h2)
    simpa using this
theorem stA_lo {op : Int} (h : loA op = true) : stA op = true ↔ op = 11 := by
  unfold loA at h; unfold stA
  have := of_decide_eq_true h
  rw [decide_eq_true_eq]
  omega
theorem stA_hi {op : Int} (h : hiA op = true) : stA op = true ↔ op = 9 := by
  unfold hiA at h; unfold stA
  have := of_decide_eq_true h
  rw [decide_eq_true_eq]
  omega
theorem tx2_iff (a b : Cd) : tx2 a b = true ↔ (b.op = 9 ∧ b.v.s = []) ∨ (loA a.op = true ∧ hiA b.op = true ∧ (0 < cmpB a.v.s b.v.s ∨ (a.v.s = b.v.s ∧ (a.op = 11 ∨ b.op = 9)))) := by
  unfold tx2
  rw [Bool.or_eq_true, Bool.and_eq_true, decide_eq_true_eq, decide_eq_true_eq, decide_eq_true_eq]
  constructor
  · rintro (h | ⟨⟨h1, h2⟩, h3⟩)
    · exact .inl h
    · exact .inr ⟨h1, h2, h3⟩
  · rintro (h | ⟨h1, h2, h3⟩)
    · exact .inl h
    · exact .inr ⟨⟨h1, h2⟩, h3⟩
theorem hiA9 : hiA 9 = true := by decide
theorem txP_eq (l : List Cd) : txP l = !(l.any fun a => l.any fun b => tx2 a b) := by
  obtain ⟨hL, hH⟩ := inv_fold l [] (lm0, lm0) (.inl ⟨rfl, by simp⟩) (.inl ⟨rfl, by simp⟩)
  rw [List.nil_append] at hL hH
  unfold txP
  obtain ⟨⟨lo, hi⟩, hp⟩ : ∃ p, p = l.foldl txS (lm0, lm0) := ⟨_, rfl⟩
  rw [← hp] at hL hH ⊢
  dsimp only at hL hH
  rw [Bool.eq_iff_iff]
  have hany : ((!(l.any fun a => l.any fun b => tx2 a b)) = true) ↔ ∀ a ∈ l, ∀ b ∈ l, ¬ tx2 a b = true := by simp
  rw [hany]
  have A : hi.is = true ∧ hi.st = true ∧ hi.t = [] ↔ ∃ b ∈ l, b.op = 9 ∧ b.v.s = [] := by
    constructor
    · rintro ⟨h1, h2, h3⟩
      rcases hH with ⟨g, _⟩ | ⟨_, ⟨b, hb, hb1, hb2⟩, _⟩
      · rw [h1] at g; cases g
      · refine ⟨b, hb, ?_, ?_⟩
        · rw [← hb2] at h2; exact (stA_hi hb1).1 h2
        · rw [← hb2] at h3; exact h3
    · rintro ⟨b, hb, hb1, hb2⟩
      have hA : hiA b.op = true := by rw [hb1]; exact hiA9
      rcases hH with ⟨_, g⟩ | ⟨g1, _, g3⟩
      · rw [g b hb] at hA; cases hA
      · rcases g3 b hb hA with g | ⟨g, g'⟩
        · simp only [lmC] at g
          rw [hb2] at g
          exact absurd g (cmpB_nil _)
        · simp only [lmC] at g g'
          rw [hb2] at g
          exact ⟨g1, g' ((stA_hi hA).2 hb1), g.symm⟩
  unfold txO
  dsimp only
  by_cases hA : hi.is = true ∧ hi.st = true ∧ hi.t = []
  · rw [if_pos hA]
    obtain ⟨b, hb, hb'⟩ := A.1 hA
    simp only [Bool.false_eq_true, false_iff]
    intro h
    exact h b hb b hb ((tx2_iff b b).2 (.inl hb'))
  · rw [if_neg hA]
    have hA' : ∀ b ∈ l, ¬ (b.op = 9 ∧ b.v.s = []) := fun b hb h => hA (A.2 ⟨b, hb, h⟩)
    by_cases hN : lo.is = false ∨ hi.is = false
    · rw [if_pos hN]
      simp only [true_iff]
      intro a ha b hb h
      rcases (tx2_iff a b).1 h with h | ⟨h1, h2, _⟩
      · exact hA' b hb h
      · rcases hN with hN | hN
        · rcases hL with ⟨_, g⟩ | ⟨g, _⟩
          · rw [g a ha] at h1; cases h1
          · rw [hN] at g; cases g
        · rcases hH with ⟨_, g⟩ | ⟨g, _⟩
          · rw [g b hb] at h2; cases h2
          · rw [hN] at g; cases g
    · rw [if_neg hN]
      simp only [not_or, Bool.not_eq_false] at hN
      rcases hL with ⟨g, _⟩ | ⟨_, ⟨a, ha, ha1, ha2⟩, ga⟩
      · rw [hN.1] at g; cases g
      rcases hH with ⟨g, _⟩ | ⟨_, ⟨b, hb, hb1, hb2⟩, gb⟩
      · rw [hN.2] at g; cases g
      rw [decide_eq_true_eq]
      have e1 : lo.t = a.v.s := by rw [← ha2]; rfl
      have e2 : hi.t = b.v.s := by rw [← hb2]; rfl
      have e3 : lo.st = stA a.op := by rw [← ha2]; rfl
      have e4 : hi.st = stA b.op := by rw [← hb2]; rfl
      constructor
      · intro h x hx y hy hxy
        rcases (tx2_iff x y).1 hxy with h' | ⟨x1, y1, h'⟩
        · exact hA' y hy h'
        have dx := ga x hx x1
        have dy := gb y hy y1
        unfold domL at dx
        unfold domH at dy
        simp only [lmC] at dx dy
        have ax := cmpB_anti x.v.s lo.t
        have ay := cmpB_anti hi.t y.v.s
        have axy := cmpB_anti x.v.s y.v.s
        -- x ≤ lo ≤ hi ≤ y
        rcases h with h | ⟨h, s1, s2⟩
        · -- strictly below
          have : cmpB x.v.s y.v.s < 0 := by
            have k1 : cmpB x.v.s hi.t < 0 := by
              rcases dx with dx | ⟨dx, _⟩
              · exact cmpB_trans dx h
              · rw [dx]; exact h
            rcases dy with dy | ⟨dy, _⟩
            · exact cmpB_trans k1 dy
            · rw [dy]; exact k1
          rcases h' with h' | ⟨h', _⟩
          · omega
          · have := cmpB_eq.2 h'; omega
        · have h := cmpB_eq.1 h
          rcases dx with dx | ⟨dx, dx'⟩
          · have k1 : cmpB x.v.s y.v.s < 0 := by
              rw [h] at dx
              rcases dy with dy | ⟨dy, _⟩
              · exact cmpB_trans dx dy
              · rw [dy]; exact dx
            rcases h' with h' | ⟨h', _⟩
            · omega
            · have := cmpB_eq.2 h'; omega
          · rcases dy with dy | ⟨dy, dy'⟩
            · have k1 : cmpB x.v.s y.v.s < 0 := by rw [dx, h]; exact dy
              rcases h' with h' | ⟨h', _⟩
              · omega
              · have := cmpB_eq.2 h'; omega
            · have k0 : x.v.s = y.v.s := by rw [dx, dy, h]
              rcases h' with h' | ⟨_, h'⟩
              · have := cmpB_eq.2 k0; omega
              · rcases h' with h' | h'
                · have := dx' ((stA_lo x1).2 h')
                  rw [s1] at this; cases this
                · have := dy' ((stA_hi y1).2 h')
                  rw [s2] at this; cases this
      · intro h
        have hab := h a ha b hb
        rw [tx2_iff] at hab
        rw [e1, e2, e3, e4]
        rcases (cmpB_less a.v.s b.v.s).2.2.2 with g | g | g
        · left; omega
        · right
          refine ⟨g, ?_, ?_⟩
          · rw [Bool.eq_false_iff]
            intro s
            exact hab (.inr ⟨ha1, hb1, .inr ⟨cmpB_eq.1 g, .inl ((stA_lo ha1).1 s)⟩⟩)
          · rw [Bool.eq_false_iff]
            intro s
            exact hab (.inr ⟨ha1, hb1, .inr ⟨cmpB_eq.1 g, .inr ((stA_hi hb1).1 s)⟩⟩)
        · exact absurd (.inr ⟨ha1, hb1, .inl (by omega)⟩) hab
end Go.Proofs
end
section
/- Whether conditions on one column can hold together. No condition. -/
set_option linter.unusedSimpArgs false
set_option linter.unusedVariables false
set_option maxRecDepth 10000
set_option maxHeartbeats 4000000
namespace Go.Proofs
open Go.Bi

abbrev Lm.cs (x : Lm) : List AV := [.d (.str x.t), .d (.bool x.st), .d (.bool x.is)]
theorem C.predicate_tighter (a b : Lm) (s : Int) (hs : s = 1 ∨ s = -1) : Pure Tryz.prog N.predicate_tighter [.agg a.cs, .agg b.cs, .d (eI s)] (.agg (tig a b s).cs) := by
  have hc := C.strings_Compare b.t a.t
  have hr := (cmpB_less b.t a.t).2.2.2
  obtain ⟨c, hce⟩ : ∃ c, c = cmpB b.t a.t := ⟨_, rfl⟩
  unfold tig
  rw [← hce] at hc hr ⊢
  obtain ⟨at', ast, ai⟩ := a
  obtain ⟨bt', bs, bi⟩ := b
  dsimp only at hc ⊢
  have w1 : -9223372036854775808 ≤ s * c ∧ s * c ≤ 9223372036854775807 := by rcases hs with rfl | rfl <;> omega
  obtain ⟨m, hm⟩ : ∃ m, m = s * c := ⟨_, rfl⟩
  obtain ⟨w1, w2⟩ := w1
  have r1 : at' = at' := rfl
  have r2 : bt' = bt' := rfl
  refine F.predicate_tighter.go mixed rfl ?_
  obtain ⟨q, hq⟩ : ∃ q, q = AV.agg (Lm.cs (if ai = false ∨ 0 < s * c ∨ s * c = 0 ∧ bs = true then ⟨bt', bs, bi⟩ else ⟨at', ast, ai⟩)) := ⟨_, rfl⟩
  rw [← hq]
  cases ai with
  | false =>
    rw [if_pos (.inl rfl)] at hq
    rw [hq]
    repeat' first
      | refine st ?_
      | ((with_reducible apply go_i); (conv => whnf))
      | ((with_reducible apply k_pn); (· exact hc))
      | ((with_reducible apply k_pc); (· exact hc))
      | (with_reducible apply k_d <;> intro _)
      | (with_reducible apply k_b <;> intro _)
    all_goals rfl
  | true =>
    by_cases h1 : 0 < s * c
    · rw [if_pos (.inr (.inl h1))] at hq
      rw [hq]
      repeat' first
        | refine st ?_
        | ((with_reducible apply go_i); (conv => whnf))
        | ((with_reducible apply k_pn); (· exact hc))
        | ((with_reducible apply k_pc); (· exact hc))
        | (with_reducible apply k_d <;> intro _)
        | (with_reducible apply k_b <;> intro _)
      all_goals rfl
    · by_cases h2 : s * c = 0
      · cases bs with
        | true =>
          rw [if_pos (.inr (.inr ⟨h2, rfl⟩))] at hq
          rw [hq]
          repeat' first
            | refine st ?_
            | ((with_reducible apply go_i); (conv => whnf))
            | ((with_reducible apply k_pn); (· exact hc))
            | ((with_reducible apply k_pc); (· exact hc))
            | (with_reducible apply k_d <;> intro _)
            | (with_reducible apply k_b <;> intro _)
          all_goals rfl
        | false =>
          rw [if_neg (by simp [h1])] at hq
          rw [hq]
          repeat' first
            | refine st ?_
            | ((with_reducible apply go_i); (conv => whnf))
            | ((with_reducible apply k_pn); (· exact hc))
            | ((with_reducible apply k_pc); (· exact hc))
            | (with_reducible apply k_d <;> intro _)
            | (with_reducible apply k_b <;> intro _)
          all_goals rfl
      · rw [if_neg (by simp [h1, h2])] at hq
        rw [hq]
        repeat' first
          | refine st ?_
          | ((with_reducible apply go_i); (conv => whnf))
          | ((with_reducible apply k_pn); (· exact hc))
          | ((with_reducible apply k_pc); (· exact hc))
          | (with_reducible apply k_d <;> intro _)
          | (with_reducible apply k_b <;> intro _)
        all_goals rfl
theorem txS_eq (p : Lm × Lm) (c : Cd) : txS p c = (if c.op = 11 ∨ c.op = 12 ∨ c.op = 7 then tig p.1 ⟨c.v.s, stA c.op, true⟩ 1 else p.1, if c.op = 9 ∨ c.op = 10 ∨ c.op = 7 then tig p.2 ⟨c.v.s, stA c.op, true⟩ (-1) else p.2) := by
  unfold txS loA hiA lmC
  simp
theorem C.predicate_texts (l : List Cd) (hl : l.length ≤ 1048576) (hok : ∀ c ∈ l, cmpOp c.op = true) (d : D) (hd : SlD d (eDs l)) : Pure Tryz.prog N.predicate_texts [.d d] (.d (.bool (txP l))) := by
  refine F.predicate_texts.go mixed rfl ?_
  have h1 := eDs_len l
  have hm := eDs_mem l
  obtain ⟨q, hq⟩ : ∃ q, q = l.foldl txS (lm0, lm0) := ⟨_, rfl⟩
  rw [show txP l = txO q by rw [hq]; rfl]
  repeat' first
    | refine st ?_
    | ((with_reducible apply go_i); (conv => whnf))
    | (with_reducible apply k_d <;> intro _)
    | (with_reducible apply k_b <;> intro _)
  refine x_loop2 mixed Lt.predicate_texts_l0 Lk.predicate_texts_l0 (fun (i : Nat) (p : Lm × Lm) => [.d (eI i)]) (fun i p => [.cells p.1.cs, .cells p.2.cs]) (fun i p => i ≤ l.length ∧ q = (l.drop i).foldl txS p) (fun i _ => l.length - i) 0 (lm0, lm0) rfl rfl rfl rfl (fun _ _ _ => ⟨rfl, rfl⟩) rfl ⟨by omega, hq⟩ ?_
  repeat' first
    | refine st ?_
    | ((with_reducible apply go_i); (conv => whnf))
    | (with_reducible apply k_d <;> intro _)
    | (with_reducible apply k_b <;> intro _)
  intro i p ⟨h4, h5⟩
  obtain ⟨lo, hi⟩ := p
  dsimp only
  cases hx : l[i]? with
  | some c =>
    have hlt := (List.getElem?_eq_some_iff.1 hx).1
    have hg := eDs_get hx
    have hc := hok c (List.mem_of_getElem? hx)
    rw [List.drop_eq_getElem_cons hlt, (List.getElem?_eq_some_iff.1 hx).2, List.foldl_cons, txS_eq] at h5
    obtain ⟨op, col, k, n, s⟩ := c
    dsimp only at h5 hc hg
    unfold cmpOp at hc
    have hc := of_decide_eq_true hc
    have r1 : s = s := rfl
    rcases hc with rfl | rfl | rfl | rfl | rfl
    · have t1 := C.predicate_tighter lo ⟨s, stA 7, true⟩ 1 (.inl rfl)
      have t2 := C.predicate_tighter hi ⟨s, stA 7, true⟩ (-1) (.inr rfl)
      rw [if_pos (by decide), if_pos (by decide)] at h5
      rw [show stA 7 = false by decide] at t1 t2 h5
      obtain ⟨A, hA⟩ : ∃ A, A = tig lo ⟨s, false, true⟩ 1 := ⟨_, rfl⟩
      obtain ⟨B, hB⟩ : ∃ B, B = tig hi ⟨s, false, true⟩ (-1) := ⟨_, rfl⟩
      rw [← hA] at t1 h5
      rw [← hB] at t2 h5
      repeat' first
        | refine st ?_
        | ((with_reducible apply go_i); (conv => whnf))
        | ((with_reducible apply k_pn); (· first | exact t1 | exact t2))
        | ((with_reducible apply k_pc); (· first | exact t1 | exact t2))
        | (with_reducible apply k_d <;> intro _)
        | (with_reducible apply k_b <;> intro _)
      exact ⟨i + 1, (A, B), rfl, rfl, rfl, by omega, by omega, h5⟩
    · have t2 := C.predicate_tighter hi ⟨s, stA 9, true⟩ (-1) (.inr rfl)
      rw [if_neg (by decide), if_pos (by decide)] at h5
      rw [show stA 9 = true by decide] at t2 h5
      obtain ⟨B, hB⟩ : ∃ B, B = tig hi ⟨s, true, true⟩ (-1) := ⟨_, rfl⟩
      rw [← hB] at t2 h5
      repeat' first
        | refine st ?_
        | ((with_reducible apply go_i); (conv => whnf))
        | ((with_reducible apply k_pn); (· exact t2))
        | ((with_reducible apply k_pc); (· exact t2))
        | (with_reducible apply k_d <;> intro _)
        | (with_reducible apply k_b <;> intro _)
      exact ⟨i + 1, (lo, B), rfl, rfl, rfl, by omega, by omega, h5⟩
    · have t2 := C.predicate_tighter hi ⟨s, stA 10, true⟩ (-1) (.inr rfl)
      rw [if_neg (by decide), if_pos (by decide)] at h5
      rw [show stA 10 = false by decide] at t2 h5
      obtain ⟨B, hB⟩ : ∃ B, B = tig hi ⟨s, false, true⟩ (-1) := ⟨_, rfl⟩
      rw [← hB] at t2 h5
      repeat' first
        | refine st ?_
        | ((with_reducible apply go_i); (conv => whnf))
        | ((with_reducible apply k_pn); (· exact t2))
        | ((with_reducible apply k_pc); (· exact t2))
        | (with_reducible apply k_d <;> intro _)
        | (with_reducible apply k_b <;> intro _)
      exact ⟨i + 1, (lo, B), rfl, rfl, rfl, by omega, by omega, h5⟩
    · have t1 := C.predicate_tighter lo ⟨s, stA 11, true⟩ 1 (.inl rfl)
      rw [if_pos (by decide), if_neg (by decide)] at h5
      rw [show stA 11 = true by decide] at t1 h5
      obtain ⟨A, hA⟩ : ∃ A, A = tig lo ⟨s, true, true⟩ 1 := ⟨_, rfl⟩
      rw [← hA] at t1 h5
      repeat' first
        | refine st ?_
        | ((with_reducible apply go_i); (conv => whnf))
        | ((with_reducible apply k_pn); (· exact t1))
        | ((with_reducible apply k_pc); (· exact t1))
        | (with_reducible apply k_d <;> intro _)
        | (with_reducible apply k_b <;> intro _)
      exact ⟨i + 1, (A, hi), rfl, rfl, rfl, by omega, by omega, h5⟩
    · have t1 := C.predicate_tighter lo ⟨s, stA 12, true⟩ 1 (.inl rfl)
      rw [if_pos (by decide), if_neg (by decide)] at h5
      rw [show stA 12 = false by decide] at t1 h5
      obtain ⟨A, hA⟩ : ∃ A, A = tig lo ⟨s, false, true⟩ 1 := ⟨_, rfl⟩
      rw [← hA] at t1 h5
      repeat' first
        | refine st ?_
        | ((with_reducible apply go_i); (conv => whnf))
        | ((with_reducible apply k_pn); (· exact t1))
        | ((with_reducible apply k_pc); (· exact t1))
        | (with_reducible apply k_d <;> intro _)
        | (with_reducible apply k_b <;> intro _)
      exact ⟨i + 1, (A, hi), rfl, rfl, rfl, by omega, by omega, h5⟩
  | none =>
    have hge := List.getElem?_eq_none_iff.1 hx
    rw [List.drop_eq_nil_of_le hge] at h5
    have h5 : q = (lo, hi) := h5
    rw [h5]
    have hc := C.strings_Compare lo.t hi.t
    obtain ⟨lt', ls, li⟩ := lo
    obtain ⟨ht', hs, hi'⟩ := hi
    dsimp only at hc
    unfold txO
    dsimp only
    obtain ⟨c, hce⟩ : ∃ c, c = cmpB lt' ht' := ⟨_, rfl⟩
    rw [← hce] at hc ⊢
    cases li <;> cases ls <;> cases hi' <;> cases hs <;> simp only [Bool.false_eq_true, reduceCtorEq, false_and, true_and, and_true, and_false, if_false, if_true, or_false, false_or, or_true, true_or]
    all_goals by_cases z : ht' = []
    all_goals first | rw [if_pos z] | rw [if_neg z] | skip
    all_goals repeat' first
      | refine st ?_
      | ((with_reducible apply go_i); (conv => whnf))
      | ((with_reducible apply k_pn); (· exact hc))
      | ((with_reducible apply k_pc); (· exact hc))
      | (with_reducible apply k_d <;> intro _)
      | (with_reducible apply k_b <;> intro _)
    all_goals first | rfl | (simp_all; done) | (simp only [AV.d.injEq, D.bool.injEq, decide_eq_true_eq, decide_eq_false_iff_not, Bool.true_eq, Bool.false_eq]; omega)
def rng0 (k : Int) : Int × Int := if k = 3 then (0, 1) else (-1125899906842624, 1125899906842624)
def rng (k : Int) (l : List Cd) : Int × Int := l.foldl nar (rng0 k)
/-- May the conditions hold together? -/
def posB (l : List Cd) : Bool := match l with
  | [] => true
  | c :: r => (c :: r).all (fun x => decide (x.v.k = c.v.k)) && (if c.v.k = 2 then txP (c :: r) else !decide ((rng c.v.k (c :: r)).2 < (rng c.v.k (c :: r)).1))
theorem posB_at {l : List Cd} {c : Cd} (h : l[0]? = some c) : posB l = (l.all (fun x => decide (x.v.k = c.v.k)) && (if c.v.k = 2 then txP l else !decide ((rng c.v.k l).2 < (rng c.v.k l).1))) := by
  cases l with
  | nil => simp at h
  | cons a r => simp at h; subst h; rfl
theorem C.predicate_possible (l : List Cd) (hl : l.length ≤ 1048576) (hok : ∀ c ∈ l, cmpOp c.op = true ∧ nSm c.v.n) (hne : l ≠ []) (d : D) (hd : SlD d (eDs l)) : Pure Tryz.prog N.predicate_possible [.d d] (.d (.bool (posB l))) := by
  have h1 := eDs_len l
  have hm := eDs_mem l
  have h0 : 0 < l.length := List.length_pos_iff.2 hne
  obtain ⟨c0, hc0⟩ : ∃ c, l[0]? = some c := ⟨_, List.getElem?_eq_getElem h0⟩
  have hT := C.predicate_texts l hl (fun c hc => (hok c hc).1) d hd
  rw [posB_at hc0]
  have g0 := eDs_get hc0
  obtain ⟨q, hq⟩ : ∃ q, q = (l.all (fun x => decide (x.v.k = c0.v.k)) && (if c0.v.k = 2 then txP l else !decide ((rng c0.v.k l).2 < (rng c0.v.k l).1))) := ⟨_, rfl⟩
  rw [← hq]
  obtain ⟨k0, hk0⟩ : ∃ k, k = c0.v.k := ⟨_, rfl⟩
  have g0' : (eDs l)[0]? = some [eI c0.op, eI c0.col, eI k0, eI c0.v.n, .str c0.v.s] := by rw [hk0]; exact g0
  rw [← hk0] at hq
  clear g0
  refine F.predicate_possible.go mixed rfl ?_
  by_cases hk3 : k0 = 3
  · have e0 : rng0 k0 = (0, 1) := by unfold rng0; rw [if_pos hk3]
    repeat' first
      | refine st ?_
      | ((with_reducible apply go_i); (conv => whnf))
      | (with_reducible apply k_d <;> intro _)
      | (with_reducible apply k_b <;> intro _)
    refine x_loop2 mixed Lt.predicate_possible_l0 Lk.predicate_possible_l0 (fun (i : Nat) (r : Int × Int) => [.d (eI i)]) (fun i r => [.cells [.d (eI r.1), .d (eI r.2)]]) (fun i r => i ≤ l.length ∧ (l.take i).all (fun x => decide (x.v.k = k0)) = true ∧ rng k0 l = (l.drop i).foldl nar r) (fun i _ => l.length - i) 0 (0, 1) rfl rfl rfl rfl (fun _ _ _ => ⟨rfl, rfl⟩) rfl ⟨by omega, rfl, by unfold rng; rw [e0]; rfl⟩ ?_
    repeat' first
      | refine st ?_
      | ((with_reducible apply go_i); (conv => whnf))
      | (with_reducible apply k_d <;> intro _)
      | (with_reducible apply k_b <;> intro _)
    intro i r ⟨h4, h5, h6⟩
    obtain ⟨a, b⟩ := r
    cases hx : l[i]? with
    | some c =>
      have hlt := (List.getElem?_eq_some_iff.1 hx).1
      have hg := eDs_get hx
      obtain ⟨k1, k2⟩ := hok c (List.mem_of_getElem? hx)
      have hM : ∀ (os : List AO), os[0]? = some (.cells [.d (eI a), .d (eI b)]) → CallSpec Tryz.prog N.ppredicate_span_meet [.ptr 0 0, .d (eI c.op), .d (eI c.v.n)] os (fun r os' => r = .tup [] ∧ os' = os.set 0 (.cells [.d (eI (nar (a, b) c).1), .d (eI (nar (a, b) c).2)])) := fun os ho => C.span_meet a b c k1 k2 ho
      rw [List.drop_eq_getElem_cons hlt, (List.getElem?_eq_some_iff.1 hx).2, List.foldl_cons] at h6
      have hs : (l.take (i + 1)).all (fun x => decide (x.v.k = k0)) = ((l.take i).all (fun x => decide (x.v.k = k0)) && decide (c.v.k = k0)) := by rw [List.take_add_one, hx]; simp
      rw [h5, Bool.true_and] at hs
      obtain ⟨A, hA⟩ : ∃ A, A = nar (a, b) c := ⟨_, rfl⟩
      rw [← hA] at hM h6
      have r1 : c.v.s = c.v.s := rfl
      by_cases g3 : c.v.k = k0
      · rw [decide_eq_true g3] at hs
        repeat' first
          | refine st ?_
          | ((with_reducible apply go_i); (conv => whnf))
          | ((with_reducible apply k_nc); (· first | exact hM _ rfl); (try rintro _ _ ⟨rfl, rfl⟩))
          | ((with_reducible apply k_pr); (· first | exact hM _ rfl))
          | ((with_reducible apply k_cs); (· first | exact hM _ rfl); (try rintro _ _ ⟨rfl, rfl⟩))
          | ((with_reducible apply k_cal); refine st ?_; (with_reducible apply k_chk); (· exact rfl); refine st ?_; (with_reducible apply k_cs); (· first | exact hM _ rfl); (try rintro _ _ ⟨rfl, rfl⟩))
          | (with_reducible apply k_d <;> intro _)
          | (with_reducible apply k_b <;> intro _)
        exact ⟨i + 1, A, rfl, rfl, rfl, by omega, by omega, hs, h6⟩
      · have : l.all (fun x => decide (x.v.k = k0)) = false := by
          rw [Bool.eq_false_iff]
          intro h
          exact g3 (of_decide_eq_true (List.all_eq_true.1 h c (List.mem_of_getElem? hx)))
        rw [this, Bool.false_and] at hq
        rw [hq]
        repeat' first
          | refine st ?_
          | ((with_reducible apply go_i); (conv => whnf))
          | (with_reducible apply k_d <;> intro _)
          | (with_reducible apply k_b <;> intro _)
        all_goals rfl
    | none =>
      have hge := List.getElem?_eq_none_iff.1 hx
      rw [List.take_of_length_le hge] at h5
      rw [List.drop_eq_nil_of_le hge] at h6
      have h6 : rng k0 l = (a, b) := h6
      rw [h5, Bool.true_and, h6] at hq
      dsimp only at hq
      have hE : ∀ (os : List AO), os[0]? = some (.cells [.d (eI a), .d (eI b)]) → CallSpec Tryz.prog N.ppredicate_span_empty [.ptr 0 0] os (fun r os' => r = .d (.bool (decide (b < a))) ∧ os' = os.set 0 (.cells [.d (eI a), .d (eI b)])) := fun os ho => C.span_empty a b ho
      by_cases hk2 : k0 = 2
      · rw [if_pos hk2] at hq
        rw [hq]
        repeat' first
          | refine st ?_
          | ((with_reducible apply go_i); (conv => whnf))
          | ((with_reducible apply k_pn); (· exact hT))
          | ((with_reducible apply k_pc); (· exact hT))
          | (with_reducible apply k_d <;> intro _)
          | (with_reducible apply k_b <;> intro _)
        all_goals first | rfl | (exfalso; omega)
      · rw [if_neg hk2] at hq
        rw [hq]
        repeat' first
          | refine st ?_
          | ((with_reducible apply go_i); (conv => whnf))
          | ((with_reducible apply k_nc); (· first | exact hE _ rfl); (try rintro _ _ ⟨rfl, rfl⟩))
          | ((with_reducible apply k_pr); (· first | exact hE _ rfl))
          | ((with_reducible apply k_cs); (· first | exact hE _ rfl); (try rintro _ _ ⟨rfl, rfl⟩))
          | ((with_reducible apply k_cal); refine st ?_; (with_reducible apply k_chk); (· exact rfl); refine st ?_; (with_reducible apply k_cs); (· first | exact hE _ rfl); (try rintro _ _ ⟨rfl, rfl⟩))
          | (with_reducible apply k_d <;> intro _)
          | (with_reducible apply k_b <;> intro _)
        all_goals first | rfl | simp_all
  · have e0 : rng0 k0 = (-1125899906842624, 1125899906842624) := by unfold rng0; rw [if_neg hk3]
    repeat' first
      | refine st ?_
      | ((with_reducible apply go_i); (conv => whnf))
      | (with_reducible apply k_d <;> intro _)
      | (with_reducible apply k_b <;> intro _)
    refine x_loop2 mixed Lt.predicate_possible_l0 Lk.predicate_possible_l0 (fun (i : Nat) (r : Int × Int) => [.d (eI i)]) (fun i r => [.cells [.d (eI r.1), .d (eI r.2)]]) (fun i r => i ≤ l.length ∧ (l.take i).all (fun x => decide (x.v.k = k0)) = true ∧ rng k0 l = (l.drop i).foldl nar r) (fun i _ => l.length - i) 0 (-1125899906842624, 1125899906842624) rfl rfl rfl rfl (fun _ _ _ => ⟨rfl, rfl⟩) rfl ⟨by omega, rfl, by unfold rng; rw [e0]; rfl⟩ ?_
    repeat' first
      | refine st ?_
      | ((with_reducible apply go_i); (conv => whnf))
      | (with_reducible apply k_d <;> intro _)
      | (with_reducible apply k_b <;> intro _)
    intro i r ⟨h4, h5, h6⟩
    obtain ⟨a, b⟩ := r
    cases hx : l[i]? with
    | some c =>
      have hlt := (List.getElem?_eq_some_iff.1 hx).1
      have hg := eDs_get hx
      obtain ⟨k1, k2⟩ := hok c (List.mem_of_getElem? hx)
      have hM : ∀ (os : List AO), os[0]? = some (.cells [.d (eI a), .d (eI b)]) → CallSpec Tryz.prog N.ppredicate_span_meet [.ptr 0 0, .d (eI c.op), .d (eI c.v.n)] os (fun r os' => r = .tup [] ∧ os' = os.set 0 (.cells [.d (eI (nar (a, b) c).1), .d (eI (nar (a, b) c).2)])) := fun os ho => C.span_meet a b c k1 k2 ho
      rw [List.drop_eq_getElem_cons hlt, (List.getElem?_eq_some_iff.1 hx).2, List.foldl_cons] at h6
      have hs : (l.take (i + 1)).all (fun x => decide (x.v.k = k0)) = ((l.take i).all (fun x => decide (x.v.k = k0)) && decide (c.v.k = k0)) := by rw [List.take_add_one, hx]; simp
      rw [h5, Bool.true_and] at hs
      obtain ⟨A, hA⟩ : ∃ A, A = nar (a, b) c := ⟨_, rfl⟩
      rw [← hA] at hM h6
      have r1 : c.v.s = c.v.s := rfl
      by_cases g3 : c.v.k = k0
      · rw [decide_eq_true g3] at hs
        repeat' first
          | refine st ?_
          | ((with_reducible apply go_i); (conv => whnf))
          | ((with_reducible apply k_nc); (· first | exact hM _ rfl); (try rintro _ _ ⟨rfl, rfl⟩))
          | ((with_reducible apply k_pr); (· first | exact hM _ rfl))
          | ((with_reducible apply k_cs); (· first | exact hM _ rfl); (try rintro _ _ ⟨rfl, rfl⟩))
          | ((with_reducible apply k_cal); refine st ?_; (with_reducible apply k_chk); (· exact rfl); refine st ?_; (with_reducible apply k_cs); (· first | exact hM _ rfl); (try rintro _ _ ⟨rfl, rfl⟩))
          | (with_reducible apply k_d <;> intro _)
          | (with_reducible apply k_b <;> intro _)
        exact ⟨i + 1, A, rfl, rfl, rfl, by omega, by omega, hs, h6⟩
      · have : l.all (fun x => decide (x.v.k = k0)) = false := by
          rw [Bool.eq_false_iff]
          intro h
          exact g3 (of_decide_eq_true (List.all_eq_true.1 h c (List.mem_of_getElem? hx)))
        rw [this, Bool.false_and] at hq
        rw [hq]
        repeat' first
          | refine st ?_
          | ((with_reducible apply go_i); (conv => whnf))
          | (with_reducible apply k_d <;> intro _)
          | (with_reducible apply k_b <;> intro _)
        all_goals rfl
    | none =>
      have hge := List.getElem?_eq_none_iff.1 hx
      rw [List.take_of_length_le hge] at h5
      rw [List.drop_eq_nil_of_le hge] at h6
      have h6 : rng k0 l = (a, b) := h6
      rw [h5, Bool.true_and, h6] at hq
      dsimp only at hq
      have hE : ∀ (os : List AO), os[0]? = some (.cells [.d (eI a), .d (eI b)]) → CallSpec Tryz.prog N.ppredicate_span_empty [.ptr 0 0] os (fun r os' => r = .d (.bool (decide (b < a))) ∧ os' = os.set 0 (.cells [.d (eI a), .d (eI b)])) := fun os ho => C.span_empty a b ho
      by_cases hk2 : k0 = 2
      · rw [if_pos hk2] at hq
        rw [hq]
        repeat' first
          | refine st ?_
          | ((with_reducible apply go_i); (conv => whnf))
          | ((with_reducible apply k_pn); (· exact hT))
          | ((with_reducible apply k_pc); (· exact hT))
          | (with_reducible apply k_d <;> intro _)
          | (with_reducible apply k_b <;> intro _)
        all_goals first | rfl | (exfalso; omega)
      · rw [if_neg hk2] at hq
        rw [hq]
        repeat' first
          | refine st ?_
          | ((with_reducible apply go_i); (conv => whnf))
          | ((with_reducible apply k_nc); (· first | exact hE _ rfl); (try rintro _ _ ⟨rfl, rfl⟩))
          | ((with_reducible apply k_pr); (· first | exact hE _ rfl))
          | ((with_reducible apply k_cs); (· first | exact hE _ rfl); (try rintro _ _ ⟨rfl, rfl⟩))
          | ((with_reducible apply k_cal); refine st ?_; (with_reducible apply k_chk); (· exact rfl); refine st ?_; (with_reducible apply k_cs); (· first | exact hE _ rfl); (try rintro _ _ ⟨rfl, rfl⟩))
          | (with_reducible apply k_d <;> intro _)
          | (with_reducible apply k_b <;> intro _)
        all_goals first | rfl | simp_all
end Go.Proofs
end
section
/- The program's Eval and Truth. No condition. -/
set_option linter.unusedSimpArgs false
set_option linter.unusedVariables false
set_option maxRecDepth 10000
set_option maxHeartbeats 4000000
namespace Go.Proofs
open Go.Bi

theorem C.expr_Truth_of (row : List Vl) (dr : D) (op n : Int) (v : Vl) (name : List UInt8) (d : D) (r : Vl) (h : Pure Tryz.prog N.expr_Eval [eX op n v name d, .d dr] (eV r)) : Pure Tryz.prog N.expr_Truth [eX op n v name d, .d dr] (.d (eI (vTruth r))) := by
  refine F.expr_Truth.go mixed rfl ?_
  repeat' first
    | refine st ?_
    | ((with_reducible apply go_i); (conv => whnf))
    | ((with_reducible apply k_pn); (· first | exact h | exact C.value_Truth _))
    | ((with_reducible apply k_pc); (· first | exact h | exact C.value_Truth _))
    | (with_reducible apply k_d <;> intro _)
    | (with_reducible apply k_b <;> intro _)
theorem evOp_3 (op n : Int) (v : Vl) (l row : List Vl) (h1 : op ≠ 1) (h2 : op ≠ 2) (h3 : op ≠ 22) : evOp op n v l row = (if op = 4 then vOf (tNot (vTruth (l.getD 0 vNull)))
  else if op = 5 ∨ op = 6 then vOf (lgF op (l.getD 0 vNull) (l.drop 1))
  else if op = 21 then vBool (decide ((l.getD 0 vNull).k = 0))
  else if op = 23 then coa l
  else if op = 24 then vRel n (l.getD 0 vNull) (l.getD 1 vNull) (l.getD 2 vNull) (l.getD 3 vNull)
  else if op = 19 ∨ op = 20 then vTxt op l
  else if 13 ≤ op ∧ op ≤ 18 then vAri op l
  else vOf (vCp op (l.getD 0 vNull) (l.getD 1 vNull))) := by
  unfold evOp
  rw [if_neg h1, if_neg h2, if_neg h3]
theorem coa_drop {l : List Vl} {i : Nat} {v : Vl} (h : l[i]? = some v) : coa (l.drop i) = if v.k = 0 then coa (l.drop (i + 1)) else v := by
  obtain ⟨hlt, he⟩ := List.getElem?_eq_some_iff.1 h
  rw [List.drop_eq_getElem_cons hlt, he]; rfl
theorem C.expr_Eval (row : List Vl) (hr : row.length ≤ 1048576) (hrs : ∀ v ∈ row, v.s.length ≤ 1048576) (dr : D) (hdr : SlD dr (eVs row)) : ∀ e : Ex, e.bk ≤ 1048576 → Pure Tryz.prog N.expr_Eval [e.av, .d dr] (eV (ev row e)) := by
  refine Ex.ind fun op n v name nl args ih hbk => ?_
  obtain ⟨b1, b2, b3, b4⟩ := Ex.bk_bounds hbk
  have ih' : ∀ a ∈ args, Pure Tryz.prog N.expr_Eval [a.av, .d dr] (eV (ev row a)) := fun a ha => ih a ha (b4 a ha)
  clear ih
  rw [Ex.av_mk]
  refine F.expr_Eval.go mixed rfl ?_
  have hlen := xL_len args
  have hF := C.expr_formed op n v name (ng nl (xL args)) (xL args) sld_ng b2 (by omega)
  rw [hlen] at hF
  have hm := xL_mem args
  have hd : SlD (ng nl (xL args)) (xL args) := sld_ng
  have hget : ∀ (i : Nat) (op' n' : Int) (v' : Vl) (name' : List UInt8) (nl' : Bool) (args' : List Ex), args[i]? = some (.mk op' n' v' name' nl' args') → (xL args)[i]? = some (xds op' n' v' name' (ng nl' (xL args'))) := fun i op' n' v' name' nl' args' h => by
    rw [← Ex.ds_mk]; exact xL_get h
  obtain ⟨d, hde⟩ : ∃ d, d = ng nl (xL args) := ⟨_, rfl⟩
  rw [← hde] at hF hd ⊢
  obtain ⟨es, hes⟩ : ∃ es, es = xL args := ⟨_, rfl⟩
  rw [← hes] at hlen hm hd hget
  rw [ev_mk]
  cases hf : fmd op n v name args.length with
  | false =>
    rw [hf] at hF
    repeat' first
      | refine st ?_
      | ((with_reducible apply go_i); (conv => whnf))
      | ((with_reducible apply k_pn); (· first | exact hF | exact C.value_Null))
      | ((with_reducible apply k_pc); (· first | exact hF | exact C.value_Null))
      | (with_reducible apply k_d <;> intro _)
      | (with_reducible apply k_b <;> intro _)
    all_goals rfl
  | true =>
  rw [hf] at hF
  rw [if_pos rfl]
  by_cases h1 : op = 1
  · subst h1
    repeat' first
      | refine st ?_
      | ((with_reducible apply go_i); (conv => whnf))
      | ((with_reducible apply k_pn); (· exact hF))
      | ((with_reducible apply k_pc); (· exact hF))
      | (with_reducible apply k_d <;> intro _)
      | (with_reducible apply k_b <;> intro _)
    all_goals rfl
  by_cases h2 : op = 2
  · subst h2
    have hc := C.expr_column row hr hrs dr hdr n
    repeat' first
      | refine st ?_
      | ((with_reducible apply go_i); (conv => whnf))
      | ((with_reducible apply k_pn); (· first | exact hF | exact hc))
      | ((with_reducible apply k_pc); (· first | exact hF | exact hc))
      | (with_reducible apply k_d <;> intro _)
      | (with_reducible apply k_b <;> intro _)
    all_goals rfl
  have hcnt := cnt_case (fmd_cnt hf)
  by_cases h3 : op = 22
  · subst h3
    have hl3 : args.length = 3 := by omega
    obtain ⟨a, b, c, rfl⟩ : ∃ a b c, args = [a, b, c] := by
      match args, hl3 with
      | [a, b, c], _ => exact ⟨a, b, c, rfl⟩
    have ia := ih' a (by simp)
    have ib := ih' b (by simp)
    have ic := ih' c (by simp)
    obtain ⟨o0, n0, v0, m0, l0, a0⟩ := a
    obtain ⟨o1, n1, v1, m1, l1, a1⟩ := b
    obtain ⟨o2, n2, v2, m2, l2, a2⟩ := c
    have g0 := hget 0 _ _ _ _ _ _ rfl
    have g1 := hget 1 _ _ _ _ _ _ rfl
    have g2 := hget 2 _ _ _ _ _ _ rfl
    rw [Ex.av_mk] at ia ib ic
    have it := C.expr_Truth_of row dr _ _ _ _ _ _ ia
    have e : evOp 22 n v (List.map (ev row) [.mk o0 n0 v0 m0 l0 a0, .mk o1 n1 v1 m1 l1 a1, .mk o2 n2 v2 m2 l2 a2]) row = if vTruth (ev row (.mk o0 n0 v0 m0 l0 a0)) = 2 then ev row (.mk o1 n1 v1 m1 l1 a1) else ev row (.mk o2 n2 v2 m2 l2 a2) := rfl
    rw [e]
    by_cases ht : vTruth (ev row (.mk o0 n0 v0 m0 l0 a0)) = 2
    · rw [if_pos ht]
      repeat' first
        | refine st ?_
        | ((with_reducible apply go_i); (conv => whnf))
        | ((with_reducible apply k_pn); (· first | exact hF | exact it | exact ib))
        | ((with_reducible apply k_pc); (· first | exact hF | exact it | exact ib))
        | (with_reducible apply k_d <;> intro _)
        | (with_reducible apply k_b <;> intro _)
      all_goals rfl
    · rw [if_neg ht]
      repeat' first
        | refine st ?_
        | ((with_reducible apply go_i); (conv => whnf))
        | ((with_reducible apply k_pn); (· first | exact hF | exact it | exact ic))
        | ((with_reducible apply k_pc); (· first | exact hF | exact it | exact ic))
        | (with_reducible apply k_d <;> intro _)
        | (with_reducible apply k_b <;> intro _)
      all_goals rfl
  rw [evOp_3 op n v _ row h1 h2 h3]
  have hlr : (List.replicate ((es.length : Int)).toNat z3).length = args.length := by rw [List.length_replicate]; omega
  repeat' first
    | refine st ?_
    | ((with_reducible apply go_i); (conv => whnf))
    | ((with_reducible apply k_pn); (· exact hF))
    | ((with_reducible apply k_pc); (· exact hF))
    | (with_reducible apply k_d <;> intro _)
    | (with_reducible apply k_b <;> intro _)
  refine x_loop2 mixed Lt.expr_Eval_l0 Lk.expr_Eval_l0 (fun (i : Nat) (A : List (List D)) => [.d (eI i)]) (fun i A => [.cells [.d (eI op), .d (eI n), .d (eI v.k), .d (eI v.n), .d (.str v.s), .d (.str name), .d d], .cells [.d (eI 0), .d (eI 0), .d (.str [])], .arr A 3 0 false]) (fun i A => i ≤ args.length ∧ A = Lv row args i) (fun i _ => args.length - i) 0 (List.replicate ((es.length : Int)).toNat z3) rfl rfl rfl rfl (fun _ _ _ => ⟨rfl, rfl⟩) rfl ⟨by omega, Lv_zero row args _ hlen⟩ ?_
  repeat' first
    | refine st ?_
    | ((with_reducible apply go_i); (conv => whnf))
    | (with_reducible apply k_d <;> intro _)
    | (with_reducible apply k_b <;> intro _)
  intro i A ⟨h4, h5⟩
  have hAl : A.length = args.length := by rw [h5]; exact Lv_len row args i h4
  have hAm : ∀ e ∈ A, e.length = 3 := by rw [h5]; exact Lv_mem row args i
  have hlr2 : (List.replicate ((es.length : Int)).toNat [D.int .i64 0, D.int .i64 0, D.str []]).length = A.length := by rw [List.length_replicate]; omega
  cases hx : args[i]? with
  | some x =>
    have hlt := (List.getElem?_eq_some_iff.1 hx).1
    have hI := ih' x (List.mem_of_getElem? hx)
    have hset := Lv_set (row := row) hx
    obtain ⟨op', n', v', name', nl', args'⟩ := x
    rw [Ex.av_mk] at hI
    have hg := hget i _ _ _ _ _ _ hx
    have hA := Lv_get (row := row) hlt
    rw [← h5] at hA hset
    repeat' first
      | refine st ?_
      | ((with_reducible apply go_i); (conv => whnf))
      | ((with_reducible apply k_pn); (· exact hI))
      | ((with_reducible apply k_pc); (· exact hI))
      | (with_reducible apply k_d <;> intro _)
      | (with_reducible apply k_b <;> intro _)
    exact ⟨i + 1, _, rfl, rfl, rfl, by omega, by omega, hset⟩
  | none =>
    have hge := List.getElem?_eq_none_iff.1 hx
    rw [Lv_end hge] at h5
    clear ih' hget hF
    -- the values of the arguments
    obtain ⟨l, hl⟩ : ∃ l, l = args.map (ev row) := ⟨_, rfl⟩
    have hll : l.length = args.length := by rw [hl, List.length_map]
    have hs := evs_s row args
    have hn := evs_n row args
    rw [← hl] at h5 hs hn ⊢
    subst h5
    rcases hcnt with ⟨h, k⟩ | ⟨h, k⟩ | ⟨h, k⟩ | ⟨h, k⟩ | ⟨h, k⟩ | ⟨h, k⟩ | ⟨h, k⟩
    · omega
    · obtain ⟨a, rfl⟩ : ∃ a, l = [a] := by
        match l, hll.trans k with
        | [a], _ => exact ⟨a, rfl⟩
      have g0 : (eVs [a])[(0 : Nat)]? = some a.ds := rfl
      rcases h with rfl | rfl | rfl | rfl
      · have hC := C.expr_logic4 a [] (by simp)
        repeat' first
          | refine st ?_
          | ((with_reducible apply go_i); (conv => whnf))
          | ((with_reducible apply k_pn); (· exact hC))
          | ((with_reducible apply k_pc); (· exact hC))
          | (with_reducible apply k_d <;> intro _)
          | (with_reducible apply k_b <;> intro _)
        all_goals rfl
      · have hC := C.expr_arithmetic 18 [a] a a rfl rfl (by simp) hn ⟨by decide, by decide⟩
        repeat' first
          | refine st ?_
          | ((with_reducible apply go_i); (conv => whnf))
          | ((with_reducible apply k_pn); (· exact hC))
          | ((with_reducible apply k_pc); (· exact hC))
          | (with_reducible apply k_d <;> intro _)
          | (with_reducible apply k_b <;> intro _)
        all_goals rfl
      · have hC := C.expr_text 20 [a] (by simp) hs
        repeat' first
          | refine st ?_
          | ((with_reducible apply go_i); (conv => whnf))
          | ((with_reducible apply k_pn); (· exact hC))
          | ((with_reducible apply k_pc); (· exact hC))
          | (with_reducible apply k_d <;> intro _)
          | (with_reducible apply k_b <;> intro _)
        all_goals rfl
      · repeat' first
          | refine st ?_
          | ((with_reducible apply go_i); (conv => whnf))
          | ((with_reducible apply k_pn); (· exact C.value_Bool _))
          | ((with_reducible apply k_pc); (· exact C.value_Bool _))
          | (with_reducible apply k_d <;> intro _)
          | (with_reducible apply k_b <;> intro _)
        all_goals rfl
    · obtain ⟨a, b, rfl⟩ : ∃ a b, l = [a, b] := by
        match l, hll.trans k with
        | [a, b], _ => exact ⟨a, b, rfl⟩
      have g0 : (eVs [a, b])[(0 : Nat)]? = some a.ds := rfl
      have g1 : (eVs [a, b])[(1 : Nat)]? = some b.ds := rfl
      by_cases h19 : op = 19
      · subst h19
        have hC := C.expr_text 19 [a, b] (by simp) hs
        repeat' first
          | refine st ?_
          | ((with_reducible apply go_i); (conv => whnf))
          | ((with_reducible apply k_pn); (· exact hC))
          | ((with_reducible apply k_pc); (· exact hC))
          | (with_reducible apply k_d <;> intro _)
          | (with_reducible apply k_b <;> intro _)
        all_goals rfl
      by_cases h13 : 13 ≤ op
      · have hC := C.expr_arithmetic op [a, b] a b rfl rfl (by simp) hn ⟨h13, by omega⟩
        have e : (if op = 4 then vOf (tNot (vTruth ([a, b].getD 0 vNull))) else if op = 5 ∨ op = 6 then vOf (lgF op ([a, b].getD 0 vNull) ([a, b].drop 1)) else if op = 21 then vBool (decide (([a, b].getD 0 vNull).k = 0)) else if op = 23 then coa [a, b] else if op = 24 then vRel n ([a, b].getD 0 vNull) ([a, b].getD 1 vNull) ([a, b].getD 2 vNull) ([a, b].getD 3 vNull) else if op = 19 ∨ op = 20 then vTxt op [a, b] else if 13 ≤ op ∧ op ≤ 18 then vAri op [a, b] else vOf (vCp op ([a, b].getD 0 vNull) ([a, b].getD 1 vNull))) = vAri op [a, b] := by
          rw [if_neg (by omega), if_neg (by omega), if_neg (by omega), if_neg (by omega), if_neg (by omega), if_neg (by omega), if_pos (by omega)]
        rw [e]
        rcases (show op = 13 ∨ op = 14 ∨ op = 15 ∨ op = 16 ∨ op = 17 by omega) with rfl | rfl | rfl | rfl | rfl
        all_goals clear e
        all_goals repeat' first
          | refine st ?_
          | ((with_reducible apply go_i); (conv => whnf))
          | ((with_reducible apply k_pn); (· exact hC))
          | ((with_reducible apply k_pc); (· exact hC))
          | (with_reducible apply k_d <;> intro _)
          | (with_reducible apply k_b <;> intro _)
        all_goals rfl
      · have e : (if op = 4 then vOf (tNot (vTruth ([a, b].getD 0 vNull))) else if op = 5 ∨ op = 6 then vOf (lgF op ([a, b].getD 0 vNull) ([a, b].drop 1)) else if op = 21 then vBool (decide (([a, b].getD 0 vNull).k = 0)) else if op = 23 then coa [a, b] else if op = 24 then vRel n ([a, b].getD 0 vNull) ([a, b].getD 1 vNull) ([a, b].getD 2 vNull) ([a, b].getD 3 vNull) else if op = 19 ∨ op = 20 then vTxt op [a, b] else if 13 ≤ op ∧ op ≤ 18 then vAri op [a, b] else vOf (vCp op ([a, b].getD 0 vNull) ([a, b].getD 1 vNull))) = vOf (vCp op a b) := by
          rw [if_neg (by omega), if_neg (by omega), if_neg (by omega), if_neg (by omega), if_neg (by omega), if_neg (by omega), if_neg (by omega)]; rfl
        rw [e]
        rcases (show op = 7 ∨ op = 8 ∨ op = 9 ∨ op = 10 ∨ op = 11 ∨ op = 12 by omega) with rfl | rfl | rfl | rfl | rfl | rfl
        all_goals clear e
        all_goals repeat' first
          | refine st ?_
          | ((with_reducible apply go_i); (conv => whnf))
          | ((with_reducible apply k_pn); (· first | exact C.expr_comparison _ _ _ | exact C.value_Of _))
          | ((with_reducible apply k_pc); (· first | exact C.expr_comparison _ _ _ | exact C.value_Of _))
          | (with_reducible apply k_d <;> intro _)
          | (with_reducible apply k_b <;> intro _)
        all_goals rfl
    · obtain ⟨a, r, rfl⟩ : ∃ a r, l = a :: r := by
        match l, hll with
        | [], h => simp at h; omega
        | a :: r, _ => exact ⟨a, r, rfl⟩
      have hC := C.expr_logic op h a r (by simp at hll; omega)
      rcases h with rfl | rfl
      · repeat' first
          | refine st ?_
          | ((with_reducible apply go_i); (conv => whnf))
          | ((with_reducible apply k_pn); (· exact hC))
          | ((with_reducible apply k_pc); (· exact hC))
          | (with_reducible apply k_d <;> intro _)
          | (with_reducible apply k_b <;> intro _)
        all_goals rfl
      · repeat' first
          | refine st ?_
          | ((with_reducible apply go_i); (conv => whnf))
          | ((with_reducible apply k_pn); (· exact hC))
          | ((with_reducible apply k_pc); (· exact hC))
          | (with_reducible apply k_d <;> intro _)
          | (with_reducible apply k_b <;> intro _)
        all_goals rfl
    · omega
    · obtain ⟨rfl⟩ := h
      have hLl := eVs_len l
      have e : (if (23 : Int) = 4 then vOf (tNot (vTruth (l.getD 0 vNull))) else if (23 : Int) = 5 ∨ (23 : Int) = 6 then vOf (lgF 23 (l.getD 0 vNull) (l.drop 1)) else if (23 : Int) = 21 then vBool (decide ((l.getD 0 vNull).k = 0)) else if (23 : Int) = 23 then coa l else if (23 : Int) = 24 then vRel n (l.getD 0 vNull) (l.getD 1 vNull) (l.getD 2 vNull) (l.getD 3 vNull) else if (23 : Int) = 19 ∨ (23 : Int) = 20 then vTxt 23 l else if 13 ≤ (23 : Int) ∧ (23 : Int) ≤ 18 then vAri 23 l else vOf (vCp 23 (l.getD 0 vNull) (l.getD 1 vNull))) = coa l := rfl
      rw [e]
      repeat' first
        | refine st ?_
        | ((with_reducible apply go_i); (conv => whnf))
        | (with_reducible apply k_d <;> intro _)
        | (with_reducible apply k_b <;> intro _)
      refine x_loop1 mixed Lt.expr_Eval_l1 Lk.expr_Eval_l1 (fun (i : Nat) => [.d (eI i)]) (fun i => [.cells [.d (eI 23), .d (eI n), .d (eI v.k), .d (eI v.n), .d (.str v.s), .d (.str name), .d d], .cells [.d (eI 0), .d (eI 0), .d (.str [])], .arr (eVs l) 3 0 false]) (fun i => i ≤ l.length ∧ coa l = coa (l.drop i)) (fun i => l.length - i) 0 rfl rfl rfl rfl (fun _ _ => ⟨rfl, rfl⟩) rfl ⟨by omega, rfl⟩ ?_
      repeat' first
        | refine st ?_
        | ((with_reducible apply go_i); (conv => whnf))
        | (with_reducible apply k_d <;> intro _)
        | (with_reducible apply k_b <;> intro _)
      intro j ⟨h6, h7⟩
      cases hy : l[j]? with
      | some w =>
        have hlt2 := (List.getElem?_eq_some_iff.1 hy).1
        have hg2 := eVs_get hy
        rw [coa_drop hy] at h7
        by_cases hk : w.k = 0
        · rw [if_pos hk] at h7
          repeat' first
            | refine st ?_
            | ((with_reducible apply go_i); (conv => whnf))
            | (with_reducible apply k_d <;> intro _)
            | (with_reducible apply k_b <;> intro _)
          exact ⟨j + 1, rfl, rfl, rfl, by omega, by omega, h7⟩
        · rw [if_neg hk] at h7
          rw [h7]
          repeat' first
            | refine st ?_
            | ((with_reducible apply go_i); (conv => whnf))
            | (with_reducible apply k_d <;> intro _)
            | (with_reducible apply k_b <;> intro _)
          all_goals rfl
      | none =>
        have hge2 := List.getElem?_eq_none_iff.1 hy
        rw [List.drop_eq_nil_of_le hge2] at h7
        rw [h7]
        repeat' first
          | refine st ?_
          | ((with_reducible apply go_i); (conv => whnf))
          | ((with_reducible apply k_pn); (· exact C.value_Null))
          | ((with_reducible apply k_pc); (· exact C.value_Null))
          | (with_reducible apply k_d <;> intro _)
          | (with_reducible apply k_b <;> intro _)
        all_goals rfl
    · obtain ⟨a, b, c, e, rfl⟩ : ∃ a b c e, l = [a, b, c, e] := by
        match l, hll.trans k with
        | [a, b, c, e], _ => exact ⟨a, b, c, e, rfl⟩
      subst h
      have hC := C.expr_related n a b c e
      repeat' first
        | refine st ?_
        | ((with_reducible apply go_i); (conv => whnf))
        | ((with_reducible apply k_pn); (· exact hC))
        | ((with_reducible apply k_pc); (· exact hC))
        | (with_reducible apply k_d <;> intro _)
        | (with_reducible apply k_b <;> intro _)
      all_goals rfl
end Go.Proofs
end
