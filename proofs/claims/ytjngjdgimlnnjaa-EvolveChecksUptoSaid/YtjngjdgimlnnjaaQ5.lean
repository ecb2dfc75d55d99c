/- Texts of this claim, joined. No condition. -/
import Derived.Test.YtjngjdgimlnnjaaQ4
section
/- Same: expressions are compared. No condition. -/
set_option linter.unusedSimpArgs false
set_option linter.unusedVariables false
set_option maxRecDepth 10000
set_option maxHeartbeats 4000000
namespace Go.Proofs
open Go.Bi

mutual
def smE : Ex → Ex → Bool
  | .mk op n v name nl args, .mk op' n' v' name' nl' args' => decide (op = op') && decide (n = n') && decide (v = v') && decide (name = name') && smL args args'
def smL : List Ex → List Ex → Bool
  | [], [] => true
  | a :: l, b :: m => smE a b && smL l m
  | [], _ :: _ => false
  | _ :: _, [] => false
end
theorem smL_eq : ∀ l m, smL l m = (decide (l.length = m.length) && (l.zip m).all fun p => smE p.1 p.2)
  | [], [] => by simp [smL]
  | a :: l, b :: m => by
    rw [smL, smL_eq l m]
    simp only [List.length_cons, List.zip_cons_cons, List.all_cons]
    cases smE a b <;> simp
  | [], _ :: _ => by simp [smL]
  | _ :: _, [] => by simp [smL]
theorem smE_mk (op n : Int) (v : Vl) (name : List UInt8) (nl : Bool) (args : List Ex) (op' n' : Int) (v' : Vl) (name' : List UInt8) (nl' : Bool) (args' : List Ex) : smE (.mk op n v name nl args) (.mk op' n' v' name' nl' args') = (decide (op = op') && decide (n = n') && decide (v = v') && decide (name = name') && smL args args') := by rw [smE]
theorem smE_refl : ∀ e, smE e e = true := by
  refine Ex.ind fun op n v name nl args ih => ?_
  rw [smE_mk, smL_eq]
  simp only [decide_true, Bool.true_and, List.all_eq_true]
  intro p hp
  obtain ⟨i, hi, rfl⟩ := List.mem_iff_getElem.1 hp
  rw [List.getElem_zip]
  exact ih _ (List.getElem_mem _)
theorem all_take_succ3 {α : Type} {p : α → Bool} {l : List α} {i : Nat} {x : α} (h : l[i]? = some x) : (l.take (i + 1)).all p = ((l.take i).all p && p x) := by
  rw [List.take_add_one, h]; simp
theorem all_none3 {α : Type} {p : α → Bool} {l : List α} {i : Nat} {x : α} (h : l[i]? = some x) (hx : p x = false) : l.all p = false := by
  rw [Bool.eq_false_iff]
  intro e
  have := List.all_eq_true.1 e x (List.mem_of_getElem? h)
  rw [hx] at this; cases this
theorem xL_get' {args : List Ex} (i : Nat) (op' n' : Int) (v' : Vl) (name' : List UInt8) (nl' : Bool) (args' : List Ex) (h : args[i]? = some (.mk op' n' v' name' nl' args')) : (xL args)[i]? = some (xds op' n' v' name' (ng nl' (xL args'))) := by
  rw [← Ex.ds_mk]; exact xL_get h
theorem C.r11_Same : ∀ a : Ex, a.bk ≤ 2097152 → ∀ b : Ex, b.bk ≤ 2097152 → Pure Try.prog N.bt_ref11_Same [a.av, b.av] (.d (.bool (smE a b))) := by
  refine Ex.ind fun op n v name nl args ih hbk b hbb => ?_
  obtain ⟨op', n', v', name', nl', args'⟩ := b
  obtain ⟨b1, b2, b3, b4⟩ := Ex.bk_bounds hbk
  obtain ⟨c1, c2, c3, c4⟩ := Ex.bk_bounds hbb
  have ih' : ∀ a ∈ args, ∀ b ∈ args', Pure Try.prog N.bt_ref11_Same [a.av, b.av] (.d (.bool (smE a b))) := fun a ha b hb => ih a ha (b4 a ha) b (c4 b hb)
  clear ih
  rw [Ex.av_mk, Ex.av_mk, smE_mk]
  have hd : SlD (ng nl (xL args)) (xL args) := sld_ng
  have hd' : SlD (ng nl' (xL args')) (xL args') := sld_ng
  have hlen := xL_len args
  have hm := xL_mem args
  have hlen' := xL_len args'
  have hm' := xL_mem args'
  have hget := xL_get' (args := args)
  have hget' := xL_get' (args := args')
  obtain ⟨d, hde⟩ : ∃ d, d = ng nl (xL args) := ⟨_, rfl⟩
  obtain ⟨d', hde'⟩ : ∃ d, d = ng nl' (xL args') := ⟨_, rfl⟩
  rw [← hde] at hd ⊢
  rw [← hde'] at hd' ⊢
  obtain ⟨es, hes⟩ : ∃ es, es = xL args := ⟨_, rfl⟩
  rw [← hes] at hlen hm hd hget
  obtain ⟨es', hes'⟩ : ∃ es, es = xL args' := ⟨_, rfl⟩
  rw [← hes'] at hlen' hm' hd' hget'
  refine F.bt_ref11_Same.go mixed rfl ?_
  have hv : decide (v = v') = (decide (v.k = v'.k) && (decide (v.n = v'.n) && decide (v.s = v'.s))) := by
    rw [Bool.eq_iff_iff]
    simp only [decide_eq_true_eq, Bool.and_eq_true, vl_eq]
  by_cases hall : op = op' ∧ n = n' ∧ v = v' ∧ name = name' ∧ args.length = args'.length
  rotate_left
  · have hr : (decide (op = op') && decide (n = n') && decide (v = v') && decide (name = name') && smL args args') = false := by
      rw [Bool.eq_false_iff]
      intro h
      simp only [Bool.and_eq_true, decide_eq_true_eq, smL_eq] at h
      exact hall ⟨h.1.1.1.1, h.1.1.1.2, h.1.1.2, h.1.2, h.2.1⟩
    rw [hr]
    clear hr
    have hlle : ((es.length : Int) = es'.length) ↔ args.length = args'.length := by omega
    rw [vl_eq] at hall
    clear hget hget' ih'
    by_cases g1 : op = op'
    rotate_left
    · repeat' first
        | refine st ?_
        | ((with_reducible apply go_i); (conv => whnf))
        | (with_reducible apply k_d <;> intro _)
        | (with_reducible apply k_b <;> intro _)
      all_goals rfl
    by_cases g2 : n = n'
    rotate_left
    · repeat' first
        | refine st ?_
        | ((with_reducible apply go_i); (conv => whnf))
        | (with_reducible apply k_d <;> intro _)
        | (with_reducible apply k_b <;> intro _)
      all_goals rfl
    by_cases g3 : v.k = v'.k ∧ v.n = v'.n ∧ v.s = v'.s
    rotate_left
    · repeat' first
        | refine st ?_
        | ((with_reducible apply go_i); (conv => whnf))
        | (with_reducible apply k_d <;> intro _)
        | (with_reducible apply k_b <;> intro _)
      all_goals first | rfl | (exfalso; simp_all)
    obtain ⟨g3, g4, g5⟩ := g3
    by_cases g6 : name = name'
    rotate_left
    · repeat' first
        | refine st ?_
        | ((with_reducible apply go_i); (conv => whnf))
        | (with_reducible apply k_d <;> intro _)
        | (with_reducible apply k_b <;> intro _)
      all_goals first | rfl | (exfalso; simp_all)
    have g7 : ¬ (es.length : Int) = es'.length := fun h => hall ⟨g1, g2, ⟨g3, g4, g5⟩, g6, hlle.1 h⟩
    repeat' first
      | refine st ?_
      | ((with_reducible apply go_i); (conv => whnf))
      | (with_reducible apply k_d <;> intro _)
      | (with_reducible apply k_b <;> intro _)
    all_goals first | rfl | (exfalso; simp_all; done) | (exfalso; omega)
  obtain ⟨rfl, rfl, rfl, rfl, hll⟩ := hall
  obtain ⟨q, hq⟩ : ∃ q, q = (decide (op = op) && decide (n = n) && decide (v = v) && decide (name = name) && smL args args') := ⟨_, rfl⟩
  rw [← hq]
  rw [smL_eq, decide_eq_true hll] at hq
  simp only [decide_true, Bool.true_and] at hq
  have hl2 : (es.length : Int) = es'.length := by omega
  have hl3 : es.length = es'.length := by omega
  have r1 : v.s = v.s := rfl
  have r2 : name = name := rfl
  repeat' first
    | refine st ?_
    | ((with_reducible apply go_i); (conv => whnf))
    | (with_reducible apply k_d <;> intro _)
    | (with_reducible apply k_b <;> intro _)
  refine x_loop1 mixed Lt.bt_ref11_Same_l0 Lk.bt_ref11_Same_l0 (fun (i : Nat) => [.d (eI i)]) (fun i => [.cells [.d (eI op), .d (eI n), .d (eI v.k), .d (eI v.n), .d (.str v.s), .d (.str name), .d d], .cells [.d (eI op), .d (eI n), .d (eI v.k), .d (eI v.n), .d (.str v.s), .d (.str name), .d d']]) (fun i => i ≤ args.length ∧ ((args.zip args').take i).all (fun p => smE p.1 p.2) = true) (fun i => args.length - i) 0 rfl rfl rfl rfl (fun _ _ => ⟨rfl, rfl⟩) rfl ⟨by omega, rfl⟩ ?_
  repeat' first
    | refine st ?_
    | ((with_reducible apply go_i); (conv => whnf))
    | (with_reducible apply k_d <;> intro _)
    | (with_reducible apply k_b <;> intro _)
  intro i ⟨h4, h5⟩
  cases hx : args[i]? with
  | some x =>
    have hlt := (List.getElem?_eq_some_iff.1 hx).1
    obtain ⟨y, hy⟩ : ∃ y, args'[i]? = some y := ⟨_, List.getElem?_eq_getElem (by omega)⟩
    have hz : (args.zip args')[i]? = some (x, y) := List.getElem?_zip_eq_some.2 ⟨hx, hy⟩
    have hI := ih' x (List.mem_of_getElem? hx) y (List.mem_of_getElem? hy)
    have hs := all_take_succ3 (p := fun p : Ex × Ex => smE p.1 p.2) hz
    have hn := all_none3 (p := fun p : Ex × Ex => smE p.1 p.2) hz
    rw [h5, Bool.true_and] at hs
    dsimp only at hs hn
    obtain ⟨b, hb⟩ : ∃ b, b = smE x y := ⟨_, rfl⟩
    rw [← hb] at hI hs hn
    obtain ⟨o1, n1, v1, m1, l1, a1⟩ := x
    obtain ⟨o2, n2, v2, m2, l2, a2⟩ := y
    rw [Ex.av_mk, Ex.av_mk] at hI
    have hg := hget i _ _ _ _ _ _ hx
    have hg' : es'[((i : Nat) : Int).toNat]? = _ := hget' i _ _ _ _ _ _ hy
    have hlt' : (i : Int) < es'.length := by omega
    cases b with
    | true =>
      repeat' first
        | refine st ?_
        | ((with_reducible apply go_i); (conv => whnf))
        | ((with_reducible apply k_pn); (· exact hI))
        | ((with_reducible apply k_pc); (· exact hI))
        | (with_reducible apply k_d <;> intro _)
        | (with_reducible apply k_b <;> intro _)
      exact ⟨i + 1, rfl, rfl, rfl, by omega, by omega, hs⟩
    | false =>
      rw [hn rfl] at hq
      rw [hq]
      repeat' first
        | refine st ?_
        | ((with_reducible apply go_i); (conv => whnf))
        | ((with_reducible apply k_pn); (· exact hI))
        | ((with_reducible apply k_pc); (· exact hI))
        | (with_reducible apply k_d <;> intro _)
        | (with_reducible apply k_b <;> intro _)
      all_goals rfl
  | none =>
    have hge := List.getElem?_eq_none_iff.1 hx
    rw [List.take_of_length_le (by rw [List.length_zip]; omega)] at h5
    rw [h5] at hq
    rw [hq]
    repeat' first
      | refine st ?_
      | ((with_reducible apply go_i); (conv => whnf))
      | (with_reducible apply k_d <;> intro _)
      | (with_reducible apply k_b <;> intro _)
    all_goals rfl
end Go.Proofs
end
section
/- Ranges of expressions; what is shifted by nothing is the same; All, the program's and the reference's; lists compared. No condition. -/
set_option linter.unusedSimpArgs false
set_option linter.unusedVariables false
set_option maxRecDepth 10000
set_option maxHeartbeats 4000000
namespace Go.Proofs
open Go.Bi

/-- The numbers of an expression are numbers of the program. -/
inductive Ex.Rg : Ex → Prop
  | mk {op n : Int} {v : Vl} {nm : List UInt8} {nl : Bool} {args : List Ex} (h1 : IntKind.i64.min ≤ n) (h2 : n ≤ IntKind.i64.max) (h : ∀ a ∈ args, Ex.Rg a) : Ex.Rg (.mk op n v nm nl args)
theorem wt_exr' {t : TypeId} {ds : List D} (h : WT Try.prog t ds) : (t = T.ex → ∃ e : Ex, ds = e.ds ∧ e.Rg) ∧ (t = T.exs → ∃ nl args, ds = [ng nl (xL args)] ∧ ∀ a ∈ args, Ex.Rg a) := by
  induction h with
  | int h => exact ⟨fun e => (by subst e; rw [Try.underlying70] at h; cases h), fun e => (by subst e; rw [Try.underlying25] at h; cases h)⟩
  | bool h => exact ⟨fun e => (by subst e; rw [Try.underlying70] at h; cases h), fun e => (by subst e; rw [Try.underlying25] at h; cases h)⟩
  | str h => exact ⟨fun e => (by subst e; rw [Try.underlying70] at h; cases h), fun e => (by subst e; rw [Try.underlying25] at h; cases h)⟩
  | nil h => exact ⟨fun e => (by subst e; rw [Try.underlying70] at h; cases h), fun e => ⟨true, [], rfl, by simp⟩⟩
  | @sl t e es h hl hs he ih =>
    refine ⟨fun e => (by subst e; rw [Try.underlying70] at h; cases h), fun e' => ?_⟩
    subst e'
    rw [Try.underlying25] at h
    cases h
    have hq : ∃ l, es = xL l ∧ ∀ a ∈ l, Ex.Rg a := by
      clear he hs hl
      induction es with
      | nil => exact ⟨[], rfl, by simp⟩
      | cons x es ihh =>
        obtain ⟨n, hn, hr⟩ := (ih x (by simp)).1 rfl
        obtain ⟨ks, hk, hrs⟩ := ihh fun y hy => ih y (by simp [hy])
        refine ⟨n :: ks, by rw [hn, hk]; rfl, fun a ha => ?_⟩
        rcases List.mem_cons.1 ha with rfl | ha
        · exact hr
        · exact hrs a ha
    obtain ⟨l, rfl, hlr⟩ := hq
    exact ⟨false, l, rfl, hlr⟩
  | @st t fs ds h hl hf ih =>
    refine ⟨fun e => ?_, fun e => (by subst e; rw [Try.underlying25] at h; cases h)⟩
    subst e
    rw [Try.underlying70] at h
    cases h
    rw [cells_ex] at hl
    match ds, hl with
    | [d0, d1, d2, d3, d4, d5, d6], _ =>
      have h0 := hf _ (List.mem_cons_self ..)
      have h1 := hf _ (List.mem_cons_of_mem _ (List.mem_cons_self ..))
      have h2 := hf _ (List.mem_cons_of_mem _ (List.mem_cons_of_mem _ (List.mem_cons_self ..)))
      have h3 := hf _ (List.mem_cons_of_mem _ (List.mem_cons_of_mem _ (List.mem_cons_of_mem _ (List.mem_cons_self ..))))
      have h4 := (ih _ (List.mem_cons_of_mem _ (List.mem_cons_of_mem _ (List.mem_cons_of_mem _ (List.mem_cons_of_mem _ (List.mem_cons_self ..)))))).2 rfl
      dsimp only at h0 h1 h2 h3 h4
      rw [cells_int] at h0 h1
      rw [cells_val] at h2
      rw [cells_str] at h3
      rw [cells_exs] at h4
      obtain ⟨a, ha⟩ := wt_int h0
      obtain ⟨b, hb, hb1, hb2⟩ := h1.int' Try.underlying3
      obtain ⟨v, hv⟩ := wt_val h2
      obtain ⟨s, hs⟩ := wt_str h3
      obtain ⟨nl, args, hx, hr⟩ := h4
      simp at ha hb hs hx
      refine ⟨.mk a b v s nl args, ?_, .mk hb1 hb2 hr⟩
      rw [Ex.ds_mk, ha, hb, hs, hx]
      have hv : [d2, d3, d4] = [eI v.k, eI v.n, .str v.s] := hv
      simp only [List.cons.injEq, and_true] at hv
      rw [hv.1, hv.2.1, hv.2.2]
theorem wt_exr {ds : List D} (h : WT Try.prog T.ex ds) : ∃ e : Ex, ds = e.ds ∧ e.Rg := (wt_exr' h).1 rfl
theorem wt_exsr {ds : List D} (h : WT Try.prog T.exs ds) : ∃ nl args, ds = [ng nl (xL args)] ∧ ∀ a ∈ args, Ex.Rg a := (wt_exr' h).2 rfl
theorem bulk_ng (nl : Bool) (l : List (List D)) : bulkD (ng nl l) = bulkLL l + 1 := by
  unfold ng
  split
  · rename_i h
    simp only [Bool.and_eq_true, List.isEmpty_iff] at h
    rw [h.2]; rfl
  · rfl
theorem bulk_map (f : Ex → Ex) (l : List Ex) (h : ∀ a ∈ l, (f a).bk ≤ a.bk) : bulkLL (xL (l.map f)) ≤ bulkLL (xL l) := by
  induction l with
  | nil => exact Nat.le_refl _
  | cons a l ih =>
    have h1 := h a (by simp)
    have h2 := ih fun x hx => h x (by simp [hx])
    unfold Ex.bk at h1
    simp only [List.map_cons, xL, bulkLL] at h2 ⊢
    omega
theorem shf_bk (k : Int) : ∀ e : Ex, (shf k e).bk ≤ e.bk := by
  refine Ex.ind fun op n v nm nl args ih => ?_
  have h := bulk_map (shf k) args ih
  rw [shf_mk, Ex.bk, Ex.bk, Ex.ds_mk, Ex.ds_mk]
  simp only [bulkL, bulkD, bulk_ng]
  omega
theorem shf0_same : ∀ e : Ex, e.Rg → smE (shf 0 e) e = true := by
  refine Ex.ind fun op n v nm nl args ih hr => ?_
  cases hr with
  | mk h1 h2 h =>
    have hn : (if op = 2 then w64 (n + 0) else n) = n := by
      split
      · rw [Int.add_zero]
        have e1 : IntKind.i64.min = -9223372036854775808 := rfl
        have e2 : IntKind.i64.max = 9223372036854775807 := rfl
        show IntKind.i64.wrap n = n
        rw [IntKind.wrap_i64]
        omega
      · rfl
    rw [shf_mk, smE_mk, smL_eq, hn]
    simp only [decide_true, Bool.true_and, List.length_map, List.all_eq_true]
    intro p hp
    obtain ⟨i, hi, rfl⟩ := List.mem_iff_getElem.1 hp
    rw [List.getElem_zip, List.getElem_map]
    dsimp only
    have hm := List.getElem_mem (l := args) (n := i) (by rw [List.length_zip, List.length_map] at hi; omega)
    exact ih _ hm (h _ hm)
theorem rg_cj : ∀ e : Ex, e.Rg → ∀ x ∈ cj e, x.Rg := by
  refine Ex.ind fun op n v nm nl args ih he x hx => ?_
  rw [cj_mk] at hx
  split at hx
  · obtain ⟨a, ha, hxa⟩ := List.mem_flatMap.1 hx
    cases he with
    | mk h1 h2 h => exact ih a ha (h a ha) x hxa
  · cases List.mem_singleton.1 hx
    exact he

theorem C.r11_List (l m : List Ex) (hlen : l.length = m.length) (hl : l.length ≤ 1048576) (h : ∀ (i : Nat) (x y : Ex), l[i]? = some x → m[i]? = some y → Pure Try.prog N.bt_ref11_Same [x.av, y.av] (.d (.bool true))) (d d' : D) (hd : SlD d (xL l)) (hd' : SlD d' (xL m)) : Pure Try.prog N.bt_ref11_List [.d d, .d d'] (.d (.bool true)) := by
  have h1 := xL_len l
  have hm := xL_mem l
  have h1' := xL_len m
  have hm' := xL_mem m
  have hg0 := xL_get' (args := l)
  have hg1 := xL_get' (args := m)
  obtain ⟨es, hes⟩ : ∃ es, es = xL l := ⟨_, rfl⟩
  obtain ⟨es', hes'⟩ : ∃ es, es = xL m := ⟨_, rfl⟩
  rw [← hes] at h1 hm hd hg0
  rw [← hes'] at h1' hm' hd' hg1
  have hee : (es.length : Int) = es'.length := by omega
  refine F.bt_ref11_List.go mixed rfl ?_
  repeat' first
    | refine st ?_
    | ((with_reducible apply go_i); (conv => whnf))
    | (with_reducible apply k_d <;> intro _)
    | (with_reducible apply k_b <;> intro _)
  refine x_loop1 mixed Lt.bt_ref11_List_l0 Lk.bt_ref11_List_l0 (fun (i : Nat) => [.d (eI i)]) (fun i => []) (fun i => i ≤ l.length) (fun i => l.length - i) 0 rfl rfl rfl rfl (fun _ _ => ⟨rfl, rfl⟩) rfl (by omega) ?_
  repeat' first
    | refine st ?_
    | ((with_reducible apply go_i); (conv => whnf))
    | (with_reducible apply k_d <;> intro _)
    | (with_reducible apply k_b <;> intro _)
  intro i h4
  cases hx : l[i]? with
  | some x =>
    have hlt := (List.getElem?_eq_some_iff.1 hx).1
    obtain ⟨y, hy⟩ : ∃ y, m[i]? = some y := ⟨_, List.getElem?_eq_getElem (by omega)⟩
    have hS := h i x y hx hy
    obtain ⟨o1, n1, v1, m1, l1, a1⟩ := x
    obtain ⟨o2, n2, v2, m2, l2, a2⟩ := y
    rw [Ex.av_mk, Ex.av_mk] at hS
    have hg := hg0 _ _ _ _ _ _ _ hx
    have hg' : es'[((i : Nat) : Int).toNat]? = _ := hg1 i _ _ _ _ _ _ hy
    have hlt' : (i : Int) < es'.length := by omega
    repeat' first
      | refine st ?_
      | ((with_reducible apply go_i); (conv => whnf))
      | ((with_reducible apply k_pn); (· exact hS))
      | ((with_reducible apply k_pc); (· exact hS))
      | (with_reducible apply k_d <;> intro _)
      | (with_reducible apply k_b <;> intro _)
    exact ⟨i + 1, rfl, rfl, rfl, by omega, by omega⟩
  | none =>
    have hge := List.getElem?_eq_none_iff.1 hx
    repeat' first
      | refine st ?_
      | ((with_reducible apply go_i); (conv => whnf))
      | (with_reducible apply k_d <;> intro _)
      | (with_reducible apply k_b <;> intro _)
    all_goals rfl
end Go.Proofs
end
section
/- Substitute: the program's and the reference's; Same of expressions of any size. No condition. -/
set_option linter.unusedSimpArgs false
set_option linter.unusedVariables false
set_option maxRecDepth 10000
set_option maxHeartbeats 4000000
namespace Go.Proofs
open Go.Bi

/-- Lists and texts of an expression are short. -/
inductive Ex.Lb (B : Nat) : Ex → Prop
  | mk {op n : Int} {v : Vl} {nm : List UInt8} {nl : Bool} {args : List Ex} (h1 : args.length ≤ B) (h2 : v.s.length ≤ B) (h3 : nm.length ≤ B) (h : ∀ a ∈ args, Ex.Lb B a) : Ex.Lb B (.mk op n v nm nl args)
theorem Lb.bounds {B : Nat} {op n : Int} {v : Vl} {nm : List UInt8} {nl : Bool} {args : List Ex} (h : (Ex.mk op n v nm nl args).Lb B) : args.length ≤ B ∧ v.s.length ≤ B ∧ nm.length ≤ B ∧ ∀ a ∈ args, a.Lb B := by
  cases h with
  | mk h1 h2 h3 h => exact ⟨h1, h2, h3, h⟩
theorem lb_bk {B : Nat} : ∀ e : Ex, e.bk ≤ B → e.Lb B := by
  refine Ex.ind fun op n v nm nl args ih hb => ?_
  obtain ⟨b1, b2, b3, b4⟩ := Ex.bk_bounds hb
  exact .mk b1 b2 b3 fun a ha => ih a ha (b4 a ha)
theorem C.r11_SameL : ∀ a : Ex, a.Lb 2097152 → ∀ b : Ex, b.Lb 2097152 → Pure Try.prog N.bt_ref11_Same [a.av, b.av] (.d (.bool (smE a b))) := by
  refine Ex.ind fun op n v name nl args ih hbk b hbb => ?_
  obtain ⟨op', n', v', name', nl', args'⟩ := b
  obtain ⟨b1, b2, b3, b4⟩ := Lb.bounds hbk
  obtain ⟨c1, c2, c3, c4⟩ := Lb.bounds hbb
  have ih' : ∀ a ∈ args, ∀ b ∈ args', Pure Try.prog N.bt_ref11_Same [a.av, b.av] (.d (.bool (smE a b))) := fun a ha b hb => ih a ha (b4 a ha) b (c4 b hb)
  clear ih
  rw [Ex.av_mk, Ex.av_mk, smE_mk]
  have hd : SlD (ng nl (xL args)) (xL args) := sld_ng
  have hd' : SlD (ng nl' (xL args')) (xL args') := sld_ng
  have hlen := xL_len args
  have hm := xL_mem args
  have hlen' := xL_len args'
  have hm' := xL_mem args'
  have hget := xL_get' (args := args)
  have hget' := xL_get' (args := args')
  obtain ⟨d, hde⟩ : ∃ d, d = ng nl (xL args) := ⟨_, rfl⟩
  obtain ⟨d', hde'⟩ : ∃ d, d = ng nl' (xL args') := ⟨_, rfl⟩
  rw [← hde] at hd ⊢
  rw [← hde'] at hd' ⊢
  obtain ⟨es, hes⟩ : ∃ es, es = xL args := ⟨_, rfl⟩
  rw [← hes] at hlen hm hd hget
  obtain ⟨es', hes'⟩ : ∃ es, es = xL args' := ⟨_, rfl⟩
  rw [← hes'] at hlen' hm' hd' hget'
  refine F.bt_ref11_Same.go mixed rfl ?_
  have hv : decide (v = v') = (decide (v.k = v'.k) && (decide (v.n = v'.n) && decide (v.s = v'.s))) := by
    rw [Bool.eq_iff_iff]
    simp only [decide_eq_true_eq, Bool.and_eq_true, vl_eq]
  by_cases hall : op = op' ∧ n = n' ∧ v = v' ∧ name = name' ∧ args.length = args'.length
  rotate_left
  · have hr : (decide (op = op') && decide (n = n') && decide (v = v') && decide (name = name') && smL args args') = false := by
      rw [Bool.eq_false_iff]
      intro h
      simp only [Bool.and_eq_true, decide_eq_true_eq, smL_eq] at h
      exact hall ⟨h.1.1.1.1, h.1.1.1.2, h.1.1.2, h.1.2, h.2.1⟩
    rw [hr]
    clear hr
    have hlle : ((es.length : Int) = es'.length) ↔ args.length = args'.length := by omega
    rw [vl_eq] at hall
    clear hget hget' ih'
    by_cases g1 : op = op'
    rotate_left
    · repeat' first
        | refine st ?_
        | ((with_reducible apply go_i); (conv => whnf))
        | (with_reducible apply k_d <;> intro _)
        | (with_reducible apply k_b <;> intro _)
      all_goals rfl
    by_cases g2 : n = n'
    rotate_left
    · repeat' first
        | refine st ?_
        | ((with_reducible apply go_i); (conv => whnf))
        | (with_reducible apply k_d <;> intro _)
        | (with_reducible apply k_b <;> intro _)
      all_goals rfl
    by_cases g3 : v.k = v'.k ∧ v.n = v'.n ∧ v.s = v'.s
    rotate_left
    · repeat' first
        | refine st ?_
        | ((with_reducible apply go_i); (conv => whnf))
        | (with_reducible apply k_d <;> intro _)
        | (with_reducible apply k_b <;> intro _)
      all_goals first | rfl | (exfalso; simp_all)
    obtain ⟨g3, g4, g5⟩ := g3
    by_cases g6 : name = name'
    rotate_left
    · repeat' first
        | refine st ?_
        | ((with_reducible apply go_i); (conv => whnf))
        | (with_reducible apply k_d <;> intro _)
        | (with_reducible apply k_b <;> intro _)
      all_goals first | rfl | (exfalso; simp_all)
    have g7 : ¬ (es.length : Int) = es'.length := fun h => hall ⟨g1, g2, ⟨g3, g4, g5⟩, g6, hlle.1 h⟩
    repeat' first
      | refine st ?_
      | ((with_reducible apply go_i); (conv => whnf))
      | (with_reducible apply k_d <;> intro _)
      | (with_reducible apply k_b <;> intro _)
    all_goals first | rfl | (exfalso; simp_all; done) | (exfalso; omega)
  obtain ⟨rfl, rfl, rfl, rfl, hll⟩ := hall
  obtain ⟨q, hq⟩ : ∃ q, q = (decide (op = op) && decide (n = n) && decide (v = v) && decide (name = name) && smL args args') := ⟨_, rfl⟩
  rw [← hq]
  rw [smL_eq, decide_eq_true hll] at hq
  simp only [decide_true, Bool.true_and] at hq
  have hl2 : (es.length : Int) = es'.length := by omega
  have hl3 : es.length = es'.length := by omega
  have r1 : v.s = v.s := rfl
  have r2 : name = name := rfl
  repeat' first
    | refine st ?_
    | ((with_reducible apply go_i); (conv => whnf))
    | (with_reducible apply k_d <;> intro _)
    | (with_reducible apply k_b <;> intro _)
  refine x_loop1 mixed Lt.bt_ref11_Same_l0 Lk.bt_ref11_Same_l0 (fun (i : Nat) => [.d (eI i)]) (fun i => [.cells [.d (eI op), .d (eI n), .d (eI v.k), .d (eI v.n), .d (.str v.s), .d (.str name), .d d], .cells [.d (eI op), .d (eI n), .d (eI v.k), .d (eI v.n), .d (.str v.s), .d (.str name), .d d']]) (fun i => i ≤ args.length ∧ ((args.zip args').take i).all (fun p => smE p.1 p.2) = true) (fun i => args.length - i) 0 rfl rfl rfl rfl (fun _ _ => ⟨rfl, rfl⟩) rfl ⟨by omega, rfl⟩ ?_
  repeat' first
    | refine st ?_
    | ((with_reducible apply go_i); (conv => whnf))
    | (with_reducible apply k_d <;> intro _)
    | (with_reducible apply k_b <;> intro _)
  intro i ⟨h4, h5⟩
  cases hx : args[i]? with
  | some x =>
    have hlt := (List.getElem?_eq_some_iff.1 hx).1
    obtain ⟨y, hy⟩ : ∃ y, args'[i]? = some y := ⟨_, List.getElem?_eq_getElem (by omega)⟩
    have hz : (args.zip args')[i]? = some (x, y) := List.getElem?_zip_eq_some.2 ⟨hx, hy⟩
    have hI := ih' x (List.mem_of_getElem? hx) y (List.mem_of_getElem? hy)
    have hs := all_take_succ3 (p := fun p : Ex × Ex => smE p.1 p.2) hz
    have hn := all_none3 (p := fun p : Ex × Ex => smE p.1 p.2) hz
    rw [h5, Bool.true_and] at hs
    dsimp only at hs hn
    obtain ⟨b, hb⟩ : ∃ b, b = smE x y := ⟨_, rfl⟩
    rw [← hb] at hI hs hn
    obtain ⟨o1, n1, v1, m1, l1, a1⟩ := x
    obtain ⟨o2, n2, v2, m2, l2, a2⟩ := y
    rw [Ex.av_mk, Ex.av_mk] at hI
    have hg := hget i _ _ _ _ _ _ hx
    have hg' : es'[((i : Nat) : Int).toNat]? = _ := hget' i _ _ _ _ _ _ hy
    have hlt' : (i : Int) < es'.length := by omega
    cases b with
    | true =>
      repeat' first
        | refine st ?_
        | ((with_reducible apply go_i); (conv => whnf))
        | ((with_reducible apply k_pn); (· exact hI))
        | ((with_reducible apply k_pc); (· exact hI))
        | (with_reducible apply k_d <;> intro _)
        | (with_reducible apply k_b <;> intro _)
      exact ⟨i + 1, rfl, rfl, rfl, by omega, by omega, hs⟩
    | false =>
      rw [hn rfl] at hq
      rw [hq]
      repeat' first
        | refine st ?_
        | ((with_reducible apply go_i); (conv => whnf))
        | ((with_reducible apply k_pn); (· exact hI))
        | ((with_reducible apply k_pc); (· exact hI))
        | (with_reducible apply k_d <;> intro _)
        | (with_reducible apply k_b <;> intro _)
      all_goals rfl
  | none =>
    have hge := List.getElem?_eq_none_iff.1 hx
    rw [List.take_of_length_le (by rw [List.length_zip]; omega)] at h5
    rw [h5] at hq
    rw [hq]
    repeat' first
      | refine st ?_
      | ((with_reducible apply go_i); (conv => whnf))
      | (with_reducible apply k_d <;> intro _)
      | (with_reducible apply k_b <;> intro _)
    all_goals rfl
theorem C.expr_mappedF (g : FuncId) (φ : Ex → Ex) (hg : ∀ x : Ex, Pure Try.prog g [x.av] (φ x).av) : ∀ e : Ex, e.bk ≤ 1048576 → Pure Try.prog N.expr_mapped [e.av, .d (.fn g)] (mapX φ e).av := by
  refine Ex.ind fun op n v nm nl args ih hb => ?_
  obtain ⟨b1, b2, b3, b4⟩ := Ex.bk_bounds hb
  obtain ⟨Z, hZ⟩ : ∃ Z, Z = (mapX φ (.mk op n v nm nl args)).av := ⟨_, rfl⟩
  rw [← hZ]
  rw [mapX_mk] at hZ
  rw [Ex.av_mk]
  refine F.expr_mapped.go mixed rfl ?_
  have h1 := xL_len args
  have hm := xL_mem args
  obtain ⟨da, hda⟩ : ∃ d, d = ng nl (xL args) := ⟨_, rfl⟩
  have hsd : SlD da (xL args) := by rw [hda]; exact sld_ng
  rw [← hda]
  have r0 : v.k = v.k := rfl
  have r1 : v.s = v.s := rfl
  have r2 : nm = nm := rfl
  repeat' first
    | refine st ?_
    | ((with_reducible apply go_i); (conv => whnf))
    | (with_reducible apply k_d <;> intro _)
    | (with_reducible apply k_b <;> intro _)
  refine x_nil 5 7 rfl rfl ?_
  repeat' first
    | refine st ?_
    | ((with_reducible apply go_i); (conv => whnf))
    | (with_reducible apply k_d <;> intro _)
    | (with_reducible apply k_b <;> intro _)
  refine x_loop2 mixed Lt.expr_mapped_l0 Lk.expr_mapped_l0 (fun (i : Nat) (w : List (List D) × Bool) => [.arr 2 w.1.length, .d (eI i)]) (fun i w => [.cells [.d (eI op), .d (eI n), .d (eI v.k), .d (eI v.n), .d (.str v.s), .d (.str nm), .d da], .cells [.d (eI 0), .d (eI 0), .d (eI 0), .d (eI 0), .d (.str []), .d (.str []), .d .nil], .arr w.1 7 0 w.2]) (fun i w => i ≤ args.length ∧ w.1 = Mt (mapX φ) args i ∧ w.2 = w.1.isEmpty) (fun i _ => args.length - i) 0 ([], true) rfl rfl rfl rfl (fun _ _ _ => ⟨rfl, rfl⟩) rfl ⟨by omega, rfl, rfl⟩ ?_
  repeat' first
    | refine st ?_
    | ((with_reducible apply go_i); (conv => whnf))
    | (with_reducible apply k_d <;> intro _)
    | (with_reducible apply k_b <;> intro _)
  intro i w ⟨h4, h5, h6⟩
  obtain ⟨A, b⟩ := w
  dsimp only at h5 h6 ⊢
  have hAl : A.length = i := by rw [h5]; exact Mt_len _ args i (by omega)
  have hAm : ∀ e ∈ A, e.length = 7 := by rw [h5]; exact Mt_mem _ _ _
  cases hx : args[i]? with
  | some x =>
    have hlt := (List.getElem?_eq_some_iff.1 hx).1
    have hs := Mt_succ (φ := mapX φ) hx
    have hg := xL_get hx
    have hi := ih x (List.mem_of_getElem? hx) (b4 x (List.mem_of_getElem? hx))
    rw [← h5] at hs
    obtain ⟨z, hz⟩ : ∃ z, z = mapX φ x := ⟨_, rfl⟩
    rw [← hz] at hs hi
    obtain ⟨o1, n1, v1, m1, l1, a1⟩ := x
    obtain ⟨o2, n2, v2, m2, l2, a2⟩ := z
    rw [Ex.ds_mk] at hg hs
    simp only [Ex.av_mk] at hi
    repeat' first
      | refine st ?_
      | ((with_reducible apply go_i); (conv => whnf))
      | ((with_reducible apply k_pn); (· exact hi))
      | ((with_reducible apply k_pc); (· exact hi))
      | (with_reducible apply k_d <;> intro _)
      | (with_reducible apply k_b <;> intro _)
    exact ⟨i + 1, (A ++ [xds o2 n2 v2 m2 (ng l2 (xL a2))], false), rfl, rfl, rfl, by omega, by omega, hs, by simp⟩
  | none =>
    have hge := List.getElem?_eq_none_iff.1 hx
    rw [Mt_end hge] at h5
    have hx' : (Ex.mk op n v nm true (args.map (mapX φ))).av = eX op n v nm (if A.isEmpty then .nil else .sl A) := by rw [Ex.av_mk, ng_true, ← h5]
    have hφ := hg (.mk op n v nm true (args.map (mapX φ)))
    rw [← h6] at hx'
    by_cases h2 : op = 2
    · rw [if_pos h2] at hZ
      obtain ⟨z, hz⟩ : ∃ z, z = φ (.mk op n v nm true (args.map (mapX φ))) := ⟨_, rfl⟩
      rw [← hz] at hZ hφ
      rw [hx'] at hφ
      obtain ⟨o2, n2, v2, m2, l2, a2⟩ := z
      simp only [Ex.av_mk] at hZ hφ
      rw [hZ]
      cases b with
      | true =>
        rw [if_pos rfl] at hφ
        repeat' first
          | refine st ?_
          | ((with_reducible apply go_i); (conv => whnf))
          | ((with_reducible apply k_pn); (· exact hφ))
          | ((with_reducible apply k_pc); (· exact hφ))
          | (with_reducible apply k_d <;> intro _)
          | (with_reducible apply k_b <;> intro _)
        all_goals rfl
      | false =>
        rw [if_neg (by simp)] at hφ
        repeat' first
          | refine st ?_
          | ((with_reducible apply go_i); (conv => whnf))
          | ((with_reducible apply k_pn); (· exact hφ))
          | ((with_reducible apply k_pc); (· exact hφ))
          | (with_reducible apply k_d <;> intro _)
          | (with_reducible apply k_b <;> intro _)
        all_goals rfl
    · rw [if_neg h2, hx'] at hZ
      rw [hZ]
      cases b with
      | true =>
        repeat' first
          | refine st ?_
          | ((with_reducible apply go_i); (conv => whnf))
          | (with_reducible apply k_d <;> intro _)
          | (with_reducible apply k_b <;> intro _)
        all_goals rfl
      | false =>
        repeat' first
          | refine st ?_
          | ((with_reducible apply go_i); (conv => whnf))
          | (with_reducible apply k_d <;> intro _)
          | (with_reducible apply k_b <;> intro _)
        all_goals rfl

def cpX (e : Ex) : Ex := mapX id e
def nulE : Ex := .mk 0 0 vNull [] true []
def inC (l : List Ex) (n : Int) (v : Vl) (nm : List UInt8) (k : Nat) : Bool := decide (k = 0 ∧ nm = [] ∧ (v.k = 0 ∧ v.n = 0 ∧ v.s = []) ∧ 0 ≤ n ∧ n < l.length)
def subC (l : List Ex) : Ex → Ex
  | .mk op n v nm nl args => if inC l n v nm args.length then cpX (l.getD n.toNat nulE) else .mk op n v nm nl args
theorem C.Sub_c1_c1 (x : Ex) : Pure Try.prog N.expr_Substitute_c1_c1 [x.av] (id x).av := by
  obtain ⟨op, n, v, nm, nl, args⟩ := x
  show Pure Try.prog _ _ (Ex.mk op n v nm nl args).av
  rw [Ex.av_mk]
  refine F.expr_Substitute_c1_c1.go mixed rfl ?_
  repeat' first
    | refine st ?_
    | ((with_reducible apply go_i); (conv => whnf))
    | (with_reducible apply k_d <;> intro _)
    | (with_reducible apply k_b <;> intro _)
  all_goals rfl
theorem C.Sub_c1 (l : List Ex) (hl : l.length ≤ 1048576) (hlb : ∀ a ∈ l, a.bk ≤ 1048576) (dl : D) (hdl : SlD dl (xL l)) (x : Ex) : CallSpec Try.prog N.expr_Substitute_c1 [x.av, .ptr 0 0] [.cells [.d dl]] (fun r os => r = (subC l x).av ∧ os = [.cells [.d dl]]) := by
  obtain ⟨op, n, v, nm, nl, args⟩ := x
  obtain ⟨Z, hZ⟩ : ∃ Z, Z = (subC l (.mk op n v nm nl args)).av := ⟨_, rfl⟩
  rw [← hZ]
  rw [subC] at hZ
  rw [Ex.av_mk]
  have h1 := xL_len args
  have hm := xL_mem args
  have h2 := xL_len l
  have hm2 := xL_mem l
  obtain ⟨da, hda⟩ : ∃ d, d = ng nl (xL args) := ⟨_, rfl⟩
  have hsd : SlD da (xL args) := by rw [hda]; exact sld_ng
  cases hc : inC l n v nm args.length with
  | true =>
    rw [hc, if_pos rfl] at hZ
    obtain ⟨c1, c2, ⟨c3, c4, c5⟩, c6, c7⟩ := of_decide_eq_true hc
    obtain ⟨m, rfl⟩ : ∃ m : Nat, n = m := ⟨n.toNat, by omega⟩
    have hlm : m < l.length := by omega
    have hx : l[m]? = some l[m] := List.getElem?_eq_getElem hlm
    have hgd : l.getD (m : Int).toNat nulE = l[m] := by rw [Int.toNat_natCast, List.getD_eq_getElem?_getD, hx]; rfl
    rw [hgd] at hZ
    have hM := C.expr_mappedF N.expr_Substitute_c1_c1 id C.Sub_c1_c1 l[m] (hlb _ (List.getElem_mem _))
    have hg := xL_get hx
    obtain ⟨y, hy⟩ : ∃ y, y = l[m] := ⟨_, rfl⟩
    rw [← hy] at hM hg hZ
    unfold cpX at hZ
    obtain ⟨z, hz⟩ : ∃ z, z = mapX id y := ⟨_, rfl⟩
    rw [← hz] at hM hZ
    obtain ⟨o1, n1, v1, m1, l1, a1⟩ := y
    obtain ⟨o2, n2, v2, m2, l2, a2⟩ := z
    rw [Ex.ds_mk] at hg
    rw [Ex.av_mk, Ex.av_mk] at hM
    rw [Ex.av_mk] at hZ
    rw [hZ, ← hda]
    clear hda
    subst c2
    refine F.expr_Substitute_c1.goX mixed rfl ?_
    repeat' first
      | refine st ?_
      | ((with_reducible apply go_i); (conv => whnf))
      | ((with_reducible apply k_pn); (· exact hM))
      | ((with_reducible apply k_pc); (· exact hM))
      | (with_reducible apply k_d <;> intro _)
      | (with_reducible apply k_b <;> intro _)
    all_goals exact ⟨rfl, rfl⟩
  | false =>
    rw [hc, if_neg (by decide), Ex.av_mk, ← hda] at hZ
    rw [hZ, ← hda]
    have hno : ¬ (args.length = 0 ∧ nm = [] ∧ (v.k = 0 ∧ v.n = 0 ∧ v.s = []) ∧ 0 ≤ n ∧ n < l.length) := of_decide_eq_false hc
    clear hda hZ hc
    refine F.expr_Substitute_c1.goX mixed rfl ?_
    by_cases g1 : args.length = 0
    rotate_left
    · repeat' first
        | refine st ?_
        | ((with_reducible apply go_i); (conv => whnf))
        | (with_reducible apply k_d <;> intro _)
        | (with_reducible apply k_b <;> intro _)
      all_goals exact ⟨rfl, rfl⟩
    by_cases g2 : nm = []
    rotate_left
    · repeat' first
        | refine st ?_
        | ((with_reducible apply go_i); (conv => whnf))
        | (with_reducible apply k_d <;> intro _)
        | (with_reducible apply k_b <;> intro _)
      all_goals exact ⟨rfl, rfl⟩
    subst g2
    by_cases g3 : v.k = 0 ∧ v.n = 0 ∧ v.s = []
    rotate_left
    · repeat' first
        | refine st ?_
        | ((with_reducible apply go_i); (conv => whnf))
        | (with_reducible apply k_d <;> intro _)
        | (with_reducible apply k_b <;> intro _)
      all_goals first | exact ⟨rfl, rfl⟩ | (exfalso; simp_all; done)
    obtain ⟨g4, g5, g6⟩ := g3
    by_cases g7 : 0 ≤ n
    · by_cases g8 : n < l.length
      · exact absurd ⟨g1, rfl, ⟨g4, g5, g6⟩, g7, g8⟩ hno
      · repeat' first
          | refine st ?_
          | ((with_reducible apply go_i); (conv => whnf))
          | (with_reducible apply k_d <;> intro _)
          | (with_reducible apply k_b <;> intro _)
        all_goals exact ⟨rfl, rfl⟩
    · repeat' first
        | refine st ?_
        | ((with_reducible apply go_i); (conv => whnf))
        | (with_reducible apply k_d <;> intro _)
        | (with_reducible apply k_b <;> intro _)
      all_goals exact ⟨rfl, rfl⟩
def subX (l : List Ex) (e : Ex) : Ex := mapX (subC l) e
theorem C.expr_Substitute (l : List Ex) (hl : l.length ≤ 1048576) (hlb : ∀ a ∈ l, a.bk ≤ 1048576) (dl : D) (hdl : SlD dl (xL l)) (e : Ex) (he : e.bk ≤ 1048576) : Pure Try.prog N.expr_Substitute [e.av, .d dl] (subX l e).av := by
  have hM := C.expr_mapped N.expr_Substitute_c1 dl (subC l) (C.Sub_c1 l hl hlb dl hdl) e he
  have hL : ∀ os : List AO, os[1]? = some (.cells [.d dl]) → CallSpec Try.prog N.expr_mapped [e.av, .clo N.expr_Substitute_c1 [1]] os (fun r' os' => r' = (mapX (subC l) e).av ∧ os' = os.set 1 (.cells [.d dl])) := fun os ho => liftF (id := 1) hM (fun f => mA_ds f _) ho
  unfold subX
  obtain ⟨z, hz⟩ : ∃ z, z = mapX (subC l) e := ⟨_, rfl⟩
  rw [← hz] at hL ⊢
  obtain ⟨o1, n1, v1, m1, l1, a1⟩ := e
  obtain ⟨o2, n2, v2, m2, l2, a2⟩ := z
  simp only [Ex.av_mk] at hL ⊢
  refine F.expr_Substitute.go mixed rfl ?_
  repeat' first
    | refine st ?_
    | ((with_reducible apply go_i); (conv => whnf))
    | ((with_reducible apply k_nc); (· first | exact hL _ rfl); (try rintro _ _ ⟨rfl, rfl⟩))
    | ((with_reducible apply k_pr); (· first | exact hL _ rfl))
    | ((with_reducible apply k_cs); (· first | exact hL _ rfl); (try rintro _ _ ⟨rfl, rfl⟩))
    | ((with_reducible apply k_cal); refine st ?_; (with_reducible apply k_chk); (· exact rfl); refine st ?_; (with_reducible apply k_cs); (· first | exact hL _ rfl); (try rintro _ _ ⟨rfl, rfl⟩))
    | (with_reducible apply k_d <;> intro _)
    | (with_reducible apply k_b <;> intro _)
  all_goals rfl

/-! ### The reference's -/
mutual
def subR (l : List Ex) : Ex → Ex
  | .mk op n v nm nl args => if op = 2 ∧ inC l n v nm args.length = true then shf 0 (l.getD n.toNat nulE) else .mk op n v nm true (subRs l args)
def subRs (l : List Ex) : List Ex → List Ex
  | [] => []
  | a :: r => subR l a :: subRs l r
end
theorem subRs_eq (l : List Ex) : ∀ r, subRs l r = r.map (subR l)
  | [] => by simp [subRs]
  | a :: r => by simp [subRs, subRs_eq l r]
theorem subR_mk (l : List Ex) (op n : Int) (v : Vl) (nm : List UInt8) (nl : Bool) (args : List Ex) : subR l (.mk op n v nm nl args) = if op = 2 ∧ inC l n v nm args.length = true then shf 0 (l.getD n.toNat nulE) else .mk op n v nm true (args.map (subR l)) := by rw [subR, subRs_eq]
theorem fmd2 (n : Int) (v : Vl) (nm : List UInt8) (k : Nat) : fmd 2 n v nm k = decide (k = 0 ∧ nm = [] ∧ (v.k = 0 ∧ v.n = 0 ∧ v.s = [])) := by
  have hc : (cnt 2 k).1 = decide ((k : Int) = 0) := rfl
  unfold fmd
  rw [hc, if_neg (by decide), if_neg (by decide), if_pos rfl, vNull_is, Bool.eq_iff_iff]
  simp only [Bool.and_eq_true, decide_eq_true_eq]
  constructor
  · rintro ⟨⟨h1, h2⟩, h3⟩; exact ⟨by omega, h2, h3⟩
  · rintro ⟨h1, h2, h3⟩; exact ⟨⟨by omega, h2⟩, h3⟩
end Go.Proofs
end
section
/- The index of a column after the removal of another one. No condition. -/
set_option linter.unusedSimpArgs false
set_option linter.unusedVariables false
set_option maxRecDepth 10000
set_option maxHeartbeats 4000000
namespace Go.Proofs
open Go.Bi

def belowI (a b : Int) : Int := if b < a then a - 1 else a
theorem C.evolve_below (a b : Int) (ha : -4611686018427387904 ≤ a) (hb : a ≤ 4611686018427387904) : Pure Try.prog N.evolve_below [.d (eI a), .d (eI b)] (.d (eI (belowI a b))) := by
  unfold belowI
  by_cases h : b < a
  · rw [if_pos h]
    refine F.evolve_below.go mixed rfl ?_
    repeat' first
      | refine st ?_
      | ((with_reducible apply go_i); (conv => whnf))
      | (with_reducible apply k_d <;> intro _)
      | (with_reducible apply k_b <;> intro _)
    all_goals rfl
  · rw [if_neg h]
    refine F.evolve_below.go mixed rfl ?_
    repeat' first
      | refine st ?_
      | ((with_reducible apply go_i); (conv => whnf))
      | (with_reducible apply k_d <;> intro _)
      | (with_reducible apply k_b <;> intro _)
    all_goals rfl
end Go.Proofs
end
section
/- A column is removed. No condition. -/
set_option linter.unusedSimpArgs false
set_option linter.unusedVariables false
set_option maxRecDepth 10000
set_option maxHeartbeats 4000000
namespace Go.Proofs
open Go.Bi

/-- What stands for the columns after a removal. -/
def mvE (k i : Int) : Ex := .mk 2 (belowI k i) ⟨0, 0, []⟩ [] true []
def mvL (m i : Nat) : List Ex := (List.range m).map fun (k : Nat) => mvE (k : Int) (i : Int)
theorem mvL_len (m i : Nat) : (mvL m i).length = m := by simp [mvL]
theorem mvL_succ (m i : Nat) : xL (mvL m i) ++ [[.int .i64 2, eI (belowI m i), .int .i64 0, .int .i64 0, .str [], .str [], .nil]] = xL (mvL (m + 1) i) := by
  unfold mvL
  rw [List.range_succ, List.map_append]
  simp only [xL, List.map_append, List.map_cons, List.map_nil, List.append_cancel_left_eq]
  unfold mvE
  rw [Ex.ds_mk]
  rfl
/-- The numbers ahead of `k` are turned. -/
def mixI (ks : List Int) (f : Int → Int) (k : Nat) : List Int := (ks.take k).map f ++ ks.drop k
theorem mixI_len (ks : List Int) (f : Int → Int) (k : Nat) (h : k ≤ ks.length) : (mixI ks f k).length = ks.length := by
  unfold mixI
  simp
  omega
theorem mixI_get {ks : List Int} (f : Int → Int) {k : Nat} {c : Int} (h : ks[k]? = some c) : (mixI ks f k)[k]? = some c := by
  have hlt := (List.getElem?_eq_some_iff.1 h).1
  unfold mixI
  rw [List.getElem?_append_right (by simp; omega), List.length_map, List.length_take, Nat.min_eq_left (by omega), Nat.sub_self, List.getElem?_drop]
  exact h
theorem mixI_set {ks : List Int} (f : Int → Int) {k : Nat} {c : Int} (h : ks[k]? = some c) : (mixI ks f k).set k (f c) = mixI ks f (k + 1) := by
  obtain ⟨hlt, he⟩ := List.getElem?_eq_some_iff.1 h
  unfold mixI
  rw [List.set_append_right _ _ (by simp; omega), List.length_map, List.length_take, Nat.min_eq_left (by omega), Nat.sub_self, List.drop_eq_getElem_cons hlt, he, List.set_cons_zero, List.take_add_one, h]
  simp
theorem mixI_zero (ks : List Int) (f : Int → Int) : mixI ks f 0 = ks := by simp [mixI]
theorem mixI_end (ks : List Int) (f : Int → Int) : mixI ks f ks.length = ks.map f := by simp [mixI]
theorem eIs_set (l : List Int) (k : Nat) (y : Int) : (eIs l).set k [eI y] = eIs (l.set k y) := by
  unfold eIs
  rw [List.map_set]
def mixX (xs : List Ex) (f : Ex → Ex) (k : Nat) : List Ex := (xs.take k).map f ++ xs.drop k
theorem mixX_len (xs : List Ex) (f : Ex → Ex) (k : Nat) (h : k ≤ xs.length) : (mixX xs f k).length = xs.length := by
  unfold mixX
  simp
  omega
theorem mixX_get {xs : List Ex} (f : Ex → Ex) {k : Nat} {c : Ex} (h : xs[k]? = some c) : (mixX xs f k)[k]? = some c := by
  have hlt := (List.getElem?_eq_some_iff.1 h).1
  unfold mixX
  rw [List.getElem?_append_right (by simp; omega), List.length_map, List.length_take, Nat.min_eq_left (by omega), Nat.sub_self, List.getElem?_drop]
  exact h
theorem mixX_set {xs : List Ex} (f : Ex → Ex) {k : Nat} {c : Ex} (h : xs[k]? = some c) : (mixX xs f k).set k (f c) = mixX xs f (k + 1) := by
  obtain ⟨hlt, he⟩ := List.getElem?_eq_some_iff.1 h
  unfold mixX
  rw [List.set_append_right _ _ (by simp; omega), List.length_map, List.length_take, Nat.min_eq_left (by omega), Nat.sub_self, List.drop_eq_getElem_cons hlt, he, List.set_cons_zero, List.take_add_one, h]
  simp
theorem mixX_zero (xs : List Ex) (f : Ex → Ex) : mixX xs f 0 = xs := by simp [mixX]
theorem mixX_end (xs : List Ex) (f : Ex → Ex) : mixX xs f xs.length = xs.map f := by simp [mixX]
theorem C.drop0 (nm : List UInt8) (es : List (List D)) (hm : ∀ e ∈ es, e.length = 3) (i : Nat) (hi : i < es.length) (hel : es.length ≤ 1048576) (ks : List Int) (hkb : ∀ k ∈ ks, 0 ≤ k ∧ k ≤ 1048576) (hkl : ks.length ≤ 1048576) (kn : Bool) (hkn : kn = true → ks = []) (xs : List Ex) (hxl : xs.length ≤ 1048576) (hxb : ∀ e ∈ xs, e.bk ≤ 1048576) (xn : Bool) (hxn : xn = true → xs = []) :
    CallSpec Try.prog N.evolve_drop [.ptr 0 0, .d (eI i)] [.cells [.d (.str nm), .arr 1 es.length, .arr 2 (eIs ks).length, .rs 3 0, .arr 4 (xL xs).length], .arr es 3 0 false, .arr (eIs ks) 1 0 kn, .rarr [] 2 true, .arr (xL xs) 7 0 xn]
      (fun r os => r = .tup [] ∧ os = [.cells [.d (.str nm), .d (.sl (es.eraseIdx i)), .arr 2 (eIs ks).length, .rs 3 0, .arr 4 (xL xs).length], .arr (es.eraseIdx i ++ [zRow]) 3 (es.length - 1) false, .arr (eIs (ks.map fun c => belowI c i)) 1 0 kn, .rarr [] 2 true, .arr (xL (xs.map (subX (mvL es.length i)))) 7 0 xn]) := by
  have hD := fun {os : List AO} (ho : os[1]? = some (.arr es 3 0 false)) => C.slices_Delete es hm i hi ho
  obtain ⟨m, hmm⟩ : ∃ m, m = es.length := ⟨_, rfl⟩
  refine F.evolve_drop.goX mixed rfl ?_
  repeat' first
    | refine st ?_
    | ((with_reducible apply go_i); (conv => whnf))
    | (with_reducible apply k_d <;> intro _)
    | (with_reducible apply k_b <;> intro _)
  refine x_nil 4 7 rfl rfl ?_
  repeat' first
    | refine st ?_
    | ((with_reducible apply go_i); (conv => whnf))
    | (with_reducible apply k_d <;> intro _)
    | (with_reducible apply k_b <;> intro _)
  refine x_loop2 mixed Lt.evolve_drop_l0 Lk.evolve_drop_l0 (fun (k : Nat) (A : List (List D)) => [.arr 5 A.length, .d (eI k)]) (fun k A => [.cells [.d (.str nm), .arr 1 es.length, .arr 2 (eIs ks).length, .rs 3 0, .arr 4 (xL xs).length], .arr es 3 0 false, .arr (eIs ks) 1 0 kn, .rarr [] 2 true, .arr (xL xs) 7 0 xn, .arr A 7 0 A.isEmpty]) (fun k A => k ≤ es.length ∧ A = xL (mvL k i)) (fun k A => es.length - k) 0 [] rfl rfl rfl rfl (fun _ _ _ => ⟨rfl, rfl⟩) rfl ⟨by omega, by simp [mvL, xL]⟩ ?_
  repeat' first
    | refine st ?_
    | ((with_reducible apply go_i); (conv => whnf))
    | (with_reducible apply k_d <;> intro _)
    | (with_reducible apply k_b <;> intro _)
  intro k A ⟨h4, h5⟩
  have hAl : A.length = k := by rw [h5, xL_len, mvL_len]
  have hAm : ∀ e ∈ A, e.length = 7 := by rw [h5]; exact xL_mem _
  by_cases hlt : k < es.length
  · have hB := C.evolve_below k i (by omega) (by omega)
    have hs := mvL_succ k i
    rw [← h5] at hs
    obtain ⟨b, hb⟩ : ∃ b, b = belowI k i := ⟨_, rfl⟩
    rw [← hb] at hB hs
    clear h5
    repeat' first
      | refine st ?_
      | ((with_reducible apply go_i); (conv => whnf))
      | ((with_reducible apply k_pn); (· exact hB))
      | ((with_reducible apply k_pc); (· exact hB))
      | (with_reducible apply k_d <;> intro _)
      | (with_reducible apply k_b <;> intro _)
    refine ⟨k + 1, A ++ [[.int .i64 2, eI b, .int .i64 0, .int .i64 0, .str [], .str [], .nil]], ?_, rfl, ?_, by omega, by omega, hs⟩
    · rfl
    · rw [show (A ++ [[.int .i64 2, eI b, .int .i64 0, .int .i64 0, .str [], .str [], .nil]]).isEmpty = false by simp]
      first | rfl | skip
  · have hke : k = es.length := by omega
    rw [hke] at h5
    have hDc := hD (os := [.cells [.d (.str nm), .arr 1 es.length, .arr 2 (eIs ks).length, .rs 3 0, .arr 4 (xL xs).length], .arr es 3 0 false, .arr (eIs ks) 1 0 kn, .rarr [] 2 true, .arr (xL xs) 7 0 xn, .arr A 7 0 A.isEmpty]) rfl
    obtain ⟨es', hes'⟩ : ∃ e, e = es.eraseIdx i := ⟨_, rfl⟩
    rw [← hes'] at hDc ⊢
    obtain ⟨M0, hM0⟩ : ∃ L, L = mvL es.length i := ⟨_, rfl⟩
    have hMl : M0.length ≤ 1048576 := by rw [hM0, mvL_len]; exact hel
    rw [← hM0] at h5 ⊢
    repeat' first
      | (with_reducible apply k_cal)
      | refine st ?_
      | ((with_reducible apply go_i); (conv => whnf))
      | ((with_reducible apply k_nc); (· first | exact hDc); (try rintro _ _ ⟨rfl, rfl⟩))
      | ((with_reducible apply k_pr); (· first | exact hDc))
      | ((with_reducible apply k_cs); (· first | exact hDc); (try rintro _ _ ⟨rfl, rfl⟩))
      | ((with_reducible apply k_cal); refine st ?_; (with_reducible apply k_chk); (· exact rfl); refine st ?_; (with_reducible apply k_cs); (· first | exact hDc); (try rintro _ _ ⟨rfl, rfl⟩))
      | (with_reducible apply k_d <;> intro _)
      | (with_reducible apply k_b <;> intro _)
    refine x_loop1 mixed Lt.evolve_drop_l1 Lk.evolve_drop_l1 (fun (j : Nat) => [.d (eI j)]) (fun j => [.cells [.d (.str nm), .d (.sl es'), .arr 2 (eIs ks).length, .rs 3 0, .arr 4 (xL xs).length], .arr (es' ++ [zRow]) 3 (es.length - 1) false, .arr (eIs (mixI ks (fun c => belowI c i) j)) 1 0 kn, .rarr [] 2 true, .arr (xL xs) 7 0 xn, .arr A 7 0 A.isEmpty]) (fun j => j ≤ ks.length) (fun j => ks.length - j) 0 rfl rfl rfl (by rw [mixI_zero]; rfl) (fun _ _ => ⟨rfl, rfl⟩) rfl (by omega) ?_
    repeat' first
      | refine st ?_
      | ((with_reducible apply go_i); (conv => whnf))
      | (with_reducible apply k_d <;> intro _)
      | (with_reducible apply k_b <;> intro _)
    intro j h6
    have hKl := mixI_len ks (fun c => belowI c i) j h6
    cases hy : ks[j]? with
    | some c =>
      obtain ⟨hlt2, he2⟩ := List.getElem?_eq_some_iff.1 hy
      have hkf : kn = false := by
        cases kn with
        | false => rfl
        | true => rw [hkn rfl] at hlt2; simp at hlt2
      subst hkf
      have hg := eIs_get (mixI_get (fun c => belowI c i) hy)
      have hset := mixI_set (fun c => belowI c i) hy
      obtain ⟨cb1, cb2⟩ := hkb c (List.mem_of_getElem? hy)
      have hB := C.evolve_below c i (by omega) (by omega)
      have hks := eIs_len ks
      obtain ⟨y, hyy⟩ : ∃ y, y = belowI c i := ⟨_, rfl⟩
      rw [← hyy] at hB hset
      have hset2 : (eIs (mixI ks (fun c => belowI c i) j)).set j [eI y] = eIs (mixI ks (fun c => belowI c i) (j + 1)) := by rw [eIs_set, hset]
      have hml := eIs_len (mixI ks (fun c => belowI c i) j)
      have hmm2 := eIs_mem (mixI ks (fun c => belowI c i) j)
      obtain ⟨X, hX⟩ : ∃ X, X = eIs (mixI ks (fun c => belowI c i) j) := ⟨_, rfl⟩
      rw [← hX] at hg hset2 hml hmm2 ⊢
      repeat' first
        | refine st ?_
        | ((with_reducible apply go_i); (conv => whnf))
        | ((with_reducible apply k_pn); (· exact hB))
        | ((with_reducible apply k_pc); (· exact hB))
        | (with_reducible apply k_d <;> intro _)
        | (with_reducible apply k_b <;> intro _)
      refine ⟨j + 1, rfl, rfl, ?_, by omega, by omega⟩
      rw [show ((j : Int)).toNat = j from Int.toNat_natCast j, hset2]
    | none =>
      have hge := List.getElem?_eq_none_iff.1 hy
      have hjk : j = ks.length := by omega
      subst hjk
      rw [mixI_end]
      have hks := eIs_len ks
      obtain ⟨K', hK'⟩ : ∃ K, K = eIs (ks.map fun c => belowI c i) := ⟨_, rfl⟩
      rw [← hK']
      repeat' first
        | refine st ?_
        | ((with_reducible apply go_i); (conv => whnf))
        | (with_reducible apply k_d <;> intro _)
        | (with_reducible apply k_b <;> intro _)
      refine x_rounds 1 ?_
      refine x_round mixed ?_
      repeat' first
        | refine st ?_
        | ((with_reducible apply go_i); (conv => whnf))
        | (with_reducible apply k_d <;> intro _)
        | (with_reducible apply k_b <;> intro _)
      have hAe : A.isEmpty = false := by cases A with
        | nil => simp at hAl; omega
        | cons a l => rfl
      rw [hAe]
      have hXl := xL_len xs
      refine x_frz 4 (id := 5) (len := A.length) (sz := 7) (frz := 0) (nl := false) (es := A) rfl rfl rfl ?_
      rw [if_neg (by decide : ¬ (false = true))]
      repeat' first
        | refine st ?_
        | ((with_reducible apply go_i); (conv => whnf))
        | (with_reducible apply k_d <;> intro _)
        | (with_reducible apply k_b <;> intro _)
      refine x_loop1 mixed Lt.evolve_drop_l4 Lk.evolve_drop_l4 (fun (q : Nat) => [.d (eI q)]) (fun q => [.cells [.d (.str nm), .d (.sl es'), .arr 2 (eIs ks).length, .rs 3 0, .arr 4 (xL xs).length], .arr (es' ++ [zRow]) 3 (es.length - 1) false, .arr K' 1 0 kn, .rarr [] 2 true, .arr (xL (mixX xs (subX M0) q)) 7 0 xn, .arr A 7 A.length false]) (fun q => q ≤ xs.length) (fun q => xs.length - q) 0 rfl rfl rfl (by rw [mixX_zero]; rfl) (fun _ _ => ⟨rfl, rfl⟩) rfl (by omega) ?_
      repeat' first
        | refine st ?_
        | ((with_reducible apply go_i); (conv => whnf))
        | (with_reducible apply k_d <;> intro _)
        | (with_reducible apply k_b <;> intro _)
      intro q h7
      have hMb : ∀ a ∈ M0, a.bk ≤ 1048576 := by
        intro a ha
        rw [hM0] at ha
        obtain ⟨b, _, rfl⟩ := List.mem_map.1 ha
        unfold mvE Ex.bk
        rw [Ex.ds_mk]
        exact Nat.le_of_ble_eq_true rfl
      have hXql := mixX_len xs (subX M0) q h7
      cases hx : xs[q]? with
      | some x =>
        obtain ⟨hlt3, he3⟩ := List.getElem?_eq_some_iff.1 hx
        have hxf : xn = false := by
          cases xn with
          | false => rfl
          | true => rw [hxn rfl] at hlt3; simp at hlt3
        subst hxf
        have hg := mixX_get (subX M0) hx
        have hset := mixX_set (subX M0) hx
        have hS := C.expr_Substitute M0 hMl hMb (.sl A) (by rw [h5]; exact sld_sl) x (hxb x (List.mem_of_getElem? hx))
        have hq1 := xL_len (mixX xs (subX M0) q)
        have hq2 := xL_mem (mixX xs (subX M0) q)
        obtain ⟨z, hz⟩ : ∃ z, z = subX M0 x := ⟨_, rfl⟩
        rw [← hz] at hS hset
        have hset2 : (xL (mixX xs (subX M0) q)).set q z.ds = xL (mixX xs (subX M0) (q + 1)) := by rw [← hset]; unfold xL; rw [List.map_set]
        obtain ⟨o1, n1, v1, m1, l1, a1⟩ := x
        obtain ⟨o2, n2, v2, m2, l2, a2⟩ := z
        have hg := xL_get'' _ _ _ _ _ _ _ hg
        rw [Ex.av_mk, Ex.av_mk] at hS
        rw [Ex.ds_mk] at hset2
        obtain ⟨X, hX⟩ : ∃ X, X = xL (mixX xs (subX M0) q) := ⟨_, rfl⟩
        rw [← hX] at hg hset2 hq1 hq2 ⊢
        repeat' first
          | refine st ?_
          | ((with_reducible apply go_i); (conv => whnf))
          | ((with_reducible apply k_pn); (· exact hS))
          | ((with_reducible apply k_pc); (· exact hS))
          | (with_reducible apply k_d <;> intro _)
          | (with_reducible apply k_b <;> intro _)
        refine ⟨q + 1, rfl, rfl, ?_, by omega, by omega⟩
        rw [show ((q : Int)).toNat = q from Int.toNat_natCast q, hset2]
      | none =>
        have hge := List.getElem?_eq_none_iff.1 hx
        have hqk : q = xs.length := by omega
        subst hqk
        rw [mixX_end]
        repeat' first
          | refine st ?_
          | ((with_reducible apply go_i); (conv => whnf))
          | (with_reducible apply k_d <;> intro _)
          | (with_reducible apply k_b <;> intro _)
        exact ⟨rfl, rfl⟩
end Go.Proofs
end
section
/- The copy of a definition: its slices are one's own. No condition. -/
set_option linter.unusedSimpArgs false
set_option linter.unusedVariables false
set_option maxRecDepth 10000
set_option maxHeartbeats 4000000
namespace Go.Proofs
open Go.Bi

theorem C.clone0 (nm : List UInt8) (dc dk df dx : D) (Cs Ks : List (List D)) (cn kn : Bool) (hC : CallSpec Try.prog N.slices_Clone__api_Column_api_Column [.d dc] [] (fun r os => r = .arr 0 Cs.length ∧ os = [.arr Cs 3 0 cn])) (hK : CallSpec Try.prog N.slices_Clone__int_int [.d dk] [] (fun r os => r = .arr 0 Ks.length ∧ os = [.arr Ks 1 0 kn]))
    (hd : SlD df []) (l : List Ex) (hb : ∀ x ∈ l, x.bk ≤ 1048576) (hl : l.length ≤ 1048576) (hdx : SlD dx (xL l)) :
    CallSpec Try.prog N.schema_Clone [eT nm dc dk df dx] [] (fun r os => r = .agg (oB nm Cs.length Ks.length 0 (xL (l.map (shf 0))).length) ∧ os = clB [.d (.str nm), .d dc, .d dk, .d df, .d dx] (oB nm Cs.length Ks.length 0 (xL (l.map (shf 0))).length) nm Cs Ks cn kn [] (xL (l.map (shf 0))) (xL (l.map (shf 0))).isEmpty) := by
  have h1 := xL_len l
  have hm := xL_mem l
  have hg0 := xL_get'' (args := l)
  obtain ⟨R, hR⟩ : ∃ R, R = xL (l.map (shf 0)) := ⟨_, rfl⟩
  rw [← hR]
  obtain ⟨es, hes⟩ : ∃ es, es = xL l := ⟨_, rfl⟩
  rw [← hes] at h1 hm hdx hg0
  refine F.schema_Clone.goO mixed rfl ?_
  repeat' first
    | refine st ?_
    | ((with_reducible apply go_i); (conv => whnf))
    | ((with_reducible apply k_ow); (· first | exact hC | exact hK))
    | (with_reducible apply k_d <;> intro _)
    | (with_reducible apply k_b <;> intro _)
  refine x_nilrc 4 3 2 rfl rfl rfl ?_
  refine x_nilcc 4 4 7 rfl rfl rfl ?_
  refine x_rounds 1 ?_
  refine x_round mixed ?_
  repeat' first
    | refine st ?_
    | ((with_reducible apply go_i); (conv => whnf))
    | ((with_reducible apply k_ow); (· first | exact hC | exact hK))
    | (with_reducible apply k_d <;> intro _)
    | (with_reducible apply k_b <;> intro _)
  refine x_selm [2, 3, 37, 38, 39] [.ptr 1 0, .ptr 4 0, .d dx, .d (.int .i64 es.length), .d (eI 0)] [0, 1, 2, 3, 4, 5, 6] (clB [.d (.str nm), .d dc, .d dk, .d df, .d dx] [.d (.str []), .d .nil, .d .nil, .d .nil, .d .nil] nm Cs Ks cn kn [] [] true) rfl rfl (by decide) rfl rfl rfl rfl rfl ?_
  refine x_loop2 mixed Lt.schema_Clone_l1 Lk.schema_Clone_l1 (fun (i : Nat) (w : List (List D) × Bool) => [.d (eI i)]) (fun i w => clB [.d (.str nm), .d dc, .d dk, .d df, .d dx] [.d (.str []), .d .nil, .d .nil, .d .nil, .d .nil] nm Cs Ks cn kn [] w.1 w.2) (fun i w => i ≤ l.length ∧ w.1 = Mt (shf 0) l i ∧ w.2 = w.1.isEmpty) (fun i w => l.length - i) 0 ([], true) rfl rfl rfl rfl (fun _ _ _ => ⟨rfl, rfl⟩) rfl ⟨by omega, rfl, rfl⟩ ?_
  repeat' first
    | refine st ?_
    | ((with_reducible apply go_i); (conv => whnf))
    | (with_reducible apply k_d <;> intro _)
    | (with_reducible apply k_b <;> intro _)
  intro i w ⟨h4, h5, h6⟩
  obtain ⟨A, b⟩ := w
  dsimp only at h5 h6 ⊢
  have hAl : A.length = i := by rw [h5]; exact Mt_len _ l i (by omega)
  have hAm : ∀ e ∈ A, e.length = 7 := by rw [h5]; exact Mt_mem _ _ _
  cases hx : l[i]? with
  | some x =>
    have hlt := (List.getElem?_eq_some_iff.1 hx).1
    have hs := Mt_succ (φ := shf 0) hx
    have hS := C.expr_Shift x (hb x (List.mem_of_getElem? hx)) 0
    rw [← h5] at hs
    obtain ⟨z, hz⟩ : ∃ z, z = shf 0 x := ⟨_, rfl⟩
    rw [← hz] at hs hS
    obtain ⟨o1, n1, v1, m1, l1, a1⟩ := x
    obtain ⟨o2, n2, v2, m2, l2, a2⟩ := z
    have hg := hg0 _ _ _ _ _ _ _ hx
    rw [Ex.ds_mk] at hs
    rw [Ex.av_mk, Ex.av_mk] at hS
    repeat' first
      | refine st ?_
      | ((with_reducible apply go_i); (conv => whnf))
      | ((with_reducible apply k_pn); (· exact hS))
      | ((with_reducible apply k_pc); (· exact hS))
      | (with_reducible apply k_d <;> intro _)
      | (with_reducible apply k_b <;> intro _)
    exact ⟨i + 1, (A ++ [xds o2 n2 v2 m2 (ng l2 (xL a2))], false), rfl, rfl, rfl, by omega, by omega, hs, by simp⟩
  | none =>
    have hge := List.getElem?_eq_none_iff.1 hx
    rw [Mt_end hge, ← hR] at h5
    subst h5
    subst h6
    repeat' first
      | refine st ?_
      | ((with_reducible apply go_i); (conv => whnf))
      | (with_reducible apply k_d <;> intro _)
      | (with_reducible apply k_b <;> intro _)
    all_goals exact ⟨rfl, rfl⟩
theorem C.clone1 (nm : List UInt8) (dc dk df dx : D) (Cs Ks : List (List D)) (cn kn : Bool) (hC : CallSpec Try.prog N.slices_Clone__api_Column_api_Column [.d dc] [] (fun r os => r = .arr 0 Cs.length ∧ os = [.arr Cs 3 0 cn])) (hK : CallSpec Try.prog N.slices_Clone__int_int [.d dk] [] (fun r os => r = .arr 0 Ks.length ∧ os = [.arr Ks 1 0 kn]))
    (f0 : Fi) (hf0 : f0.ok) (hd : df = .sl (eFi [f0])) (l : List Ex) (hb : ∀ x ∈ l, x.bk ≤ 1048576) (hl : l.length ≤ 1048576) (hdx : SlD dx (xL l)) :
    CallSpec Try.prog N.schema_Clone [eT nm dc dk df dx] [] (fun r os => r = .agg (oB nm Cs.length Ks.length 1 (xL (l.map (shf 0))).length) ∧ os = clB [.d (.str nm), .d dc, .d dk, .d df, .d dx] (oB nm Cs.length Ks.length 1 (xL (l.map (shf 0))).length) nm Cs Ks cn kn [f0] (xL (l.map (shf 0))) (xL (l.map (shf 0))).isEmpty) := by
  have h1 := xL_len l
  have hm := xL_mem l
  have hg0 := xL_get'' (args := l)
  obtain ⟨R, hR⟩ : ∃ R, R = xL (l.map (shf 0)) := ⟨_, rfl⟩
  rw [← hR]
  obtain ⟨es, hes⟩ : ∃ es, es = xL l := ⟨_, rfl⟩
  rw [← hes] at h1 hm hdx hg0
  subst hd
  obtain ⟨fd0, fe0, fn0, ft0⟩ := f0
  have hf0 : CallSpec Try.prog N.slices_Clone__int_int [.d fd0] [] (fun r os => r = .arr 0 fe0.length ∧ os = [.arr fe0 1 0 fn0]) := hf0
  rw [show eFi [⟨fd0, fe0, fn0, ft0⟩] = [[fd0, .str ft0]] from rfl]
  refine F.schema_Clone.goO mixed rfl ?_
  repeat' first
    | refine st ?_
    | ((with_reducible apply go_i); (conv => whnf))
    | ((with_reducible apply k_ow); (· first | exact hC | exact hK | exact hf0))
    | (with_reducible apply k_d <;> intro _)
    | (with_reducible apply k_b <;> intro _)
  refine x_nilrc 4 3 2 rfl rfl rfl ?_
  refine x_nilcc 4 4 7 rfl rfl rfl ?_
  refine x_rounds 2 ?_
  refine x_round mixed ?_
  repeat' first
    | refine st ?_
    | ((with_reducible apply go_i); (conv => whnf))
    | ((with_reducible apply k_ow); (· first | exact hC | exact hK | exact hf0))
    | (with_reducible apply k_d <;> intro _)
    | (with_reducible apply k_b <;> intro _)
  refine x_round mixed ?_
  repeat' first
    | refine st ?_
    | ((with_reducible apply go_i); (conv => whnf))
    | ((with_reducible apply k_ow); (· first | exact hC | exact hK | exact hf0))
    | (with_reducible apply k_d <;> intro _)
    | (with_reducible apply k_b <;> intro _)
  refine x_selm [2, 3, 37, 38, 39] [.ptr 1 0, .ptr 4 0, .d dx, .d (.int .i64 es.length), .d (eI 0)] [0, 1, 2, 3, 4, 5, 6, 8] (clB [.d (.str nm), .d dc, .d dk, .d (.sl [[fd0, .str ft0]]), .d dx] [.d (.str []), .d .nil, .d .nil, .d .nil, .d .nil] nm Cs Ks cn kn [⟨fd0, fe0, fn0, ft0⟩] [] true) rfl rfl (by decide) rfl rfl rfl rfl rfl ?_
  refine x_loop2 mixed Lt.schema_Clone_l1 Lk.schema_Clone_l1 (fun (i : Nat) (w : List (List D) × Bool) => [.d (eI i)]) (fun i w => clB [.d (.str nm), .d dc, .d dk, .d (.sl [[fd0, .str ft0]]), .d dx] [.d (.str []), .d .nil, .d .nil, .d .nil, .d .nil] nm Cs Ks cn kn [⟨fd0, fe0, fn0, ft0⟩] w.1 w.2) (fun i w => i ≤ l.length ∧ w.1 = Mt (shf 0) l i ∧ w.2 = w.1.isEmpty) (fun i w => l.length - i) 0 ([], true) rfl rfl rfl rfl (fun _ _ _ => ⟨rfl, rfl⟩) rfl ⟨by omega, rfl, rfl⟩ ?_
  repeat' first
    | refine st ?_
    | ((with_reducible apply go_i); (conv => whnf))
    | (with_reducible apply k_d <;> intro _)
    | (with_reducible apply k_b <;> intro _)
  intro i w ⟨h4, h5, h6⟩
  obtain ⟨A, b⟩ := w
  dsimp only at h5 h6 ⊢
  have hAl : A.length = i := by rw [h5]; exact Mt_len _ l i (by omega)
  have hAm : ∀ e ∈ A, e.length = 7 := by rw [h5]; exact Mt_mem _ _ _
  cases hx : l[i]? with
  | some x =>
    have hlt := (List.getElem?_eq_some_iff.1 hx).1
    have hs := Mt_succ (φ := shf 0) hx
    have hS := C.expr_Shift x (hb x (List.mem_of_getElem? hx)) 0
    rw [← h5] at hs
    obtain ⟨z, hz⟩ : ∃ z, z = shf 0 x := ⟨_, rfl⟩
    rw [← hz] at hs hS
    obtain ⟨o1, n1, v1, m1, l1, a1⟩ := x
    obtain ⟨o2, n2, v2, m2, l2, a2⟩ := z
    have hg := hg0 _ _ _ _ _ _ _ hx
    rw [Ex.ds_mk] at hs
    rw [Ex.av_mk, Ex.av_mk] at hS
    repeat' first
      | refine st ?_
      | ((with_reducible apply go_i); (conv => whnf))
      | ((with_reducible apply k_pn); (· exact hS))
      | ((with_reducible apply k_pc); (· exact hS))
      | (with_reducible apply k_d <;> intro _)
      | (with_reducible apply k_b <;> intro _)
    exact ⟨i + 1, (A ++ [xds o2 n2 v2 m2 (ng l2 (xL a2))], false), rfl, rfl, rfl, by omega, by omega, hs, by simp⟩
  | none =>
    have hge := List.getElem?_eq_none_iff.1 hx
    rw [Mt_end hge, ← hR] at h5
    subst h5
    subst h6
    repeat' first
      | refine st ?_
      | ((with_reducible apply go_i); (conv => whnf))
      | (with_reducible apply k_d <;> intro _)
      | (with_reducible apply k_b <;> intro _)
    all_goals exact ⟨rfl, rfl⟩
theorem C.clone2 (nm : List UInt8) (dc dk df dx : D) (Cs Ks : List (List D)) (cn kn : Bool) (hC : CallSpec Try.prog N.slices_Clone__api_Column_api_Column [.d dc] [] (fun r os => r = .arr 0 Cs.length ∧ os = [.arr Cs 3 0 cn])) (hK : CallSpec Try.prog N.slices_Clone__int_int [.d dk] [] (fun r os => r = .arr 0 Ks.length ∧ os = [.arr Ks 1 0 kn]))
    (f0 f1 : Fi) (hf0 : f0.ok) (hf1 : f1.ok) (hd : df = .sl (eFi [f0, f1])) (l : List Ex) (hb : ∀ x ∈ l, x.bk ≤ 1048576) (hl : l.length ≤ 1048576) (hdx : SlD dx (xL l)) :
    CallSpec Try.prog N.schema_Clone [eT nm dc dk df dx] [] (fun r os => r = .agg (oB nm Cs.length Ks.length 2 (xL (l.map (shf 0))).length) ∧ os = clB [.d (.str nm), .d dc, .d dk, .d df, .d dx] (oB nm Cs.length Ks.length 2 (xL (l.map (shf 0))).length) nm Cs Ks cn kn [f0, f1] (xL (l.map (shf 0))) (xL (l.map (shf 0))).isEmpty) := by
  have h1 := xL_len l
  have hm := xL_mem l
  have hg0 := xL_get'' (args := l)
  obtain ⟨R, hR⟩ : ∃ R, R = xL (l.map (shf 0)) := ⟨_, rfl⟩
  rw [← hR]
  obtain ⟨es, hes⟩ : ∃ es, es = xL l := ⟨_, rfl⟩
  rw [← hes] at h1 hm hdx hg0
  subst hd
  obtain ⟨fd0, fe0, fn0, ft0⟩ := f0
  have hf0 : CallSpec Try.prog N.slices_Clone__int_int [.d fd0] [] (fun r os => r = .arr 0 fe0.length ∧ os = [.arr fe0 1 0 fn0]) := hf0
  obtain ⟨fd1, fe1, fn1, ft1⟩ := f1
  have hf1 : CallSpec Try.prog N.slices_Clone__int_int [.d fd1] [] (fun r os => r = .arr 0 fe1.length ∧ os = [.arr fe1 1 0 fn1]) := hf1
  rw [show eFi [⟨fd0, fe0, fn0, ft0⟩, ⟨fd1, fe1, fn1, ft1⟩] = [[fd0, .str ft0], [fd1, .str ft1]] from rfl]
  refine F.schema_Clone.goO mixed rfl ?_
  repeat' first
    | refine st ?_
    | ((with_reducible apply go_i); (conv => whnf))
    | ((with_reducible apply k_ow); (· first | exact hC | exact hK | exact hf0 | exact hf1))
    | (with_reducible apply k_d <;> intro _)
    | (with_reducible apply k_b <;> intro _)
  refine x_nilrc 4 3 2 rfl rfl rfl ?_
  refine x_nilcc 4 4 7 rfl rfl rfl ?_
  refine x_rounds 3 ?_
  refine x_round mixed ?_
  repeat' first
    | refine st ?_
    | ((with_reducible apply go_i); (conv => whnf))
    | ((with_reducible apply k_ow); (· first | exact hC | exact hK | exact hf0 | exact hf1))
    | (with_reducible apply k_d <;> intro _)
    | (with_reducible apply k_b <;> intro _)
  refine x_round mixed ?_
  repeat' first
    | refine st ?_
    | ((with_reducible apply go_i); (conv => whnf))
    | ((with_reducible apply k_ow); (· first | exact hC | exact hK | exact hf0 | exact hf1))
    | (with_reducible apply k_d <;> intro _)
    | (with_reducible apply k_b <;> intro _)
  refine x_round mixed ?_
  repeat' first
    | refine st ?_
    | ((with_reducible apply go_i); (conv => whnf))
    | ((with_reducible apply k_ow); (· first | exact hC | exact hK | exact hf0 | exact hf1))
    | (with_reducible apply k_d <;> intro _)
    | (with_reducible apply k_b <;> intro _)
  refine x_selm [2, 3, 37, 38, 39] [.ptr 1 0, .ptr 4 0, .d dx, .d (.int .i64 es.length), .d (eI 0)] [0, 1, 2, 3, 4, 5, 6, 8, 11] (clB [.d (.str nm), .d dc, .d dk, .d (.sl [[fd0, .str ft0], [fd1, .str ft1]]), .d dx] [.d (.str []), .d .nil, .d .nil, .d .nil, .d .nil] nm Cs Ks cn kn [⟨fd0, fe0, fn0, ft0⟩, ⟨fd1, fe1, fn1, ft1⟩] [] true) rfl rfl (by decide) rfl rfl rfl rfl rfl ?_
  refine x_loop2 mixed Lt.schema_Clone_l1 Lk.schema_Clone_l1 (fun (i : Nat) (w : List (List D) × Bool) => [.d (eI i)]) (fun i w => clB [.d (.str nm), .d dc, .d dk, .d (.sl [[fd0, .str ft0], [fd1, .str ft1]]), .d dx] [.d (.str []), .d .nil, .d .nil, .d .nil, .d .nil] nm Cs Ks cn kn [⟨fd0, fe0, fn0, ft0⟩, ⟨fd1, fe1, fn1, ft1⟩] w.1 w.2) (fun i w => i ≤ l.length ∧ w.1 = Mt (shf 0) l i ∧ w.2 = w.1.isEmpty) (fun i w => l.length - i) 0 ([], true) rfl rfl rfl rfl (fun _ _ _ => ⟨rfl, rfl⟩) rfl ⟨by omega, rfl, rfl⟩ ?_
  repeat' first
    | refine st ?_
    | ((with_reducible apply go_i); (conv => whnf))
    | (with_reducible apply k_d <;> intro _)
    | (with_reducible apply k_b <;> intro _)
  intro i w ⟨h4, h5, h6⟩
  obtain ⟨A, b⟩ := w
  dsimp only at h5 h6 ⊢
  have hAl : A.length = i := by rw [h5]; exact Mt_len _ l i (by omega)
  have hAm : ∀ e ∈ A, e.length = 7 := by rw [h5]; exact Mt_mem _ _ _
  cases hx : l[i]? with
  | some x =>
    have hlt := (List.getElem?_eq_some_iff.1 hx).1
    have hs := Mt_succ (φ := shf 0) hx
    have hS := C.expr_Shift x (hb x (List.mem_of_getElem? hx)) 0
    rw [← h5] at hs
    obtain ⟨z, hz⟩ : ∃ z, z = shf 0 x := ⟨_, rfl⟩
    rw [← hz] at hs hS
    obtain ⟨o1, n1, v1, m1, l1, a1⟩ := x
    obtain ⟨o2, n2, v2, m2, l2, a2⟩ := z
    have hg := hg0 _ _ _ _ _ _ _ hx
    rw [Ex.ds_mk] at hs
    rw [Ex.av_mk, Ex.av_mk] at hS
    repeat' first
      | refine st ?_
      | ((with_reducible apply go_i); (conv => whnf))
      | ((with_reducible apply k_pn); (· exact hS))
      | ((with_reducible apply k_pc); (· exact hS))
      | (with_reducible apply k_d <;> intro _)
      | (with_reducible apply k_b <;> intro _)
    exact ⟨i + 1, (A ++ [xds o2 n2 v2 m2 (ng l2 (xL a2))], false), rfl, rfl, rfl, by omega, by omega, hs, by simp⟩
  | none =>
    have hge := List.getElem?_eq_none_iff.1 hx
    rw [Mt_end hge, ← hR] at h5
    subst h5
    subst h6
    repeat' first
      | refine st ?_
      | ((with_reducible apply go_i); (conv => whnf))
      | (with_reducible apply k_d <;> intro _)
      | (with_reducible apply k_b <;> intro _)
    all_goals exact ⟨rfl, rfl⟩
end Go.Proofs
end
section
/- A function that hands back two results in objects of its own. No condition. -/
set_option linter.unusedVariables false
namespace Go.Bi
open Go

section
variable {P : Program} {n nb : Nat} {M : Mem} {G : Gh} {os : List AO} {w : World} {ρ : Rho} {a : Act}
def retOI2 (Q : AV → List AO → Prop) (rs : List RV) (ρ : Rho) (os : List AO) : Prop := resI ρ os rs fun l => match l with
  | [x, y] => x.one = true ∧ y.one = true ∧ Q (.tup [x, y]) os
  | _ => False
def retO2 (Q : AV → List AO → Prop) (rs : List RV) (L : Sl) (os : List AO) : Prop := xRes L os rs fun l => match l with
  | [x, y] => Chk (x.one = true) (Chk (y.one = true) (Q (.tup [x, y]) os))
  | _ => False
theorem resI_mono2 {ρ : Rho} {os : List AO} {K K' : List AV → Prop} (hk : ∀ l, K l → K' l) : ∀ {rs : List RV}, resI ρ os rs K → resI ρ os rs K'
  | [], h => hk _ h
  | .t s :: rs, h => resI_mono2 (rs := rs) (fun l hl => hk _ hl) h
  | .cell s m g :: rs, h => by
    simp only [resI] at h ⊢
    obtain ⟨r, h1, h2⟩ := loadI_iff h
    exact h2 _ (resI_mono2 (rs := rs) (fun l hl => hk _ hl) h1)
theorem retO2_ok {Q : AV → List AO → Prop} {rs : List RV} {L : Sl} {os : List AO} (h : retO2 Q rs L os) : retOI2 Q rs (ofL L) os := by
  have h1 := xRes_ok h
  refine resI_mono2 (fun l hl => ?_) h1
  match l, hl with
  | [x, y], hl => exact ⟨hl.1, hl.2.1, hl.2.2⟩
theorem own_ok2 {c : Ctx} (hR : Rel n nb c M G os w ρ a) {fn : Func} {rs : List RV} (hrs : fn.results.toList.mapM (cRV P) = some rs) {Q : AV → List AO → Prop} (h : retOI2 Q rs ρ os) :
    ∃ v, (results fn a.tmps).run P w = .ok v w ∧ ∃ M' G' r os', Env M' G' os' w ∧ Since c.M c.G c.os c.w M' G' os' w ∧ VA M' G' os' r v ∧ Q r os' := by
  obtain ⟨l, vs, h1, h2, h3, h4⟩ := resI_run hR.env hR.tmps _ rs hrs _ h
  match l, h1, h3, h4 with
  | [x, y], h1, h3, h4 =>
    simp only [List.length_cons, List.length_nil] at h3
    refine ⟨_, run_results h2, M, G, .tup [x, y], os, hR.env, hR.since, ?_, h1.2.2⟩
    rw [dif_neg (by omega)]
    refine ⟨vs.toArray, rfl, by simpa using h3, fun j c u hc hu => ?_⟩
    have hu : vs[j]? = some u := by simpa using hu
    match j, hc with
    | 0, hc => cases hc; exact one_vg (h4 0 _ u rfl hu) h1.1
    | 1, hc => cases hc; exact one_vg (h4 1 _ u rfl hu) h1.2.1
    | j + 2, hc => simp at hc
theorem fn_own2 (hm : P.follows .mixedOrders = true) {f : FuncId} {fn : Func} {code : Code} {ic : IC} {rs : List RV} (hf : P.funcs[f]? = some fn) (hname : fn.name ≠ "runtime.NumGoroutine") (hb : fn.body = some code) (hc : cC P fn.ntmps code = some ic)
    (hrs : fn.results.toList.mapM (cRV P) = some rs) {args : List AV} {bs : List AO} (hargs : args.length ≤ fn.ntmps) {Q : AV → List AO → Prop}
    (h : wpI P fn.ntmps bs.length ic { norm := retOI2 Q rs, exit := fun _ _ _ => False, ret := retOI2 Q rs } (argsRho args) bs) : CallSpec P f args bs Q := by
  refine ⟨⟨fn, hf, by rw [hb]; rfl, hname⟩, fun M G w vs he hl hv => ?_⟩
  refine calls_of_wp hf hb (wp_mono (wpI_tri hm code ic hc _ _ _ h ⟨M, G, bs, w⟩ M G w { tmps := vs ++ Array.replicate (fn.ntmps - vs.size) undef, defers := [] } ?_) fun e a' w' hp => ?_)
  · exact {
      env := he, since := Since.refl .., size := by simp; omega, defers := rfl, base := rfl
      tmps := fun t => by
        unfold argsRho
        by_cases ht : t < args.length
        · have h1 : (vs ++ Array.replicate (fn.ntmps - vs.size) undef).getD t undef = vs[t] := by
            simp [Array.getElem?_append_left (show t < vs.size by omega), show t < vs.size by omega]
          have h2 : args.getD t .junk = args[t] := by simp [ht]
          show VA M G bs (args.getD t .junk) ((vs ++ Array.replicate (fn.ntmps - vs.size) undef).getD t undef)
          rw [h1, h2]
          have := hv t args[t] vs[t] (List.getElem?_eq_getElem ht) (Array.getElem?_eq_getElem (by omega))
          generalize args[t] = c at this
          cases c with
          | tup cs => exact this.elim
          | junk => trivial
          | _ => exact this
        · have : args.getD t .junk = .junk := by simp [List.getD_eq_getElem?_getD, List.getElem?_eq_none (Nat.le_of_not_lt ht)]
          rw [this]
          trivial }
  · have fin : Fits fn.ntmps bs.length ⟨M, G, bs, w⟩ (retOI2 Q rs) a' w' → a'.defers = [] ∧ ∃ v, (results fn a'.tmps).run P w' = .ok v w' ∧ ∃ v', Ending.returned v = .returned v' ∧ ∃ M' G' r os', Env M' G' os' w' ∧ Since M G bs w M' G' os' w' ∧ VA M' G' os' r v' ∧ Q r os' := by
      rintro ⟨M', G', os', ρ', hR, hk⟩
      obtain ⟨v, h1, h2⟩ := own_ok2 hR hrs hk
      exact ⟨hR.defers, v, h1, v, rfl, h2⟩
    cases e with
    | normal => exact fin hp
    | ret => exact fin hp
    | exit id => obtain ⟨_, _, _, _, _, hk⟩ := hp; exact hk.elim
    | _ => exact hp.elim
end

theorem IsFn.goO2 {P : Program} (hm : P.follows .mixedOrders = true) {f n : Nat} {ic : IC} {rs : List RV} (h : IsFn P f n ic rs) {args : List AV} {bs : List AO} (hargs : Nat.ble args.length n = true) {Q : AV → List AO → Prop}
    (hw : Go (xI P n bs.length ic (retO2 Q rs) (fun _ _ _ => False) (retO2 Q rs) (argsL 0 args) bs)) : CallSpec P f args bs Q := by
  obtain ⟨fn, h1, h2, h3, h4, h5⟩ := h
  obtain ⟨code, hb, hc⟩ := Option.bind_eq_some_iff.1 h4
  subst h2
  refine fn_own2 hm h1 (by simpa using h3) hb hc h5 (Nat.le_of_ble_eq_true hargs) ?_
  rw [ofL_args]
  exact xI_ok (K := ⟨retO2 Q rs, fun _ _ _ => False, retO2 Q rs⟩) ⟨fun L os h => retO2_ok h, fun _ _ _ h => h, fun L os h => retO2_ok h⟩ hw
end Go.Bi
end
section
/- A change is applied: errors; additions to a definition without foreign keys. No condition. -/
set_option linter.unusedSimpArgs false
set_option linter.unusedVariables false
set_option maxRecDepth 10000
set_option maxHeartbeats 4000000
namespace Go.Proofs
open Go.Bi

theorem C.apply_err (t : Tb) (dc dk df dx : D) (h : Tok t dc dk df dx) (c : Ch) (hc : Cok c) (hq : evoE t c ≠ 0) : Pure Try.prog N.evolve_Apply [eT t.nm dc dk df dx, c.av] (.tup [eT [] .nil .nil .nil .nil, .d (eI (evoE t c))]) := by
  have hC := C.evolve_Check t dc dk df dx h c hc
  obtain ⟨q, hqq⟩ : ∃ q, q = evoE t c := ⟨_, rfl⟩
  rw [← hqq] at hC hq ⊢
  obtain ⟨k, nm, to, ⟨cn, ck, cl⟩, ⟨vk, vn, vs⟩⟩ := c
  refine F.evolve_Apply.go mixed rfl ?_
  repeat' first
    | refine st ?_
    | ((with_reducible apply go_i); (conv => whnf))
    | ((with_reducible apply k_pn); (· exact hC))
    | ((with_reducible apply k_pc); (· exact hC))
    | (with_reducible apply k_d <;> intro _)
    | (with_reducible apply k_b <;> intro _)
  all_goals rfl
theorem C.apply0_add (t : Tb) (dc dk df dx : D) (h : Tok t dc dk df dx) (c : Ch) (hc : Cok c) (hq : evoE t c = 0) (hfs : t.fs = []) (hk : c.k = 1) :
    CallSpec Try.prog N.evolve_Apply [eT t.nm dc dk df dx, c.av] [] (fun r os => ∃ os0, r = .tup [.agg [.d (.str t.nm), .arr 5 (eCs (t.cs ++ [c.co])).length, .arr 6 (eIs t.ks).length, .rs 8 0, .arr 9 (xL (t.xs.map (shf 0))).length], .d (eI 0)] ∧
      os[5]? = some (.arr (eCs (t.cs ++ [c.co])) 3 0 false) ∧ os[6]? = some (.arr (eIs t.ks) 1 0 (isN dk)) ∧ os[8]? = some (.rarr [] 2 true) ∧ os[9]? = some (.arr (xL (t.xs.map (shf 0))) 7 0 (xL (t.xs.map (shf 0))).isEmpty) ∧ os = os0) := by
  have hC := C.evolve_Check t dc dk df dx h c hc
  rw [hq] at hC
  have hF := C.schema_Find t.nm t.cs h.hl dc dk df dx h.dc c.nm
  have hl := h.hl
  have hdf := h.df
  rw [hfs] at hdf
  have hK := C.clone0 t.nm dc dk df dx (eCs t.cs) (eIs t.ks) (isN dc) (isN dk) (C.cloneC _ (by rw [eCs_len]; omega) (eCs_mem _) dc h.dc) (C.cloneI _ (by rw [eIs_len]; have := h.hk; omega) (eIs_mem _) dk h.dk) hdf t.xs h.hxb h.hxs h.dx
  have e1 : eCs (t.cs ++ [c.co]) = eCs t.cs ++ [c.co.ds] := by simp [eCs]
  rw [e1]
  have hcl := eCs_len t.cs
  obtain ⟨k, nm, to, ⟨cn, ck, cl⟩, ⟨vk, vn, vs⟩⟩ := c
  dsimp only at hk
  subst hk
  obtain ⟨f, hf⟩ : ∃ f, f = findC nm t.cs := ⟨_, rfl⟩
  have hF : Bi.Pure Try.prog N.schema_Find [eT t.nm dc dk df dx, .d (.str nm)] (.d (eI f)) := by rw [hf]; exact hF
  obtain ⟨Cs, hCs⟩ : ∃ x, x = eCs t.cs := ⟨_, rfl⟩
  obtain ⟨Ks, hKs⟩ : ∃ x, x = eIs t.ks := ⟨_, rfl⟩
  obtain ⟨Xs, hXs⟩ : ∃ x, x = xL (t.xs.map (shf 0)) := ⟨_, rfl⟩
  rw [← hCs, ← hKs, ← hXs] at hK
  rw [← hCs] at hcl ⊢
  rw [← hKs, ← hXs]
  obtain ⟨b1, hb1⟩ : ∃ b, b = isN dc := ⟨_, rfl⟩
  obtain ⟨b2, hb2⟩ : ∃ b, b = isN dk := ⟨_, rfl⟩
  rw [← hb1, ← hb2] at hK
  rw [← hb2]
  refine F.evolve_Apply.goO2 mixed rfl ?_
  repeat' first
    | refine st ?_
    | ((with_reducible apply go_i); (conv => whnf))
    | ((with_reducible apply k_pn); (· first | exact hC | exact hF))
    | ((with_reducible apply k_pc); (· first | exact hC | exact hF))
    | ((with_reducible apply k_nc); (· first | exact hK); (try rintro _ _ ⟨rfl, rfl⟩))
    | ((with_reducible apply k_pr); (· first | exact hK))
    | ((with_reducible apply k_cs); (· first | exact hK); (try rintro _ _ ⟨rfl, rfl⟩))
    | ((with_reducible apply k_cal); refine st ?_; (with_reducible apply k_chk); (· exact rfl); refine st ?_; (with_reducible apply k_cs); (· first | exact hK); (try rintro _ _ ⟨rfl, rfl⟩))
    | (with_reducible apply k_d <;> intro _)
    | (with_reducible apply k_b <;> intro _)
  exact ⟨_, rfl, rfl, rfl, rfl, rfl, rfl⟩
end Go.Proofs
end
section
/- A change is applied: as data. No condition. -/
set_option linter.unusedSimpArgs false
set_option linter.unusedVariables false
set_option maxRecDepth 10000
set_option maxHeartbeats 4000000
namespace Go.Proofs
open Go.Bi

/-- A table in objects of one's own, as data: without foreign keys. -/
theorem da_tab {os : List AO} {nm : List UInt8} {a b f x : Nat} {C K X : List (List D)} {cn kn xn : Bool} {cz kz xz : Nat} {cf kf xf : Nat} {e : D}
    (h1 : os[a]? = some (.arr C cz cf cn)) (h2 : os[b]? = some (.arr K kz kf kn)) (h3 : os[f]? = some (.rarr [] 2 true)) (h4 : os[x]? = some (.arr X xz xf xn)) :
    DA os (.tup [.agg [.d (.str nm), .arr a C.length, .arr b K.length, .rs f 0, .arr x X.length], .d e]) (.tup [eT nm (slD cn C) (slD kn K) .nil (slD xn X), .d e]) := by
  refine .inr ⟨_, _, rfl, rfl, rfl, fun j c y hc hy => ?_⟩
  match j, hc, hy with
  | 0, hc, hy =>
    cases hc; cases hy
    refine .inr ⟨_, [.str nm, slD cn C, slD kn K, .nil, slD xn X], rfl, rfl, rfl, fun j c y hc hy => ?_⟩
    match j, hc, hy with
    | 0, hc, hy => cases hc; cases hy; exact .inl (.inl rfl)
    | 1, hc, hy => cases hc; cases hy; exact .inl (.inr ⟨a, C, cz, cf, cn, rfl, h1, rfl⟩)
    | 2, hc, hy => cases hc; cases hy; exact .inl (.inr ⟨b, K, kz, kf, kn, rfl, h2, rfl⟩)
    | 3, hc, hy => cases hc; cases hy; exact .inr ⟨f, [], 2, true, [], rfl, h3, rfl, fun i e e' he => by simp at he, rfl⟩
    | 4, hc, hy => cases hc; cases hy; exact .inl (.inr ⟨x, X, xz, xf, xn, rfl, h4, rfl⟩)
    | j + 5, hc, hy => simp at hc
  | 1, hc, hy => cases hc; cases hy; exact .inl ⟨e, .inl (.inl rfl), rfl⟩
  | j + 2, hc, hy => simp at hc
theorem C.apply0_addP (t : Tb) (dc dk df dx : D) (h : Tok t dc dk df dx) (c : Ch) (hc : Cok c) (hq : evoE t c = 0) (hfs : t.fs = []) (hk : c.k = 1) :
    Pure Try.prog N.evolve_Apply [eT t.nm dc dk df dx, c.av] (.tup [eT t.nm (.sl (eCs (t.cs ++ [c.co]))) (slD (isN dk) (eIs t.ks)) .nil (slD (xL (t.xs.map (shf 0))).isEmpty (xL (t.xs.map (shf 0)))), .d (eI 0)]) := by
  refine CallSpec.deepP (C.apply0_add t dc dk df dx h c hc hq hfs hk) ?_
  rintro r os ⟨os0, rfl, h1, h2, h3, h4, _⟩
  exact da_tab h1 h2 h3 h4
end Go.Proofs
end
section
/- A column is removed from a definition without foreign keys. No condition. -/
set_option linter.unusedSimpArgs false
set_option linter.unusedVariables false
set_option maxRecDepth 10000
set_option maxHeartbeats 4000000
namespace Go.Proofs
open Go.Bi

theorem C.drop0_lift (T0 T1 T2 T3 T4 T7 : AO) (nm : List UInt8) (es : List (List D)) (hm : ∀ e ∈ es, e.length = 3) (i : Nat) (hi : i < es.length) (hel : es.length ≤ 1048576) (ks : List Int) (hkb : ∀ k ∈ ks, 0 ≤ k ∧ k ≤ 1048576) (hkl : ks.length ≤ 1048576) (kn : Bool) (hkn : kn = true → ks = []) (xs : List Ex) (hxl : xs.length ≤ 1048576) (hxb : ∀ e ∈ xs, e.bk ≤ 1048576) (xn : Bool) (hxn : xn = true → xs = []) :
    CallSpec Try.prog N.evolve_drop [.ptr 10 0, .d (eI i)] [T0, T1, T2, T3, T4, .arr es 3 0 false, .arr (eIs ks) 1 0 kn, T7, .rarr [] 2 true, .arr (xL xs) 7 0 xn, .cells [.d (.str nm), .arr 5 es.length, .arr 6 (eIs ks).length, .rs 8 0, .arr 9 (xL xs).length]]
      (fun r os => r = .tup [] ∧ os = [T0, T1, T2, T3, T4, .arr (es.eraseIdx i ++ [zRow]) 3 (es.length - 1) false, .arr (eIs (ks.map fun c => belowI c i)) 1 0 kn, T7, .rarr [] 2 true, .arr (xL (xs.map (subX (mvL es.length i)))) 7 0 xn,
        .cells [.d (.str nm), .d (.sl (es.eraseIdx i)), .arr 6 (eIs ks).length, .rs 8 0, .arr 9 (xL xs).length]]) := by
  have := CallSpec.frame (K := fun r os => r = .tup [] ∧ os = [T0, T1, T2, T3, T4, .arr (es.eraseIdx i ++ [zRow]) 3 (es.length - 1) false, .arr (eIs (ks.map fun c => belowI c i)) 1 0 kn, T7, .rarr [] 2 true, .arr (xL (xs.map (subX (mvL es.length i)))) 7 0 xn,
        .cells [.d (.str nm), .d (.sl (es.eraseIdx i)), .arr 6 (eIs ks).length, .rs 8 0, .arr 9 (xL xs).length]]) (C.drop0 nm es hm i hi hel ks hkb hkl kn hkn xs hxl hxb xn hxn) [10, 5, 6, 8, 9]
    [T0, T1, T2, T3, T4, .arr es 3 0 false, .arr (eIs ks) 1 0 kn, T7, .rarr [] 2 true, .arr (xL xs) 7 0 xn, .cells [.d (.str nm), .arr 5 es.length, .arr 6 (eIs ks).length, .rs 8 0, .arr 9 (xL xs).length]] rfl (by decide) (fun i o h => by
      match i, h with
      | 0, h => cases h; rfl
      | 1, h => cases h; rfl
      | 2, h => cases h; rfl
      | 3, h => cases h; rfl
      | 4, h => cases h; rfl
      | i + 5, h => simp at h) (fun a ha => by
        simp only [List.mem_cons, List.not_mem_nil, or_false] at ha
        rcases ha with rfl | rfl <;> simp [AV.bnd2, AV.bnd1]) (fun o ho => by
        simp only [List.mem_cons, List.not_mem_nil, or_false] at ho
        rcases ho with rfl | rfl | rfl | rfl | rfl
        · exact bndo_of rfl
        · exact bndo_of rfl
        · exact bndo_of rfl
        · exact bndo_of rfl
        · exact bndo_of rfl) (by
      rintro r bs' ⟨rfl, rfl⟩
      exact ⟨rfl, rfl⟩)
  exact this
end Go.Proofs
end
section
/- A removal is applied to a definition without foreign keys. No condition. -/
set_option linter.unusedSimpArgs false
set_option linter.unusedVariables false
set_option maxRecDepth 10000
set_option maxHeartbeats 4000000
namespace Go.Proofs
open Go.Bi

theorem C.apply0_drop (t : Tb) (dc dk df dx : D) (h : Tok t dc dk df dx) (c : Ch) (hc : Cok c) (hq : evoE t c = 0) (hfs : t.fs = []) (hk : c.k = 2) (i : Nat) (hi : findC c.nm t.cs = i) (hil : i < t.cs.length) (hdc : dc = .sl (eCs t.cs)) (hkb : ∀ k ∈ t.ks, 0 ≤ k ∧ k ≤ 1048576) (hxb : ∀ e ∈ t.xs.map (shf 0), e.bk ≤ 1048576) :
    Pure Try.prog N.evolve_Apply [eT t.nm dc dk df dx, c.av] (.tup [eT t.nm (.sl ((eCs t.cs).eraseIdx i)) (slD (isN dk) (eIs (t.ks.map fun c => belowI c i))) .nil (slD (xL (t.xs.map (shf 0))).isEmpty (xL ((t.xs.map (shf 0)).map (subX (mvL t.cs.length i))))), .d (eI 0)]) := by
  have hC := C.evolve_Check t dc dk df dx h c hc
  rw [hq] at hC
  have hF := C.schema_Find t.nm t.cs h.hl dc dk df dx h.dc c.nm
  rw [hi] at hF
  have hl := h.hl
  have hdf := h.df
  rw [hfs] at hdf
  have hkN : isN dk = true → t.ks = [] := by
    intro hh
    rcases h.dk with ⟨_, h2⟩ | h2
    · cases hks : t.ks with
      | nil => rfl
      | cons a l => rw [hks] at h2; cases h2
    · rw [h2] at hh; cases hh
  have hxN : (xL (t.xs.map (shf 0))).isEmpty = true → t.xs.map (shf 0) = [] := by
    intro hh
    cases hx : t.xs.map (shf 0) with
    | nil => rfl
    | cons a l => rw [hx] at hh; cases hh
  have hK := C.clone0 t.nm dc dk df dx (eCs t.cs) (eIs t.ks) (isN dc) (isN dk) (C.cloneC _ (by rw [eCs_len]; omega) (eCs_mem _) dc h.dc) (C.cloneI _ (by rw [eIs_len]; have := h.hk; omega) (eIs_mem _) dk h.dk) hdf t.xs h.hxb h.hxs h.dx
  rw [show isN dc = false by rw [hdc]; rfl] at hK
  have hcl := eCs_len t.cs
  have hD := fun T0 T1 T2 T3 T4 T7 => C.drop0_lift T0 T1 T2 T3 T4 T7 t.nm (eCs t.cs) (eCs_mem _) i (by rw [hcl]; exact hil) (by rw [hcl]; exact hl) t.ks hkb h.hk (isN dk) hkN (t.xs.map (shf 0)) (by rw [List.length_map]; exact h.hxs) hxb _ hxN
  rw [hcl] at hD
  have hkl2 : (eIs (t.ks.map fun c => belowI c i)).length = (eIs t.ks).length := by rw [eIs_len, eIs_len, List.length_map]
  have hxl2 : (xL ((t.xs.map (shf 0)).map (subX (mvL t.cs.length i)))).length = (xL (t.xs.map (shf 0))).length := by rw [xL_len, xL_len, List.length_map]
  obtain ⟨k, nm, to, ⟨cn, ck, cl⟩, ⟨vk, vn, vs⟩⟩ := c
  dsimp only at hk
  subst hk
  have hF : Bi.Pure Try.prog N.schema_Find [eT t.nm dc dk df dx, .d (.str nm)] (.d (eI i)) := hF
  rw [hcl] at hK
  obtain ⟨Cs, hCs⟩ : ∃ x, x = eCs t.cs := ⟨_, rfl⟩
  obtain ⟨Ks, hKs⟩ : ∃ x, x = eIs t.ks := ⟨_, rfl⟩
  obtain ⟨Xs, hXs⟩ : ∃ x, x = xL (t.xs.map (shf 0)) := ⟨_, rfl⟩
  obtain ⟨K2, hK2⟩ : ∃ x, x = eIs (t.ks.map fun c => belowI c i) := ⟨_, rfl⟩
  obtain ⟨X2, hX2⟩ : ∃ x, x = xL ((t.xs.map (shf 0)).map (subX (mvL t.cs.length i))) := ⟨_, rfl⟩
  obtain ⟨E2, hE2⟩ : ∃ x, x = (eCs t.cs).eraseIdx i := ⟨_, rfl⟩
  obtain ⟨b2, hb2⟩ : ∃ b, b = isN dk := ⟨_, rfl⟩
  rw [← hE2, ← hK2, ← hX2, ← hCs, ← hKs, ← hXs, ← hb2] at hD
  rw [← hK2, ← hKs] at hkl2
  rw [← hX2, ← hXs] at hxl2
  rw [← hCs, ← hKs, ← hXs, ← hb2] at hK
  rw [← hE2, ← hK2, ← hX2, ← hXs, ← hb2]
  refine CallSpec.deepP (Q := fun r os => r = .tup [.agg [.d (.str t.nm), .d (.sl E2), .arr 6 K2.length, .rs 8 0, .arr 9 X2.length], .d (eI 0)] ∧ os[6]? = some (.arr K2 1 0 b2) ∧ os[8]? = some (.rarr [] 2 true) ∧ os[9]? = some (.arr X2 7 0 Xs.isEmpty)) ?_ ?_
  · rw [hkl2, hxl2]
    refine F.evolve_Apply.goO2 mixed rfl ?_
    repeat' first
      | refine st ?_
      | ((with_reducible apply go_i); (conv => whnf))
      | ((with_reducible apply k_pn); (· first | exact hC | exact hF))
      | ((with_reducible apply k_pc); (· first | exact hC | exact hF))
      | ((with_reducible apply k_nc); (· first | exact hK | exact hD _ _ _ _ _ _); (try rintro _ _ ⟨rfl, rfl⟩))
      | ((with_reducible apply k_pr); (· first | exact hK | exact hD _ _ _ _ _ _))
      | ((with_reducible apply k_cs); (· first | exact hK | exact hD _ _ _ _ _ _); (try rintro _ _ ⟨rfl, rfl⟩))
      | ((with_reducible apply k_cal); refine st ?_; (with_reducible apply k_chk); (· exact rfl); refine st ?_; (with_reducible apply k_cs); (· first | exact hK | exact hD _ _ _ _ _ _); (try rintro _ _ ⟨rfl, rfl⟩))
      | (with_reducible apply k_d <;> intro _)
      | (with_reducible apply k_b <;> intro _)
    exact ⟨rfl, rfl, rfl, rfl⟩
  · rintro r os ⟨rfl, h1, h2, h3⟩
    refine .inr ⟨_, _, rfl, rfl, rfl, fun j c y hc hy => ?_⟩
    match j, hc, hy with
    | 0, hc, hy =>
      cases hc; cases hy
      refine .inr ⟨_, [.str t.nm, .sl E2, slD b2 K2, .nil, slD Xs.isEmpty X2], rfl, rfl, rfl, fun j c y hc hy => ?_⟩
      match j, hc, hy with
      | 0, hc, hy => cases hc; cases hy; exact .inl (.inl rfl)
      | 1, hc, hy => cases hc; cases hy; exact .inl (.inl rfl)
      | 2, hc, hy => cases hc; cases hy; exact .inl (.inr ⟨6, K2, 1, 0, b2, rfl, h1, rfl⟩)
      | 3, hc, hy => cases hc; cases hy; exact .inr ⟨8, [], 2, true, [], rfl, h2, rfl, fun i e e' he => by simp at he, rfl⟩
      | 4, hc, hy => cases hc; cases hy; exact .inl (.inr ⟨9, X2, 7, 0, Xs.isEmpty, rfl, h3, rfl⟩)
      | j + 5, hc, hy => simp at hc
    | 1, hc, hy => cases hc; cases hy; exact .inl ⟨eI 0, .inl (.inl rfl), rfl⟩
    | j + 2, hc, hy => simp at hc
end Go.Proofs
end
section
/- The examples of chapter 14. No condition. -/
set_option linter.unusedSimpArgs false
set_option linter.unusedVariables false
set_option maxRecDepth 10000
set_option maxHeartbeats 4000000
namespace Go.Proofs
open Go.Bi

def smT : Tb := ⟨[116], [⟨[97], 1, false⟩, ⟨[98], 2, true⟩], [0], [], []⟩
def smU : Tb := ⟨[116], [⟨[98], 2, false⟩, ⟨[97], 1, false⟩, ⟨[99], 1, false⟩], [1], [], []⟩
def ch1 : Ch := ⟨1, [], [], ⟨[99], 1, true⟩, ⟨1, 7, []⟩⟩
def ch2 : Ch := ⟨2, [98], [], ⟨[], 0, false⟩, ⟨0, 0, []⟩⟩
def ch3 : Ch := ⟨2, [97], [], ⟨[], 0, false⟩, ⟨0, 0, []⟩⟩
def ch4 : Ch := ⟨2, [99], [], ⟨[], 0, false⟩, ⟨0, 0, []⟩⟩
theorem smT_ok : Tok smT (.sl (eCs smT.cs)) (.sl (eIs smT.ks)) .nil .nil :=
  ⟨by decide, by decide, by decide, by decide, by decide, fun f hf => by simp [smT] at hf, by decide, fun e he => by simp [smT] at he, sld_sl, sld_sl, sld_nil, sld_nil⟩
theorem smU_ok : Tok smU (.sl (eCs smU.cs)) (.sl (eIs smU.ks)) .nil .nil :=
  ⟨by decide, by decide, by decide, by decide, by decide, fun f hf => by simp [smU] at hf, by decide, fun e he => by simp [smU] at he, sld_sl, sld_sl, sld_nil, sld_nil⟩
theorem ch_ok : Cok ch1 ∧ Cok ch2 ∧ Cok ch3 ∧ Cok ch4 := ⟨⟨by decide, by decide, by decide, by decide⟩, ⟨by decide, by decide, by decide, by decide⟩, ⟨by decide, by decide, by decide, by decide⟩, ⟨by decide, by decide, by decide, by decide⟩⟩
theorem evo1 : evoE smT ch1 = 0 := by kernel_rfl
theorem evo2 : evoE smU ch2 = 0 := by kernel_rfl
theorem evo3 : evoE smT ch3 = 25 := by kernel_rfl
theorem evo4 : evoE smT ch4 = 11 := by kernel_rfl
theorem C.law14_sample : Pure Try.prog N.bt_law14_sample [] (eT smT.nm (.sl (eCs smT.cs)) (.sl (eIs smT.ks)) .nil .nil) := by
  refine F.bt_law14_sample.go mixed rfl ?_
  repeat' first
    | refine st ?_
    | ((with_reducible apply go_i); (conv => whnf))
    | (with_reducible apply k_d <;> intro _)
    | (with_reducible apply k_b <;> intro _)
  all_goals rfl
theorem C.law14_awake : Pure Try.prog N.bt_law14_awake [] (.d (.bool true)) := by
  have hS := C.law14_sample
  have hI : Bi.Pure Try.prog N.bt_ref07_Int [.d (eI 7)] (eV ⟨1, 7, []⟩) := C.r7_Int 7
  have hA := C.apply0_addP smT _ _ _ _ smT_ok ch1 ch_ok.1 evo1 rfl rfl
  have hB := C.apply0_drop smU _ _ _ _ smU_ok ch2 ch_ok.2.1 evo2 rfl rfl 0 (by kernel_rfl) (by decide) rfl (by decide) (fun e he => by simp [smU] at he)
  have hC := C.evolve_Check smT _ _ _ _ smT_ok ch3 ch_ok.2.2.1
  have hD := C.evolve_Check smT _ _ _ _ smT_ok ch4 ch_ok.2.2.2
  have e0 : eIs (smU.ks.map fun c => belowI c ((0 : Nat) : Int)) = [[eI 0]] := by rfl
  rw [e0] at hB
  rw [evo3] at hC
  rw [evo4] at hD
  refine F.bt_law14_awake.go mixed rfl ?_
  repeat' first
    | refine st ?_
    | ((with_reducible apply go_i); (conv => whnf))
    | ((with_reducible apply k_pn); (· first | exact hS | exact hI | exact hA | exact hB | exact hC | exact hD))
    | ((with_reducible apply k_pc); (· first | exact hS | exact hI | exact hA | exact hB | exact hC | exact hD))
    | (with_reducible apply k_d <;> intro _)
    | (with_reducible apply k_b <;> intro _)
  all_goals rfl
end Go.Proofs
end
section
/- What the laws are handed: definitions of tables. No condition. -/
set_option linter.unusedSimpArgs false
set_option linter.unusedVariables false
set_option maxRecDepth 10000
set_option maxHeartbeats 4000000
namespace Go.Proofs
open Go.Bi

abbrev T.co : TypeId := 29
abbrev T.cos : TypeId := 22
abbrev T.fo : TypeId := 62
abbrev T.fos : TypeId := 24
abbrev T.tb : TypeId := 27
theorem cells_co : Try.prog.cellsOf T.co = 3 := by kernel_rfl
theorem cells_cos : Try.prog.cellsOf T.cos = 1 := by kernel_rfl
theorem cells_ints : Try.prog.cellsOf T.ints = 1 := by kernel_rfl
theorem cells_fo : Try.prog.cellsOf T.fo = 2 := by kernel_rfl
theorem cells_fos : Try.prog.cellsOf T.fos = 1 := by kernel_rfl
theorem cells_tb : Try.prog.cellsOf T.tb = 5 := by kernel_rfl
theorem wt_co {ds : List D} (h : WT Try.prog T.co ds) : ∃ c : Co, ds = c.ds := by
  obtain ⟨hl, hf⟩ := h.st' Try.underlying29
  rw [cells_co] at hl
  match ds, hl with
  | [x, y, z], _ =>
    have h0 := hf _ (List.mem_cons_self ..)
    have h1 := hf _ (List.mem_cons_of_mem _ (List.mem_cons_self ..))
    have h2 := hf _ (List.mem_cons_of_mem _ (List.mem_cons_of_mem _ (List.mem_cons_self ..)))
    dsimp only at h0 h1 h2
    rw [cells_str] at h0
    rw [cells_int] at h1
    rw [cells_bool] at h2
    obtain ⟨a, ha⟩ := wt_str h0
    obtain ⟨b, hb⟩ := wt_int h1
    obtain ⟨s, hs⟩ := wt_bool h2
    simp at ha hb hs
    exact ⟨⟨a, b, s⟩, by rw [ha, hb, hs]⟩
theorem wt_cos {ds : List D} (h : WT Try.prog T.cos ds) : ∃ d l, ds = [d] ∧ SlD d (eCs l) := by
  obtain ⟨d, es, h1, h2, h4, h3⟩ := h.sl' Try.underlying22
  have : ∃ l, es = eCs l := by
    clear h1 h2 h4
    induction es with
    | nil => exact ⟨[], rfl⟩
    | cons x es ih =>
      obtain ⟨n, hn⟩ := wt_co (h3 x (by simp))
      obtain ⟨ks, hk⟩ := ih fun y hy => h3 y (by simp [hy])
      exact ⟨n :: ks, by rw [hn, hk]; rfl⟩
  obtain ⟨ks, rfl⟩ := this
  exact ⟨d, ks, h1, h2⟩
theorem wt_fo {ds : List D} (h : WT Try.prog T.fo ds) : ∃ f : Fo, ds = f.ds := by
  obtain ⟨hl, hf⟩ := h.st' Try.underlying62
  rw [cells_fo] at hl
  match ds, hl with
  | [x, y], _ =>
    have h0 := hf _ (List.mem_cons_self ..)
    have h1 := hf _ (List.mem_cons_of_mem _ (List.mem_cons_self ..))
    dsimp only at h0 h1
    rw [cells_ints] at h0
    rw [cells_str] at h1
    obtain ⟨d, ks, ha, hd⟩ := wt_ints h0
    obtain ⟨s, hs⟩ := wt_str h1
    simp at ha hs
    rcases hd with ⟨rfl, he⟩ | rfl
    · have : ks = [] := by cases ks with
        | nil => rfl
        | cons k ks => cases he
      subst this
      exact ⟨⟨true, [], s⟩, by rw [ha, hs]; rfl⟩
    · exact ⟨⟨false, ks, s⟩, by rw [ha, hs]; rfl⟩
theorem wt_fos {ds : List D} (h : WT Try.prog T.fos ds) : ∃ d l, ds = [d] ∧ SlD d (eFs l) := by
  obtain ⟨d, es, h1, h2, h4, h3⟩ := h.sl' Try.underlying24
  have : ∃ l, es = eFs l := by
    clear h1 h2 h4
    induction es with
    | nil => exact ⟨[], rfl⟩
    | cons x es ih =>
      obtain ⟨n, hn⟩ := wt_fo (h3 x (by simp))
      obtain ⟨ks, hk⟩ := ih fun y hy => h3 y (by simp [hy])
      exact ⟨n :: ks, by rw [hn, hk]; rfl⟩
  obtain ⟨ks, rfl⟩ := this
  exact ⟨d, ks, h1, h2⟩
theorem wt_exs {ds : List D} (h : WT Try.prog T.exs ds) : ∃ d l, ds = [d] ∧ SlD d (xL l) := by
  obtain ⟨nl, args, h⟩ := (wt_ex' h).2 rfl
  exact ⟨_, args, h, sld_ng⟩
theorem wt_tb {ds : List D} (h : WT Try.prog T.tb ds) : ∃ (t : Tb) (dc dk df dx : D), ds = [.str t.nm, dc, dk, df, dx] ∧ SlD dc (eCs t.cs) ∧ SlD dk (eIs t.ks) ∧ SlD df (eFs t.fs) ∧ SlD dx (xL t.xs) := by
  obtain ⟨hl, hf⟩ := h.st' Try.underlying27
  rw [cells_tb] at hl
  match ds, hl with
  | [d0, d1, d2, d3, d4], _ =>
    have h0 := hf _ (List.mem_cons_self ..)
    have h1 := hf _ (List.mem_cons_of_mem _ (List.mem_cons_self ..))
    have h2 := hf _ (List.mem_cons_of_mem _ (List.mem_cons_of_mem _ (List.mem_cons_self ..)))
    have h3 := hf _ (List.mem_cons_of_mem _ (List.mem_cons_of_mem _ (List.mem_cons_of_mem _ (List.mem_cons_self ..))))
    have h4 := hf _ (List.mem_cons_of_mem _ (List.mem_cons_of_mem _ (List.mem_cons_of_mem _ (List.mem_cons_of_mem _ (List.mem_cons_self ..)))))
    dsimp only at h0 h1 h2 h3 h4
    rw [cells_str] at h0
    rw [cells_cos] at h1
    rw [cells_ints] at h2
    rw [cells_fos] at h3
    rw [cells_exs] at h4
    obtain ⟨s, hs⟩ := wt_str h0
    obtain ⟨dc, l, h1, hc⟩ := wt_cos h1
    obtain ⟨dk, ks, h2, hk⟩ := wt_ints h2
    obtain ⟨df, fs, h3, hf⟩ := wt_fos h3
    obtain ⟨dx, xs, h4, hx⟩ := wt_exs h4
    simp at hs h1 h2 h3 h4
    exact ⟨⟨s, l, ks, fs, xs⟩, dc, dk, df, dx, by rw [hs, h1, h2, h3, h4], hc, hk, hf, hx⟩
theorem av_tb (n dc dk df dx : D) : avOf Try.prog T.tb [n, dc, dk, df, dx] = .agg [.d n, .d dc, .d dk, .d df, .d dx] := by unfold avOf; rw [Try.underlying27]; rfl
theorem av_str (d : D) : avOf Try.prog T.str [d] = .d d := by unfold avOf; rw [Try.underlying9]
theorem cos_bulk {d : D} {l : List Co} (h : SlD d (eCs l)) : l.length ≤ bulkL [d] ∧ ∀ v ∈ l, v.nm.length ≤ bulkL [d] := by
  have h1 := sld_bulk h
  have h2 : (eCs l).length ≤ bulkLL (eCs l) := bulkLL_len fun x hx => by
    obtain ⟨k, _, rfl⟩ := List.mem_map.1 hx
    simp only [Co.ds, bulkL, bulkD]; omega
  rw [eCs_len] at h2
  refine ⟨by omega, fun v hv => ?_⟩
  have h3 : bulkL v.ds ≤ bulkLL (eCs l) := bulkLL_mem (List.mem_map.2 ⟨v, hv, rfl⟩)
  have h4 : v.nm.length ≤ bulkL v.ds := by simp only [Co.ds, bulkL, bulkD]; omega
  omega
theorem fos_bulk {d : D} {l : List Fo} (h : SlD d (eFs l)) : l.length ≤ bulkL [d] ∧ ∀ f ∈ l, f.cs.length ≤ bulkL [d] ∧ f.tb.length ≤ bulkL [d] := by
  have h1 := sld_bulk h
  have h2 : (eFs l).length ≤ bulkLL (eFs l) := bulkLL_len fun x hx => by
    obtain ⟨k, _, rfl⟩ := List.mem_map.1 hx
    simp only [Fo.ds, bulkL, bulkD]; omega
  rw [eFs_len] at h2
  refine ⟨by omega, fun v hv => ?_⟩
  have h3 : bulkL v.ds ≤ bulkLL (eFs l) := bulkLL_mem (List.mem_map.2 ⟨v, hv, rfl⟩)
  have h4 : v.tb.length ≤ bulkL v.ds := by simp only [Fo.ds, bulkL, bulkD]; omega
  have h5 : v.cs.length ≤ bulkL [v.d] := ints_bulk v.sld
  have h6 : bulkL [v.d] ≤ bulkL v.ds := by simp only [Fo.ds, bulkL]; omega
  omega
theorem exs_bulk {d : D} {l : List Ex} (h : SlD d (xL l)) : l.length ≤ bulkL [d] ∧ ∀ e ∈ l, e.bk ≤ bulkL [d] := by
  have h1 := sld_bulk h
  have h2 := xL_bulk_len l
  refine ⟨by omega, fun v hv => ?_⟩
  have h3 : bulkL v.ds ≤ bulkLL (xL l) := bulkLL_mem (List.mem_map.2 ⟨v, hv, rfl⟩)
  unfold Ex.bk
  omega
theorem tb_tok {t : Tb} {dc dk df dx : D} (hb : bulkL [.str t.nm, dc, dk, df, dx] ≤ 1048576) (hc : SlD dc (eCs t.cs)) (hk : SlD dk (eIs t.ks)) (hf : SlD df (eFs t.fs)) (hx : SlD dx (xL t.xs)) : Tok t dc dk df dx := by
  have h1 := cos_bulk hc
  have h2 := ints_bulk hk
  have h3 := fos_bulk hf
  have h4 := exs_bulk hx
  have e : bulkL [.str t.nm, dc, dk, df, dx] = t.nm.length + 1 + (bulkL [dc] + (bulkL [dk] + (bulkL [df] + bulkL [dx]))) := by simp only [bulkL, bulkD]; omega
  rw [e] at hb
  exact { hn := by omega, hl := by omega, hls := fun c hc => Nat.le_trans (h1.2 c hc) (by omega), hk := by omega, hfl := by omega, hfc := fun f hf => ⟨Nat.le_trans (h3.2 f hf).1 (by omega), Nat.le_trans (h3.2 f hf).2 (by omega)⟩, hxs := by omega, hxb := fun e he => Nat.le_trans (h4.2 e he) (by omega), dc := hc, dk := hk, df := hf, dx := hx }
end Go.Proofs
end
section
/- The law on checked changes, and what it is handed. No condition. -/
set_option linter.unusedSimpArgs false
set_option linter.unusedVariables false
set_option maxRecDepth 10000
set_option maxHeartbeats 4000000
namespace Go.Proofs
open Go.Bi

abbrev T.ch : TypeId := 33
theorem cells_ch : Try.prog.cellsOf T.ch = 9 := by kernel_rfl
abbrev Ch.ds (c : Ch) : List D := [eI c.k, .str c.nm, .str c.to, .str c.co.nm, eI c.co.k, .bool c.co.nl, eI c.df.k, eI c.df.n, .str c.df.s]
theorem wt_ch {ds : List D} (h : WT Try.prog T.ch ds) : ∃ c : Ch, ds = c.ds := by
  obtain ⟨hl, hf⟩ := h.st' Try.underlying33
  rw [cells_ch] at hl
  match ds, hl with
  | [d0, d1, d2, d3, d4, d5, d6, d7, d8], _ =>
    have h0 := hf _ (List.mem_cons_self ..)
    have h1 := hf _ (List.mem_cons_of_mem _ (List.mem_cons_self ..))
    have h2 := hf _ (List.mem_cons_of_mem _ (List.mem_cons_of_mem _ (List.mem_cons_self ..)))
    have h3 := hf _ (List.mem_cons_of_mem _ (List.mem_cons_of_mem _ (List.mem_cons_of_mem _ (List.mem_cons_self ..))))
    have h4 := hf _ (List.mem_cons_of_mem _ (List.mem_cons_of_mem _ (List.mem_cons_of_mem _ (List.mem_cons_of_mem _ (List.mem_cons_self ..)))))
    dsimp only at h0 h1 h2 h3 h4
    rw [cells_int] at h0
    rw [cells_str] at h1 h2
    rw [cells_co] at h3
    rw [cells_val] at h4
    obtain ⟨k, h0⟩ := wt_int h0
    obtain ⟨nm, h1⟩ := wt_str h1
    obtain ⟨to, h2⟩ := wt_str h2
    obtain ⟨co, h3⟩ := wt_co h3
    obtain ⟨df, h4⟩ := wt_val h4
    simp at h0 h1 h2 h3 h4
    obtain ⟨e3, e4, e5⟩ := h3
    obtain ⟨e6, e7, e8⟩ := h4
    exact ⟨⟨k, nm, to, co, df⟩, by rw [h0, h1, h2, e3, e4, e5, e6, e7, e8]⟩
theorem av_ch (c : Ch) : avOf Try.prog T.ch c.ds = c.av := by unfold avOf; rw [Try.underlying33]; rfl
theorem ch_cok {c : Ch} (hb : bulkL c.ds ≤ 1048576) : Cok c := by
  simp only [Ch.ds, bulkL, bulkD] at hb
  exact ⟨by omega, by omega, by omega, by omega⟩
theorem L.EvolveChecks (t : Tb) (dc dk df dx : D) (h : Tok t dc dk df dx) (c : Ch) (hc : Cok c) : Pure Try.prog N.bt_law14_EvolveChecks [eT t.nm dc dk df dx, c.av] (.d (.bool true)) := by
  have h1 := C.evolve_Check t dc dk df dx h c hc
  have h2 := C.r14_Check t dc dk df dx h c hc
  obtain ⟨q, hq⟩ : ∃ q, q = evoE t c := ⟨_, rfl⟩
  rw [← hq] at h1 h2
  obtain ⟨k, nm, to, ⟨cn, ck, cl⟩, ⟨vk, vn, vs⟩⟩ := c
  refine F.bt_law14_EvolveChecks.go mixed rfl ?_
  repeat' first
    | refine st ?_
    | ((with_reducible apply go_i); (conv => whnf))
    | ((with_reducible apply k_pn); (· first | exact h1 | exact h2 | exact C.law14_awake))
    | ((with_reducible apply k_pc); (· first | exact h1 | exact h2 | exact C.law14_awake))
    | (with_reducible apply k_d <;> intro _)
    | (with_reducible apply k_b <;> intro _)
  all_goals simp_all
end Go.Proofs
end
