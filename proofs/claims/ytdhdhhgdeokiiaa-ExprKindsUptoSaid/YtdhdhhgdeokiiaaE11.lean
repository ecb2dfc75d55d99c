/- The depth of an expression. No condition. -/
import Derived.Test.YtdhdhhgdeokiiaaE3
set_option linter.unusedSimpArgs false
set_option linter.unusedVariables false
set_option maxRecDepth 10000
set_option maxHeartbeats 4000000
namespace Go.Proofs
open Go.Bi

def mx (l : List Nat) : Nat := l.foldl max 0
mutual
def dep : Ex → Nat
  | .mk op n v name nl args => 1 + mx (depL args)
def depL : List Ex → List Nat
  | [] => []
  | e :: es => dep e :: depL es
end
theorem depL_eq : ∀ l, depL l = l.map dep
  | [] => by simp [depL]
  | e :: es => by simp [depL, depL_eq es]
theorem dep_mk (op n : Int) (v : Vl) (name : List UInt8) (nl : Bool) (args : List Ex) : dep (.mk op n v name nl args) = 1 + mx (args.map dep) := by rw [dep, depL_eq]
theorem mx_le {l : List Nat} {B : Nat} (h : ∀ x ∈ l, x ≤ B) : mx l ≤ B := by
  unfold mx
  have key : ∀ (l : List Nat) (a : Nat), a ≤ B → (∀ x ∈ l, x ≤ B) → l.foldl max a ≤ B := by
    intro l
    induction l with
    | nil => intro a ha _; exact ha
    | cons x l ih => intro a ha hl; exact ih (max a x) (by have := hl x (by simp); omega) fun y hy => hl y (by simp [hy])
  exact key l 0 (Nat.zero_le _) h
theorem dep_bk : ∀ e : Ex, dep e ≤ e.bk := by
  refine Ex.ind fun op n v name nl args ih => ?_
  rw [dep_mk]
  have h1 : mx (args.map dep) ≤ (Ex.mk op n v name nl args).bk - 1 := mx_le fun x hx => by
    obtain ⟨a, ha, rfl⟩ := List.mem_map.1 hx
    have h2 := ih a ha
    have h3 := Ex.bk_arg (op := op) (n := n) (v := v) (name := name) (nl := nl) ha
    omega
  have := (Ex.mk op n v name nl args).bk_pos
  omega
theorem foldl_take_succ' {α β : Type} (f : β → α → β) (b : β) (l : List α) (i : Nat) (x : α) (h : l[i]? = some x) : (l.take (i + 1)).foldl f b = f ((l.take i).foldl f b) x := by
  rw [List.take_add_one, h]; simp
theorem mx_succ {l : List Nat} {i x : Nat} (h : l[i]? = some x) : mx (l.take (i + 1)) = max (mx (l.take i)) x := foldl_take_succ' _ _ _ _ _ h
theorem C.expr_depth : ∀ e : Ex, e.bk ≤ 1048576 → ∀ m : Nat, 1 ≤ m → m ≤ 25 → Pure Try.prog N.expr_depth [e.av, .d (eI m)] (.d (eI (min m (dep e) : Nat))) := by
  refine Ex.ind fun op n v name nl args ih hbk m hm1 hm2 => ?_
  obtain ⟨b1, b2, b3, b4⟩ := Ex.bk_bounds hbk
  have ih' : ∀ a ∈ args, ∀ m : Nat, 1 ≤ m → m ≤ 25 → Pure Try.prog N.expr_depth [a.av, .d (eI m)] (.d (eI (min m (dep a) : Nat))) := fun a ha => ih a ha (b4 a ha)
  clear ih
  rw [Ex.av_mk, dep_mk]
  refine F.expr_depth.go mixed rfl ?_
  have hlen := xL_len args
  have hm := xL_mem args
  have hd : SlD (ng nl (xL args)) (xL args) := sld_ng
  have hget : ∀ (i : Nat) (op' n' : Int) (v' : Vl) (name' : List UInt8) (nl' : Bool) (args' : List Ex), args[i]? = some (.mk op' n' v' name' nl' args') → (xL args)[i]? = some (xds op' n' v' name' (ng nl' (xL args'))) := fun i op' n' v' name' nl' args' h => by
    rw [← Ex.ds_mk]; exact xL_get h
  obtain ⟨d, hde⟩ : ∃ d, d = ng nl (xL args) := ⟨_, rfl⟩
  rw [← hde] at hd ⊢
  obtain ⟨es, hes⟩ : ∃ es, es = xL args := ⟨_, rfl⟩
  rw [← hes] at hlen hm hd hget
  by_cases h1 : m = 1
  · subst h1
    rw [show min 1 (1 + mx (args.map dep)) = 1 by omega]
    repeat' first
      | refine st ?_
      | ((with_reducible apply go_i); (conv => whnf))
      | (with_reducible apply k_d <;> intro _)
      | (with_reducible apply k_b <;> intro _)
    all_goals rfl
  have h2 : ¬ (m : Int) ≤ 1 := by omega
  repeat' first
    | refine st ?_
    | ((with_reducible apply go_i); (conv => whnf))
    | (with_reducible apply k_d <;> intro _)
    | (with_reducible apply k_b <;> intro _)
  refine x_loop2 mixed Lt.expr_depth_l0 Lk.expr_depth_l0 (fun (i : Nat) (t : Nat) => [.d (eI t), .d (eI i)]) (fun i t => [.cells [.d (eI op), .d (eI n), .d (eI v.k), .d (eI v.n), .d (.str v.s), .d (.str name), .d d]]) (fun i t => i ≤ args.length ∧ t = min m (1 + mx ((args.map dep).take i))) (fun i _ => args.length - i) 0 1 rfl rfl rfl rfl (fun _ _ _ => ⟨rfl, rfl⟩) rfl ⟨by omega, by simp [mx]; omega⟩ ?_
  repeat' first
    | refine st ?_
    | ((with_reducible apply go_i); (conv => whnf))
    | (with_reducible apply k_d <;> intro _)
    | (with_reducible apply k_b <;> intro _)
  intro i t ⟨h4, h5⟩
  cases hx : args[i]? with
  | some x =>
    have hlt := (List.getElem?_eq_some_iff.1 hx).1
    have hI := ih' x (List.mem_of_getElem? hx) (m - 1) (by omega) (by omega)
    have hmx := mx_succ (l := args.map dep) (i := i) (x := dep x) (by rw [List.getElem?_map, hx]; rfl)
    rw [show ((m - 1 : Nat) : Int) = (m : Int) - 1 by omega] at hI
    obtain ⟨y, hy⟩ : ∃ y, y = dep x := ⟨_, rfl⟩
    rw [← hy] at hI hmx
    obtain ⟨op', n', v', name', nl', args'⟩ := x
    rw [Ex.av_mk] at hI
    have hg := hget i _ _ _ _ _ _ hx
    repeat' first
      | refine st ?_
      | ((with_reducible apply go_i); (conv => whnf))
      | ((with_reducible apply k_pn); (· exact hI))
      | ((with_reducible apply k_pc); (· exact hI))
      | (with_reducible apply k_d <;> intro _)
      | (with_reducible apply k_b <;> intro _)
    refine ⟨i + 1, max t (1 + min (m - 1) y), ?_, rfl, rfl, by omega, by omega, ?_⟩
    · simp only [List.cons.injEq, AV.d.injEq, D.int.injEq, true_and, and_true]
      omega
    · rw [hmx]; omega
  | none =>
    have hge := List.getElem?_eq_none_iff.1 hx
    rw [List.take_of_length_le (by simpa using hge)] at h5
    repeat' first
      | refine st ?_
      | ((with_reducible apply go_i); (conv => whnf))
      | (with_reducible apply k_d <;> intro _)
      | (with_reducible apply k_b <;> intro _)
    rw [h5]
theorem C.expr_Depth (e : Ex) (he : e.bk ≤ 1048576) : Pure Try.prog N.expr_Depth [e.av] (.d (eI (min 25 (dep e) : Nat))) := by
  have h := C.expr_depth e he 25 (by omega) (by omega)
  obtain ⟨op, n, v, name, nl, args⟩ := e
  rw [Ex.av_mk] at h ⊢
  refine F.expr_Depth.go mixed rfl ?_
  repeat' first
    | refine st ?_
    | ((with_reducible apply go_i); (conv => whnf))
    | ((with_reducible apply k_pn); (· exact h))
    | ((with_reducible apply k_pc); (· exact h))
    | (with_reducible apply k_d <;> intro _)
    | (with_reducible apply k_b <;> intro _)
theorem C.r11_depth : ∀ e : Ex, e.bk ≤ 1048576 → Pure Try.prog N.bt_ref11_depth [e.av] (.d (eI (dep e : Nat))) := by
  refine Ex.ind fun op n v name nl args ih hbk => ?_
  have hdb := dep_bk (.mk op n v name nl args)
  obtain ⟨b1, b2, b3, b4⟩ := Ex.bk_bounds hbk
  have ih' : ∀ a ∈ args, Pure Try.prog N.bt_ref11_depth [a.av] (.d (eI (dep a : Nat))) := fun a ha => ih a ha (b4 a ha)
  clear ih
  rw [dep_mk] at hdb
  rw [Ex.av_mk, dep_mk]
  refine F.bt_ref11_depth.go mixed rfl ?_
  have hlen := xL_len args
  have hm := xL_mem args
  have hd : SlD (ng nl (xL args)) (xL args) := sld_ng
  have hget : ∀ (i : Nat) (op' n' : Int) (v' : Vl) (name' : List UInt8) (nl' : Bool) (args' : List Ex), args[i]? = some (.mk op' n' v' name' nl' args') → (xL args)[i]? = some (xds op' n' v' name' (ng nl' (xL args'))) := fun i op' n' v' name' nl' args' h => by
    rw [← Ex.ds_mk]; exact xL_get h
  obtain ⟨d, hde⟩ : ∃ d, d = ng nl (xL args) := ⟨_, rfl⟩
  rw [← hde] at hd ⊢
  obtain ⟨es, hes⟩ : ∃ es, es = xL args := ⟨_, rfl⟩
  rw [← hes] at hlen hm hd hget
  repeat' first
    | refine st ?_
    | ((with_reducible apply go_i); (conv => whnf))
    | (with_reducible apply k_d <;> intro _)
    | (with_reducible apply k_b <;> intro _)
  refine x_loop2 mixed Lt.bt_ref11_depth_l0 Lk.bt_ref11_depth_l0 (fun (i : Nat) (t : Nat) => [.d (eI t), .d (eI i)]) (fun i t => [.cells [.d (eI op), .d (eI n), .d (eI v.k), .d (eI v.n), .d (.str v.s), .d (.str name), .d d]]) (fun i t => i ≤ args.length ∧ t = mx ((args.map dep).take i)) (fun i _ => args.length - i) 0 0 rfl rfl rfl rfl (fun _ _ _ => ⟨rfl, rfl⟩) rfl ⟨by omega, rfl⟩ ?_
  repeat' first
    | refine st ?_
    | ((with_reducible apply go_i); (conv => whnf))
    | (with_reducible apply k_d <;> intro _)
    | (with_reducible apply k_b <;> intro _)
  intro i t ⟨h4, h5⟩
  cases hx : args[i]? with
  | some x =>
    have hlt := (List.getElem?_eq_some_iff.1 hx).1
    have hI := ih' x (List.mem_of_getElem? hx)
    have hmx := mx_succ (l := args.map dep) (i := i) (x := dep x) (by rw [List.getElem?_map, hx]; rfl)
    obtain ⟨y, hy⟩ : ∃ y, y = dep x := ⟨_, rfl⟩
    rw [← hy] at hI hmx
    obtain ⟨op', n', v', name', nl', args'⟩ := x
    rw [Ex.av_mk] at hI
    have hg := hget i _ _ _ _ _ _ hx
    repeat' first
      | refine st ?_
      | ((with_reducible apply go_i); (conv => whnf))
      | ((with_reducible apply k_pn); (· exact hI))
      | ((with_reducible apply k_pc); (· exact hI))
      | (with_reducible apply k_d <;> intro _)
      | (with_reducible apply k_b <;> intro _)
    refine ⟨i + 1, max t y, ?_, rfl, rfl, by omega, by omega, ?_⟩
    · simp only [List.cons.injEq, AV.d.injEq, D.int.injEq, true_and, and_true]
      omega
    · rw [hmx, h5]
  | none =>
    have hge := List.getElem?_eq_none_iff.1 hx
    rw [List.take_of_length_le (by simpa using hge)] at h5
    repeat' first
      | refine st ?_
      | ((with_reducible apply go_i); (conv => whnf))
      | (with_reducible apply k_d <;> intro _)
      | (with_reducible apply k_b <;> intro _)
    rw [h5]
    simp only [AV.d.injEq, D.int.injEq, true_and]
    omega
theorem C.r11_Depth (e : Ex) (he : e.bk ≤ 1048576) : Pure Try.prog N.bt_ref11_Depth [e.av] (.d (eI (min 25 (dep e) : Nat))) := by
  have h := C.r11_depth e he
  obtain ⟨op, n, v, name, nl, args⟩ := e
  rw [Ex.av_mk] at h ⊢
  refine F.bt_ref11_Depth.go mixed rfl ?_
  repeat' first
    | refine st ?_
    | ((with_reducible apply go_i); (conv => whnf))
    | ((with_reducible apply k_pn); (· exact h))
    | ((with_reducible apply k_pc); (· exact h))
    | (with_reducible apply k_d <;> intro _)
    | (with_reducible apply k_b <;> intro _)
  all_goals (simp only [AV.d.injEq, D.int.injEq, true_and]; omega)
end Go.Proofs
