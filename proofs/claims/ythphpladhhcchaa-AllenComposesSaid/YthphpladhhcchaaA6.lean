/- Contracts: Tighten, Satisfied. No condition. -/
import Derived.Test.YthphpladhhcchaaA5
set_option linter.unusedSimpArgs false
set_option linter.unusedVariables false
set_option maxRecDepth 10000
set_option maxHeartbeats 4000000
namespace Go.Proofs
open Go.Bi

/-! ### Sets get smaller -/
theorem ofInt16 {a : Int} (h : 0 ≤ a ∧ a < 65536) : (BitVec.ofInt 16 a).toNat = a.toNat := by
  rw [BitVec.toNat_ofInt]
  rw [Int.emod_eq_of_lt h.1 (by simpa using h.2)]
theorem wrap16 {n : Nat} (h : n < 65536) : IntKind.u16.wrap (n : Int) = n := by
  simp only [IntKind.wrap, IntKind.signed, IntKind.bits, Bool.false_and, Bool.false_eq_true, if_false]
  omega
theorem sAnd_eq (a b : Int) : sAnd a b = (((BitVec.ofInt 16 a).toNat &&& (BitVec.ofInt 16 b).toNat : Nat) : Int) := by
  show IntKind.u16.wrap ((BitVec.ofInt 16 a &&& BitVec.ofInt 16 b).toNat : Nat) = _
  rw [BitVec.toNat_and]
  exact wrap16 (Nat.lt_of_le_of_lt Nat.and_le_left (BitVec.isLt _))
theorem sAnd_le {a b : Int} (h : 0 ≤ a ∧ a < 65536) : 0 ≤ sAnd a b ∧ sAnd a b ≤ a := by
  rw [sAnd_eq, ofInt16 h]
  have := Nat.and_le_left (n := a.toNat) (m := (BitVec.ofInt 16 b).toNat)
  omega
def inR (ws : List Int) : Prop := ∀ x ∈ ws, 0 ≤ x ∧ x < 65536
/-- Smaller at every place. -/
def leW (ws' ws : List Int) : Prop := ws'.length = ws.length ∧ ∀ (i : Nat) x y, ws'[i]? = some x → ws[i]? = some y → x ≤ y
theorem leW.refl (ws : List Int) : leW ws ws := ⟨rfl, fun i x y h1 h2 => by rw [h1] at h2; cases h2; exact Int.le_refl _⟩
theorem leW.trans {a b c : List Int} (h : leW a b) (k : leW b c) : leW a c := by
  refine ⟨h.1.trans k.1, fun i x y h1 h2 => ?_⟩
  have hi := (List.getElem?_eq_some_iff.1 h1).1
  have hb : i < b.length := by rw [← h.1]; exact hi
  have h3 : b[i]? = some b[i] := List.getElem?_eq_getElem hb
  exact Int.le_trans (h.2 i x _ h1 h3) (k.2 i _ y h3 h2)
theorem inR_get {ws : List Int} {i : Nat} (h : inR ws) : 0 ≤ ws.getD i 0 ∧ ws.getD i 0 < 65536 := by
  rw [List.getD_eq_getElem?_getD]
  cases hx : ws[i]? with
  | none => simp
  | some x => exact h x (List.mem_of_getElem? hx)
theorem inR_set {ws : List Int} {i : Nat} {v : Int} (h : inR ws) (hv : 0 ≤ v ∧ v < 65536) : inR (ws.set i v) := by
  intro x hx
  rcases List.mem_or_eq_of_mem_set hx with h1 | rfl
  · exact h x h1
  · exact hv
theorem leW_set {ws : List Int} {i : Nat} {v : Int} (h : v ≤ ws.getD i 0) : leW (ws.set i v) ws := by
  refine ⟨by simp, fun j x y h1 h2 => ?_⟩
  rw [List.getElem?_set] at h1
  split at h1
  · rename_i e
    subst e
    split at h1
    · cases h1
      rw [List.getD_eq_getElem?_getD, h2] at h
      exact h
    · cases h1
  · rw [h1] at h2; cases h2; exact Int.le_refl _
theorem nJ_ok (T : List Int) (k i : Nat) {ws : List Int} (j : Nat) (h : inR ws) : inR (nJ T k i ws j) ∧ leW (nJ T k i ws j) ws := by
  have h1 := inR_get (i := (i : Int).toNat * 8 + (j : Int).toNat) h
  have h2 := sAnd_le (b := tcA T (nAt ws i k) (nAt ws k j) 13) h1
  exact ⟨inR_set h ⟨h2.1, by unfold nAt at *; omega⟩, leW_set h2.2⟩
theorem fold_ok {f : List Int → Nat → List Int} (hf : ∀ ws j, inR ws → inR (f ws j) ∧ leW (f ws j) ws) (n : Nat) {ws : List Int} (h : inR ws) : inR ((List.range n).foldl f ws) ∧ leW ((List.range n).foldl f ws) ws := by
  induction n with
  | zero => exact ⟨h, leW.refl _⟩
  | succ n ih =>
    rw [range_fold]
    obtain ⟨h1, h2⟩ := hf _ n ih.1
    exact ⟨h1, h2.trans ih.2⟩
theorem narrow_ok (T : List Int) (n : Nat) {ws : List Int} (m : Nat) (h : inR ws) : inR (narrow T n ws m) ∧ leW (narrow T n ws m) ws :=
  fold_ok (fun ws k h => fold_ok (fun ws i h => fold_ok (fun ws j h => nJ_ok T k i j h) n h) n h) m h
theorem wsum_cons (x : Int) (l : List Int) : wsum (x :: l) = x.toNat + wsum l := by simp [wsum]
theorem wsum_le : ∀ {ws' ws : List Int}, leW ws' ws → inR ws' → wsum ws' ≤ wsum ws ∧ (wsum ws' = wsum ws → ws' = ws)
  | [], [], _, _ => ⟨Nat.le_refl _, fun _ => rfl⟩
  | [], _ :: _, h, _ => by have := h.1; simp at this
  | _ :: _, [], h, _ => by have := h.1; simp at this
  | x :: a, y :: b, h, hr => by
    have h1 := h.2 0 x y rfl rfl
    have h2 := hr x (by simp)
    obtain ⟨h3, h4⟩ := wsum_le (ws' := a) (ws := b) ⟨by have := h.1; simpa using this, fun i x y h1 h2 => h.2 (i + 1) x y (by simpa using h1) (by simpa using h2)⟩ (fun x hx => hr x (by simp [hx]))
    rw [wsum_cons, wsum_cons]
    refine ⟨by omega, fun e => ?_⟩
    have e1 : x = y := by omega
    have e2 := h4 (by omega)
    rw [e1, e2]
theorem narrow_lt (T : List Int) (n : Nat) {ws : List Int} (h : inR ws) (hne : narrow T n ws n ≠ ws) : wsum (narrow T n ws n) < wsum ws := by
  obtain ⟨h1, h2⟩ := narrow_ok T n n h
  obtain ⟨h3, h4⟩ := wsum_le h2 h1
  rcases Nat.lt_or_ge (wsum (narrow T n ws n)) (wsum ws) with h | h
  · exact h
  · exact absurd (h4 (by omega)) hne

/-- The rounds until nothing changes: as many as are wanted. -/
theorem rounds_step (f : List Int → List Int) (m : Nat) (ws : List Int) (h : f ws ≠ ws) : rounds f (m + 1) ws = rounds f m (f ws) := by rw [rounds, if_neg h]
theorem rounds_stop (f : List Int → List Int) (m : Nat) (ws : List Int) (h : f ws = ws) : rounds f m ws = ws := by cases m with
  | zero => rfl
  | succ m => rw [rounds, if_pos h]
theorem rounds_enough (T : List Int) (n : Nat) : ∀ (k : Nat) (ws : List Int), inR ws → wsum ws ≤ k → ∀ k', wsum ws ≤ k' → rounds (fun ws => narrow T n ws n) k ws = rounds (fun ws => narrow T n ws n) k' ws := by
  intro k
  induction k with
  | zero =>
    intro ws h h1 k' h2
    by_cases he : narrow T n ws n = ws
    · rw [rounds_stop _ _ _ he, rounds_stop _ _ _ he]
    · have := narrow_lt T n h he; omega
  | succ k ih =>
    intro ws h h1 k' h2
    by_cases he : narrow T n ws n = ws
    · rw [rounds_stop _ _ _ he, rounds_stop _ _ _ he]
    · have hlt := narrow_lt T n h he
      cases k' with
      | zero => omega
      | succ k' =>
        rw [rounds_step _ _ _ he, rounds_step _ _ _ he]
        exact ih _ (narrow_ok T n n h).1 (by omega) k' (by omega)
theorem fixed_step (T : List Int) (n : Nat) {ws : List Int} (h : inR ws) (he : narrow T n ws n ≠ ws) : rounds (fun ws => narrow T n ws n) (wsum (narrow T n ws n)) (narrow T n ws n) = rounds (fun ws => narrow T n ws n) (wsum ws) ws := by
  have hlt := narrow_lt T n h he
  obtain ⟨k, hk⟩ : ∃ k, wsum ws = k + 1 := ⟨wsum ws - 1, by omega⟩
  rw [hk, rounds_step _ _ _ he]
  exact rounds_enough T n _ _ (narrow_ok T n n h).1 (Nat.le_refl _) k (by omega)
theorem bGo_inR (n : Int) : ∀ (l : List Con) (ws r : List Int), inR ws → bGo n l ws = some r → inR r ∧ r.length = ws.length
  | [], ws, r, h, e => by cases e; exact ⟨h, rfl⟩
  | c :: l, ws, r, h, e => by
    rw [bGo] at e
    split at e
    · have h1 : inR (bUpd ws c) := by
        unfold bUpd nSet nAt
        have g1 := sAnd_le (b := sOfL c.rels) (inR_get (i := c.a.toNat * 8 + c.b.toNat) h)
        have g2 := inR_get (i := c.a.toNat * 8 + c.b.toNat) h
        have g3 := inR_set (i := c.a.toNat * 8 + c.b.toNat) h ⟨g1.1, show sAnd (ws.getD (c.a.toNat * 8 + c.b.toNat) 0) (sOfL c.rels) < 65536 by omega⟩
        have g4 := inR_get (i := c.b.toNat * 8 + c.a.toNat) g3
        have g5 := sAnd_le (b := sInv (sOfL c.rels)) g4
        exact inR_set g3 ⟨g5.1, by omega⟩
      obtain ⟨h2, h3⟩ := bGo_inR n l _ r h1 e
      refine ⟨h2, h3.trans ?_⟩
      simp [bUpd, nSet_len]
    · cases e
theorem bRow_inR (i n : Nat) {ws : List Int} (h : inR ws) : inR (bRow i ws n) := by
  unfold bRow
  induction n with
  | zero => exact h
  | succ n ih2 => rw [range_fold]; exact inR_set ih2 (by decide)
theorem bInit_inR (n m : Nat) : inR (bInit n m) := by
  have h0 : inR (List.replicate 64 0) := by intro x hx; rw [List.eq_of_mem_replicate hx]; decide
  unfold bInit
  induction m with
  | zero => exact h0
  | succ m ih =>
    rw [range_fold]
    exact inR_set (bRow_inR m n ih) (by decide)

/-! ### The result -/
def eOut (c : Int × Int × List Int) : List D := [eI c.1, eI c.2.1, eL c.2.2]
def oStep (ws : List Int) (i : Nat) (acc : Option (List (Int × Int × List Int))) (k : Nat) : Option (List (Int × Int × List Int)) := match acc with
  | none => none
  | some l => if nAt ws i k = 0 then none else if i < k then some (l ++ [((i : Int), (k : Int), sList (nAt ws i k))]) else some l
def oRow (ws : List Int) (i : Nat) (acc : Option (List (Int × Int × List Int))) (n : Nat) : Option (List (Int × Int × List Int)) := (List.range n).foldl (oStep ws i) acc
def oAll (ws : List Int) (n m : Nat) : Option (List (Int × Int × List Int)) := (List.range m).foldl (fun acc i => oRow ws i acc n) (some [])
theorem oRow_none (ws : List Int) (i n : Nat) : oRow ws i none n = none := by
  unfold oRow
  induction n with
  | zero => rfl
  | succ n ih => rw [range_fold, ih]; rfl
theorem oRow_later {ws : List Int} {i k : Nat} {acc : Option (List (Int × Int × List Int))} (h : oRow ws i acc k = none) : ∀ n, k ≤ n → oRow ws i acc n = none := by
  intro n hn
  induction hn with
  | refl => exact h
  | step _ ih => rw [oRow, range_fold, ← oRow, ih]; rfl
theorem oAll_later {ws : List Int} {n k : Nat} (h : oAll ws n k = none) : ∀ m, k ≤ m → oAll ws n m = none := by
  intro m hm
  induction hm with
  | refl => exact h
  | step _ ih => rw [oAll, range_fold, ← oAll, ih]; exact oRow_none ..
def eOuts (l : List (Int × Int × List Int)) : List (List D) := l.map eOut
def fixed (T : List Int) (n : Nat) (ws : List Int) : List Int := rounds (fun ws => narrow T n ws n) (wsum ws) ws
def tightT (T : List Int) (n : Int) (l : List Con) : D × Bool :=
  if 1 ≤ n ∧ n ≤ 8 then
    match bGo n l (bInit n.toNat n.toNat) with
    | some ws => match oAll (fixed T n.toNat ws) n.toNat n.toNat with
      | some out => (nsl (eOuts out), true)
      | none => (.nil, false)
    | none => (.nil, false)
  else (.nil, false)
def tight := tightT comps

theorem k_eqU {xs ys : List Int} {ks : List SK} {K : Bool → Prop} (h1 : xs.length = 64) (h2 : ys.length = 64) (hk : ks = List.replicate 64 .i) (k : Go (K (decide (xs = ys)))) : eqLK ks (cU xs) (cU ys) K := by
  have gen : ∀ (n : Nat) (xs ys : List Int) (K : Bool → Prop), xs.length = n → ys.length = n → K (decide (xs = ys)) → eqLK (List.replicate n .i) (cU xs) (cU ys) K := by
    intro n
    induction n with
    | zero =>
      intro xs ys K h1 h2 k
      obtain rfl := List.length_eq_zero_iff.1 h1
      obtain rfl := List.length_eq_zero_iff.1 h2
      exact k
    | succ n ih =>
      intro xs ys K h1 h2 k
      match xs, ys, h1, h2 with
      | x :: xs, y :: ys, h1, h2 =>
        have e : decide (x :: xs = y :: ys) = (decide (x = y) && decide (xs = ys)) := by rw [Bool.eq_iff_iff]; simp
        cases n with
        | zero =>
          obtain rfl := List.length_eq_zero_iff.1 (by simpa using h1)
          obtain rfl := List.length_eq_zero_iff.1 (by simpa using h2)
          rw [e] at k
          simpa [eqLK, eqDK, cU, dU, kq, List.replicate] using k
        | succ n =>
          have := ih xs ys (fun b => K (decide (x = y) && b)) (by simpa using h1) (by simpa using h2) (by rw [← e]; exact k)
          match xs, ys, this with
          | x2 :: xs, y2 :: ys, this => exact this
          | [], _, _ => simp at h1
          | _ :: _, [], _ => simp at h2
  subst hk
  exact gen 64 xs ys K h1 h2 k

theorem oAll_row {ws : List Int} {n i : Nat} : oAll ws n (i + 1) = oRow ws i (oAll ws n i) n := by rw [oAll, range_fold]; rfl
theorem oRow_step {ws : List Int} {i k : Nat} {acc : Option (List (Int × Int × List Int))} : oRow ws i acc (k + 1) = oStep ws i (oRow ws i acc k) k := by rw [oRow, range_fold]; rfl
theorem eOuts_len (l : List (Int × Int × List Int)) : (eOuts l).length = l.length := by simp [eOuts]
theorem Tighten_T (T : List Int) (hT : T.length = 169) (hC : Pure Try.prog N.allen_compositions [] (.agg (cU T))) (n : Int) (l : List Con) (hll : l.length ≤ 9223372036854775807) (d : D) (hd : SlD d (eCons l)) :
    Pure Try.prog N.allen_Tighten [.d (eI n), .d d] (.tup [.d (tightT T n l).1, .d (.bool (tightT T n l).2)]) := by
  refine F.allen_Tighten.go mixed rfl ?_
  by_cases hn : 1 ≤ n ∧ n ≤ 8
  rotate_left
  · unfold tightT
    rw [if_neg hn]
    repeat' first
      | ((with_reducible apply go_i); (conv => whnf))
      | with_reducible apply k_caf
      | with_reducible apply k_n
      | ((with_reducible apply k_dt); (· first | assumption | omega))
      | ((with_reducible apply k_df); (· first | assumption | omega))
      | (with_reducible apply k_d <;> intro _)
      | with_reducible apply k_a
      | with_reducible apply k_o
      | ((with_reducible apply k_bt); (· assumption))
      | ((with_reducible apply k_bf); (· assumption))
      | ((with_reducible apply k_gc); (· assumption))
      | ((with_reducible apply k_gcs); (· assumption); (· first | assumption | omega | (simp only [List.length_cons, List.length_nil, List.length_map]; omega)))
      | ((with_reducible apply k_ste); (· assumption); (· first | assumption | omega))
      | ((with_reducible apply k_stc); (· first | assumption | omega | (simp only [List.length_cons, List.length_nil, List.length_map]; omega) | (simp; done)))
      | (with_reducible apply k_b <;> intro _)
      | ((with_reducible apply k_fz); (· assumption))
      | with_reducible apply k_mp
      | ((with_reducible apply k_wr); (· omega); (· omega))
      | with_reducible apply k_ww
      | ((with_reducible apply k_chk); (· first | omega | assumption | exact rfl | (simp only [List.length_cons, List.length_nil]; omega) | exact wrapu_nn _ | (intro e he; obtain ⟨x, _, rfl⟩ := List.mem_map.1 he; exact rfl) | (intro e he; cases List.mem_singleton.1 he; rfl) | (simp; done)))
      | ((with_reducible apply k_sl); (· first | assumption | exact sld_nsl | exact sld_sl | exact sld_nil | exact sld_cond (by assumption)))
    all_goals rfl
  obtain ⟨m, rfl⟩ : ∃ m : Nat, n = m := ⟨n.toNat, by omega⟩
  have hm8 : m ≤ 8 := by omega
  have hB := C.allen_build m hm8 l hll d hd
  have htc2 : Nat.beq (cU T).length 169 = true := by rw [cU_len, hT]; rfl
  unfold tightT
  rw [if_pos hn]
  simp only [Int.toNat_natCast]
  unfold build at hB
  cases hb : bGo m l (bInit m m) with
  | none =>
    rw [hb] at hB
    dsimp only at hB
    repeat' first
      | ((with_reducible apply go_i); (conv => whnf))
      | ((with_reducible apply k_pc); (· first | exact hB))
      | with_reducible apply k_caf
      | with_reducible apply k_n
      | ((with_reducible apply k_dt); (· first | assumption | omega))
      | ((with_reducible apply k_df); (· first | assumption | omega))
      | (with_reducible apply k_d <;> intro _)
      | with_reducible apply k_a
      | with_reducible apply k_o
      | ((with_reducible apply k_bt); (· assumption))
      | ((with_reducible apply k_bf); (· assumption))
      | ((with_reducible apply k_gc); (· assumption))
      | ((with_reducible apply k_gcs); (· assumption); (· first | assumption | omega | (simp only [List.length_cons, List.length_nil, List.length_map]; omega)))
      | ((with_reducible apply k_ste); (· assumption); (· first | assumption | omega))
      | ((with_reducible apply k_stc); (· first | assumption | omega | (simp only [List.length_cons, List.length_nil, List.length_map]; omega) | (simp; done)))
      | (with_reducible apply k_b <;> intro _)
      | ((with_reducible apply k_fz); (· assumption))
      | with_reducible apply k_mp
      | ((with_reducible apply k_wr); (· omega); (· omega))
      | with_reducible apply k_ww
      | ((with_reducible apply k_chk); (· first | omega | assumption | exact rfl | (simp only [List.length_cons, List.length_nil]; omega) | exact wrapu_nn _ | (intro e he; obtain ⟨x, _, rfl⟩ := List.mem_map.1 he; exact rfl) | (intro e he; cases List.mem_singleton.1 he; rfl) | (simp; done)))
      | ((with_reducible apply k_sl); (· first | assumption | exact sld_nsl | exact sld_sl | exact sld_nil | exact sld_cond (by assumption)))
  | some ws =>
    rw [hb] at hB
    dsimp only at hB ⊢
    obtain ⟨hr, hl⟩ := bGo_inR m l _ ws (bInit_inR m m) hb
    rw [bInit_len] at hl
    have hc1 := n_beq1 hl
    have hc2 := n_beq2 hl
    have hfz : cU ws = (dU ws).map .d := rfl
    have hnl : (narrow T m ws m).length = 64 := by rw [narrow_len, hl]
    have hd1 := n_beq1 hnl
    have hd2 := n_beq2 hnl
    have hrf : ∀ ws, (AV.agg (cU ws)).ref = false := fun ws => by simp [AV.ref, cU, AV.ref1]
    have hr1 := hrf ws
    have hany : ∀ ws, [AV.agg (cU ws), .d (eI m), .ptr 1 0].any AV.ref = true := fun ws => by simp [AV.ref, AV.ref1]
    have ha1 := hany ws
    have hgm : ∀ f ws, mG f (.agg (cU ws)) = .agg (cU ws) := fun f ws => by simp [mG, cU, mC]
    repeat' first
      | ((with_reducible apply go_i); (conv => whnf))
      | ((with_reducible apply k_pc); (· first | exact hB | exact hC))
      | ((with_reducible apply k_pr); (· first | exact C.allen_narrowed T hT m hm8 ws hl _ _ rfl))
      | ((with_reducible apply k_cs); (· first | exact C.allen_narrowed T hT m hm8 ws hl _ _ rfl); (try rintro _ _ ⟨rfl, rfl⟩))
      | ((with_reducible apply k_cal); (with_reducible apply go_i); (conv => whnf); (with_reducible apply k_chk); (· exact rfl); (with_reducible apply go_i); (with_reducible apply k_cs); (· first | exact C.allen_narrowed T hT m hm8 ws hl _ _ rfl); (try rintro _ _ ⟨rfl, rfl⟩))
      | with_reducible apply k_caf
      | with_reducible apply k_n
      | ((with_reducible apply k_dt); (· first | assumption | omega))
      | ((with_reducible apply k_df); (· first | assumption | omega))
      | (with_reducible apply k_d <;> intro _)
      | with_reducible apply k_a
      | with_reducible apply k_o
      | ((with_reducible apply k_bt); (· assumption))
      | ((with_reducible apply k_bf); (· assumption))
      | ((with_reducible apply k_gc); (· assumption))
      | ((with_reducible apply k_gcs); (· assumption); (· first | assumption | omega | (simp only [List.length_cons, List.length_nil, List.length_map]; omega)))
      | ((with_reducible apply k_ste); (· assumption); (· first | assumption | omega))
      | ((with_reducible apply k_stc); (· first | assumption | omega | (simp only [List.length_cons, List.length_nil, List.length_map]; omega) | (simp; done)))
      | (with_reducible apply k_b <;> intro _)
      | ((with_reducible apply k_fz); (· assumption))
      | with_reducible apply k_mp
      | ((with_reducible apply k_wr); (· omega); (· omega))
      | with_reducible apply k_ww
      | ((with_reducible apply k_chk); (· first | omega | assumption | exact rfl | (simp only [List.length_cons, List.length_nil]; omega) | exact wrapu_nn _ | (intro e he; obtain ⟨x, _, rfl⟩ := List.mem_map.1 he; exact rfl) | (intro e he; cases List.mem_singleton.1 he; rfl) | (simp; done)))
      | ((with_reducible apply k_sl); (· first | assumption | exact sld_nsl | exact sld_sl | exact sld_nil | exact sld_cond (by assumption)))
    refine x_loopR1 mixed Lt.allen_Tighten_l0 Lk.allen_Tighten_l0 (fun (w : List Int) => [.ptr 2 0]) (fun w => [.cells (cU w), .cells (cU T), .cells (cU (narrow T m w m))]) 3 (fun w => inR w ∧ w.length = 64 ∧ fixed T m w = fixed T m ws) wsum ws rfl rfl rfl (fun w => ⟨rfl, rfl⟩) (fun w _ => ⟨rfl, ?_⟩) rfl ⟨hr, hl, rfl⟩ ?_
    · simp [AO.bndB, cU, AV.bnd1B]
    repeat' first
      | ((with_reducible apply go_i); (conv => whnf))
      | with_reducible apply k_caf
      | with_reducible apply k_n
      | ((with_reducible apply k_dt); (· first | assumption | omega))
      | ((with_reducible apply k_df); (· first | assumption | omega))
      | (with_reducible apply k_d <;> intro _)
      | with_reducible apply k_a
      | with_reducible apply k_o
      | ((with_reducible apply k_bt); (· assumption))
      | ((with_reducible apply k_bf); (· assumption))
      | ((with_reducible apply k_gc); (· assumption))
      | ((with_reducible apply k_gcs); (· assumption); (· first | assumption | omega | (simp only [List.length_cons, List.length_nil, List.length_map]; omega)))
      | ((with_reducible apply k_ste); (· assumption); (· first | assumption | omega))
      | ((with_reducible apply k_stc); (· first | assumption | omega | (simp only [List.length_cons, List.length_nil, List.length_map]; omega) | (simp; done)))
      | (with_reducible apply k_b <;> intro _)
      | ((with_reducible apply k_fz); (· assumption))
      | with_reducible apply k_mp
      | ((with_reducible apply k_wr); (· omega); (· omega))
      | with_reducible apply k_ww
      | ((with_reducible apply k_chk); (· first | omega | assumption | exact rfl | (simp only [List.length_cons, List.length_nil]; omega) | exact wrapu_nn _ | (intro e he; obtain ⟨x, _, rfl⟩ := List.mem_map.1 he; exact rfl) | (intro e he; cases List.mem_singleton.1 he; rfl) | (simp; done)))
      | ((with_reducible apply k_sl); (· first | assumption | exact sld_nsl | exact sld_sl | exact sld_nil | exact sld_cond (by assumption)))
    intro w ⟨k1, k2, k3⟩
    have hc1 := n_beq1 k2
    have hc2 := n_beq2 k2
    have hfz : cU w = (dU w).map .d := rfl
    have hnl : (narrow T m w m).length = 64 := by rw [narrow_len, k2]
    have hd1 := n_beq1 hnl
    have hd2 := n_beq2 hnl
    repeat' first
      | ((with_reducible apply go_i); (conv => whnf))
      | with_reducible apply k_caf
      | with_reducible apply k_n
      | ((with_reducible apply k_dt); (· first | assumption | omega))
      | ((with_reducible apply k_df); (· first | assumption | omega))
      | (with_reducible apply k_d <;> intro _)
      | with_reducible apply k_a
      | with_reducible apply k_o
      | ((with_reducible apply k_bt); (· assumption))
      | ((with_reducible apply k_bf); (· assumption))
      | ((with_reducible apply k_gc); (· assumption))
      | ((with_reducible apply k_gcs); (· assumption); (· first | assumption | omega | (simp only [List.length_cons, List.length_nil, List.length_map]; omega)))
      | ((with_reducible apply k_ste); (· assumption); (· first | assumption | omega))
      | ((with_reducible apply k_stc); (· first | assumption | omega | (simp only [List.length_cons, List.length_nil, List.length_map]; omega) | (simp; done)))
      | (with_reducible apply k_b <;> intro _)
      | ((with_reducible apply k_fz); (· assumption))
      | with_reducible apply k_mp
      | ((with_reducible apply k_wr); (· omega); (· omega))
      | with_reducible apply k_ww
      | ((with_reducible apply k_chk); (· first | omega | assumption | exact rfl | (simp only [List.length_cons, List.length_nil]; omega) | exact wrapu_nn _ | (intro e he; obtain ⟨x, _, rfl⟩ := List.mem_map.1 he; exact rfl) | (intro e he; cases List.mem_singleton.1 he; rfl) | (simp; done)))
      | ((with_reducible apply k_sl); (· first | assumption | exact sld_nsl | exact sld_sl | exact sld_nil | exact sld_cond (by assumption)))
    refine k_eqU hnl k2 rfl ?_
    have hfz2 : cU (narrow T m w m) = (dU (narrow T m w m)).map .d := rfl
    have hr2 := hrf (narrow T m w m)
    have ha2 := hany (narrow T m w m)
    have hnl2 : (narrow T m (narrow T m w m) m).length = 64 := by rw [narrow_len, hnl]
    have hd3 := n_beq1 hnl2
    have hd4 := n_beq2 hnl2
    repeat' first
      | ((with_reducible apply go_i); (conv => whnf))
      | ((with_reducible apply k_pr); (· first | exact C.allen_narrowed T hT m hm8 _ hnl _ _ rfl))
      | ((with_reducible apply k_cs); (· first | exact C.allen_narrowed T hT m hm8 _ hnl _ _ rfl); (try rintro _ _ ⟨rfl, rfl⟩))
      | ((with_reducible apply k_cal); (with_reducible apply go_i); (conv => whnf); (with_reducible apply k_chk); (· exact rfl); (with_reducible apply go_i); (with_reducible apply k_cs); (· first | exact C.allen_narrowed T hT m hm8 _ hnl _ _ rfl); (try rintro _ _ ⟨rfl, rfl⟩))
      | with_reducible apply k_caf
      | with_reducible apply k_n
      | ((with_reducible apply k_dt); (· first | assumption | omega))
      | ((with_reducible apply k_df); (· first | assumption | omega))
      | (with_reducible apply k_d <;> intro _)
      | with_reducible apply k_a
      | with_reducible apply k_o
      | ((with_reducible apply k_bt); (· assumption))
      | ((with_reducible apply k_bf); (· assumption))
      | ((with_reducible apply k_gc); (· assumption))
      | ((with_reducible apply k_gcs); (· assumption); (· first | assumption | omega | (simp only [List.length_cons, List.length_nil, List.length_map]; omega)))
      | ((with_reducible apply k_ste); (· assumption); (· first | assumption | omega))
      | ((with_reducible apply k_stc); (· first | assumption | omega | (simp only [List.length_cons, List.length_nil, List.length_map]; omega) | (simp; done)))
      | (with_reducible apply k_b <;> intro _)
      | ((with_reducible apply k_fz); (· assumption))
      | with_reducible apply k_mp
      | ((with_reducible apply k_wr); (· omega); (· omega))
      | with_reducible apply k_ww
      | ((with_reducible apply k_chk); (· first | omega | assumption | exact rfl | (simp only [List.length_cons, List.length_nil]; omega) | exact wrapu_nn _ | (intro e he; obtain ⟨x, _, rfl⟩ := List.mem_map.1 he; exact rfl) | (intro e he; cases List.mem_singleton.1 he; rfl) | (simp; done)))
      | ((with_reducible apply k_sl); (· first | assumption | exact sld_nsl | exact sld_sl | exact sld_nil | exact sld_cond (by assumption)))
    · rename_i hfx
      have hfix : fixed T m ws = w := by rw [← k3]; exact rounds_stop _ _ _ hfx
      rw [hfix]
      clear hfix
      refine x_nil 10 3 rfl rfl ?_
      repeat' first
        | ((with_reducible apply go_i); (conv => whnf))
        | with_reducible apply k_caf
        | with_reducible apply k_n
        | ((with_reducible apply k_dt); (· first | assumption | omega))
        | ((with_reducible apply k_df); (· first | assumption | omega))
        | (with_reducible apply k_d <;> intro _)
        | with_reducible apply k_a
        | with_reducible apply k_o
        | ((with_reducible apply k_bt); (· assumption))
        | ((with_reducible apply k_bf); (· assumption))
        | ((with_reducible apply k_gc); (· assumption))
        | ((with_reducible apply k_gcs); (· assumption); (· first | assumption | omega | (simp only [List.length_cons, List.length_nil, List.length_map]; omega)))
        | ((with_reducible apply k_ste); (· assumption); (· first | assumption | omega))
        | ((with_reducible apply k_stc); (· first | assumption | omega | (simp only [List.length_cons, List.length_nil, List.length_map]; omega) | (simp; done)))
        | (with_reducible apply k_b <;> intro _)
        | ((with_reducible apply k_fz); (· assumption))
        | with_reducible apply k_mp
        | ((with_reducible apply k_wr); (· omega); (· omega))
        | with_reducible apply k_ww
        | ((with_reducible apply k_chk); (· first | omega | assumption | exact rfl | (simp only [List.length_cons, List.length_nil]; omega) | exact wrapu_nn _ | (intro e he; obtain ⟨x, _, rfl⟩ := List.mem_map.1 he; exact rfl) | (intro e he; cases List.mem_singleton.1 he; rfl) | (simp; done)))
        | ((with_reducible apply k_sl); (· first | assumption | exact sld_nsl | exact sld_sl | exact sld_nil | exact sld_cond (by assumption)))
      have hc3 := n_beq k2
      refine x_loop3 mixed Lt.allen_Tighten_l2 Lk.allen_Tighten_l2 (fun (i : Nat) (out : List (Int × Int × List Int)) (nl : Bool) => [.arr 3 (eOuts out).length, .d (eI i)]) (fun i out nl => [.cells (cU w), .cells (cU T), .cells (cU (narrow T m w m)), .arr (eOuts out) 3 0 nl]) (fun i out nl => i ≤ m ∧ nl = (eOuts out).isEmpty ∧ oAll w m i = some out ∧ out.length ≤ 8 * i) (fun i _ _ => m - i) 0 [] true rfl rfl rfl rfl (fun i out nl _ => ⟨rfl, ?_⟩) rfl ⟨by omega, rfl, rfl, by simp⟩ ?_
      · simp [AO.bndB, cU, AV.bnd1B]
      repeat' first
        | ((with_reducible apply go_i); (conv => whnf))
        | with_reducible apply k_caf
        | with_reducible apply k_n
        | ((with_reducible apply k_dt); (· first | assumption | omega))
        | ((with_reducible apply k_df); (· first | assumption | omega))
        | (with_reducible apply k_d <;> intro _)
        | with_reducible apply k_a
        | with_reducible apply k_o
        | ((with_reducible apply k_bt); (· assumption))
        | ((with_reducible apply k_bf); (· assumption))
        | ((with_reducible apply k_gc); (· assumption))
        | ((with_reducible apply k_gcs); (· assumption); (· first | assumption | omega | (simp only [List.length_cons, List.length_nil, List.length_map]; omega)))
        | ((with_reducible apply k_ste); (· assumption); (· first | assumption | omega))
        | ((with_reducible apply k_stc); (· first | assumption | omega | (simp only [List.length_cons, List.length_nil, List.length_map]; omega) | (simp; done)))
        | (with_reducible apply k_b <;> intro _)
        | ((with_reducible apply k_fz); (· assumption))
        | with_reducible apply k_mp
        | ((with_reducible apply k_wr); (· omega); (· omega))
        | with_reducible apply k_ww
        | ((with_reducible apply k_chk); (· first | omega | assumption | exact rfl | (simp only [List.length_cons, List.length_nil]; omega) | exact wrapu_nn _ | (intro e he; obtain ⟨x, _, rfl⟩ := List.mem_map.1 he; exact rfl) | (intro e he; cases List.mem_singleton.1 he; rfl) | (simp; done)))
        | ((with_reducible apply k_sl); (· first | assumption | exact sld_nsl | exact sld_sl | exact sld_nil | exact sld_cond (by assumption)))
      intro i out nl ⟨q1, q2, q3, q4⟩
      repeat' first
        | ((with_reducible apply go_i); (conv => whnf))
        | with_reducible apply k_caf
        | with_reducible apply k_n
        | ((with_reducible apply k_dt); (· first | assumption | omega))
        | ((with_reducible apply k_df); (· first | assumption | omega))
        | (with_reducible apply k_d <;> intro _)
        | with_reducible apply k_a
        | with_reducible apply k_o
        | ((with_reducible apply k_bt); (· assumption))
        | ((with_reducible apply k_bf); (· assumption))
        | ((with_reducible apply k_gc); (· assumption))
        | ((with_reducible apply k_gcs); (· assumption); (· first | assumption | omega | (simp only [List.length_cons, List.length_nil, List.length_map]; omega)))
        | ((with_reducible apply k_ste); (· assumption); (· first | assumption | omega))
        | ((with_reducible apply k_stc); (· first | assumption | omega | (simp only [List.length_cons, List.length_nil, List.length_map]; omega) | (simp; done)))
        | (with_reducible apply k_b <;> intro _)
        | ((with_reducible apply k_fz); (· assumption))
        | with_reducible apply k_mp
        | ((with_reducible apply k_wr); (· omega); (· omega))
        | with_reducible apply k_ww
        | ((with_reducible apply k_chk); (· first | omega | assumption | exact rfl | (simp only [List.length_cons, List.length_nil]; omega) | exact wrapu_nn _ | (intro e he; obtain ⟨x, _, rfl⟩ := List.mem_map.1 he; exact rfl) | (intro e he; cases List.mem_singleton.1 he; rfl) | (simp; done)))
        | ((with_reducible apply k_sl); (· first | assumption | exact sld_nsl | exact sld_sl | exact sld_nil | exact sld_cond (by assumption)))
      · refine x_loop3 mixed Lt.allen_Tighten_l1 Lk.allen_Tighten_l1 (fun (k : Nat) (out : List (Int × Int × List Int)) (nl : Bool) => [.arr 3 (eOuts out).length, .d (eI k)]) (fun i out nl => [.cells (cU w), .cells (cU T), .cells (cU (narrow T m w m)), .arr (eOuts out) 3 0 nl]) (fun k out' nl => k ≤ m ∧ nl = (eOuts out').isEmpty ∧ oRow w i (some out) k = some out' ∧ out'.length ≤ 8 * i + k) (fun i _ _ => m - i) 0 out nl rfl rfl rfl rfl (fun i out nl _ => ⟨rfl, ?_⟩) rfl ⟨by omega, q2, rfl, by omega⟩ ?_
        · simp [AO.bndB, cU, AV.bnd1B]
        repeat' first
          | ((with_reducible apply go_i); (conv => whnf))
          | with_reducible apply k_caf
          | with_reducible apply k_n
          | ((with_reducible apply k_dt); (· first | assumption | omega))
          | ((with_reducible apply k_df); (· first | assumption | omega))
          | (with_reducible apply k_d <;> intro _)
          | with_reducible apply k_a
          | with_reducible apply k_o
          | ((with_reducible apply k_bt); (· assumption))
          | ((with_reducible apply k_bf); (· assumption))
          | ((with_reducible apply k_gc); (· assumption))
          | ((with_reducible apply k_gcs); (· assumption); (· first | assumption | omega | (simp only [List.length_cons, List.length_nil, List.length_map]; omega)))
          | ((with_reducible apply k_ste); (· assumption); (· first | assumption | omega))
          | ((with_reducible apply k_stc); (· first | assumption | omega | (simp only [List.length_cons, List.length_nil, List.length_map]; omega) | (simp; done)))
          | (with_reducible apply k_b <;> intro _)
          | ((with_reducible apply k_fz); (· assumption))
          | with_reducible apply k_mp
          | ((with_reducible apply k_wr); (· omega); (· omega))
          | with_reducible apply k_ww
          | ((with_reducible apply k_chk); (· first | omega | assumption | exact rfl | (simp only [List.length_cons, List.length_nil]; omega) | exact wrapu_nn _ | (intro e he; obtain ⟨x, _, rfl⟩ := List.mem_map.1 he; exact rfl) | (intro e he; cases List.mem_singleton.1 he; rfl) | (simp; done)))
          | ((with_reducible apply k_sl); (· first | assumption | exact sld_nsl | exact sld_sl | exact sld_nil | exact sld_cond (by assumption)))
        intro k out' nl' ⟨r1, r2, r3, r4⟩
        have hol := eOuts_len out'
        by_cases hk : k < m
        · have hi' : (0 : Int) ≤ (i : Int) ∧ (i : Int) < 8 := by omega
          have hk' : (0 : Int) ≤ (k : Int) ∧ (k : Int) < 8 := by omega
          have g1 := nAt_get k2 hi' hk'
          have l1 := n_le k2 hi' hk'
          have hs := @oRow_step w i k (some out)
          rw [r3, oStep] at hs
          repeat' first
            | ((with_reducible apply go_i); (conv => whnf))
            | ((with_reducible apply k_pc); (· first | exact C.allen_set_list _))
            | with_reducible apply k_caf
            | with_reducible apply k_n
            | ((with_reducible apply k_dt); (· first | assumption | omega))
            | ((with_reducible apply k_df); (· first | assumption | omega))
            | (with_reducible apply k_d <;> intro _)
            | with_reducible apply k_a
            | with_reducible apply k_o
            | ((with_reducible apply k_bt); (· assumption))
            | ((with_reducible apply k_bf); (· assumption))
            | ((with_reducible apply k_gc); (· assumption))
            | ((with_reducible apply k_gcs); (· assumption); (· first | assumption | omega | (simp only [List.length_cons, List.length_nil, List.length_map]; omega)))
            | ((with_reducible apply k_ste); (· assumption); (· first | assumption | omega))
            | ((with_reducible apply k_stc); (· first | assumption | omega | (simp only [List.length_cons, List.length_nil, List.length_map]; omega) | (simp; done)))
            | (with_reducible apply k_b <;> intro _)
            | ((with_reducible apply k_fz); (· assumption))
            | with_reducible apply k_mp
            | ((with_reducible apply k_wr); (· omega); (· omega))
            | with_reducible apply k_ww
            | ((with_reducible apply k_chk); (· first | omega | assumption | exact rfl | (simp only [List.length_cons, List.length_nil]; omega) | exact wrapu_nn _ | (intro e he; obtain ⟨x, _, rfl⟩ := List.mem_map.1 he; exact rfl) | (intro e he; cases List.mem_singleton.1 he; rfl) | (simp; done)))
            | ((with_reducible apply k_sl); (· first | assumption | exact sld_nsl | exact sld_sl | exact sld_nil | exact sld_cond (by assumption)))
          · rename_i h0
            rw [if_pos h0] at hs
            have h1 := oRow_later hs m (by omega)
            have h2 : oAll w m (i + 1) = none := by rw [oAll_row, q3]; exact h1
            rw [oAll_later h2 m (by omega)]
          · rename_i h0 h1
            rw [if_neg h0, if_pos (by omega)] at hs
            refine ⟨k + 1, out' ++ [((i : Int), (k : Int), sList (nAt w i k))], false, ?_, rfl, ?_, by omega, by omega, by simp [eOuts], hs, by simp; omega⟩
            · simp [eOuts]
            · simp [eOuts, eOut]
          · rename_i h0 h1
            rw [if_neg h0, if_neg (by omega)] at hs
            exact ⟨k + 1, out', nl', rfl, rfl, rfl, by omega, by omega, r2, hs, by omega⟩
        · repeat' first
            | ((with_reducible apply go_i); (conv => whnf))
            | with_reducible apply k_caf
            | with_reducible apply k_n
            | ((with_reducible apply k_dt); (· first | assumption | omega))
            | ((with_reducible apply k_df); (· first | assumption | omega))
            | (with_reducible apply k_d <;> intro _)
            | with_reducible apply k_a
            | with_reducible apply k_o
            | ((with_reducible apply k_bt); (· assumption))
            | ((with_reducible apply k_bf); (· assumption))
            | ((with_reducible apply k_gc); (· assumption))
            | ((with_reducible apply k_gcs); (· assumption); (· first | assumption | omega | (simp only [List.length_cons, List.length_nil, List.length_map]; omega)))
            | ((with_reducible apply k_ste); (· assumption); (· first | assumption | omega))
            | ((with_reducible apply k_stc); (· first | assumption | omega | (simp only [List.length_cons, List.length_nil, List.length_map]; omega) | (simp; done)))
            | (with_reducible apply k_b <;> intro _)
            | ((with_reducible apply k_fz); (· assumption))
            | with_reducible apply k_mp
            | ((with_reducible apply k_wr); (· omega); (· omega))
            | with_reducible apply k_ww
            | ((with_reducible apply k_chk); (· first | omega | assumption | exact rfl | (simp only [List.length_cons, List.length_nil]; omega) | exact wrapu_nn _ | (intro e he; obtain ⟨x, _, rfl⟩ := List.mem_map.1 he; exact rfl) | (intro e he; cases List.mem_singleton.1 he; rfl) | (simp; done)))
            | ((with_reducible apply k_sl); (· first | assumption | exact sld_nsl | exact sld_sl | exact sld_nil | exact sld_cond (by assumption)))
          refine ⟨i + 1, out', nl', rfl, rfl, rfl, by omega, by omega, r2, ?_, by omega⟩
          rw [oAll_row, q3, ← r3, show k = m by omega]
      · obtain rfl : m = i := by omega
        rw [q3]
        simp [nsl_cnd q2]
    · rename_i hne
      have hmo : ∀ f ws, mO f (.cells (cU ws)) = .cells (cU ws) := fun f ws => by simp [mO, cU, mC]
      refine ⟨[0, 1, 3], narrow T m w m, rfl, rfl, ?_, by decide, rfl, rfl, narrow_lt T m k1 hne, (narrow_ok T m m k1).1, hnl, ?_⟩
      · simp only [List.map_cons, List.map_nil, hmo]; rfl
      · rw [← k3]; exact fixed_step T m k1 hne
theorem C.allen_Tighten (n : Int) (l : List Con) (hll : l.length ≤ 9223372036854775807) (d : D) (hd : SlD d (eCons l)) :
    Pure Try.prog N.allen_Tighten [.d (eI n), .d d] (.tup [.d (tight n l).1, .d (.bool (tight n l).2)]) := Tighten_T comps comps_len C.allen_compositions n l hll d hd
end Go.Proofs
