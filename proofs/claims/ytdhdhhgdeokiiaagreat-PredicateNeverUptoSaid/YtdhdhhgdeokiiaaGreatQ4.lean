/- Texts of this claim, joined. No condition. -/
import Derived.Test.YtdhdhhgdeokiiaaGreatQ3
import Derived.Test.YtdhdhhgdeokiiaaGreatRows
section
/- Contradictions: the program's. No condition. -/
set_option linter.unusedSimpArgs false
set_option linter.unusedVariables false
set_option maxRecDepth 10000
set_option maxHeartbeats 4000000
namespace Go.Bi
theorem nth_snoc0 {α : Type} {l : List α} {x : α} : (l ++ [x])[l.length + 0]? = some x := by simp
theorem k_ss0 {α : Type} {l : List α} {x y : α} {K : List α → Prop} (k : Go (K (l ++ [y]))) : setK (l ++ [x]) (l.length + 0) y K := setK_eq.2 (by
  have k : K (l ++ [y]) := k
  simpa using k)
theorem app_get {α : Type} {l : List α} {i : Nat} {x : α} (h : l[i]? = some x) (y : α) : (l ++ [y])[i]? = some x := by
  rw [List.getElem?_append_left (List.getElem?_eq_some_iff.1 h).1]; exact h
theorem app_set {α : Type} {l m : List α} {i : Nat} {x : α} (h : l.set i x = m) (hi : i < l.length) (y : α) : (l ++ [y]).set i x = m ++ [y] := by
  rw [List.set_append_left _ _ hi, h]
theorem weak_spare {n nb : Nat} {ρ : Rho} {os : List AO} (sz : Nat) (hsz : 0 < sz) : Weak n nb ρ os ρ (os ++ [.arr [] sz 0 true]) := by
  intro c M G w a hR
  obtain ⟨n1, n2⟩ := env_nil hR.env sz hsz
  exact ⟨M, G, { env := n1, since := hR.since.trans n2, size := hR.size, defers := hR.defers, base := hR.base, tmps := fun s => (hR.tmps s).since n2 }⟩
/-- An array without elements, to spare, ahead of a loop. -/
theorem x_spare {P : Program} {n nb : Nat} {cd : IC} {N : Sl → List AO → Prop} {E0 : Nat → Sl → List AO → Prop} {R : Sl → List AO → Prop} {L : Sl} {os : List AO} (sz : Nat) (hsz : Nat.blt 0 sz = true) (k : LoopX P n nb cd N E0 R L (os ++ [AO.arr [] sz 0 true])) : LoopX P n nb cd N E0 R L os := by
  refine ⟨fun code hc c M G w a hR => ?_⟩
  obtain ⟨M', G', hR'⟩ := weak_spare (n := n) (nb := nb) sz (Nat.lt_of_lt_of_le Nat.zero_lt_one (Nat.le_of_ble_eq_true hsz)) c M G w a hR
  exact k.h code hc c M' G' w a hR'
/-- A loop whose objects may grow in number; a spare array comes in at the end of each round. -/
theorem x_loopS {A : Type} {P : Program} {n nb : Nat} {cd : IC} {N : Sl → List AO → Prop} {E0 : Nat → Sl → List AO → Prop} {R : Sl → List AO → Prop} {L : Sl} {os : List AO} (hm : P.follows .mixedOrders = true) (ts ks : List Nat) (vs : A → List AV) (So : A → List AO) (φ : A → Prop) (μ : A → Nat) (sz : Nat) (a0 : A)
    (hsz : Nat.blt 0 sz = true) (hv : vs a0 = valsOf L ts) (ho : os.take (So a0).length = So a0) (hlen : ∀ a, (vs a).length = ts.length) (hb : ∀ a, φ a → Nat.ble nb (So a).length = true ∧ (vs a).all (fun v => v.bndB (So a).length) = true ∧ (So a).all (fun o => o.bndB (So a).length) = true ∧ (valsOf L ks).all (fun v => v.bndB (So a).length) = true) (h0 : φ a0)
    (step : Go (selK L ks fun ws => ∀ a, φ a → Go (zipSK ts (vs a) (zipS ks ws) fun L3 => xI P n nb cd (fun L' os' => selK L' ts fun vs' => selK L' ks fun ws' => ∃ (σ : List Nat), ∃ a', vs' = (vs a').map (mA (sg σ)) ∧ ws' = ws.map (mA (sg σ)) ∧ σ.map (fun s => (os' ++ [AO.arr [] sz 0 true])[s]?) = (So a').map (fun o => some (mO (sg σ) o)) ∧ σ.Nodup ∧ σ.take nb = List.range nb ∧ ((So a').take nb).map (mO (sg σ)) = (So a').take nb ∧ μ a' < μ a ∧ φ a') E0 R L3 (So a)))) : LoopX P n nb cd N E0 R L os := by
  have step := selK_eq.1 step
  refine ⟨?_⟩
  refine loop_rule hm (fun x : A => ofL (zipS ts (vs x) ++ zipS ks (valsOf L ks))) (fun x => So x) (fun x => φ x) (fun x => μ x) a0 h0 ?_ ?_
  · obtain ⟨b1, b2, b3, b4⟩ := hb a0 h0
    exact weak_sel hv rfl _ (Nat.le_of_ble_eq_true b1) ho b2 b4 b3
  · intro x hx
    have := zipSK_eq.1 (step x hx)
    refine xI_ok (K := ⟨fun L' os' => selK L' ts fun vs' => selK L' ks fun ws' => ∃ (σ : List Nat), ∃ a', vs' = (vs a').map (mA (sg σ)) ∧ ws' = (valsOf L ks).map (mA (sg σ)) ∧ σ.map (fun s => (os' ++ [AO.arr [] sz 0 true])[s]?) = (So a').map (fun o => some (mO (sg σ) o)) ∧ σ.Nodup ∧ σ.take nb = List.range nb ∧ ((So a').take nb).map (mO (sg σ)) = (So a').take nb ∧ μ a' < μ x ∧ φ a', E0, R⟩) ⟨fun L' os' h => ?_, fun i L' os' h => ⟨L', rfl, h⟩, fun L' os' h => ⟨L', rfl, h⟩⟩ this
    have h := selK_eq.1 (selK_eq.1 h)
    obtain ⟨σ, a', h1, h2, h3, h4, h5, h6, h7, h8⟩ := h
    obtain ⟨b1, b2, b3, b4⟩ := hb a' h8
    refine ⟨a', h8, h7, ?_⟩
    intro c M G w a hR
    obtain ⟨M', G', hR'⟩ := weak_spare (n := n) (nb := nb) sz (Nat.lt_of_lt_of_le Nat.zero_lt_one (Nat.le_of_ble_eq_true hsz)) c M G w a hR
    exact weak_selm σ h1 h2 (hlen a') h4 h5 h3 h6 b2 b4 b3 c M' G' w a hR'
end Go.Bi
namespace Go.Proofs
open Go.Bi

/-- A constant that is not true. -/
def nvX (x : Ex) : Bool := match x with
  | .mk op _ _ _ _ _ => decide (op = 1) && !decide (vTruth (ev [] x) = 2)
def nvF (s : D) (x : Ex) : D := match s with
  | .bool b => .bool (b || nvX x)
  | s => s
def okB (k : Nat) (s : D) : Prop := ∃ b, s = .bool b
theorem nvF_fold (l : List Ex) : ∀ b, l.foldl nvF (.bool b) = .bool (b || l.any nvX) := by
  induction l with
  | nil => intro b; simp
  | cons x l ih =>
    intro b
    rw [List.foldl_cons, nvF, ih, List.any_cons, Bool.or_assoc]
theorem C.Never_c1 (x : Ex) (hx : x.bk ≤ 1048576) (k : Nat) (s : D) (hs : okB (k + 1) s) : okB k (nvF s x) ∧ CallSpec Tryz.prog N.predicate_Never_c1 [x.av, .ptr 0 0] [.cells [.d s]] (fun r os => r = .tup [] ∧ os = [.cells [.d (nvF s x)]]) := by
  obtain ⟨b, rfl⟩ := hs
  refine ⟨⟨_, rfl⟩, ?_⟩
  have hE := C.expr_Eval [] (by simp) (by simp) .nil (.inl ⟨rfl, rfl⟩) x hx
  unfold nvF
  dsimp only
  unfold nvX
  obtain ⟨z, hz⟩ : ∃ z, z = ev [] x := ⟨_, rfl⟩
  rw [← hz] at hE ⊢
  obtain ⟨op, n, v, nm, nl, args⟩ := x
  rw [Ex.av_mk] at hE ⊢
  have hT := C.expr_Truth_of [] .nil _ _ _ _ _ _ hE
  dsimp only
  refine F.predicate_Never_c1.goX mixed rfl ?_
  cases b with
  | true =>
    repeat' first
      | refine st ?_
      | ((with_reducible apply go_i); (conv => whnf))
      | (with_reducible apply k_d <;> intro _)
      | (with_reducible apply k_b <;> intro _)
    all_goals exact ⟨rfl, rfl⟩
  | false =>
    by_cases h1 : op = 1
    · by_cases h2 : vTruth z = 2
      · rw [decide_eq_true h1, decide_eq_true h2]
        repeat' first
          | refine st ?_
          | ((with_reducible apply go_i); (conv => whnf))
          | ((with_reducible apply k_pn); (· exact hT))
          | ((with_reducible apply k_pc); (· exact hT))
          | (with_reducible apply k_d <;> intro _)
          | (with_reducible apply k_b <;> intro _)
        all_goals exact ⟨rfl, by simp [h2]⟩
      · rw [decide_eq_true h1, decide_eq_false h2]
        repeat' first
          | refine st ?_
          | ((with_reducible apply go_i); (conv => whnf))
          | ((with_reducible apply k_pn); (· exact hT))
          | ((with_reducible apply k_pc); (· exact hT))
          | (with_reducible apply k_d <;> intro _)
          | (with_reducible apply k_b <;> intro _)
        all_goals exact ⟨rfl, by simp [h2]⟩
    · rw [decide_eq_false h1]
      repeat' first
        | refine st ?_
        | ((with_reducible apply go_i); (conv => whnf))
        | ((with_reducible apply k_pn); (· exact hT))
        | ((with_reducible apply k_pc); (· exact hT))
        | (with_reducible apply k_d <;> intro _)
        | (with_reducible apply k_b <;> intro _)
      all_goals exact ⟨rfl, rfl⟩

/-! ### Conditions by column -/
def arO (J : List Cd) (ks : List Int) : List AO := ks.map fun k => .arr (eDs (onC k J)) 5 0 false
def kvO (J : List Cd) (s : Nat) : List Int → List (D × AV)
  | [] => []
  | k :: ks => (eI k, .arr s (onC k J).length) :: kvO J (s + 1) ks
def Keys (J : List Cd) (ks : List Int) : Prop := ks.Nodup ∧ ∀ k, k ∈ ks ↔ ∃ c ∈ J, c.col = k
theorem eqD_i (a b : Int) : eqD .i (eI a) (eI b) = some (decide (a = b)) := by
  show (if IntKind.i64 = IntKind.i64 then some (a == b) else none) = _
  rw [if_pos rfl, Option.some.injEq, Bool.eq_iff_iff]
  simp
theorem kvO_len (J : List Cd) : ∀ (ks : List Int) (s : Nat), (kvO J s ks).length = ks.length
  | [], _ => rfl
  | k :: ks, s => by rw [kvO, List.length_cons, kvO_len J ks, List.length_cons]
theorem kvO_mok (J : List Cd) (x : Int) : ∀ (ks : List Int) (s : Nat), mok .i (eI x) (kvO J s ks)
  | [], _ => ⟨by simp [kvO], by rw [eqD_i]; simp⟩
  | k :: ks, s => by
    refine ⟨fun p hp => ?_, by rw [eqD_i]; simp⟩
    rw [kvO] at hp
    rcases List.mem_cons.1 hp with rfl | hp
    · rw [eqD_i]; simp
    · exact (kvO_mok J x ks (s + 1)).1 p hp
theorem kvO_get {J : List Cd} {x : Int} : ∀ {ks : List Int} {s j : Nat}, ks.Nodup → ks[j]? = some x → mget .i (eI x) (kvO J s ks) = some (.arr (s + j) (onC x J).length)
  | [], _, _, _, h => by simp at h
  | k :: ks, s, 0, _, h => by
    simp at h; subst h
    rw [kvO, mget, eqD_i, if_pos (by simp)]; rfl
  | k :: ks, s, j + 1, hn, h => by
    rw [List.getElem?_cons_succ] at h
    have hm := List.mem_of_getElem? h
    have hne : x ≠ k := fun e => (List.nodup_cons.1 hn).1 (e ▸ hm)
    rw [kvO, mget, eqD_i, if_neg (by simp [hne]), kvO_get (List.nodup_cons.1 hn).2 h]
    congr 2; omega
theorem kvO_none {J : List Cd} {x : Int} : ∀ {ks : List Int} {s : Nat}, ¬ x ∈ ks → mget .i (eI x) (kvO J s ks) = none
  | [], _, _ => rfl
  | k :: ks, s, h => by
    have hne : x ≠ k := fun e => h (by simp [e])
    rw [kvO, mget, eqD_i, if_neg (by simp [hne])]
    exact kvO_none fun h' => h (by simp [h'])
theorem onC_snoc (x : Int) (J : List Cd) (c : Cd) : onC x (J ++ [c]) = if c.col = x then onC x J ++ [c] else onC x J := by
  unfold onC
  rw [List.filter_append]
  by_cases h : c.col = x <;> simp [h]
theorem kvO_same {J : List Cd} {c : Cd} : ∀ {ks : List Int} {s : Nat}, ¬ c.col ∈ ks → kvO (J ++ [c]) s ks = kvO J s ks
  | [], _, _ => rfl
  | k :: ks, s, h => by
    have hne : c.col ≠ k := fun e => h (by simp [e])
    rw [kvO, kvO, onC_snoc, if_neg hne, kvO_same fun h' => h (by simp [h'])]
theorem kvO_put {J : List Cd} {c : Cd} : ∀ {ks : List Int} {s j : Nat}, ks.Nodup → ks[j]? = some c.col → mput .i (eI c.col) (.arr (s + j) ((onC c.col J).length + 1)) (kvO J s ks) = kvO (J ++ [c]) s ks
  | [], _, _, _, h => by simp at h
  | k :: ks, s, 0, hn, h => by
    simp at h; subst h
    rw [kvO, mput, eqD_i, if_pos (by simp), kvO, onC_snoc, if_pos rfl, kvO_same (List.nodup_cons.1 hn).1]
    simp
  | k :: ks, s, j + 1, hn, h => by
    rw [List.getElem?_cons_succ] at h
    have hm := List.mem_of_getElem? h
    have hne : c.col ≠ k := fun e => (List.nodup_cons.1 hn).1 (e ▸ hm)
    rw [kvO, mput, eqD_i, if_neg (by simp [hne]), kvO, onC_snoc, if_neg hne]
    congr 1
    rw [show s + (j + 1) = s + 1 + j by omega]
    exact kvO_put (List.nodup_cons.1 hn).2 h
theorem kvO_new {J : List Cd} {c : Cd} {v : AV} : ∀ {ks : List Int} {s : Nat}, ¬ c.col ∈ ks → mput .i (eI c.col) v (kvO J s ks) = kvO (J ++ [c]) s ks ++ [(eI c.col, v)]
  | [], _, _ => rfl
  | k :: ks, s, h => by
    have hne : c.col ≠ k := fun e => h (by simp [e])
    rw [kvO, mput, eqD_i, if_neg (by simp [hne]), kvO, onC_snoc, if_neg hne, kvO_new fun h' => h (by simp [h'])]
    rfl
theorem kvO_snoc (J : List Cd) (x : Int) : ∀ (ks : List Int) (s : Nat), kvO J s (ks ++ [x]) = kvO J s ks ++ [(eI x, .arr (s + ks.length) (onC x J).length)]
  | [], s => rfl
  | k :: ks, s => by
    rw [List.cons_append, kvO, kvO_snoc J x ks, kvO, List.cons_append, List.length_cons]
    congr 5; omega
theorem arO_len (J : List Cd) (ks : List Int) : (arO J ks).length = ks.length := by simp [arO]
theorem arO_get {J : List Cd} {ks : List Int} {j : Nat} {x : Int} (h : ks[j]? = some x) : (arO J ks)[j]? = some (.arr (eDs (onC x J)) 5 0 false) := by simp [arO, h]
theorem arO_same {J : List Cd} {c : Cd} {ks : List Int} (h : ¬ c.col ∈ ks) : arO (J ++ [c]) ks = arO J ks := by
  refine List.map_congr_left fun k hk => ?_
  rw [onC_snoc, if_neg (fun e => h (by rw [e]; exact hk))]
theorem arO_set {J : List Cd} {c : Cd} : ∀ {ks : List Int} {j : Nat}, ks.Nodup → ks[j]? = some c.col → (arO J ks).set j (.arr (eDs (onC c.col J) ++ [c.ds]) 5 0 false) = arO (J ++ [c]) ks
  | [], _, _, h => by simp at h
  | k :: ks, 0, hn, h => by
    simp at h; subst h
    have := arO_same (J := J) (List.nodup_cons.1 hn).1
    unfold arO at this ⊢
    rw [List.map_cons, List.set_cons_zero, List.map_cons, this, onC_snoc, if_pos rfl, eDs_app]
  | k :: ks, j + 1, hn, h => by
    rw [List.getElem?_cons_succ] at h
    have hm := List.mem_of_getElem? h
    have hne : c.col ≠ k := fun e => (List.nodup_cons.1 hn).1 (e ▸ hm)
    have := arO_set (List.nodup_cons.1 hn).2 h (J := J)
    unfold arO at this ⊢
    rw [List.map_cons, List.set_cons_succ, this, List.map_cons, onC_snoc, if_neg hne]
theorem onC_nil {J : List Cd} {ks : List Int} (hk : Keys J ks) {x : Int} (h : ¬ x ∈ ks) : onC x J = [] := by
  unfold onC
  rw [List.filter_eq_nil_iff]
  intro c hc e
  exact h ((hk.2 x).2 ⟨c, hc, of_decide_eq_true e⟩)
theorem Keys_old {J : List Cd} {ks : List Int} (hk : Keys J ks) {c : Cd} (h : c.col ∈ ks) : Keys (J ++ [c]) ks := by
  refine ⟨hk.1, fun k => ?_⟩
  rw [hk.2 k]
  constructor
  · rintro ⟨d, hd, e⟩; exact ⟨d, by simp [hd], e⟩
  · rintro ⟨d, hd, e⟩
    rcases List.mem_append.1 hd with h' | h'
    · exact ⟨d, h', e⟩
    · simp at h'; subst h'; subst e; exact (hk.2 _).1 h
theorem Keys_new {J : List Cd} {ks : List Int} (hk : Keys J ks) {c : Cd} (h : ¬ c.col ∈ ks) : Keys (J ++ [c]) (ks ++ [c.col]) := by
  refine ⟨?_, fun k => ?_⟩
  · rw [List.nodup_append]
    exact ⟨hk.1, by simp, fun a ha b hb => by simp at hb; subst hb; exact fun e => h (e ▸ ha)⟩
  · rw [List.mem_append, hk.2 k]
    constructor
    · rintro (⟨d, hd, e⟩ | h')
      · exact ⟨d, by simp [hd], e⟩
      · simp at h'; exact ⟨c, by simp, h'.symm⟩
    · rintro ⟨d, hd, e⟩
      rcases List.mem_append.1 hd with h' | h'
      · exact .inl ⟨d, h', e⟩
      · simp at h'; subst h'; right; simp [e]
theorem take_snoc {J : List Cd} {i : Nat} {c : Cd} (h : J[i]? = some c) : J.take (i + 1) = J.take i ++ [c] := by rw [List.take_add_one, h]; rfl
def neverB (e : Ex) : Bool := (cj e).any nvX || (conds e).any fun c => !posB (onC c.col (conds e))
abbrev NvO (E : List AV) (b : Bool) (J : List Cd) (ks : List Int) : List AO := .cells E :: .cells [.d (.bool b)] :: .map (kvO J 4 ks) :: .arr [] 5 0 true :: arO J ks
theorem kvO_bnd (J : List Cd) (m : Nat) : ∀ (ks : List Int) (s : Nat), s + ks.length ≤ m → (kvO J s ks).all (fun p => p.2.bnd2B m) = true
  | [], _, _ => rfl
  | k :: ks, s, h => by
    rw [List.length_cons] at h
    rw [kvO, List.all_cons, kvO_bnd J m ks (s + 1) (by omega), Bool.and_true]
    exact Nat.ble_eq_true_of_le (by omega)
theorem NvO_bnd (E : List AV) (hE : E.all (fun c => c.bnd1B 0) = true) (b : Bool) (J : List Cd) (ks : List Int) : (NvO E b J ks).all (fun o => o.bndB (NvO E b J ks).length) = true := by
  have hl : (NvO E b J ks).length = ks.length + 4 := by simp [NvO, arO]
  rw [hl]
  have h1 : E.all (fun c => c.bnd1B (ks.length + 4)) = true := by
    rw [List.all_eq_true] at hE ⊢
    intro c hc
    have := hE c hc
    cases c with
    | ptr i o => exact absurd this (by simp [AV.bnd1B, Nat.blt])
    | aptr i l k o => exact absurd this (by simp [AV.bnd1B, Nat.blt])
    | arr i l => exact absurd this (by simp [AV.bnd1B, Nat.blt])
    | clo g cs =>
      simp only [AV.bnd1B, List.all_eq_true] at this ⊢
      intro i hi
      exact absurd (this i hi) (by simp [Nat.blt])
    | iter i => exact absurd this (by simp [AV.bnd1B, Nat.blt])
    | mp i => exact absurd this (by simp [AV.bnd1B, Nat.blt])
    | mit i => exact absurd this (by simp [AV.bnd1B, Nat.blt])
    | _ => rfl
  have h2 := kvO_bnd J (ks.length + 4) ks 4 (by omega)
  simp only [NvO, List.all_cons, AO.bndB, h1, h2, Bool.true_and, Bool.and_eq_true]
  refine ⟨⟨rfl, rfl⟩, ?_⟩
  rw [List.all_eq_true]
  intro o ho
  obtain ⟨k, _, rfl⟩ := List.mem_map.1 ho
  rfl
theorem sg_range {m i : Nat} (h : i < m) : sg (List.range m) i = i := by
  unfold sg
  rw [List.getD_eq_getElem?_getD]
  simp [h]
theorem sig_same {bs rest : List AO} (hb : bs.all (fun o => o.bndB bs.length) = true) : (List.range bs.length).map (fun s => (bs ++ rest)[s]?) = bs.map (fun o => some (mO (sg (List.range bs.length)) o)) := by
  refine List.ext_getElem? fun i => ?_
  rcases Nat.lt_or_ge i bs.length with h | h
  · have hx : bs[i]? = some bs[i] := List.getElem?_eq_getElem h
    rw [List.getElem?_map, List.getElem?_map, hx, List.getElem?_range h]
    simp only [Option.map_some, Option.some.injEq]
    rw [List.getElem?_append_left h, hx, mO_id (k := bs.length) (fun i hi => sg_range hi) (bndo_of (List.all_eq_true.1 hb _ (List.getElem_mem h)))]
  · rw [List.getElem?_eq_none (by simpa using h), List.getElem?_eq_none (by simpa using h)]
abbrev sgN (n : Nat) : List Nat := 0 :: 1 :: 2 :: (n + 5) :: (List.range' 4 n ++ [3])
theorem sgN_mid {n i : Nat} (h1 : 4 ≤ i) (h2 : i < 4 + n) : sg (sgN n) i = i := by
  obtain ⟨k, rfl⟩ : ∃ k, i = k + 4 := ⟨i - 4, by omega⟩
  unfold sg
  rw [List.getD_eq_getElem?_getD]
  simp only [List.getElem?_cons_succ]
  rw [List.getElem?_append_left (by simp; omega), List.getElem?_range' (by omega)]
  simp; omega
theorem sgN_last (n : Nat) : sg (sgN n) (4 + n) = 3 := by
  unfold sg
  rw [List.getD_eq_getElem?_getD, Nat.add_comm 4 n]
  simp only [List.getElem?_cons_succ]
  rw [List.getElem?_append_right (by simp)]
  simp
theorem kvO_map {f : Nat → Nat} {J : List Cd} : ∀ {ks : List Int} {s : Nat}, (∀ i, s ≤ i → i < s + ks.length → f i = i) → (kvO J s ks).map (fun p => (p.1, mG f p.2)) = kvO J s ks
  | [], _, _ => rfl
  | k :: ks, s, h => by
    rw [kvO, List.map_cons, kvO_map fun i h1 h2 => h i (by omega) (by rw [List.length_cons]; omega)]
    simp only [mG, mC]
    rw [h s (Nat.le_refl _) (by simp)]
theorem sgN_nodup (n : Nat) : (sgN n).Nodup := by
  have h : (List.range' 4 n).Nodup := List.nodup_range'
  simp only [sgN, List.nodup_cons, List.mem_cons, List.mem_append, List.mem_range', List.not_mem_nil, or_false, not_or]
  refine ⟨⟨by omega, by omega, by omega, ?_, by omega⟩, ⟨by omega, by omega, ?_, by omega⟩, ⟨by omega, ?_, by omega⟩, ⟨?_, by omega⟩, ?_⟩
  · rintro ⟨i, h1, h2⟩; omega
  · rintro ⟨i, h1, h2⟩; omega
  · rintro ⟨i, h1, h2⟩; omega
  · rintro ⟨i, h1, h2⟩; omega
  · rw [List.nodup_append]
    refine ⟨h, by simp, fun a ha b hb => ?_⟩
    obtain ⟨i, h1, h2⟩ := List.mem_range'.1 ha
    simp at hb
    omega
theorem sig_new (E : List AV) (hE : E.all (fun c => c.bnd1B 0) = true) (b : Bool) (J' : List Cd) (ks : List Int) (x : Int) (A : List (List D)) (C : AO) (hA : eDs (onC x J') = A) :
    (sgN ks.length).map (fun s => (AO.cells E :: AO.cells [.d (.bool b)] :: AO.map (kvO J' 4 ks ++ [(eI x, .arr 3 (onC x J').length)]) :: AO.arr A 5 0 false :: (arO J' ks ++ [C]) ++ [AO.arr [] 5 0 true])[s]?) = (NvO E b J' (ks ++ [x])).map (fun o => some (mO (sg (sgN ks.length)) o)) := by
  have e1 : mO (sg (sgN ks.length)) (.cells E) = .cells E := mO_id (k := 0) (fun i hi => absurd hi (by omega)) (bndo_of (o := .cells E) hE)
  have e2 : mO (sg (sgN ks.length)) (.map (kvO J' 4 (ks ++ [x]))) = .map (kvO J' 4 ks ++ [(eI x, .arr 3 (onC x J').length)]) := by
    rw [kvO_snoc]
    simp only [mO, List.map_append, List.map_cons, List.map_nil]
    rw [kvO_map fun i h1 h2 => sgN_mid h1 h2]
    simp only [mG, mC]
    rw [sgN_last]
  have e3 : arO J' (ks ++ [x]) = arO J' ks ++ [.arr A 5 0 false] := by simp [arO, hA]
  simp only [NvO, sgN, List.map_cons, e1, e2, e3, List.map_append, List.map_nil]
  have hl := arO_len J' ks
  have m1 : ∀ k, (AO.cells E :: AO.cells [.d (.bool b)] :: AO.map (kvO J' 4 ks ++ [(eI x, .arr 3 (onC x J').length)]) :: AO.arr A 5 0 false :: (arO J' ks ++ [C]) ++ [AO.arr [] 5 0 true])[k + 4]? = (arO J' ks ++ [C] ++ [AO.arr [] 5 0 true])[k]? := fun k => rfl
  have m2 : (List.range' 4 ks.length).map (fun s => (AO.cells E :: AO.cells [.d (.bool b)] :: AO.map (kvO J' 4 ks ++ [(eI x, .arr 3 (onC x J').length)]) :: AO.arr A 5 0 false :: (arO J' ks ++ [C]) ++ [AO.arr [] 5 0 true])[s]?) = (arO J' ks).map (fun o => some (mO (sg (sgN ks.length)) o)) := by
    refine List.ext_getElem? fun i => ?_
    rcases Nat.lt_or_ge i ks.length with h | h
    · rw [List.getElem?_map, List.getElem?_map, List.getElem?_range' h]
      simp only [Option.map_some, Nat.one_mul]
      rw [Nat.add_comm 4 i, m1, List.append_assoc, List.getElem?_append_left (by omega)]
      have hk : ks[i]? = some ks[i] := List.getElem?_eq_getElem h
      rw [arO_get hk]; rfl
    · rw [List.getElem?_eq_none (by simpa using h), List.getElem?_eq_none (by simpa [arO] using h)]
  rw [m2, show ks.length + 5 = (ks.length + 1) + 4 by omega, m1]
  have m3 : (arO J' ks ++ [C] ++ [AO.arr [] 5 0 true])[ks.length + 1]? = some (AO.arr [] 5 0 true) := by
    rw [List.getElem?_append_right (by simp [hl])]
    simp [hl]
  rw [m3]
  rfl
theorem eNs (E : List AV) (b : Bool) (J : List Cd) (ks : List Int) (C F : AO) : (AO.cells E :: AO.cells [.d (.bool b)] :: AO.map (kvO J 4 ks) :: AO.arr [] 5 0 true :: (arO J ks ++ [C])) ++ [F] = NvO E b J ks ++ [C, F] := by simp [NvO]
theorem kvO_at {J : List Cd} : ∀ {ks : List Int} {s i : Nat} {p : D × AV}, (kvO J s ks)[i]? = some p → ∃ k, ks[i]? = some k ∧ p = (eI k, .arr (s + i) (onC k J).length)
  | [], _, _, _, h => by simp [kvO] at h
  | k :: ks, s, 0, p, h => by
    simp [kvO] at h; subst h
    exact ⟨k, rfl, rfl⟩
  | k :: ks, s, i + 1, p, h => by
    rw [kvO, List.getElem?_cons_succ] at h
    obtain ⟨x, h1, h2⟩ := kvO_at h
    exact ⟨x, by rw [List.getElem?_cons_succ]; exact h1, by rw [h2]; congr 2; omega⟩
theorem nv_end {J : List Cd} {ks : List Int} (hk : Keys J ks) {seen : List Nat} (h1 : ∀ i, i < ks.length → i ∈ seen) (h2 : ∀ s ∈ seen, s < ks.length) : (seen.any fun s => !posB (onC (ks.getD s 0) J)) = J.any fun c => !posB (onC c.col J) := by
  rw [Bool.eq_iff_iff, List.any_eq_true, List.any_eq_true]
  constructor
  · rintro ⟨s, hs, h⟩
    have hlt := h2 s hs
    have hm : ks.getD s 0 ∈ ks := by rw [List.getD_eq_getElem?_getD, List.getElem?_eq_getElem hlt]; exact List.getElem_mem hlt
    obtain ⟨c, hc, e⟩ := (hk.2 _).1 hm
    exact ⟨c, hc, by rw [e]; exact h⟩
  · rintro ⟨c, hc, h⟩
    obtain ⟨s, hs⟩ := List.getElem?_of_mem ((hk.2 c.col).2 ⟨c, hc, rfl⟩)
    have hlt := (List.getElem?_eq_some_iff.1 hs).1
    refine ⟨s, h1 s hlt, ?_⟩
    rw [List.getD_eq_getElem?_getD, hs]
    exact h
theorem all_set {p : AO → Bool} {l : List AO} {i : Nat} {x : AO} (h : l.all p = true) (hx : p x = true) : (l.set i x).all p = true := by
  rw [List.all_eq_true] at h ⊢
  intro y hy
  rcases List.mem_or_eq_of_mem_set hy with h' | h'
  · exact h y h'
  · rw [h']; exact hx
structure NvS (b : Bool) (J : List Cd) (ks : List Int) (kv : List (D × AV)) (m : Nat) (w : List AO × List Nat × Bool) : Prop where
  len : w.1.length = ks.length + 5
  bnd : w.1.all (fun o => o.bndB (ks.length + 5)) = true
  c1 : w.1[1]? = some (.cells [.d (.bool w.2.2)])
  c2 : w.1[2]? = some (.map kv)
  cm : w.1[m]? = some (.mit 2 kv.length w.2.1)
  ar : ∀ (j : Nat) k, ks[j]? = some k → ∃ f, w.1[j + 4]? = some (.arr (eDs (onC k J)) 5 f false)
  nd : w.2.1.Nodup
  lt : ∀ s ∈ w.2.1, s < ks.length
  is : w.2.2 = (b || w.2.1.any fun s => !posB (onC (ks.getD s 0) J))
theorem NvS.step {b : Bool} {J : List Cd} {ks : List Int} {kv : List (D × AV)} {m : Nat} (hm : m = ks.length + 4) {O O1 O2 : List AO} {seen : List Nat} {bc : Bool} (h : NvS b J ks kv m (O, seen, bc)) {i : Nat} {k : Int} (hk : ks[i]? = some k) (hi : ¬ i ∈ seen)
    (h1 : O.set m (.mit 2 kv.length (seen ++ [i])) = O1) {bd : Bool} (hbd : bd = (bc || !posB (onC k J))) (h2 : O1.set 1 (.cells [.d (.bool bd)]) = O2) : NvS b J ks kv m (O2, seen ++ [i], bd) := by
  obtain ⟨l1, l2, l3, l4, l5, l6, l7, l8, l9⟩ := h
  dsimp only at l1 l2 l3 l4 l5 l6 l7 l8 l9
  have hlt := (List.getElem?_eq_some_iff.1 hk).1
  have hl1 : O1.length = ks.length + 5 := by rw [← h1, List.length_set, l1]
  refine ⟨by rw [← h2]; simp [hl1], ?_, ?_, ?_, ?_, fun j x hj => ?_, ?_, fun s hs => ?_, ?_⟩
  · rw [← h2, ← h1]
    exact all_set (all_set l2 (Nat.ble_eq_true_of_le (by omega))) rfl
  · rw [← h2, List.getElem?_set_self (by omega)]
  · rw [← h2, ← h1, List.getElem?_set_ne (by omega), List.getElem?_set_ne (by omega)]; exact l4
  · rw [← h2, ← h1, List.getElem?_set_ne (by omega), List.getElem?_set_self (by omega)]
  · have := (List.getElem?_eq_some_iff.1 hj).1
    rw [← h2, ← h1, List.getElem?_set_ne (by omega), List.getElem?_set_ne (by omega)]
    exact l6 j x hj
  · rw [List.nodup_append]
    exact ⟨l7, by simp, fun a ha c hc e => by simp at hc; subst hc; subst e; exact hi ha⟩
  · rcases List.mem_append.1 hs with h | h
    · exact l8 s h
    · simp at h; subst h; exact hlt
  · rw [hbd, l9, List.any_append]
    simp only [List.any_cons, List.any_nil, Bool.or_false]
    rw [List.getD_eq_getElem?_getD, hk, Bool.or_assoc]; rfl
theorem NvS.frz {b : Bool} {J : List Cd} {ks : List Int} {kv : List (D × AV)} {m : Nat} (hm : m = ks.length + 4) {O O1 : List AO} {seen : List Nat} {bc : Bool} (h : NvS b J ks kv m (O, seen, bc)) {i : Nat} {k : Int} (hk : ks[i]? = some k) {f : Nat} (h1 : O.set (4 + i) (.arr (eDs (onC k J)) 5 f false) = O1) : NvS b J ks kv m (O1, seen, bc) := by
  obtain ⟨l1, l2, l3, l4, l5, l6, l7, l8, l9⟩ := h
  dsimp only at l1 l2 l3 l4 l5 l6 l7 l8 l9
  have hlt := (List.getElem?_eq_some_iff.1 hk).1
  refine ⟨by rw [← h1]; simp [l1], ?_, ?_, ?_, ?_, fun j x hj => ?_, l7, l8, l9⟩
  · rw [← h1]; exact all_set l2 rfl
  · rw [← h1, List.getElem?_set_ne (by omega)]; exact l3
  · rw [← h1, List.getElem?_set_ne (by omega)]; exact l4
  · rw [← h1, List.getElem?_set_ne (by omega)]; exact l5
  · rw [← h1]
    by_cases e : i = j
    · subst e
      rw [hk] at hj; cases hj
      exact ⟨f, by rw [Nat.add_comm i 4, List.getElem?_set_self (by omega)]⟩
    · rw [List.getElem?_set_ne (by omega)]; exact l6 j x hj
theorem C.predicate_Never (e : Ex) (he : e.bk ≤ 1048576) : Pure Tryz.prog N.predicate_Never [e.av] (.d (.bool (neverB e))) := by
  have hE := (C.each_d N.predicate_Never_c1 nvF okB C.Never_c1 e he 0 (.bool false) ⟨_, rfl⟩).2
  rw [nvF_fold, Bool.false_or] at hE
  have hJ := C.predicate_Conditions e he
  have hok : ∀ c ∈ conds e, cmpOp c.op = true ∧ nSm c.v.n := fun c hc => ⟨(conds_ok hc).1, valid_n (conds_ok hc).2.2⟩
  have hcl := conds_len e
  unfold neverB
  obtain ⟨b, hb⟩ : ∃ b, b = (cj e).any nvX := ⟨_, rfl⟩
  rw [← hb] at hE ⊢
  obtain ⟨J, hJe⟩ : ∃ J, J = conds e := ⟨_, rfl⟩
  rw [← hJe] at hJ hok hcl ⊢
  obtain ⟨q, hq⟩ : ∃ q, q = (b || J.any fun c => !posB (onC c.col J)) := ⟨_, rfl⟩
  rw [← hq]
  have h1 := eDs_len J
  have hm := eDs_mem J
  have hsl : SlD (nsl (eDs J)) (eDs J) := sld_nsl
  obtain ⟨dj, hdj⟩ : ∃ d, d = nsl (eDs J) := ⟨_, rfl⟩
  rw [← hdj] at hJ hsl
  have hL : ∀ os : List AO, os[1]? = some (.cells [.d (.bool false)]) → CallSpec Tryz.prog N.predicate_each [e.av, .clo N.predicate_Never_c1 [1]] os (fun r' os' => r' = .tup [] ∧ os' = os.set 1 (.cells [.d (.bool b)])) := fun os ho => liftF (id := 1) hE (fun f => rfl) ho
  obtain ⟨op, n, v, nm, nl, args⟩ := e
  rw [Ex.av_mk] at hJ ⊢
  simp only [Ex.av_mk] at hL
  obtain ⟨da, hda⟩ : ∃ d, d = ng nl (xL args) := ⟨_, rfl⟩
  rw [← hda] at hJ hL ⊢
  refine F.predicate_Never.go mixed rfl ?_
  repeat' first
    | refine st ?_
    | ((with_reducible apply go_i); (conv => whnf))
    | ((with_reducible apply k_pn); (· exact hJ))
    | ((with_reducible apply k_pc); (· exact hJ))
    | ((with_reducible apply k_nc); (· first | exact hL _ rfl); (try rintro _ _ ⟨rfl, rfl⟩))
    | ((with_reducible apply k_pr); (· first | exact hL _ rfl))
    | ((with_reducible apply k_cs); (· first | exact hL _ rfl); (try rintro _ _ ⟨rfl, rfl⟩))
    | ((with_reducible apply k_cal); refine st ?_; (with_reducible apply k_chk); (· exact rfl); refine st ?_; (with_reducible apply k_cs); (· first | exact hL _ rfl); (try rintro _ _ ⟨rfl, rfl⟩))
    | (with_reducible apply k_d <;> intro _)
    | (with_reducible apply k_b <;> intro _)
  obtain ⟨E, hE'⟩ : ∃ E : List AV, E = [.d (eI op), .d (eI n), .d (eI v.k), .d (eI v.n), .d (.str v.s), .d (.str nm), .d da] := ⟨_, rfl⟩
  have hEb : E.all (fun c => c.bnd1B 0) = true := by rw [hE']; rfl
  rw [← hE']
  refine x_spare 5 rfl ?_
  refine x_loopS mixed Lt.predicate_Never_l0 Lk.predicate_Never_l0 (fun (w : Nat × List Int) => [.d (eI w.1)]) (fun w => NvO E b (J.take w.1) w.2) (fun w => w.1 ≤ J.length ∧ Keys (J.take w.1) w.2) (fun w => J.length - w.1) 5 (0, []) rfl rfl rfl (fun _ => rfl) (fun w hw => ⟨rfl, rfl, NvO_bnd E hEb _ _ _, by
    rw [show (NvO E b (J.take w.1) w.2).length = w.2.length + 4 by simp [NvO, arO]]
    show ([AV.ptr (0 + 1) 0, AV.mp (0 + 1 + 1), AV.d dj, AV.d (.int .i64 (eDs J).length)].all fun v => v.bndB (w.2.length + 4)) = true
    have b1 : Nat.blt (0 + 1) (w.2.length + 4) = true := Nat.ble_eq_true_of_le (by omega)
    have b2 : Nat.blt (0 + 1 + 1) (w.2.length + 4) = true := Nat.ble_eq_true_of_le (by omega)
    simp only [List.all_cons, List.all_nil, AV.bndB, AV.bnd2B, AV.bnd1B, b1, b2, Bool.and_self]⟩) ⟨by omega, by simp [Keys]⟩ ?_
  repeat' first
    | refine st ?_
    | ((with_reducible apply go_i); (conv => whnf))
    | (with_reducible apply k_d <;> intro _)
    | (with_reducible apply k_b <;> intro _)
  rintro ⟨i, ks⟩ ⟨h4, h5⟩
  dsimp only at h4 h5 ⊢
  cases hx : J[i]? with
  | some c =>
    have hlt := (List.getElem?_eq_some_iff.1 hx).1
    have hg := eDs_get hx
    have hT := take_snoc hx
    have hcl2 : (onC c.col (J.take i)).length ≤ 1048576 := by
      have := onC_len c.col (J.take i)
      rw [List.length_take] at this
      omega
    have m1 := kvO_mok (J.take i) c.col ks 4
    have r1 : c.v.s = c.v.s := rfl
    have al := arO_len (J.take i) ks
    obtain ⟨O, hO⟩ : ∃ O, O = NvO E b (J.take i) ks := ⟨_, rfl⟩
    obtain ⟨kv, hkv⟩ : ∃ kv, kv = kvO (J.take i) 4 ks := ⟨_, rfl⟩
    have ol : O.length = ks.length + 4 := by rw [hO]; simp [NvO, arO]
    have o2 : O[2]? = some (.map kv) := by rw [hO, hkv]; rfl
    have o3 : O[3]? = some (.arr [] 5 0 true) := by rw [hO]; rfl
    rw [← hO]
    rw [← hkv] at m1
    obtain ⟨C, hC⟩ : ∃ C, C = AO.cells [.d (eI c.op), .d (eI c.col), .d (eI c.v.k), .d (eI c.v.n), .d (.str c.v.s)] := ⟨_, rfl⟩
    have p2 := app_get o2 (AO.cells [.d (eI c.op), .d (eI c.col), .d (eI c.v.k), .d (eI c.v.n), .d (.str c.v.s)])
    have p3 := app_get o3 (AO.cells [.d (eI c.op), .d (eI c.col), .d (eI c.v.k), .d (eI c.v.n), .d (.str c.v.s)])
    by_cases hin : c.col ∈ ks
    · obtain ⟨j, hj⟩ := List.getElem?_of_mem hin
      have hjl := (List.getElem?_eq_some_iff.1 hj).1
      have e1 : lkR false (zv false [.nil]) (mget .i (eI c.col) kv) = .arr (j + 4) (eDs (onC c.col (J.take i))).length := by rw [hkv, kvO_get h5.1 hj, eDs_len, Nat.add_comm]; rfl
      have e2 : mput .i (eI c.col) (.arr (j + 4) (eDs (onC c.col (J.take i)) ++ [c.ds]).length) kv = kvO (J.take (i + 1)) 4 ks := by
        rw [hkv, hT, ← kvO_put (J := J.take i) (s := 4) h5.1 hj, List.length_append, eDs_len, Nat.add_comm]; rfl
      have a2 := arO_set (J := J.take i) h5.1 hj
      have oj : O[j + 4]? = some (.arr (eDs (onC c.col (J.take i))) 5 0 false) := by rw [hO]; exact arO_get hj
      have pj := app_get oj (AO.cells [.d (eI c.op), .d (eI c.col), .d (eI c.v.k), .d (eI c.v.n), .d (.str c.v.s)])
      obtain ⟨O1, hO1⟩ : ∃ O1, O.set (j + 4) (.arr (eDs (onC c.col (J.take i)) ++ [c.ds]) 5 0 false) = O1 := ⟨_, rfl⟩
      have s1 := app_set hO1 (by omega) (AO.cells [.d (eI c.op), .d (eI c.col), .d (eI c.v.k), .d (eI c.v.n), .d (.str c.v.s)])
      have o1l : O1.length = ks.length + 4 := by rw [← hO1, List.length_set, ol]
      have o12 : O1[2]? = some (.map kv) := by rw [← hO1, List.getElem?_set_ne (by omega)]; exact o2
      have p12 := app_get o12 (AO.cells [.d (eI c.op), .d (eI c.col), .d (eI c.v.k), .d (eI c.v.n), .d (.str c.v.s)])
      have hO2 : O1.set 2 (.map (kvO (J.take (i + 1)) 4 ks)) = NvO E b (J.take (i + 1)) ks := by
        rw [← hO1, hO, hT, show NvO E b (J.take i ++ [c]) ks = .cells E :: .cells [.d (.bool b)] :: .map (kvO (J.take i ++ [c]) 4 ks) :: .arr [] 5 0 true :: arO (J.take i ++ [c]) ks from rfl, ← a2]
        rfl
      obtain ⟨O2, hO2'⟩ : ∃ O2, O2 = NvO E b (J.take (i + 1)) ks := ⟨_, rfl⟩
      rw [← hO2'] at hO2
      have s2 := app_set hO2 (by omega) (AO.cells [.d (eI c.op), .d (eI c.col), .d (eI c.v.k), .d (eI c.v.n), .d (.str c.v.s)])
      have q1 := eDs_len (onC c.col (J.take i))
      have q2 := eDs_mem (onC c.col (J.take i))
      repeat' first
        | refine st ?_
        | ((with_reducible apply go_i); (conv => whnf))
        | (with_reducible apply k_ln)
        | (with_reducible apply k_ap0)
        | (with_reducible apply k_ap)
        | (with_reducible apply k_ss0)
        | ((with_reducible apply k_sj);  (· assumption))
        | ((with_reducible apply k_nt);  (· first | assumption | exact nth_snoc0))
        | ((with_reducible apply k_chk);  (· (show chkT _ _ = true); simp [chkT, disjA]; omega))
        | (with_reducible apply k_d <;> intro _)
        | (with_reducible apply k_b <;> intro _)
      have hln : (NvO E b (J.take (i + 1)) ks).length = ks.length + 4 := by simp [NvO, arO]
      have hs := sig_same (rest := [AO.cells [.d (eI c.op), .d (eI c.col), .d (eI c.v.k), .d (eI c.v.n), .d (.str c.v.s)], AO.arr [] 5 0 true]) (NvO_bnd E hEb b (J.take (i + 1)) ks)
      rw [hln, ← hO2'] at hs
      refine ⟨List.range (ks.length + 4), (i + 1, ks), rfl, ?_, ?_, List.nodup_range, rfl, rfl, by show J.length - (i + 1) < J.length - i; omega, by show i + 1 ≤ J.length; omega, by show Keys (J.take (i + 1)) ks; rw [hT]; exact Keys_old h5 hin⟩
      · have w1 : sg (List.range (ks.length + 4)) (0 + 1) = 0 + 1 := sg_range (by omega)
        have w2 : sg (List.range (ks.length + 4)) (0 + 1 + 1) = 0 + 1 + 1 := sg_range (by omega)
        simp only [List.map_cons, List.map_nil, mA, mG, mC, w1, w2]
      · rw [List.append_assoc]
        show _ = (NvO E b (J.take (i + 1)) ks).map _
        rw [← hO2']
        exact hs
    · have e1 : lkR false (zv false [.nil]) (mget .i (eI c.col) kv) = .d .nil := by rw [hkv, kvO_none hin]; rfl
      have e2 : mput .i (eI c.col) (.arr 3 ([] ++ [c.ds] : List (List D)).length) kv = kvO (J.take (i + 1)) 4 ks ++ [(eI c.col, .arr 3 1)] := by rw [hkv, kvO_new hin, hT]; rfl
      have a2 := arO_same (J := J.take i) hin
      have on1 := onC_nil h5 hin
      have on2 : onC c.col (J.take (i + 1)) = [c] := by rw [hT, onC_snoc, if_pos rfl, on1]; rfl
      rw [← hT] at a2
      have hs := sig_new E hEb b (J.take (i + 1)) ks c.col [c.ds] (AO.cells [.d (eI c.op), .d (eI c.col), .d (eI c.v.k), .d (eI c.v.n), .d (.str c.v.s)]) (by rw [on2]; rfl)
      rw [on2] at hs
      obtain ⟨O1, hO1⟩ : ∃ O1, O.set 3 (.arr ([] ++ [c.ds] : List (List D)) 5 0 false) = O1 := ⟨_, rfl⟩
      have s1 := app_set hO1 (by omega) (AO.cells [.d (eI c.op), .d (eI c.col), .d (eI c.v.k), .d (eI c.v.n), .d (.str c.v.s)])
      have o1l : O1.length = ks.length + 4 := by rw [← hO1, List.length_set, ol]
      have o12 : O1[2]? = some (.map kv) := by rw [← hO1, List.getElem?_set_ne (by omega)]; exact o2
      have p12 := app_get o12 (AO.cells [.d (eI c.op), .d (eI c.col), .d (eI c.v.k), .d (eI c.v.n), .d (.str c.v.s)])
      obtain ⟨O2, hO2⟩ : ∃ O2, O1.set 2 (.map (kvO (J.take (i + 1)) 4 ks ++ [(eI c.col, .arr 3 1)])) = O2 := ⟨_, rfl⟩
      have s2 := app_set hO2 (by omega) (AO.cells [.d (eI c.op), .d (eI c.col), .d (eI c.v.k), .d (eI c.v.n), .d (.str c.v.s)])
      have hO2' : O2 = AO.cells E :: AO.cells [.d (.bool b)] :: AO.map (kvO (J.take (i + 1)) 4 ks ++ [(eI c.col, .arr 3 1)]) :: AO.arr [c.ds] 5 0 false :: arO (J.take (i + 1)) ks := by
        rw [← hO2, ← hO1, hO, a2]; rfl
      repeat' first
        | (with_reducible apply k_lk2)
        | refine st ?_
        | ((with_reducible apply go_i); (conv => whnf))
        | (with_reducible apply k_ln)
        | (with_reducible apply k_ap0)
        | (with_reducible apply k_ap)
        | (with_reducible apply k_ss0)
        | ((with_reducible apply k_sj);  (· assumption))
        | ((with_reducible apply k_nt);  (· first | assumption | exact nth_snoc0))
        | ((with_reducible apply k_chk);  (· (show chkT _ _ = true); simp [chkT, disjA]; omega))
        | (with_reducible apply k_d <;> intro _)
        | (with_reducible apply k_b <;> intro _)
      refine ⟨sgN ks.length, (i + 1, ks ++ [c.col]), rfl, rfl, ?_, sgN_nodup _, rfl, rfl, by show J.length - (i + 1) < J.length - i; omega, by show i + 1 ≤ J.length; omega, by show Keys (J.take (i + 1)) (ks ++ [c.col]); rw [hT]; exact Keys_new h5 hin⟩
      rw [hO2']
      exact hs
  | none =>
    have hge := List.getElem?_eq_none_iff.1 hx
    rw [List.take_of_length_le hge] at h5 ⊢
    obtain ⟨O, hO⟩ : ∃ O, O = NvO E b J ks := ⟨_, rfl⟩
    obtain ⟨kv, hkv⟩ : ∃ kv, kv = kvO J 4 ks := ⟨_, rfl⟩
    have ol : O.length = ks.length + 4 := by rw [hO]; simp [NvO, arO]
    have o2 : O[2]? = some (.map kv) := by rw [hO, hkv]; rfl
    have kl : kv.length = ks.length := by rw [hkv, kvO_len]
    rw [← hO]
    repeat' first
      | refine st ?_
      | ((with_reducible apply go_i); (conv => whnf))
      | (with_reducible apply k_ln)
      | (with_reducible apply k_ap)
      | ((with_reducible apply k_nt);  (· first | assumption))
      | (with_reducible apply k_d <;> intro _)
      | (with_reducible apply k_b <;> intro _)
    have oS : NvS b J ks kv (O.length + 0) (O ++ [AO.mit (0 + 1 + 1) kv.length []], [], b) := by
      refine ⟨by simp [ol], ?_, ?_, app_get o2 _, nth_snoc0, fun j k hj => ⟨0, app_get ?_ _⟩, by simp, by simp, by simp⟩
      · have hb := NvO_bnd E hEb b J ks
        rw [← hO, ol] at hb
        show (O ++ [AO.mit (0 + 1 + 1) kv.length []]).all _ = true
        rw [List.all_append, Bool.and_eq_true]
        refine ⟨?_, ?_⟩
        · rw [List.all_eq_true] at hb ⊢
          intro o ho
          have h1 := hb o ho
          rw [hO] at ho
          simp only [NvO, List.mem_cons] at ho
          rcases ho with rfl | rfl | rfl | rfl | ho
          · have := NvO_bnd E hEb b (J ++ [cd0]) (ks ++ [0])
            rw [show (NvO E b (J ++ [cd0]) (ks ++ [0])).length = ks.length + 5 by simp [NvO, arO]] at this
            exact List.all_eq_true.1 this _ (List.mem_cons_self ..)
          · rfl
          · exact kvO_bnd J (ks.length + 5) ks 4 (by omega)
          · rfl
          · obtain ⟨k, _, rfl⟩ := List.mem_map.1 ho
            rfl
        · simp only [List.all_cons, List.all_nil, Bool.and_true]
          exact Nat.ble_eq_true_of_le (by omega)
      · show (O ++ _)[1]? = _
        rw [hO]; rfl
      · rw [hO]
        exact arO_get hj
    refine x_loopS mixed Lt.predicate_Never_l1 Lk.predicate_Never_l1 (fun (w : List AO × List Nat × Bool) => []) (fun w => w.1) (fun w => NvS b J ks kv (O.length + 0) w) (fun w => ks.length - w.2.1.length) 5 (O ++ [AO.mit (0 + 1 + 1) kv.length []], [], b) rfl rfl ?_ (fun _ => rfl) ?_ oS ?_
    · exact List.take_of_length_le (Nat.le_refl _)
    · rintro ⟨Oc, seen, bc⟩ hS
      have w1 := hS.len
      have w2 := hS.bnd
      dsimp only at w1 w2 ⊢
      rw [w1]
      refine ⟨rfl, rfl, w2, ?_⟩
      show ([AV.ptr (0 + 1) 0, AV.mit (O.length + 0)].all fun v => v.bndB (ks.length + 5)) = true
      have b1 : Nat.blt (0 + 1) (ks.length + 5) = true := Nat.ble_eq_true_of_le (by omega)
      have b2 : Nat.blt (O.length + 0) (ks.length + 5) = true := Nat.ble_eq_true_of_le (by omega)
      simp only [List.all_cons, List.all_nil, AV.bndB, AV.bnd2B, AV.bnd1B, b1, b2, Bool.and_self]
    repeat' first
      | refine st ?_
      | ((with_reducible apply go_i); (conv => whnf))
      | (with_reducible apply k_d <;> intro _)
      | (with_reducible apply k_b <;> intro _)
    rintro ⟨Oc, seen, bc⟩ hS
    have w3 := hS.c1
    have w4 := hS.c2
    have w5 := hS.cm
    dsimp only at w3 w4 w5 ⊢
    repeat' first
      | refine st ?_
      | ((with_reducible apply go_i); (conv => whnf))
      | (with_reducible apply k_ln)
      | (with_reducible apply k_ap)
      | ((with_reducible apply k_nt);  (· first | assumption))
      | (with_reducible apply k_d <;> intro _)
      | (with_reducible apply k_b <;> intro _)
    refine ⟨rfl, fun i p hi hp => ?_, fun hall => ?_⟩
    · have hp' := hp
      rw [hkv] at hp'
      obtain ⟨k, hk, rfl⟩ := kvO_at hp'
      have hkl := (List.getElem?_eq_some_iff.1 hk).1
      obtain ⟨Oc1, hO1⟩ : ∃ O1, Oc.set (O.length + 0) (.mit 2 kv.length (seen ++ [i])) = O1 := ⟨_, rfl⟩
      have hl0 := hS.len
      dsimp only at hl0
      have v1 : Oc1[1]? = some (.cells [.d (.bool bc)]) := by rw [← hO1, List.getElem?_set_ne (by omega)]; exact w3
      have v2 : Oc1[2]? = some (.map kv) := by rw [← hO1, List.getElem?_set_ne (by omega)]; exact w4
      have v3 : Oc1[O.length + 0]? = some (.mit 2 kv.length (seen ++ [i])) := by rw [← hO1, List.getElem?_set_self (by omega)]
      have gl : (seen ++ [i]).getLast? = some i := by simp
      have hlo : O.length + 0 = ks.length + 4 := by omega
      have slt : seen.length < ks.length := by
        have h1 : (seen ++ [i]).Nodup := by
          rw [List.nodup_append]
          exact ⟨hS.nd, by simp, fun a ha c hc e => by simp at hc; subst hc; subst e; exact hi ha⟩
        have h2 : (seen ++ [i]).length ≤ (List.range ks.length).length := by
          refine List.Nodup.length_le_of_subset h1 fun s hs => ?_
          rw [List.mem_range]
          rcases List.mem_append.1 hs with h | h
          · exact hS.lt s h
          · simp at h; subst h; exact hkl
        simp at h2
        omega
      have ends : ∀ (O2 : List AO) (bd : Bool), NvS b J ks kv (O.length + 0) (O2, seen ++ [i], bd) → ∃ (σ : List Nat) (a' : List AO × List Nat × Bool), ([] : List AV) = List.map (mA (sg σ)) [] ∧ [AV.ptr (0 + 1) 0, AV.mit (O.length + 0)] = List.map (mA (sg σ)) [AV.ptr (0 + 1) 0, AV.mit (O.length + 0)] ∧ List.map (fun s => (O2 ++ [AO.arr [] 5 0 true])[s]?) σ = List.map (fun o => some (mO (sg σ) o)) a'.1 ∧ σ.Nodup ∧ List.take 0 σ = List.range 0 ∧ List.map (mO (sg σ)) (List.take 0 a'.1) = List.take 0 a'.1 ∧ ks.length - a'.2.1.length < ks.length - seen.length ∧ NvS b J ks kv (O.length + 0) a' := by
        intro O2 bd hN
        have l2 := hN.len
        have hb2 := hN.bnd
        dsimp only at l2 hb2
        rw [← l2] at hb2
        have hs := sig_same (rest := [AO.arr [] 5 0 true]) hb2
        have s1 : sg (List.range O2.length) (0 + 1) = 0 + 1 := sg_range (by omega)
        have s2 : sg (List.range O2.length) (O.length + 0) = O.length + 0 := sg_range (by omega)
        refine ⟨List.range O2.length, (O2, seen ++ [i], bd), rfl, ?_, hs, List.nodup_range, rfl, rfl, ?_, hN⟩
        · simp only [List.map_cons, List.map_nil, mA, mG, mC, s1, s2]
        · rw [List.length_append]; simp only [List.length_cons, List.length_nil]; omega
      cases bc with
      | true =>
        obtain ⟨O2, hO2⟩ : ∃ O2, Oc1.set 1 (.cells [.d (.bool true)]) = O2 := ⟨_, rfl⟩
        have hN := hS.step hlo hk hi hO1 (bd := true) rfl hO2
        repeat' first
          | refine st ?_
          | ((with_reducible apply go_i); (conv => whnf))
          | ((with_reducible apply k_sj);  (· assumption))
          | ((with_reducible apply k_nt);  (· first | assumption))
          | ((with_reducible apply k_me);  (· rfl);  (· assumption);  (· assumption))
          | (with_reducible apply k_d <;> intro _)
          | (with_reducible apply k_b <;> intro _)
        exact ends O2 true hN
      | false =>
        obtain ⟨f, hf⟩ := hS.ar i k hk
        dsimp only at hf
        have v4 : Oc1[4 + i]? = some (.arr (eDs (onC k J)) 5 f false) := by rw [← hO1, List.getElem?_set_ne (by omega), Nat.add_comm 4 i]; exact hf
        obtain ⟨Oc2, hO2⟩ : ∃ O2, Oc1.set (4 + i) (.arr (eDs (onC k J)) 5 (eDs (onC k J)).length false) = O2 := ⟨_, rfl⟩
        have v5 : Oc2[1]? = some (.cells [.d (.bool false)]) := by rw [← hO2, List.getElem?_set_ne (by omega)]; exact v1
        obtain ⟨bd, hbd⟩ : ∃ bd, bd = !posB (onC k J) := ⟨_, rfl⟩
        obtain ⟨O3, hO3⟩ : ∃ O3, Oc2.set 1 (.cells [.d (.bool bd)]) = O3 := ⟨_, rfl⟩
        have q1 := eDs_len (onC k J)
        have hN : NvS b J ks kv (O.length + 0) (O3, seen ++ [i], bd) := by
          obtain ⟨Od, hOd⟩ : ∃ O1, Oc.set (4 + i) (.arr (eDs (onC k J)) 5 (eDs (onC k J)).length false) = O1 := ⟨_, rfl⟩
          have hS' := hS.frz hlo hk hOd
          refine hS'.step hlo hk hi (O1 := Oc2) ?_ (bd := bd) (by rw [hbd]; rfl) hO3
          rw [← hO2, ← hO1, ← hOd, List.set_comm _ _ (by omega)]
        have hne : onC k J ≠ [] := by
          obtain ⟨c, hc, e⟩ := (h5.2 k).1 (List.mem_of_getElem? hk)
          intro hnil
          have : c ∈ onC k J := List.mem_filter.2 ⟨hc, by simp [e]⟩
          rw [hnil] at this; cases this
        have hP := C.predicate_possible (onC k J) (by have := onC_len k J; omega) (fun c hc => hok c (List.mem_filter.1 hc).1) hne (.sl (eDs (onC k J))) (.inr rfl)
        obtain ⟨pb, hpb⟩ : ∃ pb, pb = posB (onC k J) := ⟨_, rfl⟩
        rw [← hpb] at hP hbd
        subst hbd
        repeat' first
          | refine st ?_
          | ((with_reducible apply go_i); (conv => whnf))
          | ((with_reducible apply k_sj);  (· assumption))
          | ((with_reducible apply k_nt);  (· first | assumption))
          | ((with_reducible apply k_me);  (· rfl);  (· assumption);  (· assumption))
          | ((with_reducible apply k_pn); (· exact hP))
          | ((with_reducible apply k_pc); (· exact hP))
          | (with_reducible apply k_d <;> intro _)
          | (with_reducible apply k_b <;> intro _)
        exact ends O3 _ hN
    · have hbc := hS.is
      dsimp only at hbc
      have he : (seen.any fun s => !posB (onC (ks.getD s 0) J)) = J.any fun c => !posB (onC c.col J) := nv_end h5 (fun i hi => hall i (by omega)) hS.lt
      rw [he, ← hq] at hbc
      rw [hbc] at w3
      repeat' first
        | refine st ?_
        | ((with_reducible apply go_i); (conv => whnf))
        | ((with_reducible apply k_nt);  (· first | assumption))
        | (with_reducible apply k_d <;> intro _)
        | (with_reducible apply k_b <;> intro _)
      all_goals rfl
end Go.Proofs
end
section
/- The reference's contradictions. No condition. -/
set_option linter.unusedSimpArgs false
set_option linter.unusedVariables false
set_option maxRecDepth 10000
set_option maxHeartbeats 4000000
namespace Go.Proofs
open Go.Bi

theorem C.r12_texts (a b : Cd) : Pure Tryz.prog N.bt_ref12_texts [a.av, b.av] (.d (.bool (tx2 a b))) := by
  obtain ⟨o1, c1, k1, n1, s1⟩ := a
  obtain ⟨o2, c2, k2, n2, s2⟩ := b
  obtain ⟨q, hq⟩ : ∃ q, q = tx2 ⟨o1, c1, ⟨k1, n1, s1⟩⟩ ⟨o2, c2, ⟨k2, n2, s2⟩⟩ := ⟨_, rfl⟩
  rw [← hq]
  obtain ⟨h3, h4, h5, h6⟩ := cmpB_less s1 s2
  have hgt : decide (0 < cmpB s1 s2) = (!Op.bytesLess s1 s2 && !decide (s1 = s2)) := by
    rw [h3]
    rcases h6 with h | h | h
    · rw [h]; rfl
    · rw [h, decide_eq_true (h5.1 h)]; rfl
    · have hne : decide (s1 = s2) = false := decide_eq_false (fun e => by rw [h5.2 e] at h; cases h)
      rw [h, hne]; rfl
  have hq : q = (decide (o2 = 9 ∧ s2 = []) || (decide (loA o1 = true ∧ hiA o2 = true) && (decide (0 < cmpB s1 s2) || decide (s1 = s2 ∧ (o1 = 11 ∨ o2 = 9))))) := by
    rw [hq, tx2, Bool.decide_or]
  rw [hgt] at hq
  clear h3 h4 h5 h6 hgt
  unfold loA hiA at hq
  show Bi.Pure Tryz.prog N.bt_ref12_texts [.agg [.d (eI o1), .d (eI c1), .d (eI k1), .d (eI n1), .d (.str s1)], .agg [.d (eI o2), .d (eI c2), .d (eI k2), .d (eI n2), .d (.str s2)]] (.d (.bool q))
  refine F.bt_ref12_texts.go mixed rfl ?_
  repeat' first
    | refine st ?_
    | ((with_reducible apply go_i); (conv => whnf))
    | (with_reducible apply k_d <;> intro _)
    | (with_reducible apply k_b <;> intro _)
  all_goals (rw [hq]; first | rfl | (simp_all; done) | skip)

theorem pos_kind {l : List Cd} {c0 x : Cd} {i : Nat} (h0 : l[0]? = some c0) (hx : l[i]? = some x) (hk : x.v.k ≠ c0.v.k) : posB l = false := by
  rw [posB_at h0]
  have : l.all (fun x => decide (x.v.k = c0.v.k)) = false := by
    rw [Bool.eq_false_iff]
    intro h
    have := List.all_eq_true.1 h x (List.mem_of_getElem? hx)
    exact hk (of_decide_eq_true this)
  rw [this, Bool.false_and]
theorem pos_text {l : List Cd} {c0 a b : Cd} {i k : Nat} (h0 : l[0]? = some c0) (hk : c0.v.k = 2) (ha : l[i]? = some a) (hb : l[k]? = some b) (h : tx2 a b = true) : posB l = false := by
  rw [posB_at h0, if_pos hk, txP_eq]
  have : (l.any fun a => l.any fun b => tx2 a b) = true := List.any_eq_true.2 ⟨a, List.mem_of_getElem? ha, List.any_eq_true.2 ⟨b, List.mem_of_getElem? hb, h⟩⟩
  rw [this, Bool.not_true, Bool.and_false]
theorem pos_end {l : List Cd} {c0 : Cd} (h0 : l[0]? = some c0) (hk : ∀ x ∈ l, x.v.k = c0.v.k) (ht : c0.v.k = 2 → ∀ a ∈ l, ∀ b ∈ l, tx2 a b = false) : (!posB l) = (!decide (c0.v.k = 2) && decide ((rng c0.v.k l).2 < (rng c0.v.k l).1)) := by
  rw [posB_at h0]
  have h1 : l.all (fun x => decide (x.v.k = c0.v.k)) = true := List.all_eq_true.2 fun x hx => decide_eq_true (hk x hx)
  rw [h1, Bool.true_and]
  by_cases h2 : c0.v.k = 2
  · rw [if_pos h2, txP_eq, decide_eq_true h2, Bool.not_true, Bool.false_and, Bool.not_not]
    rw [Bool.eq_false_iff]
    intro h
    obtain ⟨a, ha, h⟩ := List.any_eq_true.1 h
    obtain ⟨b, hb, h⟩ := List.any_eq_true.1 h
    rw [ht h2 a ha b hb] at h
    cases h
  · rw [if_neg h2, decide_eq_false h2, Bool.not_not, Bool.not_false, Bool.true_and]
def crg (k0 : Int) (l : List Cd) (i : Nat) : Int × Int := if i = 0 then (-1125899906842624, 1125899906842624) else rng k0 (l.take i)
theorem crg_succ {k0 : Int} {l : List Cd} {i : Nat} {c : Cd} (h : l[i]? = some c) : crg k0 l (i + 1) = nar (if i = 0 then rng0 k0 else crg k0 l i) c := by
  unfold crg rng
  rw [if_neg (by omega), List.take_add_one, h]
  simp only [Option.toList_some, List.foldl_append, List.foldl_cons, List.foldl_nil]
  by_cases hi : i = 0
  · subst hi
    rw [if_pos rfl]; rfl
  · rw [if_neg hi, if_neg hi]
theorem C.r12_contradict (l : List Cd) (hl : l.length ≤ 1048576) (hok : ∀ c ∈ l, cmpOp c.op = true ∧ nSm c.v.n) (hne : l ≠ []) : Pure Tryz.prog N.bt_ref12_contradict [.d (.sl (eDs l))] (.d (.bool (!posB l))) := by
  have h1 := eDs_len l
  have hm := eDs_mem l
  have h0 : 0 < l.length := List.length_pos_iff.2 hne
  obtain ⟨c0, hc0⟩ : ∃ c, l[0]? = some c := ⟨_, List.getElem?_eq_getElem h0⟩
  have pk := fun (i : Nat) (x : Cd) hx hk => @pos_kind l c0 x i hc0 hx hk
  have pt := fun (i k : Nat) (a b : Cd) hk ha hb h => @pos_text l c0 a b i k hc0 hk ha hb h
  have pe := @pos_end l c0 hc0
  obtain ⟨q, hq⟩ : ∃ q, q = !posB l := ⟨_, rfl⟩
  rw [← hq] at pe ⊢
  have pk : ∀ (i : Nat) (x : Cd), l[i]? = some x → x.v.k ≠ c0.v.k → q = true := fun i x hx hk => by rw [hq, pk i x hx hk]; rfl
  have pt : ∀ (i k : Nat) (a b : Cd), c0.v.k = 2 → l[i]? = some a → l[k]? = some b → tx2 a b = true → q = true := fun i k a b hk ha hb h => by rw [hq, pt i k a b hk ha hb h]; rfl
  clear hq
  have hgs : ∀ (i : Nat) (x : Cd), l[i]? = some x → (eDs l)[i]? = some [eI x.op, eI x.col, eI x.v.k, eI x.v.n, .str x.v.s] := fun i x h => eDs_get h
  obtain ⟨es, hes⟩ : ∃ es, es = eDs l := ⟨_, rfl⟩
  rw [← hes] at h1 hm hgs ⊢
  have g0 := hgs 0 c0 hc0
  obtain ⟨k0, hk0⟩ : ∃ k, k = c0.v.k := ⟨_, rfl⟩
  rw [← hk0] at g0 pk pt pe
  refine F.bt_ref12_contradict.go mixed rfl ?_
  repeat' first
    | refine st ?_
    | ((with_reducible apply go_i); (conv => whnf))
    | (with_reducible apply k_d <;> intro _)
    | (with_reducible apply k_b <;> intro _)
  refine x_loop2 mixed Lt.bt_ref12_contradict_l1 Lk.bt_ref12_contradict_l1 (fun (i : Nat) (r : Int × Int) => [.d (eI i)]) (fun i r => [.cells [.d (eI r.1), .d (eI r.2)]]) (fun i r => i ≤ l.length ∧ r = crg k0 l i ∧ (∀ x ∈ l.take i, x.v.k = k0) ∧ (k0 = 2 → ∀ a ∈ l.take i, ∀ b ∈ l, b.v.k = 2 → tx2 a b = false)) (fun i _ => l.length - i) 0 (-1125899906842624, 1125899906842624) rfl rfl rfl rfl (fun _ _ _ => ⟨rfl, rfl⟩) rfl ⟨by omega, rfl, by simp, by simp⟩ ?_
  repeat' first
    | refine st ?_
    | ((with_reducible apply go_i); (conv => whnf))
    | (with_reducible apply k_d <;> intro _)
    | (with_reducible apply k_b <;> intro _)
  intro i r ⟨h4, h5, h6, h7⟩
  cases hx : l[i]? with
  | some x =>
    have hlt := (List.getElem?_eq_some_iff.1 hx).1
    have hg := hgs i x hx
    by_cases hk : x.v.k = k0
    rotate_left
    · have hq := pk i x hx hk
      rw [hq]
      repeat' first
        | refine st ?_
        | ((with_reducible apply go_i); (conv => whnf))
        | (with_reducible apply k_d <;> intro _)
        | (with_reducible apply k_b <;> intro _)
      all_goals first | rfl | (exfalso; omega)
    have hkk : x.v.k = k0 := hk
    obtain ⟨o1, n1⟩ := hok x (List.mem_of_getElem? hx)
    have hs := crg_succ (k0 := k0) hx
    have hmem : ∀ {P : Cd → Prop}, (∀ y ∈ l.take i, P y) → P x → ∀ y ∈ l.take (i + 1), P y := fun h1 h2 y hy => by
      rw [List.take_add_one, hx] at hy
      rcases List.mem_append.1 hy with hy | hy
      · exact h1 y hy
      · simp at hy; subst hy; exact h2
    obtain ⟨R0, hR0⟩ : ∃ R0, R0 = (if i = 0 then rng0 k0 else crg k0 l i) := ⟨_, rfl⟩
    rw [← hR0] at hs
    have hN := C.r12_narrowed R0 x o1 n1
    obtain ⟨w, hw⟩ : ∃ w, w = nar R0 x := ⟨_, rfl⟩
    rw [← hw] at hN hs
    clear hw
    obtain ⟨w1, w2⟩ := w
    obtain ⟨xo, xc, xk, xn, xs⟩ := x
    dsimp only at hk hkk
    replace hN : Bi.Pure Tryz.prog N.bt_ref12_narrowed [.agg [.d (eI R0.1), .d (eI R0.2)], .agg [.d (eI xo), .d (eI xc), .d (eI xk), .d (eI xn), .d (.str xs)]] (.agg [.d (eI w1), .d (eI w2)]) := hN
    subst hk
    have e0 : xk = xk := rfl
    obtain ⟨r1, r2⟩ := r
    by_cases z : xk = 3 ∧ i = 0
    · obtain ⟨z1, z2⟩ := z
      have hR : R0 = (0, 1) := by rw [hR0, if_pos z2, z1]; rfl
      subst hR
      dsimp only at hN
      have z3 : (i : Int) = 0 := by omega
      repeat' first
        | refine st ?_
        | ((with_reducible apply go_i); (conv => whnf))
        | ((with_reducible apply k_pn); (· exact hN))
        | ((with_reducible apply k_pc); (· exact hN))
        | (with_reducible apply k_d <;> intro _)
        | (with_reducible apply k_b <;> intro _)
      refine x_loop1 mixed Lt.bt_ref12_contradict_l0 Lk.bt_ref12_contradict_l0 (fun (k : Nat) => [.d (eI k)]) (fun k => [.cells [.d (eI w1), .d (eI w2)]]) (fun k => k ≤ l.length ∧ (xk = 2 → ∀ b ∈ l.take k, b.v.k = 2 → tx2 ⟨xo, xc, ⟨xk, xn, xs⟩⟩ b = false)) (fun k => l.length - k) 0 rfl rfl rfl rfl (fun _ _ => ⟨rfl, rfl⟩) rfl ⟨by omega, by simp⟩ ?_
      repeat' first
        | refine st ?_
        | ((with_reducible apply go_i); (conv => whnf))
        | (with_reducible apply k_d <;> intro _)
        | (with_reducible apply k_b <;> intro _)
      intro k ⟨j4, j5⟩
      cases hy : l[k]? with
      | some y =>
        have hlt2 := (List.getElem?_eq_some_iff.1 hy).1
        have hg2 := hgs k y hy
        have hmem2 : ∀ {P : Cd → Prop}, (∀ z ∈ l.take k, P z) → P y → ∀ z ∈ l.take (k + 1), P z := fun h1 h2 z hz => by
          rw [List.take_add_one, hy] at hz
          rcases List.mem_append.1 hz with hz | hz
          · exact h1 z hz
          · simp at hz; subst hz; exact h2
        by_cases g : xk = 2 ∧ y.v.k = 2
        · exact absurd g.1 (by omega)
        · have hc : xk = 2 → ∀ b ∈ l.take (k + 1), b.v.k = 2 → tx2 ⟨xo, xc, ⟨xk, xn, xs⟩⟩ b = false := fun ga => hmem2 (P := fun b => b.v.k = 2 → tx2 ⟨xo, xc, ⟨xk, xn, xs⟩⟩ b = false) (j5 ga) fun gb => absurd ⟨ga, gb⟩ g
          obtain ⟨yo, yc, yk, yn, ys⟩ := y
          have g : ¬ (xk = 2 ∧ yk = 2) := g
          by_cases ga : xk = 2
          · exfalso; omega
          · repeat' first
              | refine st ?_
              | ((with_reducible apply go_i); (conv => whnf))
              | (with_reducible apply k_d <;> intro _)
              | (with_reducible apply k_b <;> intro _)
            exact ⟨k + 1, rfl, rfl, rfl, by omega, by omega, hc⟩
      | none =>
        have hge2 := List.getElem?_eq_none_iff.1 hy
        rw [List.take_of_length_le hge2] at j5
        have u1 := hmem (P := fun x => x.v.k = xk) h6 rfl
        have u2 : xk = 2 → ∀ a ∈ l.take (i + 1), ∀ b ∈ l, b.v.k = 2 → tx2 a b = false := fun ga => hmem (P := fun a => ∀ b ∈ l, b.v.k = 2 → tx2 a b = false) (h7 ga) (j5 ga)
        repeat' first
          | refine st ?_
          | ((with_reducible apply go_i); (conv => whnf))
          | (with_reducible apply k_d <;> intro _)
          | (with_reducible apply k_b <;> intro _)
        exact ⟨i + 1, (w1, w2), rfl, rfl, rfl, by omega, by omega, hs.symm, u1, u2⟩
    · have hR : R0 = (r1, r2) := by
        rw [hR0, h5]
        by_cases hi : i = 0
        · rw [if_pos hi]
          have hx3 : xk ≠ 3 := fun h => z ⟨h, hi⟩
          unfold rng0 crg
          rw [if_neg hx3, if_pos hi]
        · rw [if_neg hi]
      subst hR
      dsimp only at hN
      by_cases z1 : xk = 3
      · have z3 : (i : Int) ≠ 0 := by omega
        repeat' first
          | refine st ?_
          | ((with_reducible apply go_i); (conv => whnf))
          | ((with_reducible apply k_pn); (· exact hN))
          | ((with_reducible apply k_pc); (· exact hN))
          | (with_reducible apply k_d <;> intro _)
          | (with_reducible apply k_b <;> intro _)
        refine x_loop1 mixed Lt.bt_ref12_contradict_l0 Lk.bt_ref12_contradict_l0 (fun (k : Nat) => [.d (eI k)]) (fun k => [.cells [.d (eI w1), .d (eI w2)]]) (fun k => k ≤ l.length ∧ (xk = 2 → ∀ b ∈ l.take k, b.v.k = 2 → tx2 ⟨xo, xc, ⟨xk, xn, xs⟩⟩ b = false)) (fun k => l.length - k) 0 rfl rfl rfl rfl (fun _ _ => ⟨rfl, rfl⟩) rfl ⟨by omega, by simp⟩ ?_
        repeat' first
          | refine st ?_
          | ((with_reducible apply go_i); (conv => whnf))
          | (with_reducible apply k_d <;> intro _)
          | (with_reducible apply k_b <;> intro _)
        intro k ⟨j4, j5⟩
        cases hy : l[k]? with
        | some y =>
          have hlt2 := (List.getElem?_eq_some_iff.1 hy).1
          have hg2 := hgs k y hy
          have hmem2 : ∀ {P : Cd → Prop}, (∀ z ∈ l.take k, P z) → P y → ∀ z ∈ l.take (k + 1), P z := fun h1 h2 z hz => by
            rw [List.take_add_one, hy] at hz
            rcases List.mem_append.1 hz with hz | hz
            · exact h1 z hz
            · simp at hz; subst hz; exact h2
          by_cases g : xk = 2 ∧ y.v.k = 2
          · exact absurd g.1 (by omega)
          · have hc : xk = 2 → ∀ b ∈ l.take (k + 1), b.v.k = 2 → tx2 ⟨xo, xc, ⟨xk, xn, xs⟩⟩ b = false := fun ga => hmem2 (P := fun b => b.v.k = 2 → tx2 ⟨xo, xc, ⟨xk, xn, xs⟩⟩ b = false) (j5 ga) fun gb => absurd ⟨ga, gb⟩ g
            obtain ⟨yo, yc, yk, yn, ys⟩ := y
            have g : ¬ (xk = 2 ∧ yk = 2) := g
            by_cases ga : xk = 2
            · exfalso; omega
            · repeat' first
                | refine st ?_
                | ((with_reducible apply go_i); (conv => whnf))
                | (with_reducible apply k_d <;> intro _)
                | (with_reducible apply k_b <;> intro _)
              exact ⟨k + 1, rfl, rfl, rfl, by omega, by omega, hc⟩
        | none =>
          have hge2 := List.getElem?_eq_none_iff.1 hy
          rw [List.take_of_length_le hge2] at j5
          have u1 := hmem (P := fun x => x.v.k = xk) h6 rfl
          have u2 : xk = 2 → ∀ a ∈ l.take (i + 1), ∀ b ∈ l, b.v.k = 2 → tx2 a b = false := fun ga => hmem (P := fun a => ∀ b ∈ l, b.v.k = 2 → tx2 a b = false) (h7 ga) (j5 ga)
          repeat' first
            | refine st ?_
            | ((with_reducible apply go_i); (conv => whnf))
            | (with_reducible apply k_d <;> intro _)
            | (with_reducible apply k_b <;> intro _)
          exact ⟨i + 1, (w1, w2), rfl, rfl, rfl, by omega, by omega, hs.symm, u1, u2⟩
      · repeat' first
          | refine st ?_
          | ((with_reducible apply go_i); (conv => whnf))
          | ((with_reducible apply k_pn); (· exact hN))
          | ((with_reducible apply k_pc); (· exact hN))
          | (with_reducible apply k_d <;> intro _)
          | (with_reducible apply k_b <;> intro _)
        refine x_loop1 mixed Lt.bt_ref12_contradict_l0 Lk.bt_ref12_contradict_l0 (fun (k : Nat) => [.d (eI k)]) (fun k => [.cells [.d (eI w1), .d (eI w2)]]) (fun k => k ≤ l.length ∧ (xk = 2 → ∀ b ∈ l.take k, b.v.k = 2 → tx2 ⟨xo, xc, ⟨xk, xn, xs⟩⟩ b = false)) (fun k => l.length - k) 0 rfl rfl rfl rfl (fun _ _ => ⟨rfl, rfl⟩) rfl ⟨by omega, by simp⟩ ?_
        repeat' first
          | refine st ?_
          | ((with_reducible apply go_i); (conv => whnf))
          | (with_reducible apply k_d <;> intro _)
          | (with_reducible apply k_b <;> intro _)
        intro k ⟨j4, j5⟩
        cases hy : l[k]? with
        | some y =>
          have hlt2 := (List.getElem?_eq_some_iff.1 hy).1
          have hg2 := hgs k y hy
          have hmem2 : ∀ {P : Cd → Prop}, (∀ z ∈ l.take k, P z) → P y → ∀ z ∈ l.take (k + 1), P z := fun h1 h2 z hz => by
            rw [List.take_add_one, hy] at hz
            rcases List.mem_append.1 hz with hz | hz
            · exact h1 z hz
            · simp at hz; subst hz; exact h2
          by_cases g : xk = 2 ∧ y.v.k = 2
          · obtain ⟨ga, gb⟩ := g
            have hT := C.r12_texts ⟨xo, xc, ⟨xk, xn, xs⟩⟩ y
            have pt' := pt i k _ y ga hx hy
            have hc := hmem2 (P := fun b => b.v.k = 2 → tx2 ⟨xo, xc, ⟨xk, xn, xs⟩⟩ b = false) (j5 ga)
            obtain ⟨yo, yc, yk, yn, ys⟩ := y
            replace hT : Bi.Pure Tryz.prog N.bt_ref12_texts [.agg [.d (eI xo), .d (eI xc), .d (eI xk), .d (eI xn), .d (.str xs)], .agg [.d (eI yo), .d (eI yc), .d (eI yk), .d (eI yn), .d (.str ys)]] (.d (.bool (tx2 ⟨xo, xc, ⟨xk, xn, xs⟩⟩ ⟨yo, yc, ⟨yk, yn, ys⟩⟩))) := hT
            cases ht : tx2 ⟨xo, xc, ⟨xk, xn, xs⟩⟩ ⟨yo, yc, ⟨yk, yn, ys⟩⟩ with
            | true =>
              rw [pt' ht]
              rw [ht] at hT
              repeat' first
                | refine st ?_
                | ((with_reducible apply go_i); (conv => whnf))
                | ((with_reducible apply k_pn); (· exact hT))
                | ((with_reducible apply k_pc); (· exact hT))
                | (with_reducible apply k_d <;> intro _)
                | (with_reducible apply k_b <;> intro _)
              all_goals first | rfl | (exfalso; omega)
            | false =>
              rw [ht] at hT
              repeat' first
                | refine st ?_
                | ((with_reducible apply go_i); (conv => whnf))
                | ((with_reducible apply k_pn); (· exact hT))
                | ((with_reducible apply k_pc); (· exact hT))
                | (with_reducible apply k_d <;> intro _)
                | (with_reducible apply k_b <;> intro _)
              exact ⟨k + 1, rfl, rfl, rfl, by omega, by omega, fun _ => hc fun _ => ht⟩
          · have hc : xk = 2 → ∀ b ∈ l.take (k + 1), b.v.k = 2 → tx2 ⟨xo, xc, ⟨xk, xn, xs⟩⟩ b = false := fun ga => hmem2 (P := fun b => b.v.k = 2 → tx2 ⟨xo, xc, ⟨xk, xn, xs⟩⟩ b = false) (j5 ga) fun gb => absurd ⟨ga, gb⟩ g
            obtain ⟨yo, yc, yk, yn, ys⟩ := y
            have g : ¬ (xk = 2 ∧ yk = 2) := g
            by_cases ga : xk = 2
            · have gb : yk ≠ 2 := fun h => g ⟨ga, h⟩
              repeat' first
                | refine st ?_
                | ((with_reducible apply go_i); (conv => whnf))
                | (with_reducible apply k_d <;> intro _)
                | (with_reducible apply k_b <;> intro _)
              exact ⟨k + 1, rfl, rfl, rfl, by omega, by omega, hc⟩
            · repeat' first
                | refine st ?_
                | ((with_reducible apply go_i); (conv => whnf))
                | (with_reducible apply k_d <;> intro _)
                | (with_reducible apply k_b <;> intro _)
              exact ⟨k + 1, rfl, rfl, rfl, by omega, by omega, hc⟩
        | none =>
          have hge2 := List.getElem?_eq_none_iff.1 hy
          rw [List.take_of_length_le hge2] at j5
          have u1 := hmem (P := fun x => x.v.k = xk) h6 rfl
          have u2 : xk = 2 → ∀ a ∈ l.take (i + 1), ∀ b ∈ l, b.v.k = 2 → tx2 a b = false := fun ga => hmem (P := fun a => ∀ b ∈ l, b.v.k = 2 → tx2 a b = false) (h7 ga) (j5 ga)
          repeat' first
            | refine st ?_
            | ((with_reducible apply go_i); (conv => whnf))
            | (with_reducible apply k_d <;> intro _)
            | (with_reducible apply k_b <;> intro _)
          exact ⟨i + 1, (w1, w2), rfl, rfl, rfl, by omega, by omega, hs.symm, u1, u2⟩
  | none =>
    have hge := List.getElem?_eq_none_iff.1 hx
    rw [List.take_of_length_le hge] at h6 h7
    have hq := pe h6 (fun hk a ha b hb => h7 hk a ha b hb (by rw [h6 b hb]; exact hk))
    have hr : crg k0 l i = rng k0 l := by
      unfold crg
      rw [if_neg (by omega), List.take_of_length_le hge]
    rw [hr] at h5
    rw [← h5] at hq
    obtain ⟨r1, r2⟩ := r
    rw [hq]
    repeat' first
      | refine st ?_
      | ((with_reducible apply go_i); (conv => whnf))
      | (with_reducible apply k_d <;> intro _)
      | (with_reducible apply k_b <;> intro _)
    all_goals first | rfl | (simp_all; done) | (simp_all; omega)
end Go.Proofs
end
section
/- What the laws are handed: values, rows, numbers, and their bulk. No condition. -/
set_option linter.unusedSimpArgs false
set_option linter.unusedVariables false
set_option maxRecDepth 10000
set_option maxHeartbeats 4000000
namespace Go.Proofs
open Go.Bi

abbrev T.int : TypeId := 3
abbrev T.bool : TypeId := 4
abbrev T.str : TypeId := 9
abbrev T.val : TypeId := 23
abbrev T.ints : TypeId := 82
abbrev T.vals : TypeId := 47
theorem cells_int : Tryz.prog.cellsOf T.int = 1 := by kernel_rfl
theorem cells_str : Tryz.prog.cellsOf T.str = 1 := by kernel_rfl
theorem cells_val : Tryz.prog.cellsOf T.val = 3 := by kernel_rfl
theorem cells_bool : Tryz.prog.cellsOf T.bool = 1 := by kernel_rfl
theorem wt_bool {ds : List D} (h : WT Tryz.prog T.bool ds) : ∃ b, ds = [.bool b] := h.bool' Tryz.underlying4
theorem wt_int {ds : List D} (h : WT Tryz.prog T.int ds) : ∃ n, ds = [eI n] := by
  obtain ⟨a, ha, _, _⟩ := h.int' Tryz.underlying3
  exact ⟨a, ha⟩
theorem wt_str {ds : List D} (h : WT Tryz.prog T.str ds) : ∃ s, ds = [.str s] := by
  obtain ⟨a, ha, _⟩ := h.str' Tryz.underlying9
  exact ⟨a, ha⟩
theorem wt_val {ds : List D} (h : WT Tryz.prog T.val ds) : ∃ v : Vl, ds = v.ds := by
  obtain ⟨hl, hf⟩ := h.st' Tryz.underlying23
  rw [cells_val] at hl
  match ds, hl with
  | [x, y, z], _ =>
    have h0 := hf _ (List.mem_cons_self ..)
    have h1 := hf _ (List.mem_cons_of_mem _ (List.mem_cons_self ..))
    have h2 := hf _ (List.mem_cons_of_mem _ (List.mem_cons_of_mem _ (List.mem_cons_self ..)))
    dsimp only at h0 h1 h2
    rw [cells_int] at h0 h1
    rw [cells_str] at h2
    obtain ⟨a, ha⟩ := wt_int h0
    obtain ⟨b, hb⟩ := wt_int h1
    obtain ⟨s, hs⟩ := wt_str h2
    simp at ha hb hs
    exact ⟨⟨a, b, s⟩, by rw [ha, hb, hs]⟩
theorem wt_ints {ds : List D} (h : WT Tryz.prog T.ints ds) : ∃ d ks, ds = [d] ∧ SlD d (eIs ks) := by
  obtain ⟨d, es, h1, h2, h4, h3⟩ := h.sl' Tryz.underlying82
  have : ∃ ks, es = eIs ks := by
    clear h1 h2 h4
    induction es with
    | nil => exact ⟨[], rfl⟩
    | cons x es ih =>
      obtain ⟨n, hn⟩ := wt_int (h3 x (by simp))
      obtain ⟨ks, hk⟩ := ih fun y hy => h3 y (by simp [hy])
      exact ⟨n :: ks, by rw [hn, hk]; rfl⟩
  obtain ⟨ks, rfl⟩ := this
  exact ⟨d, ks, h1, h2⟩
theorem wt_vals {ds : List D} (h : WT Tryz.prog T.vals ds) : ∃ d row, ds = [d] ∧ SlD d (eVs row) := by
  obtain ⟨d, es, h1, h2, h4, h3⟩ := h.sl' Tryz.underlying47
  have : ∃ row, es = eVs row := by
    clear h1 h2 h4
    induction es with
    | nil => exact ⟨[], rfl⟩
    | cons x es ih =>
      obtain ⟨n, hn⟩ := wt_val (h3 x (by simp))
      obtain ⟨ks, hk⟩ := ih fun y hy => h3 y (by simp [hy])
      exact ⟨n :: ks, by rw [hn, hk]; rfl⟩
  obtain ⟨ks, rfl⟩ := this
  exact ⟨d, ks, h1, h2⟩
theorem av_ints (d : D) : avOf Tryz.prog T.ints [d] = .d d := by unfold avOf; rw [Tryz.underlying82]
theorem av_vals (d : D) : avOf Tryz.prog T.vals [d] = .d d := by unfold avOf; rw [Tryz.underlying47]
theorem av_int (d : D) : avOf Tryz.prog T.int [d] = .d d := by unfold avOf; rw [Tryz.underlying3]
theorem sld_bulk {d : D} {es : List (List D)} (h : SlD d es) : bulkLL es ≤ bulkL [d] := by
  rcases h with ⟨rfl, rfl⟩ | rfl
  · simp [bulkLL]
  · simp only [bulkL, bulkD]; omega
theorem ints_bulk {d : D} {ks : List Int} (h : SlD d (eIs ks)) : ks.length ≤ bulkL [d] := by
  have h1 := sld_bulk h
  have h2 : (eIs ks).length ≤ bulkLL (eIs ks) := bulkLL_len fun x hx => by
    obtain ⟨k, _, rfl⟩ := List.mem_map.1 hx
    simp [bulkL, bulkD]
  rw [eIs_len] at h2
  omega
theorem vals_bulk {d : D} {row : List Vl} (h : SlD d (eVs row)) : row.length ≤ bulkL [d] ∧ ∀ v ∈ row, v.s.length ≤ bulkL [d] := by
  have h1 := sld_bulk h
  have h2 : (eVs row).length ≤ bulkLL (eVs row) := bulkLL_len fun x hx => by
    obtain ⟨k, _, rfl⟩ := List.mem_map.1 hx
    simp only [Vl.ds, bulkL, bulkD]; omega
  rw [eVs_len] at h2
  refine ⟨by omega, fun v hv => ?_⟩
  have h3 : bulkL v.ds ≤ bulkLL (eVs row) := bulkLL_mem (List.mem_map.2 ⟨v, hv, rfl⟩)
  have h4 : v.s.length ≤ bulkL v.ds := by simp only [Vl.ds, bulkL, bulkD]; omega
  omega
theorem bulkR (H : Type) : Bulk (H := H) Go.Proofs.YtdhdhhgdeokiiaaGreat.Rows.uptoBulk Go.Proofs.YtdhdhhgdeokiiaaGreat.Rows.uptoBulkAll where
  lit l := by unfold Go.Proofs.YtdhdhhgdeokiiaaGreat.Rows.uptoBulk; split <;> simp_all
  str b := by simp [Go.Proofs.YtdhdhhgdeokiiaaGreat.Rows.uptoBulk]
  nil := by simp [Go.Proofs.YtdhdhhgdeokiiaaGreat.Rows.uptoBulk]
  sl es sp := by simp [Go.Proofs.YtdhdhhgdeokiiaaGreat.Rows.uptoBulk]
  agg ps := by simp [Go.Proofs.YtdhdhhgdeokiiaaGreat.Rows.uptoBulk]
  cons x l := by simp [Go.Proofs.YtdhdhhgdeokiiaaGreat.Rows.uptoBulkAll]
end Go.Proofs
end
section
/- What the laws are handed: expressions. No condition. -/
set_option linter.unusedSimpArgs false
set_option linter.unusedVariables false
set_option maxRecDepth 10000
set_option maxHeartbeats 4000000
namespace Go.Proofs
open Go.Bi

abbrev T.exs : TypeId := 24
abbrev T.ex : TypeId := 26
theorem cells_exs : Tryz.prog.cellsOf T.exs = 1 := by kernel_rfl
theorem cells_ex : Tryz.prog.cellsOf T.ex = 7 := by kernel_rfl
theorem wt_ex' {t : TypeId} {ds : List D} (h : WT Tryz.prog t ds) : (t = T.ex → ∃ e : Ex, ds = e.ds) ∧ (t = T.exs → ∃ nl args, ds = [ng nl (xL args)]) := by
  induction h with
  | int h => exact ⟨fun e => (by subst e; rw [Tryz.underlying26] at h; cases h), fun e => (by subst e; rw [Tryz.underlying24] at h; cases h)⟩
  | bool h => exact ⟨fun e => (by subst e; rw [Tryz.underlying26] at h; cases h), fun e => (by subst e; rw [Tryz.underlying24] at h; cases h)⟩
  | str h => exact ⟨fun e => (by subst e; rw [Tryz.underlying26] at h; cases h), fun e => (by subst e; rw [Tryz.underlying24] at h; cases h)⟩
  | nil h => exact ⟨fun e => (by subst e; rw [Tryz.underlying26] at h; cases h), fun e => ⟨true, [], rfl⟩⟩
  | @sl t e es h hl hs he ih =>
    refine ⟨fun e => (by subst e; rw [Tryz.underlying26] at h; cases h), fun e' => ?_⟩
    subst e'
    rw [Tryz.underlying24] at h
    cases h
    have : ∃ l, es = xL l := by
      clear he hs hl
      induction es with
      | nil => exact ⟨[], rfl⟩
      | cons x es ihh =>
        obtain ⟨n, hn⟩ := (ih x (by simp)).1 rfl
        obtain ⟨ks, hk⟩ := ihh fun y hy => ih y (by simp [hy])
        exact ⟨n :: ks, by rw [hn, hk]; rfl⟩
    obtain ⟨l, rfl⟩ := this
    exact ⟨false, l, rfl⟩
  | @st t fs ds h hl hf ih =>
    refine ⟨fun e => ?_, fun e => (by subst e; rw [Tryz.underlying24] at h; cases h)⟩
    subst e
    rw [Tryz.underlying26] at h
    cases h
    rw [cells_ex] at hl
    match ds, hl with
    | [d0, d1, d2, d3, d4, d5, d6], _ =>
      have h0 := hf _ (List.mem_cons_self ..)
      have h1 := hf _ (List.mem_cons_of_mem _ (List.mem_cons_self ..))
      have h2 := hf _ (List.mem_cons_of_mem _ (List.mem_cons_of_mem _ (List.mem_cons_self ..)))
      have h3 := hf _ (List.mem_cons_of_mem _ (List.mem_cons_of_mem _ (List.mem_cons_of_mem _ (List.mem_cons_self ..))))
      have h4 := (ih _ (List.mem_cons_of_mem _ (List.mem_cons_of_mem _ (List.mem_cons_of_mem _ (List.mem_cons_of_mem _ (List.mem_cons_self ..)))))).2 rfl
      dsimp only at h0 h1 h2 h3 h4
      rw [cells_int] at h0 h1
      rw [cells_val] at h2
      rw [cells_str] at h3
      rw [cells_exs] at h4
      obtain ⟨a, ha⟩ := wt_int h0
      obtain ⟨b, hb⟩ := wt_int h1
      obtain ⟨v, hv⟩ := wt_val h2
      obtain ⟨s, hs⟩ := wt_str h3
      obtain ⟨nl, args, hx⟩ := h4
      simp at ha hb hs hx
      refine ⟨.mk a b v s nl args, ?_⟩
      rw [Ex.ds_mk, ha, hb, hs, hx]
      have hv : [d2, d3, d4] = [eI v.k, eI v.n, .str v.s] := hv
      simp only [List.cons.injEq, and_true] at hv
      rw [hv.1, hv.2.1, hv.2.2]
theorem wt_ex {ds : List D} (h : WT Tryz.prog T.ex ds) : ∃ e : Ex, ds = e.ds := (wt_ex' h).1 rfl
theorem av_ex (e : Ex) : avOf Tryz.prog T.ex e.ds = e.av := by unfold avOf; rw [Tryz.underlying26]; rfl
end Go.Proofs
end
section
/- Same: expressions are compared. No condition. -/
set_option linter.unusedSimpArgs false
set_option linter.unusedVariables false
set_option maxRecDepth 10000
set_option maxHeartbeats 4000000
namespace Go.Proofs
open Go.Bi

mutual
def smE : Ex → Ex → Bool
  | .mk op n v name nl args, .mk op' n' v' name' nl' args' => decide (op = op') && decide (n = n') && decide (v = v') && decide (name = name') && smL args args'
def smL : List Ex → List Ex → Bool
  | [], [] => true
  | a :: l, b :: m => smE a b && smL l m
  | [], _ :: _ => false
  | _ :: _, [] => false
end
theorem smL_eq : ∀ l m, smL l m = (decide (l.length = m.length) && (l.zip m).all fun p => smE p.1 p.2)
  | [], [] => by simp [smL]
  | a :: l, b :: m => by
    rw [smL, smL_eq l m]
    simp only [List.length_cons, List.zip_cons_cons, List.all_cons]
    cases smE a b <;> simp
  | [], _ :: _ => by simp [smL]
  | _ :: _, [] => by simp [smL]
theorem smE_mk (op n : Int) (v : Vl) (name : List UInt8) (nl : Bool) (args : List Ex) (op' n' : Int) (v' : Vl) (name' : List UInt8) (nl' : Bool) (args' : List Ex) : smE (.mk op n v name nl args) (.mk op' n' v' name' nl' args') = (decide (op = op') && decide (n = n') && decide (v = v') && decide (name = name') && smL args args') := by rw [smE]
theorem smE_refl : ∀ e, smE e e = true := by
  refine Ex.ind fun op n v name nl args ih => ?_
  rw [smE_mk, smL_eq]
  simp only [decide_true, Bool.true_and, List.all_eq_true]
  intro p hp
  obtain ⟨i, hi, rfl⟩ := List.mem_iff_getElem.1 hp
  rw [List.getElem_zip]
  exact ih _ (List.getElem_mem _)
theorem all_take_succ3 {α : Type} {p : α → Bool} {l : List α} {i : Nat} {x : α} (h : l[i]? = some x) : (l.take (i + 1)).all p = ((l.take i).all p && p x) := by
  rw [List.take_add_one, h]; simp
theorem all_none3 {α : Type} {p : α → Bool} {l : List α} {i : Nat} {x : α} (h : l[i]? = some x) (hx : p x = false) : l.all p = false := by
  rw [Bool.eq_false_iff]
  intro e
  have := List.all_eq_true.1 e x (List.mem_of_getElem? h)
  rw [hx] at this; cases this
theorem xL_get' {args : List Ex} (i : Nat) (op' n' : Int) (v' : Vl) (name' : List UInt8) (nl' : Bool) (args' : List Ex) (h : args[i]? = some (.mk op' n' v' name' nl' args')) : (xL args)[i]? = some (xds op' n' v' name' (ng nl' (xL args'))) := by
  rw [← Ex.ds_mk]; exact xL_get h
theorem C.r11_Same : ∀ a : Ex, a.bk ≤ 2097152 → ∀ b : Ex, b.bk ≤ 2097152 → Pure Tryz.prog N.bt_ref11_Same [a.av, b.av] (.d (.bool (smE a b))) := by
  refine Ex.ind fun op n v name nl args ih hbk b hbb => ?_
  obtain ⟨op', n', v', name', nl', args'⟩ := b
  obtain ⟨b1, b2, b3, b4⟩ := Ex.bk_bounds hbk
  obtain ⟨c1, c2, c3, c4⟩ := Ex.bk_bounds hbb
  have ih' : ∀ a ∈ args, ∀ b ∈ args', Pure Tryz.prog N.bt_ref11_Same [a.av, b.av] (.d (.bool (smE a b))) := fun a ha b hb => ih a ha (b4 a ha) b (c4 b hb)
  clear ih
  rw [Ex.av_mk, Ex.av_mk, smE_mk]
  have hd : SlD (ng nl (xL args)) (xL args) := sld_ng
  have hd' : SlD (ng nl' (xL args')) (xL args') := sld_ng
  have hlen := xL_len args
  have hm := xL_mem args
  have hlen' := xL_len args'
  have hm' := xL_mem args'
  have hget := xL_get' (args := args)
  have hget' := xL_get' (args := args')
  obtain ⟨d, hde⟩ : ∃ d, d = ng nl (xL args) := ⟨_, rfl⟩
  obtain ⟨d', hde'⟩ : ∃ d, d = ng nl' (xL args') := ⟨_, rfl⟩
  rw [← hde] at hd ⊢
  rw [← hde'] at hd' ⊢
  obtain ⟨es, hes⟩ : ∃ es, es = xL args := ⟨_, rfl⟩
  rw [← hes] at hlen hm hd hget
  obtain ⟨es', hes'⟩ : ∃ es, es = xL args' := ⟨_, rfl⟩
  rw [← hes'] at hlen' hm' hd' hget'
  refine F.bt_ref11_Same.go mixed rfl ?_
  have hv : decide (v = v') = (decide (v.k = v'.k) && (decide (v.n = v'.n) && decide (v.s = v'.s))) := by
    rw [Bool.eq_iff_iff]
    simp only [decide_eq_true_eq, Bool.and_eq_true, vl_eq]
  by_cases hall : op = op' ∧ n = n' ∧ v = v' ∧ name = name' ∧ args.length = args'.length
  rotate_left
  · have hr : (decide (op = op') && decide (n = n') && decide (v = v') && decide (name = name') && smL args args') = false := by
      rw [Bool.eq_false_iff]
      intro h
      simp only [Bool.and_eq_true, decide_eq_true_eq, smL_eq] at h
      exact hall ⟨h.1.1.1.1, h.1.1.1.2, h.1.1.2, h.1.2, h.2.1⟩
    rw [hr]
    clear hr
    have hlle : ((es.length : Int) = es'.length) ↔ args.length = args'.length := by omega
    rw [vl_eq] at hall
    clear hget hget' ih'
    by_cases g1 : op = op'
    rotate_left
    · repeat' first
        | refine st ?_
        | ((with_reducible apply go_i); (conv => whnf))
        | (with_reducible apply k_d <;> intro _)
        | (with_reducible apply k_b <;> intro _)
      all_goals rfl
    by_cases g2 : n = n'
    rotate_left
    · repeat' first
        | refine st ?_
        | ((with_reducible apply go_i); (conv => whnf))
        | (with_reducible apply k_d <;> intro _)
        | (with_reducible apply k_b <;> intro _)
      all_goals rfl
    by_cases g3 : v.k = v'.k ∧ v.n = v'.n ∧ v.s = v'.s
    rotate_left
    · repeat' first
        | refine st ?_
        | ((with_reducible apply go_i); (conv => whnf))
        | (with_reducible apply k_d <;> intro _)
        | (with_reducible apply k_b <;> intro _)
      all_goals first | rfl | (exfalso; simp_all)
    obtain ⟨g3, g4, g5⟩ := g3
    by_cases g6 : name = name'
    rotate_left
    · repeat' first
        | refine st ?_
        | ((with_reducible apply go_i); (conv => whnf))
        | (with_reducible apply k_d <;> intro _)
        | (with_reducible apply k_b <;> intro _)
      all_goals first | rfl | (exfalso; simp_all)
    have g7 : ¬ (es.length : Int) = es'.length := fun h => hall ⟨g1, g2, ⟨g3, g4, g5⟩, g6, hlle.1 h⟩
    repeat' first
      | refine st ?_
      | ((with_reducible apply go_i); (conv => whnf))
      | (with_reducible apply k_d <;> intro _)
      | (with_reducible apply k_b <;> intro _)
    all_goals first | rfl | (exfalso; simp_all; done) | (exfalso; omega)
  obtain ⟨rfl, rfl, rfl, rfl, hll⟩ := hall
  obtain ⟨q, hq⟩ : ∃ q, q = (decide (op = op) && decide (n = n) && decide (v = v) && decide (name = name) && smL args args') := ⟨_, rfl⟩
  rw [← hq]
  rw [smL_eq, decide_eq_true hll] at hq
  simp only [decide_true, Bool.true_and] at hq
  have hl2 : (es.length : Int) = es'.length := by omega
  have hl3 : es.length = es'.length := by omega
  have r1 : v.s = v.s := rfl
  have r2 : name = name := rfl
  repeat' first
    | refine st ?_
    | ((with_reducible apply go_i); (conv => whnf))
    | (with_reducible apply k_d <;> intro _)
    | (with_reducible apply k_b <;> intro _)
  refine x_loop1 mixed Lt.bt_ref11_Same_l0 Lk.bt_ref11_Same_l0 (fun (i : Nat) => [.d (eI i)]) (fun i => [.cells [.d (eI op), .d (eI n), .d (eI v.k), .d (eI v.n), .d (.str v.s), .d (.str name), .d d], .cells [.d (eI op), .d (eI n), .d (eI v.k), .d (eI v.n), .d (.str v.s), .d (.str name), .d d']]) (fun i => i ≤ args.length ∧ ((args.zip args').take i).all (fun p => smE p.1 p.2) = true) (fun i => args.length - i) 0 rfl rfl rfl rfl (fun _ _ => ⟨rfl, rfl⟩) rfl ⟨by omega, rfl⟩ ?_
  repeat' first
    | refine st ?_
    | ((with_reducible apply go_i); (conv => whnf))
    | (with_reducible apply k_d <;> intro _)
    | (with_reducible apply k_b <;> intro _)
  intro i ⟨h4, h5⟩
  cases hx : args[i]? with
  | some x =>
    have hlt := (List.getElem?_eq_some_iff.1 hx).1
    obtain ⟨y, hy⟩ : ∃ y, args'[i]? = some y := ⟨_, List.getElem?_eq_getElem (by omega)⟩
    have hz : (args.zip args')[i]? = some (x, y) := List.getElem?_zip_eq_some.2 ⟨hx, hy⟩
    have hI := ih' x (List.mem_of_getElem? hx) y (List.mem_of_getElem? hy)
    have hs := all_take_succ3 (p := fun p : Ex × Ex => smE p.1 p.2) hz
    have hn := all_none3 (p := fun p : Ex × Ex => smE p.1 p.2) hz
    rw [h5, Bool.true_and] at hs
    dsimp only at hs hn
    obtain ⟨b, hb⟩ : ∃ b, b = smE x y := ⟨_, rfl⟩
    rw [← hb] at hI hs hn
    obtain ⟨o1, n1, v1, m1, l1, a1⟩ := x
    obtain ⟨o2, n2, v2, m2, l2, a2⟩ := y
    rw [Ex.av_mk, Ex.av_mk] at hI
    have hg := hget i _ _ _ _ _ _ hx
    have hg' : es'[((i : Nat) : Int).toNat]? = _ := hget' i _ _ _ _ _ _ hy
    have hlt' : (i : Int) < es'.length := by omega
    cases b with
    | true =>
      repeat' first
        | refine st ?_
        | ((with_reducible apply go_i); (conv => whnf))
        | ((with_reducible apply k_pn); (· exact hI))
        | ((with_reducible apply k_pc); (· exact hI))
        | (with_reducible apply k_d <;> intro _)
        | (with_reducible apply k_b <;> intro _)
      exact ⟨i + 1, rfl, rfl, rfl, by omega, by omega, hs⟩
    | false =>
      rw [hn rfl] at hq
      rw [hq]
      repeat' first
        | refine st ?_
        | ((with_reducible apply go_i); (conv => whnf))
        | ((with_reducible apply k_pn); (· exact hI))
        | ((with_reducible apply k_pc); (· exact hI))
        | (with_reducible apply k_d <;> intro _)
        | (with_reducible apply k_b <;> intro _)
      all_goals rfl
  | none =>
    have hge := List.getElem?_eq_none_iff.1 hx
    rw [List.take_of_length_le (by rw [List.length_zip]; omega)] at h5
    rw [h5] at hq
    rw [hq]
    repeat' first
      | refine st ?_
      | ((with_reducible apply go_i); (conv => whnf))
      | (with_reducible apply k_d <;> intro _)
      | (with_reducible apply k_b <;> intro _)
    all_goals rfl
end Go.Proofs
end
section
/- The examples of the chapter. No condition. -/
set_option linter.unusedSimpArgs false
set_option linter.unusedVariables false
set_option maxRecDepth 10000
set_option maxHeartbeats 4000000
namespace Go.Proofs
open Go.Bi

def cmE (op i n : Int) : Ex := .mk op 0 vNull [] false [.mk 2 i vNull [] true [], .mk 1 0 ⟨1, n, []⟩ [] true []]
def anE (a b : Ex) : Ex := .mk 5 0 vNull [] false [a, b]
def mE : Ex := .mk 9 0 vNull [] false [.mk 1 0 ⟨1, 3, []⟩ [] true [], .mk 2 0 vNull [] true []]
theorem cmE_av (op i n : Int) : (cmE op i n).av = eX op 0 vNull [] (.sl [[eI 2, eI i, eI 0, eI 0, .str [], .str [], .nil], [eI 1, eI 0, eI 1, eI n, .str [], .str [], .nil]]) := by rw [cmE, Ex.av_mk]; rfl
theorem mE_av : mE.av = eX 9 0 vNull [] (.sl [[eI 1, eI 0, eI 1, eI 3, .str [], .str [], .nil], [eI 2, eI 0, eI 0, eI 0, .str [], .str [], .nil]]) := by rw [mE, Ex.av_mk]; rfl
theorem anE_av (a b : Ex) : (anE a b).av = eX 5 0 vNull [] (.sl [a.ds, b.ds]) := by rw [anE, Ex.av_mk]; rfl
theorem C.law12_compare (op i n : Int) : Pure Tryz.prog N.bt_law12_compare [.d (eI op), .d (eI i), .d (eI n)] (cmE op i n).av := by
  rw [cmE_av]
  refine F.bt_law12_compare.go mixed rfl ?_
  repeat' first
    | refine st ?_
    | ((with_reducible apply go_i); (conv => whnf))
    | (with_reducible apply k_d <;> intro _)
    | (with_reducible apply k_b <;> intro _)
  all_goals rfl
theorem C.law12_and (a b : Ex) : Pure Tryz.prog N.bt_law12_and [a.av, b.av] (anE a b).av := by
  rw [anE_av]
  obtain ⟨o1, n1, v1, m1, l1, a1⟩ := a
  obtain ⟨o2, n2, v2, m2, l2, a2⟩ := b
  rw [Ex.av_mk, Ex.av_mk, Ex.ds_mk, Ex.ds_mk]
  refine F.bt_law12_and.go mixed rfl ?_
  repeat' first
    | refine st ?_
    | ((with_reducible apply go_i); (conv => whnf))
    | (with_reducible apply k_d <;> intro _)
    | (with_reducible apply k_b <;> intro _)
  all_goals rfl
theorem aw1 : win (anE (cmE 10 0 5) (cmE 11 1 5)) 0 1 = ((5, 6), true) := by decide +kernel
theorem aw2 : neverB (anE mE (cmE 10 0 4)) = false := by decide +kernel
theorem aw3 : neverB (anE mE (cmE 9 0 4)) = true := by decide +kernel
theorem aw4 : nsl (eDs (conds (anE mE (cmE 10 0 4)))) = .sl [[eI 11, eI 0, eI 1, eI 3, .str []], [eI 10, eI 0, eI 1, eI 4, .str []]] := by kernel_rfl
theorem aw5 : nsl (xL ((cj (anE (anE (cmE 10 0 5) (cmE 11 1 5)) (cmE 8 2 0))).map (shf 0))) = .sl [(shf 0 (cmE 10 0 5)).ds, (shf 0 (cmE 11 1 5)).ds, (shf 0 (cmE 8 2 0)).ds] := by kernel_rfl
theorem aw6 : (shf 0 (cmE 8 2 0)).ds = (cmE 8 2 0).ds := by kernel_rfl
theorem C.law12_awake : Pure Tryz.prog N.bt_law12_awake [] (.d (.bool true)) := by
  have c1 := C.law12_compare 10 0 5
  have c2 := C.law12_compare 11 1 5
  have c3 := C.law12_compare 8 2 0
  have c4 := C.law12_compare 7 0 3
  have c5 := C.law12_compare 10 0 4
  have c6 := C.law12_compare 9 0 4
  have n1 := C.law12_and (cmE 10 0 5) (cmE 11 1 5)
  have n2 := C.law12_and (anE (cmE 10 0 5) (cmE 11 1 5)) (cmE 8 2 0)
  have n3 := C.law12_and mE (cmE 10 0 4)
  have n4 := C.law12_and mE (cmE 9 0 4)
  have w1 := C.predicate_Window (anE (cmE 10 0 5) (cmE 11 1 5)) (by decide +kernel) 0 1
  have j1 := C.predicate_Conjuncts (anE (anE (cmE 10 0 5) (cmE 11 1 5)) (cmE 8 2 0)) (by decide +kernel)
  have d1 := C.predicate_Conditions (anE mE (cmE 10 0 4)) (by decide +kernel)
  have v1 := C.predicate_Never (anE mE (cmE 10 0 4)) (by decide +kernel)
  have v2 := C.predicate_Never (anE mE (cmE 9 0 4)) (by decide +kernel)
  have s1 := C.r11_Same (cmE 8 2 0) (by decide +kernel) (cmE 8 2 0) (by decide +kernel)
  rw [smE_refl] at s1
  rw [aw1] at w1
  rw [aw2] at v1
  rw [aw3] at v2
  rw [aw4] at d1
  rw [aw5, aw6] at j1
  have e3 : (cmE 8 2 0).ds = xds 8 0 vNull [] (.sl [[eI 2, eI 2, eI 0, eI 0, .str [], .str [], .nil], [eI 1, eI 0, eI 1, eI 0, .str [], .str [], .nil]]) := by rw [cmE, Ex.ds_mk]; rfl
  rw [e3] at j1
  obtain ⟨x1, hx1⟩ : ∃ x, x = (shf 0 (cmE 10 0 5)).ds := ⟨_, rfl⟩
  obtain ⟨x2, hx2⟩ : ∃ x, x = (shf 0 (cmE 11 1 5)).ds := ⟨_, rfl⟩
  have l1 : x1.length = 7 := by rw [hx1]; exact shf_ds_len _ _
  have l2 : x2.length = 7 := by rw [hx2]; exact shf_ds_len _ _
  rw [← hx1, ← hx2] at j1
  have hm : ∀ e ∈ [x1, x2, xds 8 0 vNull [] (.sl [[eI 2, eI 2, eI 0, eI 0, .str [], .str [], .nil], [eI 1, eI 0, eI 1, eI 0, .str [], .str [], .nil]])], e.length = 7 := by
    intro e he
    simp only [List.mem_cons, List.not_mem_nil, or_false] at he
    rcases he with rfl | rfl | rfl
    · exact l1
    · exact l2
    · rfl
  simp only [cmE_av, mE_av, anE_av] at c1 c2 c3 c4 c5 c6 n1 n2 n3 n4 w1 j1 d1 v1 v2 s1
  have e1 : (cmE 10 0 5).ds = xds 10 0 vNull [] (.sl [[eI 2, eI 0, eI 0, eI 0, .str [], .str [], .nil], [eI 1, eI 0, eI 1, eI 5, .str [], .str [], .nil]]) := by rw [cmE, Ex.ds_mk]; rfl
  have e2 : (cmE 11 1 5).ds = xds 11 0 vNull [] (.sl [[eI 2, eI 1, eI 0, eI 0, .str [], .str [], .nil], [eI 1, eI 0, eI 1, eI 5, .str [], .str [], .nil]]) := by rw [cmE, Ex.ds_mk]; rfl
  have e4 : (cmE 10 0 4).ds = xds 10 0 vNull [] (.sl [[eI 2, eI 0, eI 0, eI 0, .str [], .str [], .nil], [eI 1, eI 0, eI 1, eI 4, .str [], .str [], .nil]]) := by rw [cmE, Ex.ds_mk]; rfl
  have e5 : (cmE 9 0 4).ds = xds 9 0 vNull [] (.sl [[eI 2, eI 0, eI 0, eI 0, .str [], .str [], .nil], [eI 1, eI 0, eI 1, eI 4, .str [], .str [], .nil]]) := by rw [cmE, Ex.ds_mk]; rfl
  have e6 : mE.ds = xds 9 0 vNull [] (.sl [[eI 1, eI 0, eI 1, eI 3, .str [], .str [], .nil], [eI 2, eI 0, eI 0, eI 0, .str [], .str [], .nil]]) := by rw [mE, Ex.ds_mk]; rfl
  have e7 : (anE (cmE 10 0 5) (cmE 11 1 5)).ds = xds 5 0 vNull [] (.sl [(cmE 10 0 5).ds, (cmE 11 1 5).ds]) := by rw [anE, Ex.ds_mk]; rfl
  rw [e7] at n2 j1
  rw [e1, e2] at n1 n2 w1 j1
  rw [e3] at n2 j1
  rw [e4, e6] at n3 d1 v1
  rw [e5, e6] at n4 v2
  refine F.bt_law12_awake.go mixed rfl ?_
  repeat' first
    | (with_reducible apply k_lk2)
    | refine st ?_
    | ((with_reducible apply go_i); (conv => whnf))
    | ((with_reducible apply k_pn); (· first | exact c1 | exact c2 | exact c3 | exact c4 | exact c5 | exact c6 | exact n1 | exact n2 | exact n3 | exact n4 | exact w1 | exact j1 | exact d1 | exact v1 | exact v2 | exact s1))
    | ((with_reducible apply k_pc); (· first | exact c1 | exact c2 | exact c3 | exact c4 | exact c5 | exact c6 | exact n1 | exact n2 | exact n3 | exact n4 | exact w1 | exact j1 | exact d1 | exact v1 | exact v2 | exact s1))
    | (with_reducible apply k_d <;> intro _)
    | (with_reducible apply k_b <;> intro _)
  all_goals rfl
end Go.Proofs
end
section
/- The reference's Never, and the law. No condition. -/
set_option linter.unusedSimpArgs false
set_option linter.unusedVariables false
set_option maxRecDepth 10000
set_option maxHeartbeats 4000000
namespace Go.Proofs
open Go.Bi

theorem any_true {α : Type} {p : α → Bool} {l : List α} {i : Nat} {x : α} (h : l[i]? = some x) (hx : p x = true) : l.any p = true := List.any_eq_true.2 ⟨x, List.mem_of_getElem? h, hx⟩
theorem any_false {α : Type} {p : α → Bool} {l : List α} (h : ∀ x ∈ l, p x = false) : l.any p = false := by
  rw [Bool.eq_false_iff]
  intro e
  obtain ⟨x, hx, hp⟩ := List.any_eq_true.1 e
  rw [h x hx] at hp
  cases hp
theorem take_mem {α : Type} {P : α → Prop} {l : List α} {i : Nat} {x : α} (h : l[i]? = some x) (h1 : ∀ y ∈ l.take i, P y) (h2 : P x) : ∀ y ∈ l.take (i + 1), P y := fun y hy => by
  rw [List.take_add_one, h] at hy
  rcases List.mem_append.1 hy with hy | hy
  · exact h1 y hy
  · simp at hy; subst hy; exact h2
theorem onC_ne {l : List Cd} {i : Nat} {c : Cd} (h : l[i]? = some c) : onC c.col l ≠ [] := by
  intro e
  have : c ∈ onC c.col l := List.mem_filter.2 ⟨List.mem_of_getElem? h, by simp⟩
  rw [e] at this
  cases this
theorem C.r12_Never (e : Ex) (he : e.bk ≤ 1048576) : Pure Tryz.prog N.bt_ref12_Never [e.av] (.d (.bool (neverB e))) := by
  have hJ := C.r12_Conjuncts e he
  have hjl := cj_len e
  have hjb := cj_bk e
  have hC := C.r12_Conditions e he
  have hcl := conds_len e
  have hok : ∀ c ∈ conds e, cmpOp c.op = true ∧ nSm c.v.n := fun c hc => ⟨(conds_ok hc).1, valid_n (conds_ok hc).2.2⟩
  unfold neverB
  obtain ⟨J, hJe⟩ : ∃ J, J = cj e := ⟨_, rfl⟩
  obtain ⟨K, hKe⟩ : ∃ K, K = conds e := ⟨_, rfl⟩
  rw [← hJe] at hJ hjl hjb ⊢
  rw [← hKe] at hC hcl hok ⊢
  obtain ⟨q, hq⟩ : ∃ q, q = (J.any nvX || K.any fun c => !posB (onC c.col K)) := ⟨_, rfl⟩
  rw [← hq]
  have p1 : ∀ (i : Nat) (x : Ex), J[i]? = some x → nvX x = true → q = true := fun i x h1 h2 => by rw [hq, any_true h1 h2]; rfl
  have p2 : ∀ (i : Nat) (c : Cd), K[i]? = some c → posB (onC c.col K) = false → q = true := fun i c h1 h2 => by rw [hq, any_true (l := K) (p := fun c => !posB (onC c.col K)) h1 (by rw [h2]; rfl), Bool.or_true]
  have p3 : (∀ x ∈ J, nvX x = false) → (∀ c ∈ K, posB (onC c.col K) = true) → q = false := fun h1 h2 => by rw [hq, any_false h1, any_false (l := K) (p := fun c => !posB (onC c.col K)) (fun c hc => by rw [h2 c hc]; rfl)]; rfl
  clear hq
  have h1 := xL_len J
  have hm := xL_mem J
  have hg0 := xL_get' (args := J)
  have hon := fun col => C.r12_on K (by omega) (.sl (eDs K)) sld_sl col
  have hcon := fun col (hne : onC col K ≠ []) => C.r12_contradict (onC col K) (by have := onC_len col K; omega) (fun c hc => hok c (List.mem_filter.1 hc).1) hne
  have k1 := eDs_len K
  have km := eDs_mem K
  have kg : ∀ (i : Nat) (x : Cd), K[i]? = some x → (eDs K)[i]? = some [eI x.op, eI x.col, eI x.v.k, eI x.v.n, .str x.v.s] := fun i x h => eDs_get h
  obtain ⟨js, hjs⟩ : ∃ x, x = xL J := ⟨_, rfl⟩
  rw [← hjs] at hJ h1 hm hg0
  obtain ⟨ks, hks⟩ : ∃ x, x = eDs K := ⟨_, rfl⟩
  rw [← hks] at hC k1 km kg hon
  obtain ⟨op, n, v, nm, nl, args⟩ := e
  rw [Ex.av_mk] at hJ hC ⊢
  obtain ⟨da, hda⟩ : ∃ d, d = ng nl (xL args) := ⟨_, rfl⟩
  rw [← hda] at hJ hC ⊢
  refine F.bt_ref12_Never.go mixed rfl ?_
  repeat' first
    | refine st ?_
    | ((with_reducible apply go_i); (conv => whnf))
    | ((with_reducible apply k_pn); (· first | exact hJ | exact hC))
    | ((with_reducible apply k_pc); (· first | exact hJ | exact hC))
    | (with_reducible apply k_d <;> intro _)
    | (with_reducible apply k_b <;> intro _)
  refine x_loop1 mixed Lt.bt_ref12_Never_l0 Lk.bt_ref12_Never_l0 (fun (i : Nat) => [.d (eI i)]) (fun i => [.cells [.d (eI op), .d (eI n), .d (eI v.k), .d (eI v.n), .d (.str v.s), .d (.str nm), .d da]]) (fun i => i ≤ J.length ∧ ∀ x ∈ J.take i, nvX x = false) (fun i => J.length - i) 0 rfl rfl rfl rfl (fun _ _ => ⟨rfl, rfl⟩) rfl ⟨by omega, by simp⟩ ?_
  repeat' first
    | refine st ?_
    | ((with_reducible apply go_i); (conv => whnf))
    | (with_reducible apply k_d <;> intro _)
    | (with_reducible apply k_b <;> intro _)
  intro i ⟨h4, h5⟩
  cases hx : J[i]? with
  | some x =>
    have hlt := (List.getElem?_eq_some_iff.1 hx).1
    have hT := C.r11_Truth [] (by simp) (by simp) .nil sld_nil x (by have := hjb x (List.mem_of_getElem? hx); omega)
    have hp := p1 i x hx
    have hs := fun h => take_mem (P := fun x => nvX x = false) hx h5 h
    obtain ⟨tr, htr⟩ : ∃ t, t = vTruth (ev [] x) := ⟨_, rfl⟩
    obtain ⟨o1, n1, v1, m1, l1, a1⟩ := x
    have hnv : nvX (.mk o1 n1 v1 m1 l1 a1) = (decide (o1 = 1) && !decide (tr = 2)) := by rw [htr]; rfl
    rw [← htr] at hT
    clear htr
    rw [hnv] at hp hs
    clear hnv
    have hg := hg0 _ _ _ _ _ _ _ hx
    rw [Ex.av_mk] at hT
    by_cases o : o1 = 1
    · by_cases t2 : tr = 2
      · repeat' first
          | refine st ?_
          | ((with_reducible apply go_i); (conv => whnf))
          | ((with_reducible apply k_pn); (· exact hT))
          | ((with_reducible apply k_pc); (· exact hT))
          | (with_reducible apply k_d <;> intro _)
          | (with_reducible apply k_b <;> intro _)
        exact ⟨i + 1, rfl, rfl, rfl, by omega, by omega, hs (by simp [t2])⟩
      · rw [hp (by simp [o, t2])]
        repeat' first
          | refine st ?_
          | ((with_reducible apply go_i); (conv => whnf))
          | ((with_reducible apply k_pn); (· exact hT))
          | ((with_reducible apply k_pc); (· exact hT))
          | (with_reducible apply k_d <;> intro _)
          | (with_reducible apply k_b <;> intro _)
        all_goals first | rfl | (exfalso; omega)
    · repeat' first
        | refine st ?_
        | ((with_reducible apply go_i); (conv => whnf))
        | ((with_reducible apply k_pn); (· exact hT))
        | ((with_reducible apply k_pc); (· exact hT))
        | (with_reducible apply k_d <;> intro _)
        | (with_reducible apply k_b <;> intro _)
      exact ⟨i + 1, rfl, rfl, rfl, by omega, by omega, hs (by simp [o])⟩
  | none =>
    have hge := List.getElem?_eq_none_iff.1 hx
    rw [List.take_of_length_le hge] at h5
    have p3 := p3 h5
    repeat' first
      | refine st ?_
      | ((with_reducible apply go_i); (conv => whnf))
      | ((with_reducible apply k_pn); (· first | exact hJ | exact hC))
      | ((with_reducible apply k_pc); (· first | exact hJ | exact hC))
      | (with_reducible apply k_d <;> intro _)
      | (with_reducible apply k_b <;> intro _)
    refine x_loop1 mixed Lt.bt_ref12_Never_l1 Lk.bt_ref12_Never_l1 (fun (i : Nat) => [.d (eI i)]) (fun i => [.cells [.d (eI op), .d (eI n), .d (eI v.k), .d (eI v.n), .d (.str v.s), .d (.str nm), .d da]]) (fun i => i ≤ K.length ∧ ∀ c ∈ K.take i, posB (onC c.col K) = true) (fun i => K.length - i) 0 rfl rfl rfl rfl (fun _ _ => ⟨rfl, rfl⟩) rfl ⟨by omega, by simp⟩ ?_
    repeat' first
      | refine st ?_
      | ((with_reducible apply go_i); (conv => whnf))
      | (with_reducible apply k_d <;> intro _)
      | (with_reducible apply k_b <;> intro _)
    intro j ⟨j4, j5⟩
    cases hy : K[j]? with
    | some c =>
      have hlt2 := (List.getElem?_eq_some_iff.1 hy).1
      have hg2 := kg j c hy
      have hO := hon c.col
      have hR := hcon c.col (onC_ne hy)
      have hp2 := p2 j c hy
      have hs2 := fun h => take_mem (P := fun c => posB (onC c.col K) = true) hy j5 h
      have m1 := eDs_mem (onC c.col K)
      obtain ⟨z, hz⟩ : ∃ z, z = eDs (onC c.col K) := ⟨_, rfl⟩
      rw [← hz] at hO hR m1
      obtain ⟨co, cc, ck, cn, cs⟩ := c
      dsimp only at hO hR hp2 hs2
      cases hb : posB (onC cc K) with
      | true =>
        rw [hb] at hR
        repeat' first
          | refine st ?_
          | ((with_reducible apply go_i); (conv => whnf))
          | ((with_reducible apply k_pn); (· first | exact hO | exact hR))
          | ((with_reducible apply k_pc); (· first | exact hO | exact hR))
          | (with_reducible apply k_d <;> intro _)
          | (with_reducible apply k_b <;> intro _)
        exact ⟨j + 1, rfl, rfl, rfl, by omega, by omega, hs2 hb⟩
      | false =>
        rw [hp2 hb]
        rw [hb] at hR
        repeat' first
          | refine st ?_
          | ((with_reducible apply go_i); (conv => whnf))
          | ((with_reducible apply k_pn); (· first | exact hO | exact hR))
          | ((with_reducible apply k_pc); (· first | exact hO | exact hR))
          | (with_reducible apply k_d <;> intro _)
          | (with_reducible apply k_b <;> intro _)
        all_goals first | rfl | (exfalso; omega)
    | none =>
      have hge2 := List.getElem?_eq_none_iff.1 hy
      rw [List.take_of_length_le hge2] at j5
      rw [p3 j5]
      repeat' first
        | refine st ?_
        | ((with_reducible apply go_i); (conv => whnf))
        | (with_reducible apply k_d <;> intro _)
        | (with_reducible apply k_b <;> intro _)
      all_goals rfl
theorem L.PredicateNever (e : Ex) (he : e.bk ≤ 1048576) : Pure Tryz.prog N.bt_law12_PredicateNever [e.av] (.d (.bool true)) := by
  have h1 := C.predicate_Never e he
  have h2 := C.r12_Never e he
  have h3 := C.law12_awake
  obtain ⟨w, hw⟩ : ∃ w, w = neverB e := ⟨_, rfl⟩
  rw [← hw] at h1 h2
  clear hw
  obtain ⟨op, n, v, nm, nl, args⟩ := e
  rw [Ex.av_mk] at h1 h2 ⊢
  refine F.bt_law12_PredicateNever.go mixed rfl ?_
  cases w with
  | true =>
    repeat' first
      | refine st ?_
      | ((with_reducible apply go_i); (conv => whnf))
      | ((with_reducible apply k_pn); (· first | exact h1 | exact h2 | exact h3))
      | ((with_reducible apply k_pc); (· first | exact h1 | exact h2 | exact h3))
      | (with_reducible apply k_d <;> intro _)
      | (with_reducible apply k_b <;> intro _)
    all_goals rfl
  | false =>
    repeat' first
      | refine st ?_
      | ((with_reducible apply go_i); (conv => whnf))
      | ((with_reducible apply k_pn); (· first | exact h1 | exact h2 | exact h3))
      | ((with_reducible apply k_pc); (· first | exact h1 | exact h2 | exact h3))
      | (with_reducible apply k_d <;> intro _)
      | (with_reducible apply k_b <;> intro _)
    all_goals rfl
end Go.Proofs
end
