/- Texts of this claim, joined. No condition. -/
import Derived.Test.YthikjlgebokooaaQ2
import Derived.Test.YthikjlgebokooaaRows
section
/- The program's network is the greatest closed one. No condition. -/
set_option linter.unusedSimpArgs false
set_option linter.unusedVariables false
set_option maxRecDepth 10000
set_option maxHeartbeats 4000000
namespace Go.Proofs
open Go.Bi

def pS (ws : List Int) : RS := fun i j c => sHas (nAt ws i j) c = true
theorem nAt_set {ws : List Int} (hl : ws.length = 64) {i j i' j' : Nat} (hi : i < 8) (hj : j < 8) (hi' : i' < 8) (hj' : j' < 8) (v : Int) : nAt (nSet ws i j v) i' j' = if i = i' ∧ j = j' then v else nAt ws i' j' := by
  unfold nAt nSet
  simp only [Int.toNat_natCast]
  rw [List.getD_eq_getElem?_getD, List.getElem?_set]
  by_cases e : i = i' ∧ j = j'
  · obtain ⟨rfl, rfl⟩ := e
    rw [if_pos rfl, if_pos (by omega), if_pos ⟨rfl, rfl⟩]; rfl
  · rw [if_neg (by omega), if_neg e, ← List.getD_eq_getElem?_getD]
theorem nAt_bI {ws : List Int} (h : inR ws) (i j : Int) : bI (nAt ws i j) := inR_get h
theorem nJ_len (T : List Int) (k i : Nat) (ws : List Int) (j : Nat) : (nJ T k i ws j).length = ws.length := by rw [nJ, nSet_len]
theorem nJ_pS {ws : List Int} (hl : ws.length = 64) (hr : inR ws) {k i j i' j' c : Nat} (hi : i < 8) (hj : j < 8) (hi' : i' < 8) (hj' : j' < 8) (hc : c < 13) :
    pS (nJ comps k i ws j) i' j' c ↔ pS ws i' j' c ∧ (i = i' ∧ j = j' → ∃ a b, a < 13 ∧ b < 13 ∧ pS ws i k a ∧ pS ws k j b ∧ Tb a b c = true) := by
  unfold pS nJ
  rw [nAt_set hl hi hj hi' hj']
  split
  · rename_i e
    obtain ⟨h1, h2⟩ := tcA_has (nAt ws i k) (nAt ws k j)
    rw [(sAnd_has (nAt_bI hr _ _) h1).2 c hc, Bool.and_eq_true, h2 c hc]
    obtain ⟨rfl, rfl⟩ := e
    exact ⟨fun h => ⟨h.1, fun _ => h.2⟩, fun h => ⟨h.1, h.2 ⟨rfl, rfl⟩⟩⟩
  · rename_i e
    exact ⟨fun h => ⟨h, fun e' => absurd e' e⟩, fun h => h.1⟩

/-! ### Folds -/
theorem fold_pres {P : List Int → Prop} {f : List Int → Nat → List Int} {n : Nat} (hf : ∀ ws j, j < n → P ws → P (f ws j)) {ws : List Int} (h : P ws) : P ((List.range n).foldl f ws) := by
  have : ∀ k, k ≤ n → P ((List.range k).foldl f ws) := by
    intro k
    induction k with
    | zero => intro _; exact h
    | succ k ih => intro hk; rw [range_fold]; exact hf _ k (by omega) (ih (by omega))
  exact this n (Nat.le_refl _)
theorem narrow_pres {P : List Int → Prop} {n : Nat} (hf : ∀ ws i j k, i < n → j < n → k < n → P ws → P (nJ comps k i ws j)) {ws : List Int} (h : P ws) : P (narrow comps n ws n) := by
  refine fold_pres (fun ws k hk h => ?_) h
  refine fold_pres (fun ws i hi h => ?_) h
  exact fold_pres (fun ws j hj h => hf ws i j k hi hj hk h) h
theorem rounds_pres {P : List Int → Prop} {f : List Int → List Int} (hf : ∀ ws, P ws → P (f ws)) : ∀ (k : Nat) (ws : List Int), P ws → P (rounds f k ws)
  | 0, ws, h => h
  | k + 1, ws, h => by
    rw [rounds]
    split
    · exact h
    · exact rounds_pres hf k _ (hf _ h)
theorem leW.antisymm {a b : List Int} (h : leW a b) (k : leW b a) : a = b := by
  refine List.ext_getElem h.1 fun i h1 h2 => ?_
  have g1 := h.2 i a[i] b[i] (List.getElem?_eq_getElem h1) (List.getElem?_eq_getElem h2)
  have g2 := k.2 i b[i] a[i] (List.getElem?_eq_getElem h2) (List.getElem?_eq_getElem h1)
  omega
theorem fold_fix {f : List Int → Nat → List Int} (hf : ∀ ws j, inR ws → inR (f ws j) ∧ leW (f ws j) ws) {ws : List Int} (h : inR ws) : ∀ n, (List.range n).foldl f ws = ws → ∀ j, j < n → f ws j = ws
  | 0, _, j, hj => by omega
  | n + 1, he, j, hj => by
    rw [range_fold] at he
    obtain ⟨h1, h2⟩ := fold_ok hf n h
    obtain ⟨h3, h4⟩ := hf _ n h1
    rw [he] at h4
    have e := h2.antisymm h4
    rcases Nat.lt_succ_iff_lt_or_eq.1 hj with h5 | rfl
    · exact fold_fix hf h n e j h5
    · rwa [e] at he
theorem narrow_fix {n : Nat} {ws : List Int} (h : inR ws) (he : narrow comps n ws n = ws) {i j k : Nat} (hi : i < n) (hj : j < n) (hk : k < n) : nJ comps k i ws j = ws := by
  have h1 := fold_fix (f := fun ws k => nMat comps n k ws n) (fun ws k h => fold_ok (fun ws i h => fold_ok (fun ws j h => nJ_ok comps k i j h) n h) n h) h n he k hk
  have h2 := fold_fix (f := fun ws i => nRow comps k i ws n) (fun ws i h => fold_ok (fun ws j h => nJ_ok comps k i j h) n h) h n h1 i hi
  exact fold_fix (fun ws j h => nJ_ok comps k i j h) h n h2 j hj
theorem rounds_fix (n : Nat) : ∀ (k : Nat) (ws : List Int), inR ws → wsum ws ≤ k → narrow comps n (rounds (fun ws => narrow comps n ws n) k ws) n = rounds (fun ws => narrow comps n ws n) k ws
  | 0, ws, h, hk => by
    by_cases he : narrow comps n ws n = ws
    · exact he
    · have := narrow_lt comps n h he; omega
  | k + 1, ws, h, hk => by
    rw [rounds]
    split
    · rename_i e; exact e
    · rename_i he
      have := narrow_lt comps n h he
      exact rounds_fix n k _ (narrow_ok comps n n h).1 (by omega)
theorem fixed_facts {n : Nat} (hn : n ≤ 8) {ws : List Int} (hl : ws.length = 64) (hr : inR ws) :
    inR (fixed comps n ws) ∧ (fixed comps n ws).length = 64 ∧ Clo n (pS (fixed comps n ws)) ∧ Sub n (pS (fixed comps n ws)) (pS ws) ∧ ∀ S, Clo n S → Sub n S (pS ws) → Sub n S (pS (fixed comps n ws)) := by
  have base : ∀ (P : List Int → Prop), (∀ ws i j k, i < n → j < n → k < n → inR ws → ws.length = 64 → P ws → P (nJ comps k i ws j)) → P ws → (inR (fixed comps n ws) ∧ (fixed comps n ws).length = 64 ∧ P (fixed comps n ws)) := by
    intro P hP h0
    refine rounds_pres (P := fun ws => inR ws ∧ ws.length = 64 ∧ P ws) (fun ws h => ?_) _ _ ⟨hr, hl, h0⟩
    refine narrow_pres (P := fun ws => inR ws ∧ ws.length = 64 ∧ P ws) (fun ws i j k hi hj hk h => ?_) h
    exact ⟨(nJ_ok comps k i j h.1).1, by rw [nJ_len, h.2.1], hP ws i j k hi hj hk h.1 h.2.1 h.2.2⟩
  obtain ⟨f1, f2, f3⟩ := base (fun w => Sub n (pS w) (pS ws)) (fun w i j k hi hj hk hr hl h i' j' c hi' hj' hc hs => h i' j' c hi' hj' hc ((nJ_pS hl hr (by omega) (by omega) (by omega) (by omega) hc).1 hs).1) (fun _ _ _ _ _ _ h => h)
  refine ⟨f1, f2, ?_, f3, fun S hS h0 => (base (fun w => Sub n S (pS w)) (fun w i j k hi hj hk hr hl h i' j' c hi' hj' hc hs => ?_) h0).2.2⟩
  · intro i j k c hi hj hk hc hs
    have he := narrow_fix f1 (rounds_fix n _ ws hr (Nat.le_refl _)) hi hj hk
    have := (nJ_pS (k := k) f2 f1 (show i < 8 by omega) (show j < 8 by omega) (show i < 8 by omega) (show j < 8 by omega) hc).1
    rw [show nJ comps k i (fixed comps n ws) j = fixed comps n ws from he] at this
    exact (this hs).2 ⟨rfl, rfl⟩
  · refine (nJ_pS hl hr (by omega) (by omega) (by omega) (by omega) hc).2 ⟨h i' j' c hi' hj' hc hs, ?_⟩
    rintro ⟨rfl, rfl⟩
    obtain ⟨a, b, ha, hb, h1, h2, h3⟩ := hS i j k c hi hj hk hc hs
    exact ⟨a, b, ha, hb, h i k a hi hk ha h1, h k j b hk hj hb h2, h3⟩

/-! ### The network of constraints -/
theorem bRow_at {i : Nat} (hi : i < 8) {ws : List Int} (hl : ws.length = 64) {i' j' : Nat} (hi' : i' < 8) (hj' : j' < 8) : ∀ m, m ≤ 8 → nAt (bRow i ws m) i' j' = if i = i' ∧ j' < m then 8191 else nAt ws i' j'
  | 0, _ => by rw [if_neg (by omega)]; rfl
  | m + 1, hm => by
    rw [bRow, range_fold, ← bRow, nAt_set (by rw [bRow_len, hl]) hi (by omega) hi' hj', bRow_at hi hl hi' hj' m (by omega)]
    repeat' split
    all_goals first | rfl | (exfalso; omega)
theorem bInit_at {n : Nat} (hn : n ≤ 8) {i j : Nat} (hj : j < n) : ∀ m, m ≤ n → i < m → nAt (bInit n m) i j = if i = j then sOne 6 else 8191
  | 0, _, h => by omega
  | m + 1, hm, h => by
    have e : bInit n (m + 1) = nSet (bRow m (bInit n m) n) m m (sOne 6) := by rw [bInit, range_fold]; rfl
    rw [e, nAt_set (by rw [bRow_len, bInit_len]) (by omega) (by omega) (by omega) (by omega), bRow_at (by omega) (bInit_len ..) (by omega) (by omega) n hn]
    rcases Nat.lt_succ_iff_lt_or_eq.1 h with h1 | rfl
    · rw [if_neg (by omega), if_neg (by omega), bInit_at hn hj m (by omega) h1]
    · by_cases h2 : i = j
      · rw [if_pos ⟨rfl, h2⟩, if_pos h2]
      · rw [if_neg (by omega), if_pos ⟨rfl, hj⟩, if_neg h2]
theorem full_has {c : Nat} (hc : c < 13) : sHas 8191 c = true := by
  have := sHas_nat 8191 c (by omega) (by omega)
  rw [show (8191 : Nat) = 2 ^ 13 - 1 from rfl, Nat.testBit_two_pow_sub_one, decide_eq_true hc] at this
  exact this
theorem bInit_pS {n : Nat} (hn : n ≤ 8) {i j c : Nat} (hi : i < n) (hj : j < n) (hc : c < 13) : pS (bInit n n) i j c ↔ (i = j → c = 6) := by
  unfold pS
  rw [bInit_at hn hj n (Nat.le_refl _) hi]
  split
  · rename_i e
    rw [(sOne_has (by omega)).2 c hc, decide_eq_true_eq]
    exact ⟨fun h _ => by omega, fun h => by have := h e; omega⟩
  · rename_i e
    rw [full_has hc]
    exact ⟨fun _ h => absurd h e, fun _ => rfl⟩
theorem bUpd_pS {n : Nat} (hn : n ≤ 8) {ws : List Int} (hl : ws.length = 64) (hr : inR ws) {x : Con} (hx : okC n x = true) {i j c : Nat} (hi : i < n) (hj : j < n) (hc : c < 13) : pS (bUpd ws x) i j c ↔ pS ws i j c ∧ conX x i j c := by
  simp only [okC, Bool.and_eq_true, decide_eq_true_eq] at hx
  obtain ⟨ho1, ho2, ho3, ho4, ho5⟩ := hx
  obtain ⟨a, ha⟩ : ∃ a : Nat, x.a = a := ⟨x.a.toNat, by omega⟩
  obtain ⟨b, hb⟩ : ∃ a : Nat, x.b = a := ⟨x.b.toNat, by omega⟩
  have hs := sOfL_has ho1
  have hv := sInv_has (sOfL x.rels)
  have ha8 : a < 8 := by omega
  have hb8 : b < 8 := by omega
  unfold pS bUpd conX
  rw [ha, hb]
  have r1 : inR (nSet ws a b (sAnd (nAt ws a b) (sOfL x.rels))) := inR_set hr ⟨(sAnd_has (nAt_bI hr _ _) hs.1).1.1, (sAnd_has (nAt_bI hr _ _) hs.1).1.2⟩
  have g1 : (c : Int) ∈ x.rels ↔ sHas (sOfL x.rels) c = true := by rw [hs.2 c hc, isIn_iff]
  have g2 : ((12 - c : Nat) : Int) ∈ x.rels ↔ sHas (sInv (sOfL x.rels)) c = true := by rw [hv.2 c hc, hs.2 _ (by omega), isIn_iff]
  rw [g1, g2, nAt_set (by rw [nSet_len, hl]) hb8 ha8 (by omega) (by omega)]
  have k1 := (sAnd_has (nAt_bI hr a b) hs.1).2 c hc
  have k2 := (sAnd_has (nAt_bI r1 b a) hv.1).2 c hc
  have e1 := nAt_set hl ha8 hb8 (show i < 8 by omega) (show j < 8 by omega) (sAnd (nAt ws a b) (sOfL x.rels))
  have e2 := nAt_set hl ha8 hb8 hb8 ha8 (sAnd (nAt ws a b) (sOfL x.rels))
  by_cases h1 : b = i ∧ a = j
  · rw [if_pos h1, k2, Bool.and_eq_true, e2]
    obtain ⟨rfl, rfl⟩ := h1
    by_cases h2 : a = b ∧ b = a
    · rw [if_pos h2, k1, Bool.and_eq_true]
      obtain ⟨rfl, _⟩ := h2
      exact ⟨fun h => ⟨h.1.1, fun _ => h.1.2, fun _ => h.2⟩, fun h => ⟨⟨h.1, h.2.1 ⟨rfl, rfl⟩⟩, h.2.2 ⟨rfl, rfl⟩⟩⟩
    · rw [if_neg h2]
      exact ⟨fun h => ⟨h.1, fun e => absurd (by omega) h2, fun _ => h.2⟩, fun h => ⟨h.1, h.2.2 ⟨rfl, rfl⟩⟩⟩
  · rw [if_neg h1, e1]
    by_cases h2 : a = i ∧ b = j
    · rw [if_pos h2, k1, Bool.and_eq_true]
      obtain ⟨rfl, rfl⟩ := h2
      exact ⟨fun h => ⟨h.1, fun _ => h.2, fun e => absurd (by omega) h1⟩, fun h => ⟨h.1, h.2.1 ⟨rfl, rfl⟩⟩⟩
    · rw [if_neg h2]
      exact ⟨fun h => ⟨h, fun e => absurd (by omega) h2, fun e => absurd (by omega) h1⟩, fun h => h.1⟩
theorem bUpd_ok {ws : List Int} (h : inR ws) (c : Con) : inR (bUpd ws c) ∧ (bUpd ws c).length = ws.length := by
  refine ⟨?_, by simp [bUpd, nSet_len]⟩
  unfold bUpd nSet nAt
  have g1 := sAnd_le (b := sOfL c.rels) (inR_get (i := c.a.toNat * 8 + c.b.toNat) h)
  have g2 := inR_get (i := c.a.toNat * 8 + c.b.toNat) h
  have g3 := inR_set (i := c.a.toNat * 8 + c.b.toNat) h ⟨g1.1, show sAnd (ws.getD (c.a.toNat * 8 + c.b.toNat) 0) (sOfL c.rels) < 65536 by omega⟩
  have g4 := inR_get (i := c.b.toNat * 8 + c.a.toNat) g3
  have g5 := sAnd_le (b := sInv (sOfL c.rels)) g4
  exact inR_set g3 ⟨g5.1, by omega⟩
def inB (ws : List Int) : Prop := ∀ x ∈ ws, x < 8192
theorem inB_get {ws : List Int} {i : Nat} (h : inB ws) : ws.getD i 0 < 8192 := by
  rw [List.getD_eq_getElem?_getD]
  cases hx : ws[i]? with
  | none => simp
  | some x => exact h x (List.mem_of_getElem? hx)
theorem inB_set {ws : List Int} {i : Nat} {v : Int} (h : inB ws) (hv : v < 8192) : inB (ws.set i v) := by
  intro x hx
  rcases List.mem_or_eq_of_mem_set hx with h1 | rfl
  · exact h x h1
  · exact hv
theorem nJ_inB {ws : List Int} (h : inB ws) (hr : inR ws) (k i j : Nat) : inB (nJ comps k i ws j) := by
  have h1 := inB_get (i := (i : Int).toNat * 8 + (j : Int).toNat) h
  have h2 := sAnd_le (b := tcA comps (nAt ws i k) (nAt ws k j) 13) (inR_get (i := (i : Int).toNat * 8 + (j : Int).toNat) hr)
  exact inB_set h (by unfold nAt at *; omega)
theorem bUpd_inB {ws : List Int} (hb : inB ws) (h : inR ws) (c : Con) : inB (bUpd ws c) := by
  unfold bUpd nSet nAt
  have g1 := sAnd_le (b := sOfL c.rels) (inR_get (i := c.a.toNat * 8 + c.b.toNat) h)
  have g2 := inR_get (i := c.a.toNat * 8 + c.b.toNat) h
  have g6 := inB_get (i := c.a.toNat * 8 + c.b.toNat) hb
  have g3 := inR_set (i := c.a.toNat * 8 + c.b.toNat) h ⟨g1.1, show sAnd (ws.getD (c.a.toNat * 8 + c.b.toNat) 0) (sOfL c.rels) < 65536 by omega⟩
  have g7 := inB_set (i := c.a.toNat * 8 + c.b.toNat) hb (show sAnd (ws.getD (c.a.toNat * 8 + c.b.toNat) 0) (sOfL c.rels) < 8192 by omega)
  have g4 := inR_get (i := c.b.toNat * 8 + c.a.toNat) g3
  have g8 := inB_get (i := c.b.toNat * 8 + c.a.toNat) g7
  have g5 := sAnd_le (b := sInv (sOfL c.rels)) g4
  exact inB_set g7 (by omega)
theorem bRow_inB (i n : Nat) {ws : List Int} (h : inB ws) : inB (bRow i ws n) := by
  unfold bRow
  induction n with
  | zero => exact h
  | succ n ih2 => rw [range_fold]; exact inB_set ih2 (by decide)
theorem bInit_inB (n m : Nat) : inB (bInit n m) := by
  have h0 : inB (List.replicate 64 0) := by intro x hx; rw [List.eq_of_mem_replicate hx]; decide
  unfold bInit
  induction m with
  | zero => exact h0
  | succ m ih =>
    rw [range_fold]
    exact inB_set (bRow_inB m n ih) (by decide)
theorem bGo_none {n : Int} : ∀ (l : List Con) (ws : List Int), l.all (okC n) = false → bGo n l ws = none
  | [], ws, h => by cases h
  | x :: l, ws, h => by
    rw [bGo]
    split
    · rename_i e
      rw [List.all_cons, e, Bool.true_and] at h
      exact bGo_none l _ h
    · rfl
theorem bGo_pS {n : Nat} (hn : n ≤ 8) : ∀ (l : List Con) (ws : List Int), l.all (okC n) = true → inR ws → inB ws → ws.length = 64 → ∃ r, bGo n l ws = some r ∧ inR r ∧ inB r ∧ r.length = 64 ∧ ∀ i j c, i < n → j < n → c < 13 → (pS r i j c ↔ pS ws i j c ∧ ∀ x ∈ l, conX x i j c)
  | [], ws, _, hr, hb, hl => ⟨ws, rfl, hr, hb, hl, fun i j c _ _ _ => by simp⟩
  | x :: l, ws, ho, hr, hb, hl => by
    rw [List.all_cons, Bool.and_eq_true] at ho
    obtain ⟨g1, g2⟩ := bUpd_ok hr x
    obtain ⟨r, h1, h2, hb2, h3, h4⟩ := bGo_pS hn l (bUpd ws x) ho.2 g1 (bUpd_inB hb hr x) (by rw [g2, hl])
    refine ⟨r, by rw [bGo, if_pos ho.1, h1], h2, hb2, h3, fun i j c hi hj hc => ?_⟩
    rw [h4 i j c hi hj hc, bUpd_pS hn hl hr ho.1 hi hj hc]
    simp only [List.mem_cons, forall_eq_or_imp, and_assoc]
theorem prog_Gr {n : Nat} (hn : n ≤ 8) (l : List Con) (hok : l.all (okC n) = true) : ∃ ws, bGo n l (bInit n n) = some ws ∧ inR (fixed comps n ws) ∧ inB (fixed comps n ws) ∧ Gr n l (pS (fixed comps n ws)) := by
  obtain ⟨ws, h1, h2, hb, h3, h4⟩ := bGo_pS hn l (bInit n n) hok (bInit_inR n n) (bInit_inB n n) (bInit_len n n)
  obtain ⟨f1, f2, f3, f4, f5⟩ := fixed_facts hn h3 h2
  have fb : inB (fixed comps n ws) := by
    refine (rounds_pres (P := fun ws => inR ws ∧ inB ws) (fun ws h => ?_) _ _ ⟨h2, hb⟩).2
    refine narrow_pres (P := fun ws => inR ws ∧ inB ws) (fun ws i j k hi hj hk h => ?_) h
    exact ⟨(nJ_ok comps k i j h.1).1, nJ_inB h.2 h.1 k i j⟩
  have hst : ∀ i j c, i < n → j < n → c < 13 → (pS ws i j c ↔ St l i j c) := fun i j c hi hj hc => by rw [h4 i j c hi hj hc, bInit_pS hn hi hj hc]; exact Iff.rfl
  have hsub : Sub n (pS (fixed comps n ws)) (St l) := fun i j c hi hj hc h => (hst i j c hi hj hc).1 (f4 i j c hi hj hc h)
  have htop : ∀ S, Clo n S → Sub n S (St l) → Sub n S (pS (fixed comps n ws)) := fun S hS h => f5 S hS fun i j c hi hj hc hs => (hst i j c hi hj hc).2 (h i j c hi hj hc hs)
  refine ⟨ws, h1, f1, fb, hsub, f3, fun i j c hi hj hc h => ?_, fun S h1 _ h2 => htop S h1 h2⟩
  refine htop (invS (pS (fixed comps n ws))) f3.inv (fun i j c hi hj hc h => ?_) j i (12 - c) hj hi (by omega) ?_
  · have := St_sym n l j i (12 - c) hj hi (by omega) (hsub j i (12 - c) hj hi (by omega) h)
    rwa [show 12 - (12 - c) = c by omega] at this
  · show pS _ i j (12 - (12 - c))
    rwa [show 12 - (12 - c) = c by omega]
end Go.Proofs
end
section
/- The reference's network is the greatest closed one. No condition. -/
set_option linter.unusedSimpArgs false
set_option linter.unusedVariables false
set_option maxRecDepth 10000
set_option maxHeartbeats 4000000
namespace Go.Proofs
open Go.Bi

def rS (n : Nat) (m : List Bool) : RS := fun i j c => m.getD (ix n i j c) false = true
theorem ix_inj {n i j c i' j' c' : Nat} (hj : j < n) (hc : c < 13) (hj' : j' < n) (hc' : c' < 13) : ix n i j c = ix n i' j' c' ↔ i = i' ∧ j = j' ∧ c = c' := by
  constructor
  · intro h
    obtain ⟨h1, h2, h3⟩ := ix_parts (i := i) hj hc
    obtain ⟨h4, h5, h6⟩ := ix_parts (i := i') hj' hc'
    rw [h] at h1 h2 h3
    omega
  · rintro ⟨rfl, rfl, rfl⟩; rfl
theorem setF {m : List Bool} {x y : Nat} : (m.set x false).getD y false = true ↔ m.getD y false = true ∧ x ≠ y := by
  rw [List.getD_eq_getElem?_getD, List.getElem?_set]
  by_cases e : x = y
  · rw [if_pos e]
    split <;> simp [e]
  · rw [if_neg e, ← List.getD_eq_getElem?_getD]; simp [e]
theorem drp_rS {n i j c i' j' c' : Nat} {m : List Bool} (hi : i < n) (hj : j < n) (hc : c < 13) (hj' : j' < n) (hc' : c' < 13) : rS n (drp n i j c m) i' j' c' ↔ rS n m i' j' c' ∧ ¬ (i = i' ∧ j = j' ∧ c = c') ∧ ¬ (j = i' ∧ i = j' ∧ 12 - c = c') := by
  unfold rS drp
  rw [setF, setF, ne_eq, ne_eq, ix_inj hj hc hj' hc', ix_inj hi (by omega) hj' hc', and_assoc]
attribute [local irreducible] maskN
theorem pos_iff {m : List Bool} {n i j k c : Nat} (hc : c < 13) : pos tableR m n i j k c = true ↔ ∃ a b, a < 13 ∧ b < 13 ∧ rS n m i k a ∧ rS n m k j b ∧ Tb a b c = true := by
  unfold pos
  rw [List.any_eq_true]
  constructor
  · rintro ⟨a, ha, h⟩
    rw [posA, Bool.and_eq_true, List.any_eq_true] at h
    obtain ⟨h1, b, hb, h2⟩ := h
    have ha := List.mem_range.1 ha
    have hb := List.mem_range.1 hb
    rw [posB, Bool.and_eq_true, tableR_bit ha hb hc] at h2
    exact ⟨a, b, ha, hb, h1, h2.1, h2.2⟩
  · rintro ⟨a, b, ha, hb, h1, h2, h3⟩
    refine ⟨a, List.mem_range.2 ha, ?_⟩
    rw [posA, Bool.and_eq_true, List.any_eq_true]
    refine ⟨h1, b, List.mem_range.2 hb, ?_⟩
    rw [posB, Bool.and_eq_true, tableR_bit ha hb hc]
    exact ⟨h2, h3⟩

/-! ### One round -/
theorem rfold_pres {σ : Type} {P : σ → Prop} {f : σ → Nat → σ} {n : Nat} (hf : ∀ s j, j < n → P s → P (f s j)) {s : σ} (h : P s) : P ((List.range n).foldl f s) := by
  have : ∀ k, k ≤ n → P ((List.range k).foldl f s) := by
    intro k
    induction k with
    | zero => intro _; exact h
    | succ k ih => intro hk; rw [range_fold]; exact hf _ k (by omega) (ih (by omega))
  exact this n (Nat.le_refl _)
theorem once_pres {T : List Bool} {n : Nat} {P : Nat × List Bool → Prop} (hf : ∀ i j c k s, i < n → j < n → c < 13 → k < n → P s → P (oK T n i j c s k)) {m : List Bool} (h : P (0, m)) : P (onceR T n m) := by
  refine rfold_pres (fun s i hi h => ?_) h
  refine rfold_pres (fun s j hj h => ?_) h
  refine rfold_pres (fun s c hc h => ?_) h
  exact rfold_pres (fun s k hk h => hf i j c k s hi hj hc hk h) h
def gE (s' s : Nat × List Bool) : Prop := s.1 ≤ s'.1 ∧ (s'.1 = s.1 → s' = s)
theorem gE.refl (s : Nat × List Bool) : gE s s := ⟨Nat.le_refl _, fun _ => rfl⟩
theorem gE.trans {a b c : Nat × List Bool} (h : gE a b) (k : gE b c) : gE a c := by
  refine ⟨Nat.le_trans k.1 h.1, fun e => ?_⟩
  have h1 := h.1
  have h2 := k.1
  rw [h.2 (by omega), k.2 (by omega)]
theorem gfold {f : Nat × List Bool → Nat → Nat × List Bool} (hf : ∀ s x, gE (f s x) s) (s : Nat × List Bool) : ∀ n, gE ((List.range n).foldl f s) s
  | 0 => gE.refl s
  | n + 1 => by rw [range_fold]; exact (hf _ n).trans (gfold hf s n)
theorem gfold_fix {f : Nat × List Bool → Nat → Nat × List Bool} (hf : ∀ s x, gE (f s x) s) (s : Nat × List Bool) : ∀ n, ((List.range n).foldl f s) = s → ∀ j, j < n → f s j = s
  | 0, _, j, hj => by omega
  | n + 1, he, j, hj => by
    rw [range_fold] at he
    have h1 := gfold hf s n
    have h2 := hf ((List.range n).foldl f s) n
    rw [he] at h2
    have e : (List.range n).foldl f s = s := by
      have := h2.1
      exact h1.2 (by have := h1.1; omega)
    rcases Nat.lt_succ_iff_lt_or_eq.1 hj with h5 | rfl
    · exact gfold_fix hf s n e j h5
    · rwa [e] at he
theorem oK_gE {T : List Bool} {n i j c : Nat} (s : Nat × List Bool) (k : Nat) : gE (oK T n i j c s k) s := by
  unfold oK
  split
  · exact ⟨by dsimp only; omega, fun e => by dsimp only at e; omega⟩
  · exact gE.refl s
theorem oC_gE {T : List Bool} {n i j : Nat} (s : Nat × List Bool) (c : Nat) : gE (oC T n i j s c) s := gfold oK_gE s n
theorem oJ_gE {T : List Bool} {n i : Nat} (s : Nat × List Bool) (j : Nat) : gE (oJ T n i s j) s := gfold oC_gE s 13
theorem oI_gE {T : List Bool} {n : Nat} (s : Nat × List Bool) (i : Nat) : gE (oI T n s i) s := gfold oJ_gE s n
theorem once_fix {T : List Bool} {n : Nat} {m : List Bool} (h : (onceR T n m).1 = 0) : (onceR T n m).2 = m ∧ ∀ i j c k, i < n → j < n → c < 13 → k < n → m.getD (ix n i j c) false = true → pos T m n i j k c = true := by
  have h0 : onceR T n m = (0, m) := (gfold oI_gE (0, m) n).2 h
  refine ⟨by rw [h0], fun i j c k hi hj hc hk hm => ?_⟩
  have h1 := gfold_fix oI_gE (0, m) n h0 i hi
  have h2 := gfold_fix oJ_gE (0, m) n h1 j hj
  have h3 := gfold_fix oC_gE (0, m) 13 h2 c hc
  have h4 := gfold_fix oK_gE (0, m) n h3 k hk
  unfold oK at h4
  split at h4
  · cases h4
  · rename_i e
    dsimp only at e
    rw [hm, Bool.true_and, Bool.not_eq_true', Bool.not_eq_false] at e
    exact e
def cnt (m : List Bool) : Nat := m.countP fun b => b
theorem cnt_set {m : List Bool} {x : Nat} : cnt (m.set x false) ≤ cnt m ∧ (m.getD x false = true → cnt (m.set x false) + 1 ≤ cnt m) := by
  unfold cnt
  by_cases h : x < m.length
  · rw [List.countP_set h]
    have hg : m.getD x false = m[x] := by rw [List.getD_eq_getElem?_getD, List.getElem?_eq_getElem h]; rfl
    rw [hg]
    cases hm : m[x] with
    | false => simp
    | true =>
      have : 0 < m.countP fun b => b := List.countP_pos_iff.2 ⟨true, by rw [← hm]; exact List.getElem_mem h, rfl⟩
      simp
      omega
  · rw [List.set_eq_of_length_le (by omega)]
    refine ⟨Nat.le_refl _, fun e => ?_⟩
    rw [List.getD_eq_getElem?_getD, List.getElem?_eq_none (by omega)] at e
    cases e
theorem cnt_drp {n i j c : Nat} {m : List Bool} (h : m.getD (ix n i j c) false = true) : cnt (drp n i j c m) + 1 ≤ cnt m := by
  unfold drp
  have h1 := (cnt_set (m := m) (x := ix n i j c)).2 h
  have h2 := (cnt_set (m := m.set (ix n i j c) false) (x := ix n j i (12 - c))).1
  omega
theorem once_cnt {T : List Bool} {n : Nat} {m : List Bool} : cnt (onceR T n m).2 + (onceR T n m).1 ≤ cnt m := by
  refine once_pres (P := fun s => cnt s.2 + s.1 ≤ cnt m) (fun i j c k s hi hj hc hk h => ?_) (Nat.le_refl _)
  unfold oK
  split
  · rename_i e
    rw [Bool.and_eq_true] at e
    have := cnt_drp e.1
    dsimp only
    omega
  · exact h
structure Rinv (n : Nat) (l : List Con) (m : List Bool) : Prop where
  sub : Sub n (rS n m) (St l)
  sym : Sym n (rS n m)
  top : ∀ S', Clo n S' → Sym n S' → Sub n S' (St l) → Sub n S' (rS n m)
theorem Rinv.drp {n : Nat} {l : List Con} {m : List Bool} (h : Rinv n l m) {i j c k : Nat} (hi : i < n) (hj : j < n) (hc : c < 13) (hk : k < n) (hp : ¬ pos tableR m n i j k c = true) : Rinv n l (drp n i j c m) := by
  refine ⟨fun i' j' c' hi' hj' hc' hs => h.sub i' j' c' hi' hj' hc' ((drp_rS hi hj hc hj' hc').1 hs).1, fun i' j' c' hi' hj' hc' hs => ?_, fun S hS hy h0 i' j' c' hi' hj' hc' hs => ?_⟩
  · obtain ⟨h1, h2, h3⟩ := (drp_rS hi hj hc hj' hc').1 hs
    exact (drp_rS hi hj hc hi' (by omega)).2 ⟨h.sym i' j' c' hi' hj' hc' h1, fun e => h3 ⟨e.2.1, e.1, by omega⟩, fun e => h2 ⟨e.2.1, e.1, by omega⟩⟩
  · have hno : ¬ S i j c := by
      intro hs
      obtain ⟨a, b, ha, hb, h1, h2, h3⟩ := hS i j k c hi hj hk hc hs
      exact hp ((pos_iff hc).2 ⟨a, b, ha, hb, h.top S hS hy h0 i k a hi hk ha h1, h.top S hS hy h0 k j b hk hj hb h2, h3⟩)
    refine (drp_rS hi hj hc hj' hc').2 ⟨h.top S hS hy h0 i' j' c' hi' hj' hc' hs, ?_, ?_⟩
    · rintro ⟨rfl, rfl, rfl⟩; exact hno hs
    · rintro ⟨rfl, rfl, rfl⟩
      have := hy _ _ _ hi' hj' hc' hs
      rw [show 12 - (12 - c) = c by omega] at this
      exact hno this
theorem once_Rinv {n : Nat} {l : List Con} {m : List Bool} (h : Rinv n l m) : Rinv n l (onceR tableR n m).2 := by
  refine once_pres (P := fun s => Rinv n l s.2) (fun i j c k s hi hj hc hk h => ?_) h
  unfold oK
  split
  · rename_i e
    rw [Bool.and_eq_true, Bool.not_eq_true'] at e
    exact Rinv.drp h hi hj hc hk (by rw [e.2]; decide)
  · exact h
def rR (T : List Bool) (n : Nat) : Nat → List Bool → List Bool
  | 0, m => m
  | r + 1, m => if 0 < (onceR T n m).1 then rR T n r (onceR T n m).2 else (onceR T n m).2
theorem rR_Gr {n : Nat} {l : List Con} : ∀ (r : Nat) (m : List Bool), Rinv n l m → cnt m ≤ r → Gr n l (rS n (rR tableR n r m))
  | 0, m, h, hc => by
    refine ⟨h.sub, fun i j k c hi hj hk hcc hs => ?_, h.sym, h.top⟩
    have : 0 < cnt m := by
      refine List.countP_pos_iff.2 ⟨true, ?_, rfl⟩
      have hs : m.getD (ix n i j c) false = true := hs
      rw [List.getD_eq_getElem?_getD] at hs
      cases hx : m[ix n i j c]? with
      | none => rw [hx] at hs; cases hs
      | some b => rw [hx] at hs; have hb : b = true := hs; subst hb; exact List.mem_of_getElem? hx
    omega
  | r + 1, m, h, hc => by
    rw [rR]
    have h1 := once_Rinv h
    split
    · rename_i e
      have := once_cnt (T := tableR) (n := n) (m := m)
      exact rR_Gr r _ h1 (by omega)
    · rename_i e
      obtain ⟨g1, g2⟩ := once_fix (T := tableR) (n := n) (m := m) (by omega)
      rw [g1] at h1 ⊢
      exact ⟨h.sub, fun i j k c hi hj hk hcc hs => (pos_iff hcc).1 (g2 i j c k hi hj hcc hk hs), h.sym, h.top⟩

/-! ### The network of constraints -/
theorem base_rS {n : Nat} (hn : n ≤ 8) {i j c : Nat} (hi : i < n) (hj : j < n) (hc : c < 13) : rS n (fillTo (f0 n) (13 * (n * n)) (13 * (n * n))) i j c ↔ (i = j → c = 6) := by
  unfold rS fillTo
  have hx := ix_lt hn hi hj hc
  rw [List.getD_eq_getElem?_getD, List.getElem?_map, List.getElem?_range hx]
  simp only [Option.map_some, Option.getD_some]
  rw [if_pos hx, f0_ix hj hc, Bool.or_eq_true, decide_eq_true_eq, decide_eq_true_eq]
  constructor
  · rintro (h | h) e
    · exact absurd e h
    · exact h
  · intro h
    by_cases e : i = j
    · exact .inr (h e)
    · exact .inl e
theorem sCon_rS {n : Nat} (hn : n ≤ 8) {x : Con} (hx : okC n x = true) {m : List Bool} {i j c : Nat} (hi : i < n) (hj : j < n) (hc : c < 13) : rS n (sCon n m x) i j c ↔ rS n m i j c ∧ conX x i j c := by
  simp only [okC, Bool.and_eq_true, decide_eq_true_eq] at hx
  obtain ⟨ho1, ho2, ho3, ho4, ho5⟩ := hx
  obtain ⟨a, ha⟩ : ∃ a : Nat, x.a = a := ⟨x.a.toNat, by omega⟩
  obtain ⟨b, hb⟩ : ∃ a : Nat, x.b = a := ⟨x.b.toNat, by omega⟩
  have key : ∀ k, k ≤ 13 → (rS n ((List.range k).foldl (sIn n x) m) i j c ↔ rS n m i j c ∧ ∀ d : Nat, d < k → ¬ (d : Int) ∈ x.rels → ¬ (a = i ∧ b = j ∧ d = c) ∧ ¬ (b = i ∧ a = j ∧ 12 - d = c)) := by
    intro k
    induction k with
    | zero => intro _; exact ⟨fun h => ⟨h, fun d hd => by omega⟩, fun h => h.1⟩
    | succ k ih =>
      intro hk
      rw [range_fold]
      have ih := ih (by omega)
      have hlast : rS n (sIn n x ((List.range k).foldl (sIn n x) m) k) i j c ↔ rS n ((List.range k).foldl (sIn n x) m) i j c ∧ (¬ (k : Int) ∈ x.rels → ¬ (a = i ∧ b = j ∧ k = c) ∧ ¬ (b = i ∧ a = j ∧ 12 - k = c)) := by
        unfold sIn
        split
        · rename_i e
          rw [isIn_iff] at e
          exact ⟨fun h => ⟨h, fun h => absurd e h⟩, fun h => h.1⟩
        · rename_i e
          rw [isIn_iff] at e
          rw [ha, hb, Int.toNat_natCast, Int.toNat_natCast, drp_rS (by omega) (by omega) (by omega) hj hc]
          exact ⟨fun h => ⟨h.1, fun _ => h.2⟩, fun h => ⟨h.1, h.2 e⟩⟩
      rw [hlast, ih]
      constructor
      · rintro ⟨⟨h1, h2⟩, h3⟩
        refine ⟨h1, fun d hd => ?_⟩
        rcases Nat.lt_succ_iff_lt_or_eq.1 hd with h | rfl
        · exact h2 d h
        · exact h3
      · rintro ⟨h1, h2⟩
        exact ⟨⟨h1, fun d hd => h2 d (by omega)⟩, h2 k (by omega)⟩
  rw [sCon, key 13 (Nat.le_refl _)]
  unfold conX
  rw [ha, hb]
  refine and_congr_right fun _ => ?_
  constructor
  · intro h
    refine ⟨fun e => ?_, fun e => ?_⟩
    · refine Classical.byContradiction fun hn => (h c hc hn).1 ⟨by omega, by omega, rfl⟩
    · refine Classical.byContradiction fun hn => (h (12 - c) (by omega) hn).2 ⟨by omega, by omega, by omega⟩
  · rintro ⟨h1, h2⟩ d hd hn
    refine ⟨?_, ?_⟩
    · rintro ⟨rfl, rfl, rfl⟩; exact hn (h1 ⟨rfl, rfl⟩)
    · rintro ⟨rfl, rfl, rfl⟩
      have := h2 ⟨rfl, rfl⟩
      rw [show 12 - (12 - d) = d by omega] at this
      exact hn this
theorem startF_rS {n : Nat} (hn : n ≤ 8) {i j c : Nat} (hi : i < n) (hj : j < n) (hc : c < 13) : ∀ (l : List Con) (m : List Bool), l.all (okC n) = true → (rS n (l.foldl (sCon n) m) i j c ↔ rS n m i j c ∧ ∀ x ∈ l, conX x i j c)
  | [], m, _ => by simp
  | x :: l, m, h => by
    rw [List.all_cons, Bool.and_eq_true] at h
    rw [List.foldl_cons, startF_rS hn hi hj hc l _ h.2, sCon_rS hn h.1 hi hj hc]
    simp only [List.mem_cons, forall_eq_or_imp, and_assoc]
theorem ref_Gr {n : Nat} (hn : n ≤ 8) (l : List Con) (hok : l.all (okC n) = true) : Gr n l (rS n (rR tableR n (13 * (n * n)) (startR n l))) := by
  have hst : ∀ i j c, i < n → j < n → c < 13 → (rS n (startR n l) i j c ↔ St l i j c) := fun i j c hi hj hc => by rw [startR, startF_rS hn hi hj hc l _ hok, base_rS hn hi hj hc]; exact Iff.rfl
  refine rR_Gr _ _ ⟨fun i j c hi hj hc h => (hst i j c hi hj hc).1 h, fun i j c hi hj hc h => ?_, fun S _ _ h i j c hi hj hc hs => (hst i j c hi hj hc).2 (h i j c hi hj hc hs)⟩ ?_
  · exact (hst j i _ hj hi (by omega)).2 (St_sym n l i j c hi hj hc ((hst i j c hi hj hc).1 h))
  · rw [← startR_len n l]; exact List.countP_le_length
end Go.Proofs
end
section
/- The answers of both Tightens are those of the greatest closed network. No condition. -/
set_option linter.unusedSimpArgs false
set_option linter.unusedVariables false
set_option maxRecDepth 10000
set_option maxHeartbeats 4000000
namespace Go.Proofs
open Go.Bi

abbrev RB := Nat → Nat → Nat → Bool
def lst (F : RB) (i k : Nat) : List Int := ((List.range 13).filter (F i k)).map fun (c : Nat) => (c : Int)
theorem lst_mem {F : RB} {i k : Nat} {x : Int} : x ∈ lst F i k ↔ ∃ c : Nat, c < 13 ∧ x = c ∧ F i k c = true := by
  unfold lst
  rw [List.mem_map]
  constructor
  · rintro ⟨c, hc, rfl⟩
    rw [List.mem_filter, List.mem_range] at hc
    exact ⟨c, hc.1, rfl, hc.2⟩
  · rintro ⟨c, hc, rfl, h⟩
    exact ⟨c, List.mem_filter.2 ⟨List.mem_range.2 hc, h⟩, rfl⟩
theorem lst_len (F : RB) (i k : Nat) : (lst F i k).length ≤ 13 := by
  unfold lst
  rw [List.length_map]
  exact Nat.le_trans (List.length_filter_le _ _) (by simp)
theorem lst_nil {F : RB} {i k : Nat} : lst F i k = [] ↔ ∀ c, c < 13 → F i k c = false := by
  rw [List.eq_nil_iff_forall_not_mem]
  constructor
  · intro h c hc
    rw [Bool.eq_false_iff]
    exact fun e => h c (lst_mem.2 ⟨c, hc, rfl, e⟩)
  · intro h x hx
    obtain ⟨c, hc, rfl, e⟩ := lst_mem.1 hx
    rw [h c hc] at e; cases e
theorem lst_congr {F F' : RB} {i k : Nat} (h : ∀ c, c < 13 → F i k c = F' i k c) : lst F i k = lst F' i k := by
  unfold lst
  rw [List.filter_congr fun c hc => h c (List.mem_range.1 hc)]
def gO (F : RB) (i k : Nat) : Int × Int × List Int := ((i : Int), (k : Int), lst F i k)
def rowO (F : RB) (n i : Nat) : List (Int × Int × List Int) := ((List.range n).filter fun k => decide (i < k)).map (gO F i)
def outL (F : RB) (n : Nat) : List (Int × Int × List Int) := (List.range n).flatMap (rowO F n)
def fullB (F : RB) (n : Nat) : Bool := (List.range n).all fun i => (List.range n).all fun k => !(lst F i k).isEmpty
theorem fullB_iff {F : RB} {n : Nat} : fullB F n = true ↔ ∀ i k, i < n → k < n → lst F i k ≠ [] := by
  unfold fullB
  rw [List.all_eq_true]
  constructor
  · intro h i k hi hk e
    have := List.all_eq_true.1 (h i (List.mem_range.2 hi)) k (List.mem_range.2 hk)
    rw [e] at this; cases this
  · intro h i hi
    refine List.all_eq_true.2 fun k hk => ?_
    have := h i k (List.mem_range.1 hi) (List.mem_range.1 hk)
    cases hx : lst F i k with
    | nil => exact absurd hx this
    | cons => rfl
def res (F : RB) (n : Nat) : D × Bool := if fullB F n = true then (nsl (eOuts (outL F n)), true) else (.nil, false)
theorem res_congr {F F' : RB} {n : Nat} (h : ∀ i j c, i < n → j < n → c < 13 → F i j c = F' i j c) : res F n = res F' n := by
  have e : ∀ i k, i < n → k < n → lst F i k = lst F' i k := fun i k hi hk => lst_congr fun c hc => h i k c hi hk hc
  have e1 : fullB F n = fullB F' n := by
    rw [Bool.eq_iff_iff, fullB_iff, fullB_iff]
    exact ⟨fun h i k hi hk => by rw [← e i k hi hk]; exact h i k hi hk, fun h i k hi hk => by rw [e i k hi hk]; exact h i k hi hk⟩
  have e2 : outL F n = outL F' n := by
    unfold outL
    rw [List.flatMap_def, List.flatMap_def]
    congr 1
    refine List.map_congr_left fun i hi => ?_
    unfold rowO
    refine List.map_congr_left fun k hk => ?_
    rw [gO, gO, e i k (List.mem_range.1 hi) (List.mem_range.1 (List.mem_filter.1 hk).1)]
  rw [res, res, e1, e2]
abbrev pr (F : RB) : RS := fun i j c => F i j c = true
theorem res_eq {F F' : RB} {n : Nat} {l : List Con} (h : Gr n l (pr F)) (k : Gr n l (pr F')) : res F n = res F' n :=
  res_congr fun i j c hi hj hc => by rw [Bool.eq_iff_iff]; exact h.eq k hi hj hc

/-! ### The program's answer -/
def pF (w : List Int) : RB := fun i j c => sHas (nAt w i j) c
theorem sList_lst (w : List Int) (i k : Nat) : sList (nAt w i k) = lst (pF w) i k := by
  unfold sList sUpto lst
  rw [List.filter_map]; rfl
theorem nAt_zero {w : List Int} (hr : inR w) (hb : inB w) (i k : Nat) : nAt w i k = 0 ↔ lst (pF w) i k = [] := by
  rw [lst_nil]
  obtain ⟨n, hn, h1⟩ := bI_nat (nAt_bI hr i k)
  have h2 : nAt w i k < 8192 := inB_get hb
  unfold pF
  rw [hn] at h2 ⊢
  constructor
  · intro h c hc
    have : n = 0 := by omega
    subst this
    exact zero_has.2 c hc
  · intro h
    have : n = 0 := by
      apply Nat.eq_of_testBit_eq
      intro c
      rw [Nat.zero_testBit]
      by_cases hc : c < 13
      · rw [← sHas_nat n c h1 (by omega)]; exact h c hc
      · exact Nat.testBit_lt_two_pow (Nat.lt_of_lt_of_le (show n < 2 ^ 13 by omega) (Nat.pow_le_pow_right (by omega) (by omega)))
    omega
theorem oRow_char {w : List Int} (hr : inR w) (hb : inB w) (i : Nat) (l : List (Int × Int × List Int)) : ∀ k, oRow w i (some l) k = if ((List.range k).all fun k => !(lst (pF w) i k).isEmpty) = true then some (l ++ ((List.range k).filter fun k => decide (i < k)).map (gO (pF w) i)) else none
  | 0 => by simp [oRow]
  | k + 1 => by
    rw [oRow, range_fold, ← oRow, oRow_char hr hb i l k, List.range_succ, List.all_append, List.filter_append, List.map_append]
    have hz := nAt_zero hr hb i k
    cases h1 : (List.range k).all fun k => !(lst (pF w) i k).isEmpty with
    | false => rfl
    | true =>
      rw [if_pos rfl, oStep]
      by_cases h2 : nAt w i k = 0
      · rw [if_pos h2]
        simp [hz.1 h2]
      · rw [if_neg h2]
        have h3 : (lst (pF w) i k).isEmpty = false := by
          cases hx : lst (pF w) i k with
          | nil => exact absurd (hz.2 hx) h2
          | cons => rfl
        by_cases h4 : i < k
        · rw [if_pos h4, sList_lst]
          simp [h3, h4, gO]
        · rw [if_neg h4]
          simp [h3, h4]
theorem oRow_nn (w : List Int) (i n : Nat) : oRow w i none n = none := oRow_none w i n
theorem oAll_char {w : List Int} (hr : inR w) (hb : inB w) (n : Nat) : ∀ m, oAll w n m = if ((List.range m).all fun i => (List.range n).all fun k => !(lst (pF w) i k).isEmpty) = true then some ((List.range m).flatMap (rowO (pF w) n)) else none
  | 0 => by simp [oAll]
  | m + 1 => by
    rw [oAll, range_fold, ← oAll, oAll_char hr hb n m, List.range_succ, List.all_append, List.flatMap_append]
    cases h1 : (List.range m).all fun i => (List.range n).all fun k => !(lst (pF w) i k).isEmpty with
    | false => rw [if_neg (by decide), oRow_none]; rfl
    | true =>
      rw [if_pos rfl, oRow_char hr hb]
      simp [rowO]
theorem tight_res {n : Nat} (h1 : 1 ≤ n) (hn : n ≤ 8) (l : List Con) (hok : l.all (okC n) = true) : ∃ F : RB, Gr n l (pr F) ∧ tight n l = res F n := by
  obtain ⟨ws, g1, g2, g3, g4⟩ := prog_Gr hn l hok
  refine ⟨pF (fixed comps n ws), g4, ?_⟩
  have := oAll_char g2 g3 n n
  unfold tight tightT
  rw [if_pos (by omega), Int.toNat_natCast, g1]
  dsimp only
  rw [this]
  unfold res fullB outL
  generalize ((List.range n).all fun i => (List.range n).all fun k => !(lst (pF (fixed comps n ws)) i k).isEmpty) = b
  cases b <;> rfl
theorem tight_bad {n : Int} {l : List Con} (h : ¬ (1 ≤ n ∧ n ≤ 8 ∧ l.all (okC n) = true)) : tight n l = (.nil, false) := by
  unfold tight tightT
  split
  · rename_i h1
    obtain ⟨m, rfl⟩ : ∃ m : Nat, n = m := ⟨n.toNat, by omega⟩
    rw [Int.toNat_natCast, bGo_none l _ (Bool.eq_false_iff.2 fun e => h ⟨h1.1, h1.2, e⟩)]
  · rfl

/-! ### The reference's answer -/
def rF (n : Nat) (m : List Bool) : RB := fun i j c => m.getD (ix n i j c) false
def tStep (F : RB) (i : Nat) (acc : Option (List (Int × Int × List Int))) (j : Nat) : Option (List (Int × Int × List Int)) := match acc with
  | none => none
  | some l => if lst F i j = [] then none else if i < j then some (l ++ [gO F i j]) else some l
def tRow (F : RB) (i : Nat) (acc : Option (List (Int × Int × List Int))) (k : Nat) : Option (List (Int × Int × List Int)) := (List.range k).foldl (fun acc k => tStep F i acc (i + k)) acc
def tAll (F : RB) (n i : Nat) : Option (List (Int × Int × List Int)) := (List.range i).foldl (fun acc i => tRow F i acc (n - i)) (some [])
theorem tRow_none (F : RB) (i k : Nat) : tRow F i none k = none := by
  unfold tRow
  induction k with
  | zero => rfl
  | succ n ih => rw [range_fold, ih]; rfl
theorem tRow_later {F : RB} {i k : Nat} {acc : Option (List (Int × Int × List Int))} (h : tRow F i acc k = none) : ∀ k', k ≤ k' → tRow F i acc k' = none := by
  intro k' hn
  induction hn with
  | refl => exact h
  | step _ ih => rw [tRow, range_fold, ← tRow, ih]; rfl
theorem tAll_later {F : RB} {n i : Nat} (h : tAll F n i = none) : ∀ i', i ≤ i' → tAll F n i' = none := by
  intro i' hm
  induction hm with
  | refl => exact h
  | step _ ih => rw [tAll, range_fold, ← tAll, ih]; exact tRow_none ..
theorem tRow_char (F : RB) (i : Nat) (l : List (Int × Int × List Int)) : ∀ k, tRow F i (some l) k = if ((List.range k).all fun k => !(lst F i (i + k)).isEmpty) = true then some (l ++ ((List.range k).filter fun k => decide (0 < k)).map fun k => gO F i (i + k)) else none
  | 0 => by simp [tRow]
  | k + 1 => by
    rw [tRow, range_fold, ← tRow, tRow_char F i l k, List.range_succ, List.all_append, List.filter_append, List.map_append]
    cases h1 : (List.range k).all fun k => !(lst F i (i + k)).isEmpty with
    | false => rfl
    | true =>
      rw [if_pos rfl, tStep]
      by_cases h2 : lst F i (i + k) = []
      · rw [if_pos h2]
        simp [h2]
      · rw [if_neg h2]
        have h3 : (lst F i (i + k)).isEmpty = false := by
          cases hx : lst F i (i + k) with
          | nil => exact absurd hx h2
          | cons => rfl
        by_cases h4 : 0 < k
        · rw [if_pos (by omega)]
          simp [h3, h4]
        · rw [if_neg (by omega)]
          simp [h3, h4]
theorem offs : ∀ n, n < 9 → ∀ i, i < n → ((List.range (n - i)).filter fun k => decide (0 < k)).map (fun k => i + k) = (List.range n).filter fun k => decide (i < k) := by decide
theorem tAll_char (F : RB) {n : Nat} (hn : n ≤ 8) : ∀ m, m ≤ n → tAll F n m = if ((List.range m).all fun i => (List.range (n - i)).all fun k => !(lst F i (i + k)).isEmpty) = true then some ((List.range m).flatMap (rowO F n)) else none
  | 0, _ => by simp [tAll]
  | m + 1, hm => by
    rw [tAll, range_fold, ← tAll, tAll_char F hn m (by omega), List.range_succ, List.all_append, List.flatMap_append]
    cases h1 : (List.range m).all fun i => (List.range (n - i)).all fun k => !(lst F i (i + k)).isEmpty with
    | false => rw [if_neg (by decide), tRow_none]; rfl
    | true =>
      rw [if_pos rfl, tRow_char]
      have e : (((List.range (n - m)).filter fun k => decide (0 < k)).map fun k => gO F m (m + k)) = rowO F n m := by
        unfold rowO
        rw [← offs n (by omega) m (by omega), List.map_map]; rfl
      rw [e]
      simp
theorem tAll_res {F : RB} {n : Nat} (hn : n ≤ 8) (hs : Sym n (pr F)) : (match tAll F n n with | some out => (nsl (eOuts out), true) | none => ((.nil : D), false)) = res F n := by
  have e : ((List.range n).all fun i => (List.range (n - i)).all fun k => !(lst F i (i + k)).isEmpty) = fullB F n := by
    rw [Bool.eq_iff_iff, fullB_iff, List.all_eq_true]
    constructor
    · intro h i k hi hk e
      have hle : ∀ i k, i < n → k < n → i ≤ k → lst F i k ≠ [] := by
        intro i k hi hk hle e
        have := List.all_eq_true.1 (h i (List.mem_range.2 hi)) (k - i) (List.mem_range.2 (by omega))
        rw [show i + (k - i) = k by omega, e] at this
        cases this
      by_cases h1 : i ≤ k
      · exact hle i k hi hk h1 e
      · refine hle k i hk hi (by omega) ?_
        rw [lst_nil] at e ⊢
        intro c hc
        rw [Bool.eq_false_iff]
        intro h2
        have : F i k (12 - c) = true := hs k i c hk hi hc h2
        rw [e _ (by omega)] at this; cases this
    · intro h i hi
      refine List.all_eq_true.2 fun k hk => ?_
      have := h i (i + k) (List.mem_range.1 hi) (by have := List.mem_range.1 hk; have := List.mem_range.1 hi; omega)
      cases hx : lst F i (i + k) with
      | nil => exact absurd hx this
      | cons => rfl
  rw [tAll_char F hn n (Nat.le_refl _), e]
  unfold res outL
  generalize fullB F n = b
  cases b <;> rfl
def rtight (T : List Bool) (n : Int) (l : List Con) : D × Bool :=
  if 1 ≤ n ∧ n ≤ 8 ∧ l.all (okC n) = true then
    match tAll (rF n.toNat (rR T n.toNat (13 * (n.toNat * n.toNat)) (startR n.toNat l))) n.toNat n.toNat with
      | some out => (nsl (eOuts out), true)
      | none => (.nil, false)
  else (.nil, false)
theorem rtight_res {n : Nat} (h1 : 1 ≤ n) (hn : n ≤ 8) (l : List Con) (hok : l.all (okC n) = true) : ∃ F : RB, Gr n l (pr F) ∧ rtight tableR n l = res F n := by
  have h := ref_Gr hn l hok
  refine ⟨rF n (rR tableR n (13 * (n * n)) (startR n l)), h, ?_⟩
  unfold rtight
  rw [if_pos ⟨by omega, by omega, hok⟩, Int.toNat_natCast]
  exact tAll_res hn h.sym
theorem rtight_eq (n : Int) (l : List Con) : rtight tableR n l = tight n l := by
  by_cases h : 1 ≤ n ∧ n ≤ 8 ∧ l.all (okC n) = true
  · obtain ⟨m, rfl⟩ : ∃ m : Nat, n = m := ⟨n.toNat, by omega⟩
    obtain ⟨F, f1, f2⟩ := tight_res (show 1 ≤ m by omega) (by omega) l h.2.2
    obtain ⟨F', g1, g2⟩ := rtight_res (show 1 ≤ m by omega) (by omega) l h.2.2
    rw [f2, g2, res_eq f1 g1]
  · rw [tight_bad h, rtight, if_neg h]

/-! ### The tightened network again -/
def conO (F : RB) (i k : Nat) : Con := ⟨i, k, lst F i k, eL (lst F i k), sld_nsl, by have := lst_len F i k; omega⟩
def outC (F : RB) (n : Nat) : List Con := (List.range n).flatMap fun i => ((List.range n).filter fun k => decide (i < k)).map (conO F i)
theorem outC_e (F : RB) (n : Nat) : eOuts (outL F n) = eCons (outC F n) := by
  unfold eOuts outL eCons outC
  rw [List.map_flatMap, List.map_flatMap]
  congr 1
  funext i
  unfold rowO
  rw [List.map_map, List.map_map]
  rfl
theorem outC_mem {F : RB} {n : Nat} {x : Con} : x ∈ outC F n ↔ ∃ i k, i < n ∧ k < n ∧ i < k ∧ x = conO F i k := by
  unfold outC
  rw [List.mem_flatMap]
  constructor
  · rintro ⟨i, hi, hx⟩
    obtain ⟨k, hk, rfl⟩ := List.mem_map.1 hx
    rw [List.mem_filter, List.mem_range, decide_eq_true_eq] at hk
    exact ⟨i, k, List.mem_range.1 hi, hk.1, hk.2, rfl⟩
  · rintro ⟨i, k, hi, hk, hik, rfl⟩
    exact ⟨i, List.mem_range.2 hi, List.mem_map.2 ⟨k, List.mem_filter.2 ⟨List.mem_range.2 hk, decide_eq_true hik⟩, rfl⟩⟩
theorem outC_len {F : RB} {n : Nat} (hn : n ≤ 8) : (outC F n).length ≤ 64 := by
  have : ∀ m, m ≤ 8 → ((List.range m).flatMap fun i => ((List.range n).filter fun k => decide (i < k)).map (conO F i)).length ≤ 8 * m := by
    intro m
    induction m with
    | zero => intro _; simp
    | succ m ih =>
      intro hm
      rw [List.range_succ, List.flatMap_append, List.length_append]
      have := ih (by omega)
      have h2 : (((List.range n).filter fun k => decide (m < k)).map (conO F m)).length ≤ 8 := by
        rw [List.length_map]
        refine Nat.le_trans (List.length_filter_le _ _) ?_
        rw [List.length_range]; exact hn
      simp only [List.flatMap_cons, List.flatMap_nil, List.append_nil]
      omega
  have := this n hn
  unfold outC
  omega
theorem outC_ok (F : RB) (n : Nat) : (outC F n).all (okC n) = true := by
  refine List.all_eq_true.2 fun x hx => ?_
  obtain ⟨i, k, hi, hk, hik, rfl⟩ := outC_mem.1 hx
  have : allEx (lst F i k) = true := List.all_eq_true.2 fun y hy => by
    obtain ⟨c, hc, rfl, _⟩ := lst_mem.1 hy
    exact isRel_iff.2 (by omega)
  unfold okC conO
  rw [this, Bool.true_and, decide_eq_true_eq]
  dsimp only
  omega
theorem again {F : RB} {n : Nat} {l : List Con} (h : Gr n l (pr F)) (hf : fullB F n = true) : Gr n (outC F n) (pr F) := by
  refine ⟨fun i j c hi hj hc hs => ⟨(h.sub i j c hi hj hc hs).1, fun x hx => ?_⟩, h.clo, h.sym, fun S h1 h2 h3 i j c hi hj hc hs => ?_⟩
  · obtain ⟨a, b, ha, hb, hab, rfl⟩ := outC_mem.1 hx
    refine ⟨fun e => ?_, fun e => ?_⟩
    · have e1 : i = a := by have := e.1; simp only [conO] at this; omega
      have e2 : j = b := by have := e.2; simp only [conO] at this; omega
      subst e1; subst e2
      exact lst_mem.2 ⟨c, hc, rfl, hs⟩
    · have e1 : i = b := by have := e.1; simp only [conO] at this; omega
      have e2 : j = a := by have := e.2; simp only [conO] at this; omega
      subst e1; subst e2
      exact lst_mem.2 ⟨12 - c, by omega, rfl, h.sym i j c hi hj hc hs⟩
  · obtain ⟨g1, g2⟩ := h3 i j c hi hj hc hs
    rcases Nat.lt_trichotomy i j with hl | rfl | hl
    · have := (g2 _ (outC_mem.2 ⟨i, j, hi, hj, hl, rfl⟩)).1 ⟨rfl, rfl⟩
      obtain ⟨d, hd, he, hF⟩ := lst_mem.1 this
      have : c = d := by omega
      subst this; exact hF
    · have hc6 := g1 rfl
      subst hc6
      have := fullB_iff.1 hf i i hi hi
      obtain ⟨x, hx⟩ := List.exists_mem_of_ne_nil _ this
      obtain ⟨d, hd, he, hF⟩ := lst_mem.1 hx
      have := (h.sub i i d hi hi hd hF).1 rfl
      subst this; exact hF
    · have := (g2 _ (outC_mem.2 ⟨j, i, hj, hi, hl, rfl⟩)).2 ⟨rfl, rfl⟩
      obtain ⟨d, hd, he, hF⟩ := lst_mem.1 this
      have hd : d = 12 - c := by omega
      subst hd
      have := h.sym j i _ hj hi hd hF
      rw [show 12 - (12 - c) = c by omega] at this
      exact this
/-- What Tighten answers: nothing, or a network that it answers again. -/
theorem tight_twice (n : Int) (l : List Con) : tight n l = (.nil, false) ∨ ∃ (m : Nat) (F : RB), n = m ∧ 1 ≤ m ∧ m ≤ 8 ∧ l.all (okC n) = true ∧ Gr m l (pr F) ∧ fullB F m = true ∧ tight n l = (nsl (eCons (outC F m)), true) ∧ tight n (outC F m) = (nsl (eCons (outC F m)), true) := by
  by_cases h : 1 ≤ n ∧ n ≤ 8 ∧ l.all (okC n) = true
  · obtain ⟨m, rfl⟩ : ∃ m : Nat, n = m := ⟨n.toNat, by omega⟩
    obtain ⟨F, f1, f2⟩ := tight_res (show 1 ≤ m by omega) (by omega) l h.2.2
    cases hf : fullB F m with
    | false => left; rw [f2, res, hf]; rfl
    | true =>
      right
      obtain ⟨F', g1, g2⟩ := tight_res (show 1 ≤ m by omega) (by omega) (outC F m) (outC_ok F m)
      rw [← res_eq (again f1 hf) g1] at g2
      have e : res F m = (nsl (eCons (outC F m)), true) := by rw [res, hf, if_pos rfl, outC_e]
      exact ⟨m, F, rfl, by omega, by omega, h.2.2, f1, hf, by rw [f2, e], by rw [g2, e]⟩
  · exact .inl (tight_bad h)

/-! ### Periods -/
def perS (p : List (Int × Int)) : RS := fun i j c => relQ (getQ p i) (getQ p j) = c
theorem getQ_valid {p : List (Int × Int)} (h : p.all validQ = true) {i : Nat} (hi : i < p.length) : validQ (getQ p i) = true := by
  refine List.all_eq_true.1 h _ ?_
  have := getQ_get (l := p) (i := (i : Int)) (by omega)
  exact List.mem_of_getElem? this
theorem relQ_rng (p q : Int × Int) : 0 ≤ relQ p q ∧ relQ p q < 13 := rel_range p.1 p.2 q.1 q.2
theorem relQ_inv {p q : Int × Int} (hp : validQ p = true) (hq : validQ q = true) : relQ q p = 12 - relQ p q := by
  have := rel_inv p.1 p.2 q.1 q.2 hp hq
  have h := relQ_rng p q
  unfold relQ at *
  rw [this, inv, if_pos h]
theorem relQ_self {p : Int × Int} (hp : validQ p = true) : relQ p p = 6 := by
  have := relQ_inv hp hp
  omega
attribute [local irreducible] maskN
theorem perS_clo {p : List (Int × Int)} (h : p.all validQ = true) : Clo p.length (perS p) := by
  intro i j k c hi hj hk hc hs
  have h1 := relQ_rng (getQ p i) (getQ p k)
  have h2 := relQ_rng (getQ p k) (getQ p j)
  obtain ⟨a, ha⟩ : ∃ n : Nat, relQ (getQ p i) (getQ p k) = n := ⟨(relQ (getQ p i) (getQ p k)).toNat, by omega⟩
  obtain ⟨b, hb⟩ : ∃ n : Nat, relQ (getQ p k) (getQ p j) = n := ⟨(relQ (getQ p k) (getQ p j)).toNat, by omega⟩
  have hm := compose_mem (getQ_valid h hi) (getQ_valid h hk) (getQ_valid h hj)
  have hs' : relQ (getQ p i) (getQ p j) = c := hs
  rw [ha, hb, hs'] at hm
  rw [ha] at h1
  rw [hb] at h2
  refine ⟨a, b, by omega, by omega, ha, hb, ?_⟩
  unfold compose at hm
  rw [if_pos (by simp [isRel]; omega)] at hm
  obtain ⟨d, hd, e, hh⟩ := sList_mem.1 hm
  have : c = d := by omega
  subst this
  rw [comps_has (by omega) (by omega) hc] at hh
  exact hh
theorem perS_sym {p : List (Int × Int)} (h : p.all validQ = true) : Sym p.length (perS p) := by
  intro i j c hi hj hc hs
  have hs' : relQ (getQ p i) (getQ p j) = c := hs
  have := relQ_inv (getQ_valid h hi) (getQ_valid h hj)
  show relQ (getQ p j) (getQ p i) = _
  rw [this, hs']; omega
theorem okS_iff {p : List (Int × Int)} {x : Con} (hx : okC p.length x = true) : okS p x = isIn x.rels (relQ (getQ p x.a) (getQ p x.b)) := by
  have he : allEx x.rels = true := by unfold okC at hx; rw [Bool.and_eq_true] at hx; exact hx.1
  have h1 := relQ_rng (getQ p x.a) (getQ p x.b)
  obtain ⟨c, hc⟩ : ∃ n : Nat, relQ (getQ p x.a) (getQ p x.b) = n := ⟨(relQ (getQ p x.a) (getQ p x.b)).toNat, by omega⟩
  rw [okS, hx, Bool.true_and, hc]
  exact (sOfL_has he).2 c (by omega)
theorem sat_eq (p : List (Int × Int)) (c : List Con) : sat p c = satR p c := by
  unfold sat satR
  cases h : p.all validQ with
  | false => rfl
  | true =>
    rw [Bool.true_and, Bool.true_and]
    cases ho : c.all (okC p.length) with
    | false =>
      rw [Bool.false_and, Bool.eq_false_iff]
      intro hh
      rw [Bool.eq_false_iff] at ho
      refine ho (List.all_eq_true.2 fun x hx => ?_)
      have := List.all_eq_true.1 hh x hx
      rw [okS, Bool.and_eq_true] at this
      exact this.1
    | true =>
      rw [Bool.true_and, Bool.eq_iff_iff, List.all_eq_true, List.all_eq_true]
      have ho := List.all_eq_true.1 ho
      exact ⟨fun h x hx => by rw [← okS_iff (ho x hx)]; exact h x hx, fun h x hx => by rw [okS_iff (ho x hx)]; exact h x hx⟩
theorem perS_sub {p : List (Int × Int)} {c : List Con} (h : satR p c = true) : Sub p.length (perS p) (St c) := by
  unfold satR at h
  simp only [Bool.and_eq_true] at h
  obtain ⟨hv, ho, hi⟩ := h
  intro i j d hi' hj' hd hs
  have hs : relQ (getQ p i) (getQ p j) = d := hs
  refine ⟨fun e => ?_, fun x hx => ⟨fun e => ?_, fun e => ?_⟩⟩
  · subst e
    rw [relQ_self (getQ_valid hv hi')] at hs; omega
  · have := isIn_iff.1 (List.all_eq_true.1 hi x hx)
    rw [← e.1, ← e.2, hs] at this; exact this
  · have := isIn_iff.1 (List.all_eq_true.1 hi x hx)
    rw [← e.1, ← e.2, relQ_inv (getQ_valid hv hi') (getQ_valid hv hj'), hs] at this
    rwa [show ((12 - d : Nat) : Int) = 12 - (d : Int) by omega]
theorem sound {p : List (Int × Int)} {c : List Con} (h : satR p c = true) {F : RB} (hF : Gr p.length c (pr F)) : fullB F p.length = true ∧ sat p (outC F p.length) = true := by
  have hv : p.all validQ = true := by unfold satR at h; simp only [Bool.and_eq_true] at h; exact h.1
  have hin : ∀ i j d, i < p.length → j < p.length → d < 13 → relQ (getQ p i) (getQ p j) = (d : Nat) → F i j d = true := fun i j d hi hj hd hs => hF.top (perS p) (perS_clo hv) (perS_sym hv) (perS_sub h) i j d hi hj hd hs
  have hex : ∀ i j : Nat, ∃ d : Nat, d < 13 ∧ relQ (getQ p i) (getQ p j) = d := fun i j => by
    have := relQ_rng (getQ p i) (getQ p j)
    exact ⟨(relQ (getQ p i) (getQ p j)).toNat, by omega, by omega⟩
  constructor
  · refine fullB_iff.2 fun i k hi hk e => ?_
    obtain ⟨d, hd, hr⟩ := hex i k
    have := hin i k d hi hk hd hr
    rw [lst_nil.1 e d hd] at this; cases this
  · rw [sat_eq, satR, hv, outC_ok, Bool.true_and, Bool.true_and]
    refine List.all_eq_true.2 fun x hx => ?_
    obtain ⟨i, k, hi, hk, hik, rfl⟩ := outC_mem.1 hx
    obtain ⟨d, hd, hr⟩ := hex i k
    refine isIn_iff.2 (lst_mem.2 ⟨d, hd, hr, hin i k d hi hk hd hr⟩)
theorem tight_fine {p : List (Int × Int)} {c : List Con} (h1 : 1 ≤ p.length) (h8 : p.length ≤ 8) (h : satR p c = true) : ∃ F : RB, tight p.length c = (nsl (eCons (outC F p.length)), true) ∧ sat p (outC F p.length) = true := by
  have ho : c.all (okC p.length) = true := by unfold satR at h; simp only [Bool.and_eq_true] at h; exact h.2.1
  obtain ⟨F, f1, f2⟩ := tight_res h1 h8 c ho
  obtain ⟨g1, g2⟩ := sound h f1
  exact ⟨F, by rw [f2, res, g1, if_pos rfl, outC_e], g2⟩
end Go.Proofs
end
section
/- Contracts of the reference: Tighten. No condition. -/
set_option linter.unusedSimpArgs false
set_option linter.unusedVariables false
set_option maxRecDepth 10000
set_option maxHeartbeats 4000000
namespace Go.Proofs
open Go.Bi

def lU (F : RB) (i k c : Nat) : List Int := ((List.range c).filter (F i k)).map fun (c : Nat) => (c : Int)
theorem lU_succ (F : RB) (i k c : Nat) : lU F i k (c + 1) = if F i k c then lU F i k c ++ [(c : Int)] else lU F i k c := by
  unfold lU
  rw [List.range_succ, List.filter_append, List.map_append]
  simp only [List.filter_cons, List.filter_nil]
  split <;> simp
theorem lU_len (F : RB) (i k c : Nat) : (lU F i k c).length ≤ c := by
  unfold lU
  rw [List.length_map]
  exact Nat.le_trans (List.length_filter_le _ _) (by simp)
theorem tAll_row (F : RB) (n i : Nat) : tAll F n (i + 1) = tRow F i (tAll F n i) (n - i) := by rw [tAll, range_fold]; rfl
theorem tRow_step (F : RB) (i k : Nat) (acc : Option (List (Int × Int × List Int))) : tRow F i acc (k + 1) = tStep F i (tRow F i acc k) (i + k) := by rw [tRow, range_fold]; rfl
theorem rTighten_T (T : List Bool) (hT : T.length = 2197) (hC : Pure Try.prog N.bt_ref02_Table [] (.d (.sl (eBs T)))) (n : Int) (l : List Con) (hll : l.length ≤ 9223372036854775807) (d : D) (hd : SlD d (eCons l)) :
    Pure Try.prog N.bt_ref02_Tighten [.d (eI n), .d d] (.tup [.d (rtight T n l).1, .d (.bool (rtight T n l).2)]) := by
  refine F.bt_ref02_Tighten.go mixed rfl ?_
  have hV := C.ref_Valid n l hll d hd
  unfold rtight
  by_cases hn : 1 ≤ n ∧ n ≤ 8
  rotate_left
  · rw [if_neg (by omega)]
    repeat' first
      | refine st ?_
      | ((with_reducible apply go_i); (conv => whnf))
      | (with_reducible apply k_d <;> intro _)
      | (with_reducible apply k_b <;> intro _)
    all_goals rfl
  cases hok : l.all (okC n) with
  | false =>
    rw [hok] at hV
    rw [if_neg (by simp)]
    repeat' first
      | refine st ?_
      | ((with_reducible apply go_i); (conv => whnf))
      | ((with_reducible apply k_pn); (· exact hV))
      | ((with_reducible apply k_pc); (· exact hV))
      | (with_reducible apply k_d <;> intro _)
      | (with_reducible apply k_b <;> intro _)
    all_goals rfl
  | true =>
  rw [hok] at hV
  rw [if_pos ⟨hn.1, hn.2, rfl⟩]
  obtain ⟨m, rfl⟩ : ∃ m : Nat, n = m := ⟨n.toNat, by omega⟩
  have hm8 : m ≤ 8 := by omega
  simp only [Int.toNat_natCast]
  have hS := C.st0 m hm8 l hll d hd hok
  have hsl := startR_len m l
  generalize hRR : rR T m (13 * (m * m)) (startR m l) = RR
  have hnn : 13 * (m : Int) * (m : Int) = ((13 * (m * m) : Nat) : Int) := by rw [Int.mul_assoc]; simp
  have h64 : m * m ≤ 64 := Nat.mul_le_mul hm8 hm8
  repeat' first
    | refine st ?_
    | ((with_reducible apply go_i); (conv => whnf))
    | ((with_reducible apply k_pn); (· first | exact hV | exact hC))
    | ((with_reducible apply k_pc); (· first | exact hV | exact hC))
    | ((with_reducible apply k_nc); (· first | exact hS); (try rintro _ _ ⟨rfl, rfl⟩))
    | ((with_reducible apply k_pr); (· first | exact hS))
    | ((with_reducible apply k_cs); (· first | exact hS); (try rintro _ _ ⟨rfl, rfl⟩))
    | ((with_reducible apply k_cal); refine st ?_; (with_reducible apply k_chk); (· exact rfl); refine st ?_; (with_reducible apply k_cs); (· first | exact hS); (try rintro _ _ ⟨rfl, rfl⟩))
    | (with_reducible apply k_d <;> intro _)
    | (with_reducible apply k_b <;> intro _)
  refine x_loop2 mixed Lt.bt_ref02_Tighten_l0 Lk.bt_ref02_Tighten_l0 (fun (r : Nat) (w : List Bool) => [.d (eI r)]) (fun r w => [.arr (eBs w) 1 0 false]) (fun r w => r ≤ 13 * (m * m) ∧ w.length = 13 * (m * m) ∧ rR T m (13 * (m * m) - r) w = RR) (fun r _ => 13 * (m * m) - r) 0 (startR m l) rfl rfl rfl rfl (fun _ _ _ => ⟨rfl, rfl⟩) rfl ⟨by omega, hsl, hRR⟩ ?_
  repeat' first
    | refine st ?_
    | ((with_reducible apply go_i); (conv => whnf))
    | (with_reducible apply k_d <;> intro _)
    | (with_reducible apply k_b <;> intro _)
  intro r w ⟨h1, h2, h3⟩
  have key : r < 13 * (m * m) ∧ 0 < (onceR T m w).1 ∨ (∃ mF, mF = RR ∧ mF.length = 13 * (m * m) ∧ (r < 13 * (m * m) ∧ ¬ 0 < (onceR T m w).1 ∧ mF = (onceR T m w).2 ∨ ¬ r < 13 * (m * m) ∧ mF = w)) := by
    by_cases hr : r < 13 * (m * m)
    · by_cases ho : 0 < (onceR T m w).1
      · exact .inl ⟨hr, ho⟩
      · refine .inr ⟨(onceR T m w).2, ?_, by rw [once_len hm8, h2], .inl ⟨hr, ho, rfl⟩⟩
        rw [← h3, show 13 * (m * m) - r = (13 * (m * m) - (r + 1)) + 1 by omega, rR, if_neg ho]
    · refine .inr ⟨w, ?_, h2, .inr ⟨hr, rfl⟩⟩
      rw [← h3, show 13 * (m * m) - r = 0 by omega, rR]
  have hp := C.ref_once T w hT m hm8 h2 [.arr (eBs w) 1 0 false] 0 rfl
  rw [eBs_len, h2] at hp
  rcases key with ⟨hr, ho⟩ | ⟨mF, hF, hFl, hx⟩
  · repeat' first
      | (with_reducible apply k_cal)
      | refine st ?_
      | ((with_reducible apply go_i); (conv => whnf))
      | ((with_reducible apply k_nc); (· first | exact hp); (try rintro _ _ ⟨rfl, rfl⟩))
      | ((with_reducible apply k_pr); (· first | exact hp))
      | ((with_reducible apply k_cs); (· first | exact hp); (try rintro _ _ ⟨rfl, rfl⟩))
      | ((with_reducible apply k_cal); refine st ?_; (with_reducible apply k_chk); (· exact rfl); refine st ?_; (with_reducible apply k_cs); (· first | exact hp); (try rintro _ _ ⟨rfl, rfl⟩))
      | (with_reducible apply k_d <;> intro _)
      | (with_reducible apply k_b <;> intro _)
    refine ⟨r + 1, (onceR T m w).2, rfl, rfl, rfl, by omega, by omega, by rw [once_len hm8, h2], ?_⟩
    rw [← h3, show 13 * (m * m) - r = (13 * (m * m) - (r + 1)) + 1 by omega, rR, if_pos ho]
  · subst hF
    rcases hx with ⟨hr, ho, he⟩ | ⟨hr, he⟩
    · rw [← he] at hp
      repeat' first
        | (with_reducible apply k_cal)
        | refine st ?_
        | ((with_reducible apply go_i); (conv => whnf))
        | ((with_reducible apply k_nc); (· first | exact hp); (try rintro _ _ ⟨rfl, rfl⟩))
        | ((with_reducible apply k_pr); (· first | exact hp))
        | ((with_reducible apply k_cs); (· first | exact hp); (try rintro _ _ ⟨rfl, rfl⟩))
        | ((with_reducible apply k_cal); refine st ?_; (with_reducible apply k_chk); (· exact rfl); refine st ?_; (with_reducible apply k_cs); (· first | exact hp); (try rintro _ _ ⟨rfl, rfl⟩))
        | (with_reducible apply k_d <;> intro _)
        | (with_reducible apply k_b <;> intro _)
      have hml := eBs_len mF
      refine x_nil 9 3 rfl rfl ?_
      repeat' first
        | refine st ?_
        | ((with_reducible apply go_i); (conv => whnf))
        | (with_reducible apply k_d <;> intro _)
        | (with_reducible apply k_b <;> intro _)
      refine x_loop3 mixed Lt.bt_ref02_Tighten_l3 Lk.bt_ref02_Tighten_l3 (fun (i : Nat) (out : List (Int × Int × List Int)) (nl : Bool) => [.arr 1 (eOuts out).length, .d (eI i)]) (fun i out nl => [.arr (eBs mF) 1 0 false, .arr (eOuts out) 3 0 nl]) (fun i out nl => i ≤ m ∧ nl = (eOuts out).isEmpty ∧ tAll (rF m mF) m i = some out ∧ out.length ≤ 8 * i) (fun i _ _ => m - i) 0 [] true rfl rfl rfl rfl (fun _ _ _ _ => ⟨rfl, rfl⟩) rfl ⟨by omega, rfl, rfl, by simp⟩ ?_
      repeat' first
        | refine st ?_
        | ((with_reducible apply go_i); (conv => whnf))
        | (with_reducible apply k_d <;> intro _)
        | (with_reducible apply k_b <;> intro _)
      intro i out nl ⟨q1, q2, q3, q4⟩
      by_cases hi : i < m
      · repeat' first
          | refine st ?_
          | ((with_reducible apply go_i); (conv => whnf))
          | (with_reducible apply k_d <;> intro _)
          | (with_reducible apply k_b <;> intro _)
        refine x_loop3 mixed Lt.bt_ref02_Tighten_l2 Lk.bt_ref02_Tighten_l2 (fun (k : Nat) (out : List (Int × Int × List Int)) (nl : Bool) => [.arr 1 (eOuts out).length, .d (eI ((i + k : Nat) : Int))]) (fun i out nl => [.arr (eBs mF) 1 0 false, .arr (eOuts out) 3 0 nl]) (fun k out' nl => i + k ≤ m ∧ nl = (eOuts out').isEmpty ∧ tRow (rF m mF) i (some out) k = some out' ∧ out'.length ≤ 8 * i + k) (fun k _ _ => m - k) 0 out nl rfl rfl rfl rfl (fun _ _ _ _ => ⟨rfl, rfl⟩) rfl ⟨by omega, q2, rfl, by omega⟩ ?_
        repeat' first
          | refine st ?_
          | ((with_reducible apply go_i); (conv => whnf))
          | (with_reducible apply k_d <;> intro _)
          | (with_reducible apply k_b <;> intro _)
        intro k out' nl' ⟨r1, r2, r3, r4⟩
        have hol := eOuts_len out'
        have hs := tRow_step (rF m mF) i k (some out)
        rw [r3, tStep, show lst (rF m mF) i (i + k) = lU (rF m mF) i (i + k) 13 from rfl] at hs
        by_cases hk : i + k < m
        · repeat' first
            | refine st ?_
            | ((with_reducible apply go_i); (conv => whnf))
            | (with_reducible apply k_d <;> intro _)
            | (with_reducible apply k_b <;> intro _)
          refine x_nil 12 1 rfl rfl ?_
          repeat' first
            | refine st ?_
            | ((with_reducible apply go_i); (conv => whnf))
            | (with_reducible apply k_d <;> intro _)
            | (with_reducible apply k_b <;> intro _)
          refine x_loop2 mixed Lt.bt_ref02_Tighten_l1 Lk.bt_ref02_Tighten_l1 (fun (c : Nat) (nl : Bool) => [.arr 2 (eIs (lU (rF m mF) i (i + k) c)).length, .d (eI c)]) (fun c nl2 => [.arr (eBs mF) 1 0 false, .arr (eOuts out') 3 0 nl', .arr (eIs (lU (rF m mF) i (i + k) c)) 1 0 nl2]) (fun c nl2 => c ≤ 13 ∧ nl2 = (eIs (lU (rF m mF) i (i + k) c)).isEmpty) (fun c _ => 13 - c) 0 true rfl rfl rfl rfl (fun _ _ _ => ⟨rfl, rfl⟩) rfl ⟨by omega, rfl⟩ ?_
          repeat' first
            | refine st ?_
            | ((with_reducible apply go_i); (conv => whnf))
            | (with_reducible apply k_d <;> intro _)
            | (with_reducible apply k_b <;> intro _)
          intro c nl2 ⟨c1, c2⟩
          have ul := lU_len (rF m mF) i (i + k) c
          have ul2 := eIs_len (lU (rF m mF) i (i + k) c)
          by_cases hc : c < 13
          · have hx := ix_lt hm8 hi hk hc
            have b1 := mul_bnd hm8 hi
            have p1 : (0 : Int) ≤ (m : Int) * (i : Int) := by have := Int.natCast_nonneg (m * i); rwa [Int.natCast_mul] at this
            have g1 : (eBs mF)[(13 * ((m : Int) * (i : Int) + ((i + k : Nat) : Int)) + (c : Int)).toNat]? = some [.bool (rF m mF i (i + k) c)] := by
              rw [ix_int]; exact eBs_get (by rw [hFl]; exact hx)
            have hsu := lU_succ (rF m mF) i (i + k) c
            cases hv : rF m mF i (i + k) c with
            | true =>
              rw [hv, if_pos rfl] at hsu
              rw [hv] at g1
              repeat' first
                | refine st ?_
                | ((with_reducible apply go_i); (conv => whnf))
                | (with_reducible apply k_d <;> intro _)
                | (with_reducible apply k_b <;> intro _)
              refine ⟨c + 1, false, ?_, rfl, ?_, by omega, by omega, ?_⟩
              · rw [hsu]; simp [eIs]
              · rw [hsu]; simp [eIs]
              · rw [hsu]; simp [eIs]
            | false =>
              rw [hv, if_neg (by decide)] at hsu
              rw [hv] at g1
              repeat' first
                | refine st ?_
                | ((with_reducible apply go_i); (conv => whnf))
                | (with_reducible apply k_d <;> intro _)
                | (with_reducible apply k_b <;> intro _)
              refine ⟨c + 1, nl2, ?_, rfl, ?_, by omega, by omega, ?_⟩
              · rw [hsu]; rfl
              · rw [hsu]
              · rw [hsu]; exact c2
          · obtain rfl : c = 13 := by omega
            by_cases h0 : lU (rF m mF) i (i + k) 13 = []
            · have hl0 : (lU (rF m mF) i (i + k) 13).length = 0 := by rw [h0]; rfl
              rw [if_pos h0] at hs
              repeat' first
                | refine st ?_
                | ((with_reducible apply go_i); (conv => whnf))
                | (with_reducible apply k_d <;> intro _)
                | (with_reducible apply k_b <;> intro _)
              rw [tAll_later (i := i + 1) (by rw [tAll_row, q3]; exact tRow_later hs _ (by omega)) m (by omega)]
            · have hl0 : (lU (rF m mF) i (i + k) 13).length ≠ 0 := by rw [ne_eq, List.length_eq_zero_iff]; exact h0
              rw [if_neg h0] at hs
              have hnl : nl2 = false := by
                rw [c2]
                cases hx : lU (rF m mF) i (i + k) 13 with
                | nil => exact absurd hx h0
                | cons => rfl
              subst hnl
              by_cases hk0 : 0 < k
              · rw [if_pos (by omega)] at hs
                repeat' first
                  | refine st ?_
                  | ((with_reducible apply go_i); (conv => whnf))
                  | (with_reducible apply k_d <;> intro _)
                  | (with_reducible apply k_b <;> intro _)
                refine ⟨k + 1, out' ++ [gO (rF m mF) i (i + k)], false, ?_, rfl, ?_, by omega, by omega, by simp [eOuts], hs, by simp; omega⟩
                · simp [eOuts]; omega
                · simp [eOuts, eOut, gO]; exact (nsl_cnd c2).symm
              · rw [if_neg (by omega)] at hs
                repeat' first
                  | refine st ?_
                  | ((with_reducible apply go_i); (conv => whnf))
                  | (with_reducible apply k_d <;> intro _)
                  | (with_reducible apply k_b <;> intro _)
                exact ⟨k + 1, out', nl', rfl, rfl, rfl, by omega, by omega, r2, hs, by omega⟩
        · repeat' first
            | refine st ?_
            | ((with_reducible apply go_i); (conv => whnf))
            | (with_reducible apply k_d <;> intro _)
            | (with_reducible apply k_b <;> intro _)
          refine ⟨i + 1, out', nl', rfl, rfl, rfl, by omega, by omega, r2, ?_, by omega⟩
          rw [tAll_row, q3, ← r3, show m - i = k by omega]
      · obtain rfl : m = i := by omega
        repeat' first
          | refine st ?_
          | ((with_reducible apply go_i); (conv => whnf))
          | (with_reducible apply k_d <;> intro _)
          | (with_reducible apply k_b <;> intro _)
        rw [q3]
        simp [nsl_cnd q2]
    · subst he
      repeat' first
        | refine st ?_
        | ((with_reducible apply go_i); (conv => whnf))
        | (with_reducible apply k_d <;> intro _)
        | (with_reducible apply k_b <;> intro _)
      have hml := eBs_len mF
      refine x_nil 9 3 rfl rfl ?_
      repeat' first
        | refine st ?_
        | ((with_reducible apply go_i); (conv => whnf))
        | (with_reducible apply k_d <;> intro _)
        | (with_reducible apply k_b <;> intro _)
      refine x_loop3 mixed Lt.bt_ref02_Tighten_l3 Lk.bt_ref02_Tighten_l3 (fun (i : Nat) (out : List (Int × Int × List Int)) (nl : Bool) => [.arr 1 (eOuts out).length, .d (eI i)]) (fun i out nl => [.arr (eBs mF) 1 0 false, .arr (eOuts out) 3 0 nl]) (fun i out nl => i ≤ m ∧ nl = (eOuts out).isEmpty ∧ tAll (rF m mF) m i = some out ∧ out.length ≤ 8 * i) (fun i _ _ => m - i) 0 [] true rfl rfl rfl rfl (fun _ _ _ _ => ⟨rfl, rfl⟩) rfl ⟨by omega, rfl, rfl, by simp⟩ ?_
      repeat' first
        | refine st ?_
        | ((with_reducible apply go_i); (conv => whnf))
        | (with_reducible apply k_d <;> intro _)
        | (with_reducible apply k_b <;> intro _)
      intro i out nl ⟨q1, q2, q3, q4⟩
      by_cases hi : i < m
      · repeat' first
          | refine st ?_
          | ((with_reducible apply go_i); (conv => whnf))
          | (with_reducible apply k_d <;> intro _)
          | (with_reducible apply k_b <;> intro _)
        refine x_loop3 mixed Lt.bt_ref02_Tighten_l2 Lk.bt_ref02_Tighten_l2 (fun (k : Nat) (out : List (Int × Int × List Int)) (nl : Bool) => [.arr 1 (eOuts out).length, .d (eI ((i + k : Nat) : Int))]) (fun i out nl => [.arr (eBs mF) 1 0 false, .arr (eOuts out) 3 0 nl]) (fun k out' nl => i + k ≤ m ∧ nl = (eOuts out').isEmpty ∧ tRow (rF m mF) i (some out) k = some out' ∧ out'.length ≤ 8 * i + k) (fun k _ _ => m - k) 0 out nl rfl rfl rfl rfl (fun _ _ _ _ => ⟨rfl, rfl⟩) rfl ⟨by omega, q2, rfl, by omega⟩ ?_
        repeat' first
          | refine st ?_
          | ((with_reducible apply go_i); (conv => whnf))
          | (with_reducible apply k_d <;> intro _)
          | (with_reducible apply k_b <;> intro _)
        intro k out' nl' ⟨r1, r2, r3, r4⟩
        have hol := eOuts_len out'
        have hs := tRow_step (rF m mF) i k (some out)
        rw [r3, tStep, show lst (rF m mF) i (i + k) = lU (rF m mF) i (i + k) 13 from rfl] at hs
        by_cases hk : i + k < m
        · repeat' first
            | refine st ?_
            | ((with_reducible apply go_i); (conv => whnf))
            | (with_reducible apply k_d <;> intro _)
            | (with_reducible apply k_b <;> intro _)
          refine x_nil 12 1 rfl rfl ?_
          repeat' first
            | refine st ?_
            | ((with_reducible apply go_i); (conv => whnf))
            | (with_reducible apply k_d <;> intro _)
            | (with_reducible apply k_b <;> intro _)
          refine x_loop2 mixed Lt.bt_ref02_Tighten_l1 Lk.bt_ref02_Tighten_l1 (fun (c : Nat) (nl : Bool) => [.arr 2 (eIs (lU (rF m mF) i (i + k) c)).length, .d (eI c)]) (fun c nl2 => [.arr (eBs mF) 1 0 false, .arr (eOuts out') 3 0 nl', .arr (eIs (lU (rF m mF) i (i + k) c)) 1 0 nl2]) (fun c nl2 => c ≤ 13 ∧ nl2 = (eIs (lU (rF m mF) i (i + k) c)).isEmpty) (fun c _ => 13 - c) 0 true rfl rfl rfl rfl (fun _ _ _ => ⟨rfl, rfl⟩) rfl ⟨by omega, rfl⟩ ?_
          repeat' first
            | refine st ?_
            | ((with_reducible apply go_i); (conv => whnf))
            | (with_reducible apply k_d <;> intro _)
            | (with_reducible apply k_b <;> intro _)
          intro c nl2 ⟨c1, c2⟩
          have ul := lU_len (rF m mF) i (i + k) c
          have ul2 := eIs_len (lU (rF m mF) i (i + k) c)
          by_cases hc : c < 13
          · have hx := ix_lt hm8 hi hk hc
            have b1 := mul_bnd hm8 hi
            have p1 : (0 : Int) ≤ (m : Int) * (i : Int) := by have := Int.natCast_nonneg (m * i); rwa [Int.natCast_mul] at this
            have g1 : (eBs mF)[(13 * ((m : Int) * (i : Int) + ((i + k : Nat) : Int)) + (c : Int)).toNat]? = some [.bool (rF m mF i (i + k) c)] := by
              rw [ix_int]; exact eBs_get (by rw [hFl]; exact hx)
            have hsu := lU_succ (rF m mF) i (i + k) c
            cases hv : rF m mF i (i + k) c with
            | true =>
              rw [hv, if_pos rfl] at hsu
              rw [hv] at g1
              repeat' first
                | refine st ?_
                | ((with_reducible apply go_i); (conv => whnf))
                | (with_reducible apply k_d <;> intro _)
                | (with_reducible apply k_b <;> intro _)
              refine ⟨c + 1, false, ?_, rfl, ?_, by omega, by omega, ?_⟩
              · rw [hsu]; simp [eIs]
              · rw [hsu]; simp [eIs]
              · rw [hsu]; simp [eIs]
            | false =>
              rw [hv, if_neg (by decide)] at hsu
              rw [hv] at g1
              repeat' first
                | refine st ?_
                | ((with_reducible apply go_i); (conv => whnf))
                | (with_reducible apply k_d <;> intro _)
                | (with_reducible apply k_b <;> intro _)
              refine ⟨c + 1, nl2, ?_, rfl, ?_, by omega, by omega, ?_⟩
              · rw [hsu]; rfl
              · rw [hsu]
              · rw [hsu]; exact c2
          · obtain rfl : c = 13 := by omega
            by_cases h0 : lU (rF m mF) i (i + k) 13 = []
            · have hl0 : (lU (rF m mF) i (i + k) 13).length = 0 := by rw [h0]; rfl
              rw [if_pos h0] at hs
              repeat' first
                | refine st ?_
                | ((with_reducible apply go_i); (conv => whnf))
                | (with_reducible apply k_d <;> intro _)
                | (with_reducible apply k_b <;> intro _)
              rw [tAll_later (i := i + 1) (by rw [tAll_row, q3]; exact tRow_later hs _ (by omega)) m (by omega)]
            · have hl0 : (lU (rF m mF) i (i + k) 13).length ≠ 0 := by rw [ne_eq, List.length_eq_zero_iff]; exact h0
              rw [if_neg h0] at hs
              have hnl : nl2 = false := by
                rw [c2]
                cases hx : lU (rF m mF) i (i + k) 13 with
                | nil => exact absurd hx h0
                | cons => rfl
              subst hnl
              by_cases hk0 : 0 < k
              · rw [if_pos (by omega)] at hs
                repeat' first
                  | refine st ?_
                  | ((with_reducible apply go_i); (conv => whnf))
                  | (with_reducible apply k_d <;> intro _)
                  | (with_reducible apply k_b <;> intro _)
                refine ⟨k + 1, out' ++ [gO (rF m mF) i (i + k)], false, ?_, rfl, ?_, by omega, by omega, by simp [eOuts], hs, by simp; omega⟩
                · simp [eOuts]; omega
                · simp [eOuts, eOut, gO]; exact (nsl_cnd c2).symm
              · rw [if_neg (by omega)] at hs
                repeat' first
                  | refine st ?_
                  | ((with_reducible apply go_i); (conv => whnf))
                  | (with_reducible apply k_d <;> intro _)
                  | (with_reducible apply k_b <;> intro _)
                exact ⟨k + 1, out', nl', rfl, rfl, rfl, by omega, by omega, r2, hs, by omega⟩
        · repeat' first
            | refine st ?_
            | ((with_reducible apply go_i); (conv => whnf))
            | (with_reducible apply k_d <;> intro _)
            | (with_reducible apply k_b <;> intro _)
          refine ⟨i + 1, out', nl', rfl, rfl, rfl, by omega, by omega, r2, ?_, by omega⟩
          rw [tAll_row, q3, ← r3, show m - i = k by omega]
      · obtain rfl : m = i := by omega
        repeat' first
          | refine st ?_
          | ((with_reducible apply go_i); (conv => whnf))
          | (with_reducible apply k_d <;> intro _)
          | (with_reducible apply k_b <;> intro _)
        rw [q3]
        simp [nsl_cnd q2]
theorem C.ref_Tighten (n : Int) (l : List Con) (hll : l.length ≤ 9223372036854775807) (d : D) (hd : SlD d (eCons l)) :
    Pure Try.prog N.bt_ref02_Tighten [.d (eI n), .d d] (.tup [.d (tight n l).1, .d (.bool (tight n l).2)]) := by
  have := rTighten_T tableR tableR_len C.ref_Table n l hll d hd
  rwa [rtight_eq] at this
end Go.Proofs
end
section
/- The laws on networks, as contracts over data. No condition. -/
set_option linter.unusedSimpArgs false
set_option linter.unusedVariables false
set_option maxRecDepth 10000
set_option maxHeartbeats 4000000
namespace Go.Proofs
open Go.Bi

theorem outC_rels {F : RB} {n : Nat} : ∀ c ∈ outC F n, c.rels.length ≤ 9223372036854775806 := by
  intro c hc
  obtain ⟨i, k, _, _, _, rfl⟩ := outC_mem.1 hc
  have := lst_len F i k
  show (lst F i k).length ≤ _
  omega
theorem L.AllenTighten (n : Int) (l : List Con) (hll : l.length ≤ 9223372036854775807) (d : D) (hd : SlD d (eCons l)) :
    Pure Try.prog N.bt_law02_AllenTighten [.d (eI n), .d d] (.d (.bool true)) := by
  refine F.bt_law02_AllenTighten.go mixed rfl ?_
  have h1 := C.allen_Tighten n l (by omega) d hd
  have h2 := C.ref_Tighten n l (by omega) d hd
  have h3 := C.ref_Large l (by omega) d hd
  have hl0 := eCons_len l
  rcases tight_twice n l with he | ⟨m, F, rfl, hm1, hm8, hok, hG, hf, he, hg⟩
  · rw [he] at h1 h2
    have h4 := C.ref_Same [] (by simp) (by simp) .nil .nil sld_nil sld_nil
    cases hL : large l with
    | true =>
      rw [hL] at h3
      repeat' first
        | refine st ?_
        | ((with_reducible apply go_i); (conv => whnf))
        | ((with_reducible apply k_pn); (· first | exact h1 | exact h2 | exact h3 | exact h4 | exact C.awake))
        | ((with_reducible apply k_pc); (· first | exact h1 | exact h2 | exact h3 | exact h4 | exact C.awake))
        | (with_reducible apply k_d <;> intro _)
        | (with_reducible apply k_b <;> intro _)
    | false =>
      rw [hL] at h3
      repeat' first
        | refine st ?_
        | ((with_reducible apply go_i); (conv => whnf))
        | ((with_reducible apply k_pn); (· first | exact h1 | exact h2 | exact h3 | exact h4 | exact C.awake))
        | ((with_reducible apply k_pc); (· first | exact h1 | exact h2 | exact h3 | exact h4 | exact C.awake))
        | (with_reducible apply k_d <;> intro _)
        | (with_reducible apply k_b <;> intro _)
  · rw [he] at h1 h2
    have ho := outC_len (F := F) hm8
    have h4 := C.ref_Same (outC F m) (by omega) outC_rels (nsl (eCons (outC F m))) (nsl (eCons (outC F m))) sld_nsl sld_nsl
    have h5 := C.allen_Tighten m (outC F m) (by omega) (nsl (eCons (outC F m))) sld_nsl
    rw [hg] at h5
    generalize nsl (eCons (outC F m)) = a at *
    cases hL : large l with
    | true =>
      rw [hL] at h3
      repeat' first
        | refine st ?_
        | ((with_reducible apply go_i); (conv => whnf))
        | ((with_reducible apply k_pn); (· first | exact h1 | exact h2 | exact h3 | exact h4 | exact h5 | exact C.awake))
        | ((with_reducible apply k_pc); (· first | exact h1 | exact h2 | exact h3 | exact h4 | exact h5 | exact C.awake))
        | (with_reducible apply k_d <;> intro _)
        | (with_reducible apply k_b <;> intro _)
    | false =>
      rw [hL] at h3
      repeat' first
        | refine st ?_
        | ((with_reducible apply go_i); (conv => whnf))
        | ((with_reducible apply k_pn); (· first | exact h1 | exact h2 | exact h3 | exact h4 | exact h5 | exact C.awake))
        | ((with_reducible apply k_pc); (· first | exact h1 | exact h2 | exact h3 | exact h4 | exact h5 | exact C.awake))
        | (with_reducible apply k_d <;> intro _)
        | (with_reducible apply k_b <;> intro _)
theorem L.AllenSound (p : List (Int × Int)) (hp : p.length ≤ 9223372036854775807) (d1 : D) (hd1 : SlD d1 (eQs p)) (l : List Con) (hll : l.length ≤ 9223372036854775807) (d : D) (hd : SlD d (eCons l)) :
    Pure Try.prog N.bt_law02_AllenSound [.d d1, .d d] (.d (.bool true)) := by
  refine F.bt_law02_AllenSound.go mixed rfl ?_
  have h3 := C.ref_Large l (by omega) d hd
  have hl0 := eQs_len p
  by_cases h5 : 5 < p.length
  · repeat' first
      | refine st ?_
      | ((with_reducible apply go_i); (conv => whnf))
      | ((with_reducible apply k_pn); (· exact C.awake))
      | ((with_reducible apply k_pc); (· exact C.awake))
      | (with_reducible apply k_d <;> intro _)
      | (with_reducible apply k_b <;> intro _)
  cases hL : large l with
  | true =>
    rw [hL] at h3
    repeat' first
      | refine st ?_
      | ((with_reducible apply go_i); (conv => whnf))
      | ((with_reducible apply k_pn); (· first | exact h3 | exact C.awake))
      | ((with_reducible apply k_pc); (· first | exact h3 | exact C.awake))
      | (with_reducible apply k_d <;> intro _)
      | (with_reducible apply k_b <;> intro _)
  | false =>
    rw [hL] at h3
    have hl12 : l.length ≤ 12 := by
      unfold large at hL
      simp only [Bool.or_eq_false_iff, decide_eq_false_iff_not] at hL
      omega
    have h1 := C.allen_Satisfied p (by omega) d1 hd1 l (by omega) d hd
    have h2 := C.ref_Satisfied p (by omega) d1 hd1 l (by omega) d hd
    rw [sat_eq] at h1
    cases hs : satR p l with
    | false =>
      rw [hs] at h1 h2
      repeat' first
        | refine st ?_
        | ((with_reducible apply go_i); (conv => whnf))
        | ((with_reducible apply k_pn); (· first | exact h1 | exact h2 | exact h3 | exact C.awake))
        | ((with_reducible apply k_pc); (· first | exact h1 | exact h2 | exact h3 | exact C.awake))
        | (with_reducible apply k_d <;> intro _)
        | (with_reducible apply k_b <;> intro _)
    | true =>
      rw [hs] at h1 h2
      by_cases h0 : p.length = 0
      · repeat' first
          | refine st ?_
          | ((with_reducible apply go_i); (conv => whnf))
          | ((with_reducible apply k_pn); (· first | exact h1 | exact h2 | exact h3 | exact C.awake))
          | ((with_reducible apply k_pc); (· first | exact h1 | exact h2 | exact h3 | exact C.awake))
          | (with_reducible apply k_d <;> intro _)
          | (with_reducible apply k_b <;> intro _)
      · obtain ⟨F, f1, f2⟩ := tight_fine (by omega) (by omega) hs
        have h6 := C.allen_Tighten p.length l (by omega) d hd
        rw [f1] at h6
        have ho := outC_len (F := F) (show p.length ≤ 8 by omega)
        have h7 := C.allen_Satisfied p (by omega) d1 hd1 (outC F p.length) (by omega) (nsl (eCons (outC F p.length))) sld_nsl
        rw [f2] at h7
        generalize nsl (eCons (outC F p.length)) = a at h6 h7
        rw [← hl0] at h6
        repeat' first
          | refine st ?_
          | ((with_reducible apply go_i); (conv => whnf))
          | ((with_reducible apply k_pn); (· first | exact h1 | exact h2 | exact h3 | exact h6 | exact h7 | exact C.awake))
          | ((with_reducible apply k_pc); (· first | exact h1 | exact h2 | exact h3 | exact h6 | exact h7 | exact C.awake))
          | (with_reducible apply k_d <;> intro _)
          | (with_reducible apply k_b <;> intro _)
end Go.Proofs
end
section
/- What the laws on networks are handed. No condition. -/
set_option linter.unusedSimpArgs false
set_option linter.unusedVariables false
set_option maxRecDepth 10000
set_option maxHeartbeats 4000000
namespace Go.Proofs
open Go.Bi

abbrev T.int : TypeId := 3
abbrev T.ints : TypeId := 31
abbrev T.per : TypeId := 37
abbrev T.pers : TypeId := 29
abbrev T.con : TypeId := 33
abbrev T.cons : TypeId := 22
theorem cells_int : Try.prog.cellsOf T.int = 1 := by kernel_rfl
theorem cells_ints : Try.prog.cellsOf T.ints = 1 := by kernel_rfl
theorem cells_per : Try.prog.cellsOf T.per = 2 := by kernel_rfl
theorem cells_con : Try.prog.cellsOf T.con = 3 := by kernel_rfl
theorem wt_int {ds : List D} (h : WT Try.prog T.int ds) : ∃ n, ds = [eI n] := by
  obtain ⟨a, ha, _, _⟩ := h.int' Try.underlying3
  exact ⟨a, ha⟩
theorem wt_ints {ds : List D} (h : WT Try.prog T.ints ds) : ∃ d ks, ds = [d] ∧ SlD d (eIs ks) ∧ ks.length ≤ 9223372036854775807 := by
  obtain ⟨d, es, h1, h2, h4, h3⟩ := h.sl' Try.underlying31
  have : ∃ ks, es = eIs ks := by
    clear h1 h2 h4
    induction es with
    | nil => exact ⟨[], rfl⟩
    | cons x es ih =>
      obtain ⟨n, hn⟩ := wt_int (h3 x (by simp))
      obtain ⟨ks, hk⟩ := ih fun y hy => h3 y (by simp [hy])
      exact ⟨n :: ks, by rw [hn, hk]; rfl⟩
  obtain ⟨ks, rfl⟩ := this
  rw [eIs_len] at h4
  exact ⟨d, ks, h1, h2, h4⟩
theorem wt_per {ds : List D} (h : WT Try.prog T.per ds) : ∃ p, ds = eQ p := by
  obtain ⟨hl, hf⟩ := h.st' Try.underlying37
  rw [cells_per] at hl
  match ds, hl with
  | [x, y], _ =>
    have h0 := hf _ (List.mem_cons_self ..)
    have h1 := hf _ (List.mem_cons_of_mem _ (List.mem_cons_self ..))
    dsimp only at h0 h1
    rw [cells_int] at h0 h1
    obtain ⟨a, ha⟩ := wt_int h0
    obtain ⟨b, hb⟩ := wt_int h1
    simp at ha hb
    exact ⟨(a, b), by rw [ha, hb]; rfl⟩
theorem wt_con {ds : List D} (h : WT Try.prog T.con ds) : ∃ c, ds = eCon c := by
  obtain ⟨hl, hf⟩ := h.st' Try.underlying33
  rw [cells_con] at hl
  match ds, hl with
  | [x, y, z], _ =>
    have h0 := hf _ (List.mem_cons_self ..)
    have h1 := hf _ (List.mem_cons_of_mem _ (List.mem_cons_self ..))
    have h2 := hf _ (List.mem_cons_of_mem _ (List.mem_cons_of_mem _ (List.mem_cons_self ..)))
    dsimp only at h0 h1 h2
    rw [cells_int] at h0 h1
    rw [cells_ints] at h2
    obtain ⟨a, ha⟩ := wt_int h0
    obtain ⟨b, hb⟩ := wt_int h1
    obtain ⟨d, ks, hk, hs, hb2⟩ := wt_ints h2
    simp at ha hb hk
    exact ⟨⟨a, b, ks, d, hs, hb2⟩, by rw [ha, hb, hk]; rfl⟩
theorem wt_pers {ds : List D} (h : WT Try.prog T.pers ds) : ∃ d ps, ds = [d] ∧ SlD d (eQs ps) ∧ ps.length ≤ 9223372036854775807 := by
  obtain ⟨d, es, h1, h2, h4, h3⟩ := h.sl' Try.underlying29
  have : ∃ ks, es = eQs ks := by
    clear h1 h2 h4
    induction es with
    | nil => exact ⟨[], rfl⟩
    | cons x es ih =>
      obtain ⟨n, hn⟩ := wt_per (h3 x (by simp))
      obtain ⟨ks, hk⟩ := ih fun y hy => h3 y (by simp [hy])
      exact ⟨n :: ks, by rw [hn, hk]; rfl⟩
  obtain ⟨ks, rfl⟩ := this
  rw [eQs_len] at h4
  exact ⟨d, ks, h1, h2, h4⟩
theorem wt_cons {ds : List D} (h : WT Try.prog T.cons ds) : ∃ d l, ds = [d] ∧ SlD d (eCons l) ∧ l.length ≤ 9223372036854775807 := by
  obtain ⟨d, es, h1, h2, h4, h3⟩ := h.sl' Try.underlying22
  have : ∃ ks, es = eCons ks := by
    clear h1 h2 h4
    induction es with
    | nil => exact ⟨[], rfl⟩
    | cons x es ih =>
      obtain ⟨n, hn⟩ := wt_con (h3 x (by simp))
      obtain ⟨ks, hk⟩ := ih fun y hy => h3 y (by simp [hy])
      exact ⟨n :: ks, by rw [hn, hk]; rfl⟩
  obtain ⟨ks, rfl⟩ := this
  rw [eCons_len] at h4
  exact ⟨d, ks, h1, h2, h4⟩
theorem av_int (d : D) : avOf Try.prog T.int [d] = .d d := by unfold avOf; rw [Try.underlying3]
theorem av_pers (d : D) : avOf Try.prog T.pers [d] = .d d := by unfold avOf; rw [Try.underlying29]
theorem av_cons (d : D) : avOf Try.prog T.cons [d] = .d d := by unfold avOf; rw [Try.underlying22]
end Go.Proofs
end
