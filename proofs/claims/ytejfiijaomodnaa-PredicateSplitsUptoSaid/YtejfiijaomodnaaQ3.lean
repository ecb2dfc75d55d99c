/- Texts of this claim, joined. No condition. -/
import Derived.Test.YtejfiijaomodnaaQ2
import Derived.Test.YtejfiijaomodnaaRows
section
/- The reference's Columns. No condition. -/
set_option linter.unusedSimpArgs false
set_option linter.unusedVariables false
set_option maxRecDepth 10000
set_option maxHeartbeats 4000000
namespace Go.Proofs
open Go.Bi

def ins (l : List Int) (n : Int) : List Int := l.takeWhile (fun x => decide (x < n)) ++ ([n] ++ (l.dropWhile fun x => decide (x < n)).filter fun x => decide (x ≠ n))
theorem ins_nil (n : Int) : ins [] n = [n] := rfl
theorem ins_cons (a : Int) (l : List Int) (n : Int) : ins (a :: l) n = if a < n then a :: ins l n else n :: (a :: l).filter fun x => decide (x ≠ n) := by
  unfold ins
  by_cases h : a < n
  · rw [if_pos h, List.takeWhile_cons_of_pos (by simpa using h), List.dropWhile_cons_of_pos (by simpa using h)]; rfl
  · rw [if_neg h, List.takeWhile_cons_of_neg (by simpa using h), List.dropWhile_cons_of_neg (by simpa using h)]; rfl
theorem ins_len : ∀ (l : List Int) (n : Int), (ins l n).length ≤ l.length + 1
  | [], n => by simp [ins_nil]
  | a :: l, n => by
    rw [ins_cons]
    split
    · have := ins_len l n
      simp only [List.length_cons]; omega
    · have := List.length_filter_le (fun x => decide (x ≠ n)) (a :: l)
      simp only [List.length_cons] at *; omega
theorem ins_spec : ∀ {l : List Int} (n : Int), Asc l → Asc (ins l n) ∧ ∀ x, x ∈ ins l n ↔ x = n ∨ x ∈ l
  | [], n, _ => by simp [ins_nil, Asc]
  | a :: l, n, h => by
    have g := List.pairwise_cons.1 h
    rw [ins_cons]
    split
    · rename_i hlt
      obtain ⟨h1, h2⟩ := ins_spec n g.2
      constructor
      · refine List.pairwise_cons.2 ⟨fun x hx => ?_, h1⟩
        rcases (h2 x).1 hx with rfl | hx
        · exact hlt
        · exact g.1 x hx
      · intro x
        rw [List.mem_cons, h2, List.mem_cons]
        constructor
        · rintro (h | h | h)
          · exact .inr (.inl h)
          · exact .inl h
          · exact .inr (.inr h)
        · rintro (h | h | h)
          · exact .inr (.inl h)
          · exact .inl h
          · exact .inr (.inr h)
    · rename_i hge
      constructor
      · refine List.pairwise_cons.2 ⟨fun x hx => ?_, h.filter _⟩
        rw [List.mem_filter] at hx
        have hne : x ≠ n := by simpa using hx.2
        rcases List.mem_cons.1 hx.1 with rfl | hx
        · omega
        · have := g.1 x hx; omega
      · intro x
        rw [List.mem_cons, List.mem_filter]
        by_cases hx : x = n
        · simp [hx]
        · simp [hx]
theorem ins_at {l : List Int} {n : Int} {i : Nat} (h : ∀ (j : Nat) y, j < i → l[j]? = some y → y < n) (hi : ∀ y, l[i]? = some y → ¬ y < n) : ins l n = l.take i ++ ([n] ++ (l.drop i).filter fun x => decide (x ≠ n)) := by
  have h1 : ∀ x ∈ l.take i, decide (x < n) = true := by
    intro x hx
    obtain ⟨j, hj⟩ := List.getElem?_of_mem hx
    have hj2 := (List.getElem?_eq_some_iff.1 hj).1
    rw [List.length_take] at hj2
    rw [List.getElem?_take, if_pos (by omega)] at hj
    exact decide_eq_true (h j x (by omega) hj)
  have h2 : (l.drop i).takeWhile (fun x => decide (x < n)) = [] ∧ (l.drop i).dropWhile (fun x => decide (x < n)) = l.drop i := by
    cases hd : l.drop i with
    | nil => exact ⟨rfl, rfl⟩
    | cons y r =>
      have hy : l[i]? = some y := by
        have : (l.drop i)[0]? = some y := by rw [hd]; rfl
        rwa [List.getElem?_drop, Nat.add_zero] at this
      have := hi y hy
      exact ⟨List.takeWhile_cons_of_neg (by simpa using this), List.dropWhile_cons_of_neg (by simpa using this)⟩
  have e : l = l.take i ++ l.drop i := (List.take_append_drop i l).symm
  unfold ins
  rw [show l.takeWhile (fun x => decide (x < n)) = (l.take i ++ l.drop i).takeWhile (fun x => decide (x < n)) by rw [← e], show l.dropWhile (fun x => decide (x < n)) = (l.take i ++ l.drop i).dropWhile (fun x => decide (x < n)) by rw [← e]]
  rw [List.takeWhile_append_of_pos h1, List.dropWhile_append_of_pos h1, h2.1, h2.2, List.append_nil]
theorem foldl_ins_len : ∀ (l out : List Int), (l.foldl ins out).length ≤ out.length + l.length
  | [], out => by simp
  | a :: l, out => by
    have h1 := foldl_ins_len l (ins out a)
    have h2 := ins_len out a
    rw [List.foldl_cons]
    simp only [List.length_cons]
    omega
theorem foldl_ins : ∀ (l : List Int) {out : List Int}, Asc out → Asc (l.foldl ins out) ∧ ∀ x, x ∈ l.foldl ins out ↔ x ∈ out ∨ x ∈ l
  | [], out, h => ⟨h, fun x => by simp⟩
  | a :: l, out, h => by
    obtain ⟨h1, h2⟩ := ins_spec a h
    obtain ⟨h3, h4⟩ := foldl_ins l h1
    refine ⟨h3, fun x => ?_⟩
    rw [List.foldl_cons, h4, h2, List.mem_cons]
    constructor
    · rintro ((h | h) | h)
      · exact .inr (.inl h)
      · exact .inl h
      · exact .inr (.inr h)
    · rintro (h | h | h)
      · exact .inl (.inr h)
      · exact .inl (.inl h)
      · exact .inr h
mutual
def rcE : Ex → List Int
  | .mk op n v nm nl args => rcL args (own op n)
def rcL : List Ex → List Int → List Int
  | [], out => out
  | a :: l, out => rcL l ((rcE a).foldl ins out)
end
def rcS (out : List Int) (a : Ex) : List Int := (rcE a).foldl ins out
theorem rcL_eq : ∀ (l : List Ex) (out : List Int), rcL l out = l.foldl rcS out
  | [], out => by simp [rcL]
  | a :: l, out => by rw [rcL, rcL_eq l]; rfl
theorem rcE_mk (op n : Int) (v : Vl) (nm : List UInt8) (nl : Bool) (args : List Ex) : rcE (.mk op n v nm nl args) = args.foldl rcS (own op n) := by rw [rcE, rcL_eq]
theorem foldl_rcS : ∀ (l : List Ex) {out : List Int}, (∀ a ∈ l, ∀ x, x ∈ rcE a ↔ x ∈ rawC a) → Asc out → Asc (l.foldl rcS out) ∧ ∀ x, x ∈ l.foldl rcS out ↔ x ∈ out ∨ x ∈ l.flatMap rawC
  | [], out, _, h => ⟨h, fun x => by simp⟩
  | a :: l, out, hl, h => by
    obtain ⟨h1, h2⟩ := foldl_ins (rcE a) h
    obtain ⟨h3, h4⟩ := foldl_rcS l (fun b hb => hl b (List.mem_cons_of_mem _ hb)) h1
    refine ⟨h3, fun x => ?_⟩
    rw [List.foldl_cons, show rcS out a = (rcE a).foldl ins out from rfl, h4, h2, hl a (List.mem_cons_self ..), List.flatMap_cons, List.mem_append, or_assoc]
theorem own_asc (op n : Int) : Asc (own op n) := by unfold own; split <;> simp [Asc]
theorem rcE_spec : ∀ e : Ex, Asc (rcE e) ∧ ∀ x, x ∈ rcE e ↔ x ∈ rawC e := by
  refine Ex.ind fun op n v nm nl args ih => ?_
  rw [rcE_mk, rawC_mk, ← own]
  obtain ⟨h1, h2⟩ := foldl_rcS args (fun a ha => (ih a ha).2) (own_asc op n)
  exact ⟨h1, fun x => by rw [h2, List.mem_append]⟩
theorem rcE_cols (e : Ex) : rcE e = cols e := asc_ext (rcE_spec e).1 (cols_asc e) fun x => by rw [(rcE_spec e).2, cols_mem]
theorem own_len (op n : Int) : (own op n).length ≤ 1 := by unfold own; split <;> simp
theorem foldl_rcS_len : ∀ (l : List Ex) (out : List Int), (l.foldl rcS out).length ≤ out.length + bulkLL (xL l)
  | [], out => by simp
  | a :: l, out => by
    have h1 := foldl_rcS_len l (rcS out a)
    have h2 : (rcS out a).length ≤ out.length + (rcE a).length := foldl_ins_len _ _
    have h3 := cols_len a
    rw [← rcE_cols] at h3
    rw [List.foldl_cons]
    simp only [xL, List.map_cons, bulkLL]
    unfold Ex.bk at h3
    unfold xL at h1
    omega

theorem bulk_take : ∀ (l : List Ex) (i : Nat), bulkLL (xL (l.take i)) ≤ bulkLL (xL l)
  | [], i => by simp
  | a :: l, 0 => by simp [xL, bulkLL]
  | a :: l, i + 1 => by
    have := bulk_take l i
    rw [List.take_succ_cons]
    simp only [xL, List.map_cons, bulkLL] at *
    omega
theorem C.r11_insert (l : List Int) (hl : l.length ≤ 4194304) (n : Int) (d : D) (hd : SlD d (eIs l)) : Pure Try.prog N.bt_ref11_insert [.d d, .d (eI n)] (.d (.sl (eIs (ins l n)))) := by
  refine F.bt_ref11_insert.go mixed rfl ?_
  have hl1 := eIs_len l
  repeat' first
    | refine st ?_
    | ((with_reducible apply go_i); (conv => whnf))
    | (with_reducible apply k_d <;> intro _)
    | (with_reducible apply k_b <;> intro _)
  refine x_loop2 mixed Lt.bt_ref11_insert_l0 Lk.bt_ref11_insert_l0 (fun (i : Nat) (es : List (List D)) => [.arr 0 es.length, .d (eI i)]) (fun i es => [.arr es 1 0 false]) (fun i es => i ≤ l.length ∧ es = eIs (l.take i) ∧ ∀ (j : Nat) y, j < i → l[j]? = some y → y < n) (fun i _ => l.length - i) 0 [] rfl rfl rfl rfl (fun _ _ _ => ⟨rfl, rfl⟩) rfl ⟨by omega, rfl, by omega⟩ ?_
  repeat' first
    | refine st ?_
    | ((with_reducible apply go_i); (conv => whnf))
    | (with_reducible apply k_d <;> intro _)
    | (with_reducible apply k_b <;> intro _)
  intro i es ⟨h1, h2, h3⟩
  have hes : es.length = i := by rw [h2, eIs_len, List.length_take]; omega
  have hem : ∀ e ∈ es, e.length = 1 := by
    rw [h2]
    intro e he
    obtain ⟨z, _, rfl⟩ := List.mem_map.1 he
    rfl
  have key : (∃ y, l[i]? = some y ∧ y < n) ∨ ((∀ y, l[i]? = some y → ¬ y < n) ∧ ((∃ y, l[i]? = some y ∧ ¬ y < n) ∨ l.length ≤ i)) := by
    cases hx : l[i]? with
    | none => exact .inr ⟨fun y h => (by cases h), .inr (List.getElem?_eq_none_iff.1 hx)⟩
    | some y =>
      by_cases hy : y < n
      · exact .inl ⟨y, rfl, hy⟩
      · exact .inr ⟨fun z hz => (by cases hz; exact hy), .inl ⟨y, rfl, hy⟩⟩
  have rest : (∀ y, l[i]? = some y → ¬ y < n) → ∀ k : Nat, i ≤ k → eIs (l.take i) ++ ([[eI n]] ++ eIs ((((l.take k).drop i)).filter fun x => decide (x ≠ n))) = eIs (l.take i ++ ([n] ++ ((l.take k).drop i).filter fun x => decide (x ≠ n))) := fun _ k _ => by simp [eIs]
  rcases key with ⟨y, hy, hlt⟩ | ⟨hno, hx⟩
  · have hil := (List.getElem?_eq_some_iff.1 hy).1
    have hg := eIs_get hy
    repeat' first
      | refine st ?_
      | ((with_reducible apply go_i); (conv => whnf))
      | (with_reducible apply k_d <;> intro _)
      | (with_reducible apply k_b <;> intro _)
    refine ⟨i + 1, es ++ [[eI y]], rfl, rfl, rfl, by omega, by omega, ?_, fun j z hj hz => ?_⟩
    · rw [h2, List.take_add_one, hy]; simp [eIs]
    · rcases Nat.lt_succ_iff_lt_or_eq.1 hj with h | rfl
      · exact h3 j z h hz
      · rw [hy] at hz; cases hz; exact hlt
  · have hat := ins_at h3 hno
    rcases hx with ⟨y, hy, hge⟩ | hx
    · have hg := eIs_get hy
      have hil := (List.getElem?_eq_some_iff.1 hy).1
      repeat' first
        | refine st ?_
        | ((with_reducible apply go_i); (conv => whnf))
        | (with_reducible apply k_d <;> intro _)
        | (with_reducible apply k_b <;> intro _)
      refine x_loop2 mixed Lt.bt_ref11_insert_l1 Lk.bt_ref11_insert_l1 (fun (k : Nat) (es : List (List D)) => [.arr 0 es.length, .d (eI k)]) (fun k es => [.arr es 1 0 false, .arr [[eI n]] 1 0 false]) (fun k es2 => i ≤ k ∧ k ≤ l.length ∧ es2.length ≤ k + 1 ∧ es2 = eIs (l.take i ++ ([n] ++ ((l.take k).drop i).filter fun x => decide (x ≠ n)))) (fun k _ => l.length - k) i (es ++ [[eI n]]) rfl rfl rfl rfl (fun _ _ _ => ⟨rfl, rfl⟩) rfl ⟨by omega, by omega, by simp; omega, by rw [h2, List.drop_eq_nil_of_le (by rw [List.length_take]; omega)]; simp [eIs]⟩ ?_
      repeat' first
        | refine st ?_
        | ((with_reducible apply go_i); (conv => whnf))
        | (with_reducible apply k_d <;> intro _)
        | (with_reducible apply k_b <;> intro _)
      intro k es2 ⟨q1, q2, q4, q3⟩
      cases hz : l[k]? with
      | none =>
        have hge2 := List.getElem?_eq_none_iff.1 hz
        rw [List.take_of_length_le hge2, ← hat] at q3
        repeat' first
          | refine st ?_
          | ((with_reducible apply go_i); (conv => whnf))
          | (with_reducible apply k_d <;> intro _)
          | (with_reducible apply k_b <;> intro _)
        rw [q3]; rfl
      | some z =>
        have hkl := (List.getElem?_eq_some_iff.1 hz).1
        have hg2 := eIs_get hz
        have hdr : (l.take (k + 1)).drop i = (l.take k).drop i ++ [z] := by
          rw [List.take_add_one, hz, List.drop_append_of_le_length (by rw [List.length_take]; omega)]; rfl
        repeat' first
          | refine st ?_
          | ((with_reducible apply go_i); (conv => whnf))
          | (with_reducible apply k_d <;> intro _)
          | (with_reducible apply k_b <;> intro _)
        · rename_i he
          refine ⟨k + 1, es2, rfl, rfl, rfl, by omega, by omega, by omega, by omega, ?_⟩
          rw [q3, hdr, List.filter_append]
          simp [he]
        · rename_i he
          refine ⟨k + 1, es2 ++ [[eI z]], rfl, rfl, rfl, by omega, by omega, by omega, by simp; omega, ?_⟩
          rw [q3, hdr, List.filter_append]
          simp [he, eIs]
    · repeat' first
        | refine st ?_
        | ((with_reducible apply go_i); (conv => whnf))
        | (with_reducible apply k_d <;> intro _)
        | (with_reducible apply k_b <;> intro _)
      refine x_loop2 mixed Lt.bt_ref11_insert_l1 Lk.bt_ref11_insert_l1 (fun (k : Nat) (es : List (List D)) => [.arr 0 es.length, .d (eI k)]) (fun k es => [.arr es 1 0 false, .arr [[eI n]] 1 0 false]) (fun k es2 => k = i ∧ es2 = es ++ [[eI n]]) (fun k _ => l.length - k) i (es ++ [[eI n]]) rfl rfl rfl rfl (fun _ _ _ => ⟨rfl, rfl⟩) rfl ⟨rfl, rfl⟩ ?_
      repeat' first
        | refine st ?_
        | ((with_reducible apply go_i); (conv => whnf))
        | (with_reducible apply k_d <;> intro _)
        | (with_reducible apply k_b <;> intro _)
      intro k es2 ⟨q1, q3⟩
      subst q1
      repeat' first
        | refine st ?_
        | ((with_reducible apply go_i); (conv => whnf))
        | (with_reducible apply k_d <;> intro _)
        | (with_reducible apply k_b <;> intro _)
      rw [q3, h2, hat, List.drop_eq_nil_of_le hx]
      simp [eIs]
      rfl
theorem C.r11_Columns : ∀ e : Ex, e.bk ≤ 1048576 → Pure Try.prog N.bt_ref11_Columns [e.av] (.d (.sl (eIs (rcE e)))) := by
  refine Ex.ind fun op n v nm nl args ih hb => ?_
  obtain ⟨b1, b2, b3, b4⟩ := Ex.bk_bounds hb
  have hbm := Ex.bk_mk op n v nm nl args
  rw [rcE_mk, Ex.av_mk]
  have h1 := xL_len args
  have hm := xL_mem args
  obtain ⟨da, hda⟩ : ∃ d, d = ng nl (xL args) := ⟨_, rfl⟩
  have hsd : SlD da (xL args) := by rw [hda]; exact sld_ng
  rw [← hda]
  have r0 : v.k = v.k := rfl
  have r1 : v.s = v.s := rfl
  have r2 : nm = nm := rfl
  refine F.bt_ref11_Columns.go mixed rfl ?_
  have hown : (op = 2 ∧ own op n = [n]) ∨ (op ≠ 2 ∧ own op n = []) := by
    unfold own
    by_cases h : op = 2
    · rw [if_pos h]; exact .inl ⟨h, rfl⟩
    · rw [if_neg h]; exact .inr ⟨h, rfl⟩
  rcases hown with ⟨h2, ho⟩ | ⟨h2, ho⟩
  · repeat' first
      | refine st ?_
      | ((with_reducible apply go_i); (conv => whnf))
      | (with_reducible apply k_d <;> intro _)
      | (with_reducible apply k_b <;> intro _)
    refine x_frz 3 rfl rfl rfl ?_
    repeat' first
      | refine st ?_
      | ((with_reducible apply go_i); (conv => whnf))
      | (with_reducible apply k_d <;> intro _)
      | (with_reducible apply k_b <;> intro _)
    refine x_loop2 mixed Lt.bt_ref11_Columns_l1 Lk.bt_ref11_Columns_l1 (fun (i : Nat) (out : List Int) => [.d (.sl (eIs out)), .d (eI i)]) (fun i out => [.cells [.d (eI op), .d (eI n), .d (eI v.k), .d (eI v.n), .d (.str v.s), .d (.str nm), .d da], .arr [[eI n]] 1 1 false, .arr [[eI n]] 1 0 false]) (fun i out => i ≤ args.length ∧ out = (args.take i).foldl rcS (own op n)) (fun i _ => args.length - i) 0 (own op n) rfl rfl (by rw [ho]; rfl) rfl (fun _ _ _ => ⟨rfl, rfl⟩) rfl ⟨Nat.zero_le _, rfl⟩ ?_
    repeat' first
      | refine st ?_
      | ((with_reducible apply go_i); (conv => whnf))
      | (with_reducible apply k_d <;> intro _)
      | (with_reducible apply k_b <;> intro _)
    intro i out ⟨h4, h5⟩
    cases hx : args[i]? with
    | none =>
      have hge := List.getElem?_eq_none_iff.1 hx
      rw [List.take_of_length_le hge] at h5
      repeat' first
        | refine st ?_
        | ((with_reducible apply go_i); (conv => whnf))
        | (with_reducible apply k_d <;> intro _)
        | (with_reducible apply k_b <;> intro _)
      rw [h5]
    | some x =>
      have hlt := (List.getElem?_eq_some_iff.1 hx).1
      have hgx := xL_get hx
      have hxm := List.mem_of_getElem? hx
      have hxb : bulkL x.ds ≤ bulkLL (xL args) := bulkLL_mem (List.mem_map.2 ⟨x, hxm, rfl⟩)
      have hi := ih x hxm (b4 x hxm)
      have hs := foldl_take_succ rcS (own op n) args i x hx
      rw [← h5] at hs
      have hol : out.length ≤ 1 + bulkLL (xL args) := by
        have q1 := foldl_rcS_len (args.take i) (own op n)
        have q2 := own_len op n
        have q3 : bulkLL (xL (args.take i)) ≤ bulkLL (xL args) := bulk_take args i
        rw [h5]; omega
      have hrl := cols_len x
      rw [← rcE_cols] at hrl
      obtain ⟨ys, hys⟩ : ∃ y, y = rcE x := ⟨_, rfl⟩
      have hss : rcS out x = ys.foldl ins out := by rw [hys]; rfl
      rw [hss] at hs
      rw [← hys] at hi hrl
      unfold Ex.bk at hrl
      have hyl := eIs_len ys
      obtain ⟨o1, n1, v1, m1, l1, a1⟩ := x
      rw [Ex.ds_mk] at hgx
      rw [Ex.av_mk] at hi
      repeat' first
        | refine st ?_
        | ((with_reducible apply go_i); (conv => whnf))
        | ((with_reducible apply k_pn); (· exact hi))
        | ((with_reducible apply k_pc); (· exact hi))
        | (with_reducible apply k_d <;> intro _)
        | (with_reducible apply k_b <;> intro _)
      refine x_loop2 mixed Lt.bt_ref11_Columns_l0 Lk.bt_ref11_Columns_l0 (fun (k : Nat) (o2 : List Int) => [.d (.sl (eIs o2)), .d (eI k)]) (fun k o2 => [.cells [.d (eI op), .d (eI n), .d (eI v.k), .d (eI v.n), .d (.str v.s), .d (.str nm), .d da], .arr [[eI n]] 1 1 false, .arr [[eI n]] 1 0 false]) (fun k o2 => k ≤ ys.length ∧ o2 = (ys.take k).foldl ins out) (fun k _ => ys.length - k) 0 out rfl rfl rfl rfl (fun _ _ _ => ⟨rfl, rfl⟩) rfl ⟨Nat.zero_le _, rfl⟩ ?_
      repeat' first
        | refine st ?_
        | ((with_reducible apply go_i); (conv => whnf))
        | (with_reducible apply k_d <;> intro _)
        | (with_reducible apply k_b <;> intro _)
      intro k o2 ⟨q1, q2⟩
      cases hy : ys[k]? with
      | none =>
        have hge := List.getElem?_eq_none_iff.1 hy
        rw [List.take_of_length_le hge, ← hs] at q2
        repeat' first
          | refine st ?_
          | ((with_reducible apply go_i); (conv => whnf))
          | (with_reducible apply k_d <;> intro _)
          | (with_reducible apply k_b <;> intro _)
        exact ⟨i + 1, o2, rfl, rfl, rfl, by omega, by omega, q2⟩
      | some y =>
        have hklt := (List.getElem?_eq_some_iff.1 hy).1
        have hgy := eIs_get hy
        have hs2 := foldl_take_succ ins out ys k y hy
        rw [← q2] at hs2
        have hI := C.r11_insert o2 (by
          have q3 := foldl_ins_len (ys.take k) out
          rw [List.length_take] at q3
          rw [q2]; omega) y (.sl (eIs o2)) sld_sl
        repeat' first
          | refine st ?_
          | ((with_reducible apply go_i); (conv => whnf))
          | ((with_reducible apply k_pn); (· exact hI))
          | ((with_reducible apply k_pc); (· exact hI))
          | (with_reducible apply k_d <;> intro _)
          | (with_reducible apply k_b <;> intro _)
        exact ⟨k + 1, ins o2 y, rfl, rfl, rfl, by omega, by omega, hs2.symm⟩
  · repeat' first
      | refine st ?_
      | ((with_reducible apply go_i); (conv => whnf))
      | (with_reducible apply k_d <;> intro _)
      | (with_reducible apply k_b <;> intro _)
    refine x_frz 3 rfl rfl rfl ?_
    repeat' first
      | refine st ?_
      | ((with_reducible apply go_i); (conv => whnf))
      | (with_reducible apply k_d <;> intro _)
      | (with_reducible apply k_b <;> intro _)
    refine x_loop2 mixed Lt.bt_ref11_Columns_l1 Lk.bt_ref11_Columns_l1 (fun (i : Nat) (out : List Int) => [.d (.sl (eIs out)), .d (eI i)]) (fun i out => [.cells [.d (eI op), .d (eI n), .d (eI v.k), .d (eI v.n), .d (.str v.s), .d (.str nm), .d da], .arr [] 1 0 false]) (fun i out => i ≤ args.length ∧ out = (args.take i).foldl rcS (own op n)) (fun i _ => args.length - i) 0 (own op n) rfl rfl (by rw [ho]; rfl) rfl (fun _ _ _ => ⟨rfl, rfl⟩) rfl ⟨Nat.zero_le _, rfl⟩ ?_
    repeat' first
      | refine st ?_
      | ((with_reducible apply go_i); (conv => whnf))
      | (with_reducible apply k_d <;> intro _)
      | (with_reducible apply k_b <;> intro _)
    intro i out ⟨h4, h5⟩
    cases hx : args[i]? with
    | none =>
      have hge := List.getElem?_eq_none_iff.1 hx
      rw [List.take_of_length_le hge] at h5
      repeat' first
        | refine st ?_
        | ((with_reducible apply go_i); (conv => whnf))
        | (with_reducible apply k_d <;> intro _)
        | (with_reducible apply k_b <;> intro _)
      rw [h5]
    | some x =>
      have hlt := (List.getElem?_eq_some_iff.1 hx).1
      have hgx := xL_get hx
      have hxm := List.mem_of_getElem? hx
      have hxb : bulkL x.ds ≤ bulkLL (xL args) := bulkLL_mem (List.mem_map.2 ⟨x, hxm, rfl⟩)
      have hi := ih x hxm (b4 x hxm)
      have hs := foldl_take_succ rcS (own op n) args i x hx
      rw [← h5] at hs
      have hol : out.length ≤ 1 + bulkLL (xL args) := by
        have q1 := foldl_rcS_len (args.take i) (own op n)
        have q2 := own_len op n
        have q3 : bulkLL (xL (args.take i)) ≤ bulkLL (xL args) := bulk_take args i
        rw [h5]; omega
      have hrl := cols_len x
      rw [← rcE_cols] at hrl
      obtain ⟨ys, hys⟩ : ∃ y, y = rcE x := ⟨_, rfl⟩
      have hss : rcS out x = ys.foldl ins out := by rw [hys]; rfl
      rw [hss] at hs
      rw [← hys] at hi hrl
      unfold Ex.bk at hrl
      have hyl := eIs_len ys
      obtain ⟨o1, n1, v1, m1, l1, a1⟩ := x
      rw [Ex.ds_mk] at hgx
      rw [Ex.av_mk] at hi
      repeat' first
        | refine st ?_
        | ((with_reducible apply go_i); (conv => whnf))
        | ((with_reducible apply k_pn); (· exact hi))
        | ((with_reducible apply k_pc); (· exact hi))
        | (with_reducible apply k_d <;> intro _)
        | (with_reducible apply k_b <;> intro _)
      refine x_loop2 mixed Lt.bt_ref11_Columns_l0 Lk.bt_ref11_Columns_l0 (fun (k : Nat) (o2 : List Int) => [.d (.sl (eIs o2)), .d (eI k)]) (fun k o2 => [.cells [.d (eI op), .d (eI n), .d (eI v.k), .d (eI v.n), .d (.str v.s), .d (.str nm), .d da], .arr [] 1 0 false]) (fun k o2 => k ≤ ys.length ∧ o2 = (ys.take k).foldl ins out) (fun k _ => ys.length - k) 0 out rfl rfl rfl rfl (fun _ _ _ => ⟨rfl, rfl⟩) rfl ⟨Nat.zero_le _, rfl⟩ ?_
      repeat' first
        | refine st ?_
        | ((with_reducible apply go_i); (conv => whnf))
        | (with_reducible apply k_d <;> intro _)
        | (with_reducible apply k_b <;> intro _)
      intro k o2 ⟨q1, q2⟩
      cases hy : ys[k]? with
      | none =>
        have hge := List.getElem?_eq_none_iff.1 hy
        rw [List.take_of_length_le hge, ← hs] at q2
        repeat' first
          | refine st ?_
          | ((with_reducible apply go_i); (conv => whnf))
          | (with_reducible apply k_d <;> intro _)
          | (with_reducible apply k_b <;> intro _)
        exact ⟨i + 1, o2, rfl, rfl, rfl, by omega, by omega, q2⟩
      | some y =>
        have hklt := (List.getElem?_eq_some_iff.1 hy).1
        have hgy := eIs_get hy
        have hs2 := foldl_take_succ ins out ys k y hy
        rw [← q2] at hs2
        have hI := C.r11_insert o2 (by
          have q3 := foldl_ins_len (ys.take k) out
          rw [List.length_take] at q3
          rw [q2]; omega) y (.sl (eIs o2)) sld_sl
        repeat' first
          | refine st ?_
          | ((with_reducible apply go_i); (conv => whnf))
          | ((with_reducible apply k_pn); (· exact hI))
          | ((with_reducible apply k_pc); (· exact hI))
          | (with_reducible apply k_d <;> intro _)
          | (with_reducible apply k_b <;> intro _)
        exact ⟨k + 1, ins o2 y, rfl, rfl, rfl, by omega, by omega, hs2.symm⟩
end Go.Proofs
end
section
/- The program's Eval and Truth. No condition. -/
set_option linter.unusedSimpArgs false
set_option linter.unusedVariables false
set_option maxRecDepth 10000
set_option maxHeartbeats 4000000
namespace Go.Proofs
open Go.Bi

theorem C.expr_Truth_of (row : List Vl) (dr : D) (op n : Int) (v : Vl) (name : List UInt8) (d : D) (r : Vl) (h : Pure Try.prog N.expr_Eval [eX op n v name d, .d dr] (eV r)) : Pure Try.prog N.expr_Truth [eX op n v name d, .d dr] (.d (eI (vTruth r))) := by
  refine F.expr_Truth.go mixed rfl ?_
  repeat' first
    | refine st ?_
    | ((with_reducible apply go_i); (conv => whnf))
    | ((with_reducible apply k_pn); (· first | exact h | exact C.value_Truth _))
    | ((with_reducible apply k_pc); (· first | exact h | exact C.value_Truth _))
    | (with_reducible apply k_d <;> intro _)
    | (with_reducible apply k_b <;> intro _)
theorem evOp_3 (op n : Int) (v : Vl) (l row : List Vl) (h1 : op ≠ 1) (h2 : op ≠ 2) (h3 : op ≠ 22) : evOp op n v l row = (if op = 4 then vOf (tNot (vTruth (l.getD 0 vNull)))
  else if op = 5 ∨ op = 6 then vOf (lgF op (l.getD 0 vNull) (l.drop 1))
  else if op = 21 then vBool (decide ((l.getD 0 vNull).k = 0))
  else if op = 23 then coa l
  else if op = 24 then vRel n (l.getD 0 vNull) (l.getD 1 vNull) (l.getD 2 vNull) (l.getD 3 vNull)
  else if op = 19 ∨ op = 20 then vTxt op l
  else if 13 ≤ op ∧ op ≤ 18 then vAri op l
  else vOf (vCp op (l.getD 0 vNull) (l.getD 1 vNull))) := by
  unfold evOp
  rw [if_neg h1, if_neg h2, if_neg h3]
theorem coa_drop {l : List Vl} {i : Nat} {v : Vl} (h : l[i]? = some v) : coa (l.drop i) = if v.k = 0 then coa (l.drop (i + 1)) else v := by
  obtain ⟨hlt, he⟩ := List.getElem?_eq_some_iff.1 h
  rw [List.drop_eq_getElem_cons hlt, he]; rfl
theorem C.expr_Eval (row : List Vl) (hr : row.length ≤ 1048576) (hrs : ∀ v ∈ row, v.s.length ≤ 1048576) (dr : D) (hdr : SlD dr (eVs row)) : ∀ e : Ex, e.bk ≤ 1048576 → Pure Try.prog N.expr_Eval [e.av, .d dr] (eV (ev row e)) := by
  refine Ex.ind fun op n v name nl args ih hbk => ?_
  obtain ⟨b1, b2, b3, b4⟩ := Ex.bk_bounds hbk
  have ih' : ∀ a ∈ args, Pure Try.prog N.expr_Eval [a.av, .d dr] (eV (ev row a)) := fun a ha => ih a ha (b4 a ha)
  clear ih
  rw [Ex.av_mk]
  refine F.expr_Eval.go mixed rfl ?_
  have hlen := xL_len args
  have hF := C.expr_formed op n v name (ng nl (xL args)) (xL args) sld_ng b2 (by omega)
  rw [hlen] at hF
  have hm := xL_mem args
  have hd : SlD (ng nl (xL args)) (xL args) := sld_ng
  have hget : ∀ (i : Nat) (op' n' : Int) (v' : Vl) (name' : List UInt8) (nl' : Bool) (args' : List Ex), args[i]? = some (.mk op' n' v' name' nl' args') → (xL args)[i]? = some (xds op' n' v' name' (ng nl' (xL args'))) := fun i op' n' v' name' nl' args' h => by
    rw [← Ex.ds_mk]; exact xL_get h
  obtain ⟨d, hde⟩ : ∃ d, d = ng nl (xL args) := ⟨_, rfl⟩
  rw [← hde] at hF hd ⊢
  obtain ⟨es, hes⟩ : ∃ es, es = xL args := ⟨_, rfl⟩
  rw [← hes] at hlen hm hd hget
  rw [ev_mk]
  cases hf : fmd op n v name args.length with
  | false =>
    rw [hf] at hF
    repeat' first
      | refine st ?_
      | ((with_reducible apply go_i); (conv => whnf))
      | ((with_reducible apply k_pn); (· first | exact hF | exact C.value_Null))
      | ((with_reducible apply k_pc); (· first | exact hF | exact C.value_Null))
      | (with_reducible apply k_d <;> intro _)
      | (with_reducible apply k_b <;> intro _)
    all_goals rfl
  | true =>
  rw [hf] at hF
  rw [if_pos rfl]
  by_cases h1 : op = 1
  · subst h1
    repeat' first
      | refine st ?_
      | ((with_reducible apply go_i); (conv => whnf))
      | ((with_reducible apply k_pn); (· exact hF))
      | ((with_reducible apply k_pc); (· exact hF))
      | (with_reducible apply k_d <;> intro _)
      | (with_reducible apply k_b <;> intro _)
    all_goals rfl
  by_cases h2 : op = 2
  · subst h2
    have hc := C.expr_column row hr hrs dr hdr n
    repeat' first
      | refine st ?_
      | ((with_reducible apply go_i); (conv => whnf))
      | ((with_reducible apply k_pn); (· first | exact hF | exact hc))
      | ((with_reducible apply k_pc); (· first | exact hF | exact hc))
      | (with_reducible apply k_d <;> intro _)
      | (with_reducible apply k_b <;> intro _)
    all_goals rfl
  have hcnt := cnt_case (fmd_cnt hf)
  by_cases h3 : op = 22
  · subst h3
    have hl3 : args.length = 3 := by omega
    obtain ⟨a, b, c, rfl⟩ : ∃ a b c, args = [a, b, c] := by
      match args, hl3 with
      | [a, b, c], _ => exact ⟨a, b, c, rfl⟩
    have ia := ih' a (by simp)
    have ib := ih' b (by simp)
    have ic := ih' c (by simp)
    obtain ⟨o0, n0, v0, m0, l0, a0⟩ := a
    obtain ⟨o1, n1, v1, m1, l1, a1⟩ := b
    obtain ⟨o2, n2, v2, m2, l2, a2⟩ := c
    have g0 := hget 0 _ _ _ _ _ _ rfl
    have g1 := hget 1 _ _ _ _ _ _ rfl
    have g2 := hget 2 _ _ _ _ _ _ rfl
    rw [Ex.av_mk] at ia ib ic
    have it := C.expr_Truth_of row dr _ _ _ _ _ _ ia
    have e : evOp 22 n v (List.map (ev row) [.mk o0 n0 v0 m0 l0 a0, .mk o1 n1 v1 m1 l1 a1, .mk o2 n2 v2 m2 l2 a2]) row = if vTruth (ev row (.mk o0 n0 v0 m0 l0 a0)) = 2 then ev row (.mk o1 n1 v1 m1 l1 a1) else ev row (.mk o2 n2 v2 m2 l2 a2) := rfl
    rw [e]
    by_cases ht : vTruth (ev row (.mk o0 n0 v0 m0 l0 a0)) = 2
    · rw [if_pos ht]
      repeat' first
        | refine st ?_
        | ((with_reducible apply go_i); (conv => whnf))
        | ((with_reducible apply k_pn); (· first | exact hF | exact it | exact ib))
        | ((with_reducible apply k_pc); (· first | exact hF | exact it | exact ib))
        | (with_reducible apply k_d <;> intro _)
        | (with_reducible apply k_b <;> intro _)
      all_goals rfl
    · rw [if_neg ht]
      repeat' first
        | refine st ?_
        | ((with_reducible apply go_i); (conv => whnf))
        | ((with_reducible apply k_pn); (· first | exact hF | exact it | exact ic))
        | ((with_reducible apply k_pc); (· first | exact hF | exact it | exact ic))
        | (with_reducible apply k_d <;> intro _)
        | (with_reducible apply k_b <;> intro _)
      all_goals rfl
  rw [evOp_3 op n v _ row h1 h2 h3]
  have hlr : (List.replicate ((es.length : Int)).toNat z3).length = args.length := by rw [List.length_replicate]; omega
  repeat' first
    | refine st ?_
    | ((with_reducible apply go_i); (conv => whnf))
    | ((with_reducible apply k_pn); (· exact hF))
    | ((with_reducible apply k_pc); (· exact hF))
    | (with_reducible apply k_d <;> intro _)
    | (with_reducible apply k_b <;> intro _)
  refine x_loop2 mixed Lt.expr_Eval_l0 Lk.expr_Eval_l0 (fun (i : Nat) (A : List (List D)) => [.d (eI i)]) (fun i A => [.cells [.d (eI op), .d (eI n), .d (eI v.k), .d (eI v.n), .d (.str v.s), .d (.str name), .d d], .cells [.d (eI 0), .d (eI 0), .d (.str [])], .arr A 3 0 false]) (fun i A => i ≤ args.length ∧ A = Lv row args i) (fun i _ => args.length - i) 0 (List.replicate ((es.length : Int)).toNat z3) rfl rfl rfl rfl (fun _ _ _ => ⟨rfl, rfl⟩) rfl ⟨by omega, Lv_zero row args _ hlen⟩ ?_
  repeat' first
    | refine st ?_
    | ((with_reducible apply go_i); (conv => whnf))
    | (with_reducible apply k_d <;> intro _)
    | (with_reducible apply k_b <;> intro _)
  intro i A ⟨h4, h5⟩
  have hAl : A.length = args.length := by rw [h5]; exact Lv_len row args i h4
  have hAm : ∀ e ∈ A, e.length = 3 := by rw [h5]; exact Lv_mem row args i
  have hlr2 : (List.replicate ((es.length : Int)).toNat [D.int .i64 0, D.int .i64 0, D.str []]).length = A.length := by rw [List.length_replicate]; omega
  cases hx : args[i]? with
  | some x =>
    have hlt := (List.getElem?_eq_some_iff.1 hx).1
    have hI := ih' x (List.mem_of_getElem? hx)
    have hset := Lv_set (row := row) hx
    obtain ⟨op', n', v', name', nl', args'⟩ := x
    rw [Ex.av_mk] at hI
    have hg := hget i _ _ _ _ _ _ hx
    have hA := Lv_get (row := row) hlt
    rw [← h5] at hA hset
    repeat' first
      | refine st ?_
      | ((with_reducible apply go_i); (conv => whnf))
      | ((with_reducible apply k_pn); (· exact hI))
      | ((with_reducible apply k_pc); (· exact hI))
      | (with_reducible apply k_d <;> intro _)
      | (with_reducible apply k_b <;> intro _)
    exact ⟨i + 1, _, rfl, rfl, rfl, by omega, by omega, hset⟩
  | none =>
    have hge := List.getElem?_eq_none_iff.1 hx
    rw [Lv_end hge] at h5
    clear ih' hget hF
    -- the values of the arguments
    obtain ⟨l, hl⟩ : ∃ l, l = args.map (ev row) := ⟨_, rfl⟩
    have hll : l.length = args.length := by rw [hl, List.length_map]
    have hs := evs_s row args
    have hn := evs_n row args
    rw [← hl] at h5 hs hn ⊢
    subst h5
    rcases hcnt with ⟨h, k⟩ | ⟨h, k⟩ | ⟨h, k⟩ | ⟨h, k⟩ | ⟨h, k⟩ | ⟨h, k⟩ | ⟨h, k⟩
    · omega
    · obtain ⟨a, rfl⟩ : ∃ a, l = [a] := by
        match l, hll.trans k with
        | [a], _ => exact ⟨a, rfl⟩
      have g0 : (eVs [a])[(0 : Nat)]? = some a.ds := rfl
      rcases h with rfl | rfl | rfl | rfl
      · have hC := C.expr_logic4 a [] (by simp)
        repeat' first
          | refine st ?_
          | ((with_reducible apply go_i); (conv => whnf))
          | ((with_reducible apply k_pn); (· exact hC))
          | ((with_reducible apply k_pc); (· exact hC))
          | (with_reducible apply k_d <;> intro _)
          | (with_reducible apply k_b <;> intro _)
        all_goals rfl
      · have hC := C.expr_arithmetic 18 [a] a a rfl rfl (by simp) hn ⟨by decide, by decide⟩
        repeat' first
          | refine st ?_
          | ((with_reducible apply go_i); (conv => whnf))
          | ((with_reducible apply k_pn); (· exact hC))
          | ((with_reducible apply k_pc); (· exact hC))
          | (with_reducible apply k_d <;> intro _)
          | (with_reducible apply k_b <;> intro _)
        all_goals rfl
      · have hC := C.expr_text 20 [a] (by simp) hs
        repeat' first
          | refine st ?_
          | ((with_reducible apply go_i); (conv => whnf))
          | ((with_reducible apply k_pn); (· exact hC))
          | ((with_reducible apply k_pc); (· exact hC))
          | (with_reducible apply k_d <;> intro _)
          | (with_reducible apply k_b <;> intro _)
        all_goals rfl
      · repeat' first
          | refine st ?_
          | ((with_reducible apply go_i); (conv => whnf))
          | ((with_reducible apply k_pn); (· exact C.value_Bool _))
          | ((with_reducible apply k_pc); (· exact C.value_Bool _))
          | (with_reducible apply k_d <;> intro _)
          | (with_reducible apply k_b <;> intro _)
        all_goals rfl
    · obtain ⟨a, b, rfl⟩ : ∃ a b, l = [a, b] := by
        match l, hll.trans k with
        | [a, b], _ => exact ⟨a, b, rfl⟩
      have g0 : (eVs [a, b])[(0 : Nat)]? = some a.ds := rfl
      have g1 : (eVs [a, b])[(1 : Nat)]? = some b.ds := rfl
      by_cases h19 : op = 19
      · subst h19
        have hC := C.expr_text 19 [a, b] (by simp) hs
        repeat' first
          | refine st ?_
          | ((with_reducible apply go_i); (conv => whnf))
          | ((with_reducible apply k_pn); (· exact hC))
          | ((with_reducible apply k_pc); (· exact hC))
          | (with_reducible apply k_d <;> intro _)
          | (with_reducible apply k_b <;> intro _)
        all_goals rfl
      by_cases h13 : 13 ≤ op
      · have hC := C.expr_arithmetic op [a, b] a b rfl rfl (by simp) hn ⟨h13, by omega⟩
        have e : (if op = 4 then vOf (tNot (vTruth ([a, b].getD 0 vNull))) else if op = 5 ∨ op = 6 then vOf (lgF op ([a, b].getD 0 vNull) ([a, b].drop 1)) else if op = 21 then vBool (decide (([a, b].getD 0 vNull).k = 0)) else if op = 23 then coa [a, b] else if op = 24 then vRel n ([a, b].getD 0 vNull) ([a, b].getD 1 vNull) ([a, b].getD 2 vNull) ([a, b].getD 3 vNull) else if op = 19 ∨ op = 20 then vTxt op [a, b] else if 13 ≤ op ∧ op ≤ 18 then vAri op [a, b] else vOf (vCp op ([a, b].getD 0 vNull) ([a, b].getD 1 vNull))) = vAri op [a, b] := by
          rw [if_neg (by omega), if_neg (by omega), if_neg (by omega), if_neg (by omega), if_neg (by omega), if_neg (by omega), if_pos (by omega)]
        rw [e]
        rcases (show op = 13 ∨ op = 14 ∨ op = 15 ∨ op = 16 ∨ op = 17 by omega) with rfl | rfl | rfl | rfl | rfl
        all_goals clear e
        all_goals repeat' first
          | refine st ?_
          | ((with_reducible apply go_i); (conv => whnf))
          | ((with_reducible apply k_pn); (· exact hC))
          | ((with_reducible apply k_pc); (· exact hC))
          | (with_reducible apply k_d <;> intro _)
          | (with_reducible apply k_b <;> intro _)
        all_goals rfl
      · have e : (if op = 4 then vOf (tNot (vTruth ([a, b].getD 0 vNull))) else if op = 5 ∨ op = 6 then vOf (lgF op ([a, b].getD 0 vNull) ([a, b].drop 1)) else if op = 21 then vBool (decide (([a, b].getD 0 vNull).k = 0)) else if op = 23 then coa [a, b] else if op = 24 then vRel n ([a, b].getD 0 vNull) ([a, b].getD 1 vNull) ([a, b].getD 2 vNull) ([a, b].getD 3 vNull) else if op = 19 ∨ op = 20 then vTxt op [a, b] else if 13 ≤ op ∧ op ≤ 18 then vAri op [a, b] else vOf (vCp op ([a, b].getD 0 vNull) ([a, b].getD 1 vNull))) = vOf (vCp op a b) := by
          rw [if_neg (by omega), if_neg (by omega), if_neg (by omega), if_neg (by omega), if_neg (by omega), if_neg (by omega), if_neg (by omega)]; rfl
        rw [e]
        rcases (show op = 7 ∨ op = 8 ∨ op = 9 ∨ op = 10 ∨ op = 11 ∨ op = 12 by omega) with rfl | rfl | rfl | rfl | rfl | rfl
        all_goals clear e
        all_goals repeat' first
          | refine st ?_
          | ((with_reducible apply go_i); (conv => whnf))
          | ((with_reducible apply k_pn); (· first | exact C.expr_comparison _ _ _ | exact C.value_Of _))
          | ((with_reducible apply k_pc); (· first | exact C.expr_comparison _ _ _ | exact C.value_Of _))
          | (with_reducible apply k_d <;> intro _)
          | (with_reducible apply k_b <;> intro _)
        all_goals rfl
    · obtain ⟨a, r, rfl⟩ : ∃ a r, l = a :: r := by
        match l, hll with
        | [], h => simp at h; omega
        | a :: r, _ => exact ⟨a, r, rfl⟩
      have hC := C.expr_logic op h a r (by simp at hll; omega)
      rcases h with rfl | rfl
      · repeat' first
          | refine st ?_
          | ((with_reducible apply go_i); (conv => whnf))
          | ((with_reducible apply k_pn); (· exact hC))
          | ((with_reducible apply k_pc); (· exact hC))
          | (with_reducible apply k_d <;> intro _)
          | (with_reducible apply k_b <;> intro _)
        all_goals rfl
      · repeat' first
          | refine st ?_
          | ((with_reducible apply go_i); (conv => whnf))
          | ((with_reducible apply k_pn); (· exact hC))
          | ((with_reducible apply k_pc); (· exact hC))
          | (with_reducible apply k_d <;> intro _)
          | (with_reducible apply k_b <;> intro _)
        all_goals rfl
    · omega
    · obtain ⟨rfl⟩ := h
      have hLl := eVs_len l
      have e : (if (23 : Int) = 4 then vOf (tNot (vTruth (l.getD 0 vNull))) else if (23 : Int) = 5 ∨ (23 : Int) = 6 then vOf (lgF 23 (l.getD 0 vNull) (l.drop 1)) else if (23 : Int) = 21 then vBool (decide ((l.getD 0 vNull).k = 0)) else if (23 : Int) = 23 then coa l else if (23 : Int) = 24 then vRel n (l.getD 0 vNull) (l.getD 1 vNull) (l.getD 2 vNull) (l.getD 3 vNull) else if (23 : Int) = 19 ∨ (23 : Int) = 20 then vTxt 23 l else if 13 ≤ (23 : Int) ∧ (23 : Int) ≤ 18 then vAri 23 l else vOf (vCp 23 (l.getD 0 vNull) (l.getD 1 vNull))) = coa l := rfl
      rw [e]
      repeat' first
        | refine st ?_
        | ((with_reducible apply go_i); (conv => whnf))
        | (with_reducible apply k_d <;> intro _)
        | (with_reducible apply k_b <;> intro _)
      refine x_loop1 mixed Lt.expr_Eval_l1 Lk.expr_Eval_l1 (fun (i : Nat) => [.d (eI i)]) (fun i => [.cells [.d (eI 23), .d (eI n), .d (eI v.k), .d (eI v.n), .d (.str v.s), .d (.str name), .d d], .cells [.d (eI 0), .d (eI 0), .d (.str [])], .arr (eVs l) 3 0 false]) (fun i => i ≤ l.length ∧ coa l = coa (l.drop i)) (fun i => l.length - i) 0 rfl rfl rfl rfl (fun _ _ => ⟨rfl, rfl⟩) rfl ⟨by omega, rfl⟩ ?_
      repeat' first
        | refine st ?_
        | ((with_reducible apply go_i); (conv => whnf))
        | (with_reducible apply k_d <;> intro _)
        | (with_reducible apply k_b <;> intro _)
      intro j ⟨h6, h7⟩
      cases hy : l[j]? with
      | some w =>
        have hlt2 := (List.getElem?_eq_some_iff.1 hy).1
        have hg2 := eVs_get hy
        rw [coa_drop hy] at h7
        by_cases hk : w.k = 0
        · rw [if_pos hk] at h7
          repeat' first
            | refine st ?_
            | ((with_reducible apply go_i); (conv => whnf))
            | (with_reducible apply k_d <;> intro _)
            | (with_reducible apply k_b <;> intro _)
          exact ⟨j + 1, rfl, rfl, rfl, by omega, by omega, h7⟩
        · rw [if_neg hk] at h7
          rw [h7]
          repeat' first
            | refine st ?_
            | ((with_reducible apply go_i); (conv => whnf))
            | (with_reducible apply k_d <;> intro _)
            | (with_reducible apply k_b <;> intro _)
          all_goals rfl
      | none =>
        have hge2 := List.getElem?_eq_none_iff.1 hy
        rw [List.drop_eq_nil_of_le hge2] at h7
        rw [h7]
        repeat' first
          | refine st ?_
          | ((with_reducible apply go_i); (conv => whnf))
          | ((with_reducible apply k_pn); (· exact C.value_Null))
          | ((with_reducible apply k_pc); (· exact C.value_Null))
          | (with_reducible apply k_d <;> intro _)
          | (with_reducible apply k_b <;> intro _)
        all_goals rfl
    · obtain ⟨a, b, c, e, rfl⟩ : ∃ a b c e, l = [a, b, c, e] := by
        match l, hll.trans k with
        | [a, b, c, e], _ => exact ⟨a, b, c, e, rfl⟩
      subst h
      have hC := C.expr_related n a b c e
      repeat' first
        | refine st ?_
        | ((with_reducible apply go_i); (conv => whnf))
        | ((with_reducible apply k_pn); (· exact hC))
        | ((with_reducible apply k_pc); (· exact hC))
        | (with_reducible apply k_d <;> intro _)
        | (with_reducible apply k_b <;> intro _)
      all_goals rfl
end Go.Proofs
end
section
/- The depth of an expression. No condition. -/
set_option linter.unusedSimpArgs false
set_option linter.unusedVariables false
set_option maxRecDepth 10000
set_option maxHeartbeats 4000000
namespace Go.Proofs
open Go.Bi

def mx (l : List Nat) : Nat := l.foldl max 0
mutual
def dep : Ex → Nat
  | .mk op n v name nl args => 1 + mx (depL args)
def depL : List Ex → List Nat
  | [] => []
  | e :: es => dep e :: depL es
end
theorem depL_eq : ∀ l, depL l = l.map dep
  | [] => by simp [depL]
  | e :: es => by simp [depL, depL_eq es]
theorem dep_mk (op n : Int) (v : Vl) (name : List UInt8) (nl : Bool) (args : List Ex) : dep (.mk op n v name nl args) = 1 + mx (args.map dep) := by rw [dep, depL_eq]
theorem mx_le {l : List Nat} {B : Nat} (h : ∀ x ∈ l, x ≤ B) : mx l ≤ B := by
  unfold mx
  have key : ∀ (l : List Nat) (a : Nat), a ≤ B → (∀ x ∈ l, x ≤ B) → l.foldl max a ≤ B := by
    intro l
    induction l with
    | nil => intro a ha _; exact ha
    | cons x l ih => intro a ha hl; exact ih (max a x) (by have := hl x (by simp); omega) fun y hy => hl y (by simp [hy])
  exact key l 0 (Nat.zero_le _) h
theorem dep_bk : ∀ e : Ex, dep e ≤ e.bk := by
  refine Ex.ind fun op n v name nl args ih => ?_
  rw [dep_mk]
  have h1 : mx (args.map dep) ≤ (Ex.mk op n v name nl args).bk - 1 := mx_le fun x hx => by
    obtain ⟨a, ha, rfl⟩ := List.mem_map.1 hx
    have h2 := ih a ha
    have h3 := Ex.bk_arg (op := op) (n := n) (v := v) (name := name) (nl := nl) ha
    omega
  have := (Ex.mk op n v name nl args).bk_pos
  omega
theorem foldl_take_succ' {α β : Type} (f : β → α → β) (b : β) (l : List α) (i : Nat) (x : α) (h : l[i]? = some x) : (l.take (i + 1)).foldl f b = f ((l.take i).foldl f b) x := by
  rw [List.take_add_one, h]; simp
theorem mx_succ {l : List Nat} {i x : Nat} (h : l[i]? = some x) : mx (l.take (i + 1)) = max (mx (l.take i)) x := foldl_take_succ' _ _ _ _ _ h
theorem C.expr_depth : ∀ e : Ex, e.bk ≤ 1048576 → ∀ m : Nat, 1 ≤ m → m ≤ 25 → Pure Try.prog N.expr_depth [e.av, .d (eI m)] (.d (eI (min m (dep e) : Nat))) := by
  refine Ex.ind fun op n v name nl args ih hbk m hm1 hm2 => ?_
  obtain ⟨b1, b2, b3, b4⟩ := Ex.bk_bounds hbk
  have ih' : ∀ a ∈ args, ∀ m : Nat, 1 ≤ m → m ≤ 25 → Pure Try.prog N.expr_depth [a.av, .d (eI m)] (.d (eI (min m (dep a) : Nat))) := fun a ha => ih a ha (b4 a ha)
  clear ih
  rw [Ex.av_mk, dep_mk]
  refine F.expr_depth.go mixed rfl ?_
  have hlen := xL_len args
  have hm := xL_mem args
  have hd : SlD (ng nl (xL args)) (xL args) := sld_ng
  have hget : ∀ (i : Nat) (op' n' : Int) (v' : Vl) (name' : List UInt8) (nl' : Bool) (args' : List Ex), args[i]? = some (.mk op' n' v' name' nl' args') → (xL args)[i]? = some (xds op' n' v' name' (ng nl' (xL args'))) := fun i op' n' v' name' nl' args' h => by
    rw [← Ex.ds_mk]; exact xL_get h
  obtain ⟨d, hde⟩ : ∃ d, d = ng nl (xL args) := ⟨_, rfl⟩
  rw [← hde] at hd ⊢
  obtain ⟨es, hes⟩ : ∃ es, es = xL args := ⟨_, rfl⟩
  rw [← hes] at hlen hm hd hget
  by_cases h1 : m = 1
  · subst h1
    rw [show min 1 (1 + mx (args.map dep)) = 1 by omega]
    repeat' first
      | refine st ?_
      | ((with_reducible apply go_i); (conv => whnf))
      | (with_reducible apply k_d <;> intro _)
      | (with_reducible apply k_b <;> intro _)
    all_goals rfl
  have h2 : ¬ (m : Int) ≤ 1 := by omega
  repeat' first
    | refine st ?_
    | ((with_reducible apply go_i); (conv => whnf))
    | (with_reducible apply k_d <;> intro _)
    | (with_reducible apply k_b <;> intro _)
  refine x_loop2 mixed Lt.expr_depth_l0 Lk.expr_depth_l0 (fun (i : Nat) (t : Nat) => [.d (eI t), .d (eI i)]) (fun i t => [.cells [.d (eI op), .d (eI n), .d (eI v.k), .d (eI v.n), .d (.str v.s), .d (.str name), .d d]]) (fun i t => i ≤ args.length ∧ t = min m (1 + mx ((args.map dep).take i))) (fun i _ => args.length - i) 0 1 rfl rfl rfl rfl (fun _ _ _ => ⟨rfl, rfl⟩) rfl ⟨by omega, by simp [mx]; omega⟩ ?_
  repeat' first
    | refine st ?_
    | ((with_reducible apply go_i); (conv => whnf))
    | (with_reducible apply k_d <;> intro _)
    | (with_reducible apply k_b <;> intro _)
  intro i t ⟨h4, h5⟩
  cases hx : args[i]? with
  | some x =>
    have hlt := (List.getElem?_eq_some_iff.1 hx).1
    have hI := ih' x (List.mem_of_getElem? hx) (m - 1) (by omega) (by omega)
    have hmx := mx_succ (l := args.map dep) (i := i) (x := dep x) (by rw [List.getElem?_map, hx]; rfl)
    rw [show ((m - 1 : Nat) : Int) = (m : Int) - 1 by omega] at hI
    obtain ⟨y, hy⟩ : ∃ y, y = dep x := ⟨_, rfl⟩
    rw [← hy] at hI hmx
    obtain ⟨op', n', v', name', nl', args'⟩ := x
    rw [Ex.av_mk] at hI
    have hg := hget i _ _ _ _ _ _ hx
    repeat' first
      | refine st ?_
      | ((with_reducible apply go_i); (conv => whnf))
      | ((with_reducible apply k_pn); (· exact hI))
      | ((with_reducible apply k_pc); (· exact hI))
      | (with_reducible apply k_d <;> intro _)
      | (with_reducible apply k_b <;> intro _)
    refine ⟨i + 1, max t (1 + min (m - 1) y), ?_, rfl, rfl, by omega, by omega, ?_⟩
    · simp only [List.cons.injEq, AV.d.injEq, D.int.injEq, true_and, and_true]
      omega
    · rw [hmx]; omega
  | none =>
    have hge := List.getElem?_eq_none_iff.1 hx
    rw [List.take_of_length_le (by simpa using hge)] at h5
    repeat' first
      | refine st ?_
      | ((with_reducible apply go_i); (conv => whnf))
      | (with_reducible apply k_d <;> intro _)
      | (with_reducible apply k_b <;> intro _)
    rw [h5]
theorem C.expr_Depth (e : Ex) (he : e.bk ≤ 1048576) : Pure Try.prog N.expr_Depth [e.av] (.d (eI (min 25 (dep e) : Nat))) := by
  have h := C.expr_depth e he 25 (by omega) (by omega)
  obtain ⟨op, n, v, name, nl, args⟩ := e
  rw [Ex.av_mk] at h ⊢
  refine F.expr_Depth.go mixed rfl ?_
  repeat' first
    | refine st ?_
    | ((with_reducible apply go_i); (conv => whnf))
    | ((with_reducible apply k_pn); (· exact h))
    | ((with_reducible apply k_pc); (· exact h))
    | (with_reducible apply k_d <;> intro _)
    | (with_reducible apply k_b <;> intro _)
end Go.Proofs
end
section
/- Kinds of operators. No condition. -/
set_option linter.unusedSimpArgs false
set_option linter.unusedVariables false
set_option maxRecDepth 10000
set_option maxHeartbeats 4000000
namespace Go.Proofs
open Go.Bi

def uniF (k : Int) : List Int → Int × Bool
  | [] => (k, true)
  | x :: l => if x = 0 then uniF k l else if k ≠ 0 ∧ k ≠ x then (0, false) else uniF x l
def uni (l : List Int) : Int × Bool := uniF 0 l
theorem uniF_drop {k : Int} {l : List Int} {i : Nat} {x : Int} (h : l[i]? = some x) : uniF k (l.drop i) = if x = 0 then uniF k (l.drop (i + 1)) else if k ≠ 0 ∧ k ≠ x then (0, false) else uniF x (l.drop (i + 1)) := by
  obtain ⟨hlt, he⟩ := List.getElem?_eq_some_iff.1 h
  rw [List.drop_eq_getElem_cons hlt, he]; rfl
theorem C.expr_unite (l : List Int) (hl : l.length ≤ 1048577) (d : D) (hd : SlD d (eIs l)) : Pure Try.prog N.expr_unite [.d d] (.tup [.d (eI (uni l).1), .d (.bool (uni l).2)]) := by
  refine F.expr_unite.go mixed rfl ?_
  have h1 := eIs_len l
  have hm := eIs_mem l
  repeat' first
    | refine st ?_
    | ((with_reducible apply go_i); (conv => whnf))
    | (with_reducible apply k_d <;> intro _)
    | (with_reducible apply k_b <;> intro _)
  refine x_loop2 mixed Lt.expr_unite_l0 Lk.expr_unite_l0 (fun (i : Nat) (k : Int) => [.d (eI k), .d (eI i)]) (fun i k => []) (fun i k => i ≤ l.length ∧ uni l = uniF k (l.drop i)) (fun i _ => l.length - i) 0 0 rfl rfl rfl rfl (fun _ _ _ => ⟨rfl, rfl⟩) rfl ⟨by omega, rfl⟩ ?_
  repeat' first
    | refine st ?_
    | ((with_reducible apply go_i); (conv => whnf))
    | (with_reducible apply k_d <;> intro _)
    | (with_reducible apply k_b <;> intro _)
  intro i k ⟨h2, h3⟩
  cases hx : l[i]? with
  | some x =>
    have hlt := (List.getElem?_eq_some_iff.1 hx).1
    have hg := eIs_get hx
    rw [uniF_drop hx] at h3
    by_cases hx0 : x = 0
    · rw [if_pos hx0] at h3
      repeat' first
        | refine st ?_
        | ((with_reducible apply go_i); (conv => whnf))
        | (with_reducible apply k_d <;> intro _)
        | (with_reducible apply k_b <;> intro _)
      exact ⟨i + 1, _, rfl, rfl, rfl, by omega, by omega, h3⟩
    · rw [if_neg hx0] at h3
      by_cases hk : k ≠ 0 ∧ k ≠ x
      · rw [if_pos hk] at h3
        rw [h3]
        obtain ⟨hk1, hk2⟩ := hk
        repeat' first
          | refine st ?_
          | ((with_reducible apply go_i); (conv => whnf))
          | (with_reducible apply k_d <;> intro _)
          | (with_reducible apply k_b <;> intro _)
        all_goals rfl
      · rw [if_neg hk] at h3
        by_cases hk0 : k = 0
        · repeat' first
            | refine st ?_
            | ((with_reducible apply go_i); (conv => whnf))
            | (with_reducible apply k_d <;> intro _)
            | (with_reducible apply k_b <;> intro _)
          exact ⟨i + 1, _, rfl, rfl, rfl, by omega, by omega, h3⟩
        · have hkx : k = x := by omega
          repeat' first
            | refine st ?_
            | ((with_reducible apply go_i); (conv => whnf))
            | (with_reducible apply k_d <;> intro _)
            | (with_reducible apply k_b <;> intro _)
          exact ⟨i + 1, _, rfl, rfl, rfl, by omega, by omega, h3⟩
  | none =>
    have hge := List.getElem?_eq_none_iff.1 hx
    rw [List.drop_eq_nil_of_le hge] at h3
    rw [h3]
    repeat' first
      | refine st ?_
      | ((with_reducible apply go_i); (conv => whnf))
      | (with_reducible apply k_d <;> intro _)
      | (with_reducible apply k_b <;> intro _)
    all_goals rfl
def allK (l : List Int) (c : Int) : Bool := l.all fun x => decide (x = c ∨ x = 0)
theorem uni_all (c : Int) (hc : c ≠ 0) : ∀ (l : List Int) (k : Int), ((uniF k (l ++ [c])).2 && decide ((uniF k (l ++ [c])).1 = c)) = (decide (k = 0 ∨ k = c) && allK l c)
  | [], k => by
    simp only [List.nil_append, uniF, if_neg hc, allK, List.all_nil, Bool.and_true]
    by_cases h : k ≠ 0 ∧ k ≠ c
    · rw [if_pos h, decide_eq_false (show ¬ (k = 0 ∨ k = c) by omega)]; rfl
    · rw [if_neg h, decide_eq_true (show k = 0 ∨ k = c by omega)]; simp
  | x :: l, k => by
    have ih := uni_all c hc l
    simp only [List.cons_append, uniF, allK, List.all_cons] at ih ⊢
    by_cases hx : x = 0
    · rw [if_pos hx, ih k, decide_eq_true (show x = c ∨ x = 0 from .inr hx)]; simp
    · rw [if_neg hx]
      by_cases h : k ≠ 0 ∧ k ≠ x
      · rw [if_pos h]
        by_cases hxc : x = c
        · rw [decide_eq_false (show ¬ (k = 0 ∨ k = c) by omega)]; simp
        · rw [decide_eq_false (show ¬ (x = c ∨ x = 0) by omega)]; simp
      · rw [if_neg h, ih x]
        by_cases hxc : x = c
        · rw [decide_eq_true (show x = 0 ∨ x = c from .inr hxc), decide_eq_true (show x = c ∨ x = 0 from .inl hxc), decide_eq_true (show k = 0 ∨ k = c by omega)]; simp
        · rw [decide_eq_false (show ¬ (x = 0 ∨ x = c) by omega), decide_eq_false (show ¬ (x = c ∨ x = 0) by omega)]; simp
theorem C.clone_nil : Pure Try.prog N.slices_Clone__int_int [.d .nil] (.d .nil) := by
  refine F.slices_Clone__int_int.go mixed rfl ?_
  repeat' first
    | refine st ?_
    | ((with_reducible apply go_i); (conv => whnf))
    | (with_reducible apply k_d <;> intro _)
    | (with_reducible apply k_b <;> intro _)
theorem C.clone_sl (es : List (List D)) (hl : es.length ≤ 1048577) (hm : ∀ e ∈ es, e.length = 1) : CallSpec Try.prog N.slices_Clone__int_int [.d (.sl es)] [] (fun r os => r = .arr 0 es.length ∧ os = [.arr es 1 0 false]) := by
  refine F.slices_Clone__int_int.goO mixed rfl ?_
  have h0 : ([] : List (List D)).length = 0 := rfl
  have h00 : (([] : List (List D)) ++ es).length = es.length := rfl
  have hb : (([] : List (List D)).length + es.length) * 8 ≤ 140737488355328 ∧ ([] : List (List D)).length + es.length ≤ 9223372036854775807 := by rw [h0]; omega
  repeat' first
    | refine st ?_
    | ((with_reducible apply go_i); (conv => whnf))
    | (with_reducible apply k_d <;> intro _)
    | (with_reducible apply k_b <;> intro _)
  all_goals (refine ⟨rfl, ?_⟩; cases es <;> rfl)
theorem eIs_app (l : List Int) (x : Int) : eIs l ++ [[eI x]] = eIs (l ++ [x]) := by simp [eIs]
theorem C.expr_all (l : List Int) (hl : l.length ≤ 1048576) (d : D) (hd : SlD d (eIs l)) (c : Int) (hc : c ≠ 0) : Pure Try.prog N.expr_all [.d d, .d (eI c)] (.d (.bool (allK l c))) := by
  refine F.expr_all.go mixed rfl ?_
  have h1 := eIs_len l
  have hm := eIs_mem l
  have hU := C.expr_unite (l ++ [c]) (by simp; omega) (.sl (eIs (l ++ [c]))) sld_sl
  have hres := uni_all c hc l 0
  rw [show decide ((0 : Int) = 0 ∨ (0 : Int) = c) = true from rfl, Bool.true_and] at hres
  rw [← hres]
  unfold uni at hU
  rw [← eIs_app] at hU
  obtain ⟨x, b⟩ : ∃ x b, uniF 0 (l ++ [c]) = (x, b) := ⟨_, _, rfl⟩
  rcases hd with ⟨rfl, he⟩ | rfl
  · rw [he] at hU
    repeat' first
      | refine st ?_
      | ((with_reducible apply go_i); (conv => whnf))
      | ((with_reducible apply k_pn); (· first | exact C.clone_nil | exact hU))
      | ((with_reducible apply k_pc); (· first | exact C.clone_nil | exact hU))
      | (with_reducible apply k_d <;> intro _)
      | (with_reducible apply k_b <;> intro _)
    all_goals simp [*]
  · have hC := C.clone_sl (eIs l) (by omega) hm
    have ha : (eIs l ++ [[eI c]]).length = l.length + 1 := by simp [h1]
    repeat' first
      | refine st ?_
      | ((with_reducible apply go_i); (conv => whnf))
      | ((with_reducible apply k_pn); (· exact hU))
      | ((with_reducible apply k_pc); (· exact hU))
      | ((with_reducible apply k_nc); (· first | exact hC); (try rintro _ _ ⟨rfl, rfl⟩))
      | ((with_reducible apply k_pr); (· first | exact hC))
      | ((with_reducible apply k_cs); (· first | exact hC); (try rintro _ _ ⟨rfl, rfl⟩))
      | ((with_reducible apply k_cal); refine st ?_; (with_reducible apply k_chk); (· exact rfl); refine st ?_; (with_reducible apply k_cs); (· first | exact hC); (try rintro _ _ ⟨rfl, rfl⟩))
      | (with_reducible apply k_d <;> intro _)
      | (with_reducible apply k_b <;> intro _)
    all_goals simp [*]
end Go.Proofs
end
section
/- The kind of an operator's answer. No condition. -/
set_option linter.unusedSimpArgs false
set_option linter.unusedVariables false
set_option maxRecDepth 10000
set_option maxHeartbeats 4000000
namespace Go.Proofs
open Go.Bi

def res (op : Int) (v : Vl) (l : List Int) : Int × Bool :=
  if op = 1 then (v.k, true)
  else if op = 4 ∨ op = 5 ∨ op = 6 then (3, allK l 3)
  else if op = 7 ∨ op = 8 ∨ op = 9 ∨ op = 10 ∨ op = 11 ∨ op = 12 then (3, (uni l).2)
  else if op = 19 then (2, allK l 2)
  else if op = 20 then (1, allK l 2)
  else if op = 21 then (3, true)
  else if op = 22 then ((uni (l.drop 1)).1, (uni (l.drop 1)).2 && allK (l.take 1) 3)
  else if op = 23 then uni l
  else if op = 24 then (3, allK l 1) else (1, allK l 1)
theorem eIs_drop (l : List Int) (i : Nat) : (eIs l).drop i = eIs (l.drop i) := by simp [eIs]
theorem eIs_take (l : List Int) (i : Nat) : (eIs l).take i = eIs (l.take i) := by simp [eIs]
theorem C.expr_result (op n : Int) (v : Vl) (name : List UInt8) (d0 : D) (l : List Int) (hl : l.length ≤ 1048576) (d : D) (hd : SlD d (eIs l)) (h22 : op = 22 → 1 ≤ l.length) : Pure Try.prog N.expr_result [eX op n v name d0, .d d] (.tup [.d (eI (res op v l).1), .d (.bool (res op v l).2)]) := by
  refine F.expr_result.go mixed rfl ?_
  have h1 := eIs_len l
  have hm := eIs_mem l
  by_cases h22' : op = 22
  · subst h22'
    have hl1 := h22 rfl
    rcases hd with ⟨rfl, he⟩ | rfl
    · rw [he] at h1; simp at h1; omega
    have hU := C.expr_unite (l.drop 1) (by simp; omega) (.sl (eIs (l.drop 1))) sld_sl
    have hA := C.expr_all (l.take 1) (by simp; omega) (.sl (eIs (l.take 1))) sld_sl 3 (by decide)
    have hcut : ((eIs l).drop (1 : Int).toNat).take (((eIs l).length : Int).toNat - (1 : Int).toNat) = eIs (l.drop 1) := by
      rw [← eIs_drop, show (1 : Int).toNat = 1 from rfl, List.take_of_length_le]
      simp
    have hcut2 : ((eIs l).drop ((0 : Nat) : Int).toNat).take ((1 : Int).toNat - ((0 : Nat) : Int).toNat) = eIs (l.take 1) := by
      rw [← eIs_take]; rfl
    rw [show res 22 v l = ((uni (l.drop 1)).1, (uni (l.drop 1)).2 && allK (l.take 1) 3) from rfl]
    obtain ⟨⟨k, b⟩, hkb⟩ : ∃ kb, uni (l.drop 1) = kb := ⟨_, rfl⟩
    rw [hkb] at hU ⊢
    obtain ⟨z, hz⟩ : ∃ z, allK (l.take 1) 3 = z := ⟨_, rfl⟩
    rw [hz] at hA ⊢
    obtain ⟨e1, he1⟩ : ∃ e1, e1 = eIs (l.drop 1) := ⟨_, rfl⟩
    obtain ⟨e2, he2⟩ : ∃ e2, e2 = eIs (l.take 1) := ⟨_, rfl⟩
    rw [← he1] at hU hcut
    rw [← he2] at hA hcut2
    have hel : ((eIs l).length : Int) = l.length := by rw [h1]
    obtain ⟨es, hes⟩ : ∃ es, es = eIs l := ⟨_, rfl⟩
    rw [← hes] at hcut hcut2 hel hm h1 ⊢
    cases b with
    | false =>
      repeat' first
        | refine st ?_
        | ((with_reducible apply go_i); (conv => whnf))
        | (with_reducible apply k_d <;> intro _)
        | (with_reducible apply k_b <;> intro _)
      all_goals (try rw [hcut])
      repeat' first
        | refine st ?_
        | ((with_reducible apply go_i); (conv => whnf))
        | ((with_reducible apply k_pn); (· exact hU))
        | ((with_reducible apply k_pc); (· exact hU))
        | (with_reducible apply k_d <;> intro _)
        | (with_reducible apply k_b <;> intro _)
      all_goals rfl
    | true =>
      repeat' first
        | refine st ?_
        | ((with_reducible apply go_i); (conv => whnf))
        | (with_reducible apply k_d <;> intro _)
        | (with_reducible apply k_b <;> intro _)
      all_goals (try rw [hcut])
      repeat' first
        | refine st ?_
        | ((with_reducible apply go_i); (conv => whnf))
        | ((with_reducible apply k_pn); (· exact hU))
        | ((with_reducible apply k_pc); (· exact hU))
        | (with_reducible apply k_d <;> intro _)
        | (with_reducible apply k_b <;> intro _)
      all_goals (try rw [hcut2])
      repeat' first
        | refine st ?_
        | ((with_reducible apply go_i); (conv => whnf))
        | ((with_reducible apply k_pn); (· exact hA))
        | ((with_reducible apply k_pc); (· exact hA))
        | (with_reducible apply k_d <;> intro _)
        | (with_reducible apply k_b <;> intro _)
      all_goals rfl
  have A3 := C.expr_all l hl d hd 3 (by decide)
  have A2 := C.expr_all l hl d hd 2 (by decide)
  have A1 := C.expr_all l hl d hd 1 (by decide)
  have U := C.expr_unite l (by omega) d hd
  repeat' first
    | refine st ?_
    | ((with_reducible apply go_i); (conv => whnf))
    | ((with_reducible apply k_pn); (· first | exact A3 | exact A2 | exact A1 | exact U))
    | ((with_reducible apply k_pc); (· first | exact A3 | exact A2 | exact A1 | exact U))
    | (with_reducible apply k_d <;> intro _)
    | (with_reducible apply k_b <;> intro _)
  all_goals first
    | (subst_vars; rfl)
    | (simp only [res]; rw [if_neg (by omega), if_neg (by omega), if_neg (by omega), if_neg (by omega), if_neg (by omega), if_neg (by omega), if_neg (by omega), if_neg (by omega), if_neg (by omega)])
end Go.Proofs
end
section
/- Check: the kind of an expression. No condition. -/
set_option linter.unusedSimpArgs false
set_option linter.unusedVariables false
set_option maxRecDepth 10000
set_option maxHeartbeats 4000000
namespace Go.Proofs
open Go.Bi

/-- The first error. -/
def fe : List (Int × Int) → Int
  | [] => 0
  | r :: rs => if r.2 = 0 then fe rs else r.2
def ckF (op n : Int) (v : Vl) (name : List UInt8) (ks : List Int) (k : Nat) (rs : List (Int × Int)) : Int × Int :=
  if (cnt op k).2 = false then (0, 7) else if fmd op n v name k = false then (0, 8)
  else if op = 2 then (if 0 ≤ n ∧ n < ks.length then (ks.getD n.toNat 0, 0) else (0, 13))
  else if fe rs = 0 then (if (res op v (rs.map Prod.fst)).2 then ((res op v (rs.map Prod.fst)).1, 0) else (0, 7)) else (0, fe rs)
mutual
def chk (ks : List Int) : Ex → Int × Int
  | .mk op n v name nl args => ckF op n v name ks args.length (chkL ks args)
def chkL (ks : List Int) : List Ex → List (Int × Int)
  | [] => []
  | e :: es => chk ks e :: chkL ks es
end
theorem chkL_eq (ks : List Int) : ∀ l, chkL ks l = l.map (chk ks)
  | [] => by simp [chkL]
  | e :: es => by simp [chkL, chkL_eq ks es]
theorem chk_mk (ks : List Int) (op n : Int) (v : Vl) (name : List UInt8) (nl : Bool) (args : List Ex) : chk ks (.mk op n v name nl args) = ckF op n v name ks args.length (args.map (chk ks)) := by rw [chk, chkL_eq]
theorem fe_drop {l : List (Int × Int)} {i : Nat} {x : Int × Int} (h : l[i]? = some x) : fe (l.drop i) = if x.2 = 0 then fe (l.drop (i + 1)) else x.2 := by
  obtain ⟨hlt, he⟩ := List.getElem?_eq_some_iff.1 h
  rw [List.drop_eq_getElem_cons hlt, he]; rfl
def Kv (rs : List (Int × Int)) (i : Nat) : List (List D) := eIs ((rs.take i).map Prod.fst)
theorem Kv_len (rs : List (Int × Int)) (i : Nat) (h : i ≤ rs.length) : (Kv rs i).length = i := by
  unfold Kv
  rw [eIs_len, List.length_map, List.length_take]
  omega
theorem Kv_succ {rs : List (Int × Int)} {i : Nat} {x : Int × Int} (h : rs[i]? = some x) : Kv rs i ++ [[eI x.1]] = Kv rs (i + 1) := by
  unfold Kv
  rw [List.take_add_one, h]
  simp [eIs]
theorem Kv_end {rs : List (Int × Int)} {i : Nat} (h : rs.length ≤ i) : Kv rs i = eIs (rs.map Prod.fst) := by
  unfold Kv
  rw [List.take_of_length_le h]
theorem ckF_known {op n : Int} {v : Vl} {name : List UInt8} {ks : List Int} {k : Nat} {rs : List (Int × Int)} (h : fmd op n v name k = true) (h2 : op ≠ 2) : ckF op n v name ks k rs = if fe rs = 0 then (if (res op v (rs.map Prod.fst)).2 then ((res op v (rs.map Prod.fst)).1, 0) else (0, 7)) else (0, fe rs) := by
  have hc := cnt_case (fmd_cnt h)
  unfold ckF
  have : (cnt op k).2 = true := by
    unfold cnt
    repeat' split
    all_goals first | rfl | omega
  rw [this, h, if_neg (by simp), if_neg (by simp), if_neg h2]
theorem C.expr_check (ks : List Int) (hks : ks.length ≤ 1048576) (dk : D) (hdk : SlD dk (eIs ks)) : ∀ e : Ex, e.bk ≤ 1048576 → Pure Try.prog N.expr_check [e.av, .d dk] (.tup [.d (eI (chk ks e).1), .d (eI (chk ks e).2)]) := by
  refine Ex.ind fun op n v name nl args ih hbk => ?_
  obtain ⟨b1, b2, b3, b4⟩ := Ex.bk_bounds hbk
  have ih' : ∀ a ∈ args, Pure Try.prog N.expr_check [a.av, .d dk] (.tup [.d (eI (chk ks a).1), .d (eI (chk ks a).2)]) := fun a ha => ih a ha (b4 a ha)
  clear ih
  rw [Ex.av_mk, chk_mk]
  refine F.expr_check.go mixed rfl ?_
  have hlen := xL_len args
  have hF := C.expr_formed op n v name (ng nl (xL args)) (xL args) sld_ng b2 (by omega)
  rw [hlen] at hF
  have hC := C.expr_counts op args.length
  have hm := xL_mem args
  have hd : SlD (ng nl (xL args)) (xL args) := sld_ng
  have hget : ∀ (i : Nat) (op' n' : Int) (v' : Vl) (name' : List UInt8) (nl' : Bool) (args' : List Ex), args[i]? = some (.mk op' n' v' name' nl' args') → (xL args)[i]? = some (xds op' n' v' name' (ng nl' (xL args'))) := fun i op' n' v' name' nl' args' h => by
    rw [← Ex.ds_mk]; exact xL_get h
  obtain ⟨d, hde⟩ : ∃ d, d = ng nl (xL args) := ⟨_, rfl⟩
  rw [← hde] at hF hd ⊢
  obtain ⟨es, hes⟩ : ∃ es, es = xL args := ⟨_, rfl⟩
  rw [← hes] at hlen hm hd hget
  rw [← hlen] at hC
  obtain ⟨rs, hrs⟩ : ∃ rs, rs = args.map (chk ks) := ⟨_, rfl⟩
  have hrl : rs.length = args.length := by rw [hrs, List.length_map]
  have hrg : ∀ (i : Nat) (x : Ex), args[i]? = some x → rs[i]? = some (chk ks x) := fun i x h => by rw [hrs, List.getElem?_map, h]; rfl
  rw [← hrs]
  cases hk : (cnt op args.length).2 with
  | false =>
    have e : ckF op n v name ks args.length rs = (0, 7) := by unfold ckF; rw [hk, if_pos rfl]
    rw [e]
    rw [hlen, hk, ← hlen] at hC
    repeat' first
      | refine st ?_
      | ((with_reducible apply go_i); (conv => whnf))
      | ((with_reducible apply k_pn); (· exact hC))
      | ((with_reducible apply k_pc); (· exact hC))
      | (with_reducible apply k_d <;> intro _)
      | (with_reducible apply k_b <;> intro _)
    all_goals rfl
  | true =>
  rw [hlen, hk, ← hlen] at hC
  cases hf : fmd op n v name args.length with
  | false =>
    have e : ckF op n v name ks args.length rs = (0, 8) := by unfold ckF; rw [hk, if_neg (by simp), hf, if_pos rfl]
    rw [e]
    rw [hf] at hF
    repeat' first
      | refine st ?_
      | ((with_reducible apply go_i); (conv => whnf))
      | ((with_reducible apply k_pn); (· first | exact hC | exact hF))
      | ((with_reducible apply k_pc); (· first | exact hC | exact hF))
      | (with_reducible apply k_d <;> intro _)
      | (with_reducible apply k_b <;> intro _)
    all_goals rfl
  | true =>
  rw [hf] at hF
  have hkl := eIs_len ks
  have hkm := eIs_mem ks
  by_cases h2 : op = 2
  · subst h2
    by_cases hn : 0 ≤ n ∧ n < ks.length
    · have e : ckF 2 n v name ks args.length rs = (ks.getD n.toNat 0, 0) := by unfold ckF; rw [hk, if_neg (by simp), hf, if_neg (by simp), if_pos rfl, if_pos hn]
      rw [e]
      obtain ⟨n1, n2⟩ := hn
      have hx : ks[n.toNat]? = some (ks.getD n.toNat 0) := by
        rw [List.getD_eq_getElem?_getD, List.getElem?_eq_getElem (by omega)]; rfl
      have hg := eIs_get hx
      have n3 : n < (eIs ks).length := by omega
      repeat' first
        | refine st ?_
        | ((with_reducible apply go_i); (conv => whnf))
        | ((with_reducible apply k_pn); (· first | exact hC | exact hF))
        | ((with_reducible apply k_pc); (· first | exact hC | exact hF))
        | (with_reducible apply k_d <;> intro _)
        | (with_reducible apply k_b <;> intro _)
      all_goals rfl
    · have e : ckF 2 n v name ks args.length rs = (0, 13) := by unfold ckF; rw [hk, if_neg (by simp), hf, if_neg (by simp), if_pos rfl, if_neg hn]
      rw [e]
      by_cases hn0 : n < 0
      · repeat' first
          | refine st ?_
          | ((with_reducible apply go_i); (conv => whnf))
          | ((with_reducible apply k_pn); (· first | exact hC | exact hF))
          | ((with_reducible apply k_pc); (· first | exact hC | exact hF))
          | (with_reducible apply k_d <;> intro _)
          | (with_reducible apply k_b <;> intro _)
        all_goals rfl
      · have n3 : (eIs ks).length ≤ n := by omega
        repeat' first
          | refine st ?_
          | ((with_reducible apply go_i); (conv => whnf))
          | ((with_reducible apply k_pn); (· first | exact hC | exact hF))
          | ((with_reducible apply k_pc); (· first | exact hC | exact hF))
          | (with_reducible apply k_d <;> intro _)
          | (with_reducible apply k_b <;> intro _)
        all_goals rfl
  have hq := ckF_known (ks := ks) (rs := rs) hf h2
  obtain ⟨q, hqe⟩ : ∃ q, q = ckF op n v name ks args.length rs := ⟨_, rfl⟩
  rw [← hqe] at hq ⊢
  have hcnt := cnt_case (fmd_cnt hf)
  repeat' first
    | refine st ?_
    | ((with_reducible apply go_i); (conv => whnf))
    | ((with_reducible apply k_pn); (· first | exact hC | exact hF))
    | ((with_reducible apply k_pc); (· first | exact hC | exact hF))
    | (with_reducible apply k_d <;> intro _)
    | (with_reducible apply k_b <;> intro _)
  refine x_nil 8 1 rfl rfl ?_
  repeat' first
    | refine st ?_
    | ((with_reducible apply go_i); (conv => whnf))
    | (with_reducible apply k_d <;> intro _)
    | (with_reducible apply k_b <;> intro _)
  refine x_loop2 mixed Lt.expr_check_l0 Lk.expr_check_l0 (fun (i : Nat) (w : List (List D) × Bool) => [.arr 1 w.1.length, .d (eI i)]) (fun i w => [.cells [.d (eI op), .d (eI n), .d (eI v.k), .d (eI v.n), .d (.str v.s), .d (.str name), .d d], .arr w.1 1 0 w.2]) (fun i w => i ≤ args.length ∧ w.1 = Kv rs i ∧ w.2 = w.1.isEmpty ∧ fe rs = fe (rs.drop i)) (fun i _ => args.length - i) 0 ([], true) rfl rfl rfl rfl (fun _ _ _ => ⟨rfl, rfl⟩) rfl ⟨by omega, rfl, rfl, rfl⟩ ?_
  repeat' first
    | refine st ?_
    | ((with_reducible apply go_i); (conv => whnf))
    | (with_reducible apply k_d <;> intro _)
    | (with_reducible apply k_b <;> intro _)
  intro i w ⟨h4, h5, h6, h7⟩
  obtain ⟨A, b⟩ := w
  dsimp only at h5 h6 h7 ⊢
  have hAl : A.length = i := by rw [h5]; exact Kv_len rs i (by omega)
  have hAm : ∀ e ∈ A, e.length = 1 := by rw [h5]; exact eIs_mem _
  cases hx : args[i]? with
  | some x =>
    have hlt := (List.getElem?_eq_some_iff.1 hx).1
    have hI := ih' x (List.mem_of_getElem? hx)
    have hr := hrg i x hx
    have hs := Kv_succ hr
    rw [fe_drop hr] at h7
    rw [← h5] at hs
    obtain ⟨⟨k, er⟩, hke⟩ : ∃ ke, ke = chk ks x := ⟨_, rfl⟩
    rw [← hke] at hI hs h7
    obtain ⟨op', n', v', name', nl', args'⟩ := x
    rw [Ex.av_mk] at hI
    have hg := hget i _ _ _ _ _ _ hx
    by_cases her : er = 0
    · rw [if_pos her] at h7
      repeat' first
        | refine st ?_
        | ((with_reducible apply go_i); (conv => whnf))
        | ((with_reducible apply k_pn); (· exact hI))
        | ((with_reducible apply k_pc); (· exact hI))
        | (with_reducible apply k_d <;> intro _)
        | (with_reducible apply k_b <;> intro _)
      exact ⟨i + 1, (A ++ [[eI k]], false), rfl, rfl, rfl, by omega, by omega, hs, by simp, h7⟩
    · rw [if_neg her] at h7
      dsimp only at h7
      rw [h7, if_neg her] at hq
      rw [hq]
      repeat' first
        | refine st ?_
        | ((with_reducible apply go_i); (conv => whnf))
        | ((with_reducible apply k_pn); (· exact hI))
        | ((with_reducible apply k_pc); (· exact hI))
        | (with_reducible apply k_d <;> intro _)
        | (with_reducible apply k_b <;> intro _)
      all_goals rfl
  | none =>
    have hge := List.getElem?_eq_none_iff.1 hx
    rw [List.drop_eq_nil_of_le (by omega)] at h7
    rw [h7, if_pos (show fe [] = 0 from rfl)] at hq
    rw [Kv_end (by omega)] at h5
    clear hrg
    obtain ⟨l, hl⟩ : ∃ l, l = rs.map Prod.fst := ⟨_, rfl⟩
    have hll : l.length = args.length := by rw [hl, List.length_map, hrl]
    rw [← hl] at h5 hq
    have h22 : op = 22 → 1 ≤ l.length := fun e => by omega
    obtain ⟨⟨kr, br⟩, hre⟩ : ∃ r, r = res op v l := ⟨_, rfl⟩
    cases b with
    | true =>
      have hA0 : A = [] := by simpa using h6
      subst hA0
      have hR := C.expr_result op n v name d l (by omega) .nil (.inl ⟨rfl, h5.symm⟩) h22
      rw [← hre] at hR hq
      rw [hq]
      cases br with
      | true =>
        repeat' first
          | refine st ?_
          | ((with_reducible apply go_i); (conv => whnf))
          | ((with_reducible apply k_pn); (· exact hR))
          | ((with_reducible apply k_pc); (· exact hR))
          | (with_reducible apply k_d <;> intro _)
          | (with_reducible apply k_b <;> intro _)
        all_goals rfl
      | false =>
        repeat' first
          | refine st ?_
          | ((with_reducible apply go_i); (conv => whnf))
          | ((with_reducible apply k_pn); (· exact hR))
          | ((with_reducible apply k_pc); (· exact hR))
          | (with_reducible apply k_d <;> intro _)
          | (with_reducible apply k_b <;> intro _)
        all_goals rfl
    | false =>
      have hR := C.expr_result op n v name d l (by omega) (.sl (eIs l)) sld_sl h22
      rw [← hre, ← h5] at hR
      rw [← hre] at hq
      rw [hq]
      cases br with
      | true =>
        repeat' first
          | refine st ?_
          | ((with_reducible apply go_i); (conv => whnf))
          | ((with_reducible apply k_pn); (· exact hR))
          | ((with_reducible apply k_pc); (· exact hR))
          | (with_reducible apply k_d <;> intro _)
          | (with_reducible apply k_b <;> intro _)
        all_goals rfl
      | false =>
        repeat' first
          | refine st ?_
          | ((with_reducible apply go_i); (conv => whnf))
          | ((with_reducible apply k_pn); (· exact hR))
          | ((with_reducible apply k_pc); (· exact hR))
          | (with_reducible apply k_d <;> intro _)
          | (with_reducible apply k_b <;> intro _)
        all_goals rfl
theorem C.expr_Check (ks : List Int) (hks : ks.length ≤ 1048576) (dk : D) (hdk : SlD dk (eIs ks)) (e : Ex) (he : e.bk ≤ 1048576) : Pure Try.prog N.expr_Check [e.av, .d dk] (.tup [.d (eI (if 24 < dep e then (0, 26) else chk ks e).1), .d (eI (if 24 < dep e then ((0, 26) : Int × Int) else chk ks e).2)]) := by
  have hD := C.expr_Depth e he
  have hC := C.expr_check ks hks dk hdk e he
  obtain ⟨kr, hre⟩ : ∃ r, r = chk ks e := ⟨_, rfl⟩
  obtain ⟨dp, hdp⟩ : ∃ dp, dp = dep e := ⟨_, rfl⟩
  rw [← hre] at hC ⊢
  rw [← hdp] at hD ⊢
  obtain ⟨op, n, v, name, nl, args⟩ := e
  rw [Ex.av_mk] at hC hD ⊢
  refine F.expr_Check.go mixed rfl ?_
  by_cases h : 24 < dp
  · rw [if_pos h]
    have h2 : (24 : Int) < ((min 25 dp : Nat) : Int) := by omega
    repeat' first
      | refine st ?_
      | ((with_reducible apply go_i); (conv => whnf))
      | ((with_reducible apply k_pn); (· first | exact hD | exact hC))
      | ((with_reducible apply k_pc); (· first | exact hD | exact hC))
      | (with_reducible apply k_d <;> intro _)
      | (with_reducible apply k_b <;> intro _)
    all_goals rfl
  · rw [if_neg h]
    have h2 : ((min 25 dp : Nat) : Int) ≤ 24 := by omega
    repeat' first
      | refine st ?_
      | ((with_reducible apply go_i); (conv => whnf))
      | ((with_reducible apply k_pn); (· first | exact hD | exact hC))
      | ((with_reducible apply k_pc); (· first | exact hD | exact hC))
      | (with_reducible apply k_d <;> intro _)
      | (with_reducible apply k_b <;> intro _)
    all_goals rfl
end Go.Proofs
end
section
/- The examples of the chapter. No condition. -/
set_option linter.unusedSimpArgs false
set_option linter.unusedVariables false
set_option maxRecDepth 10000
set_option maxHeartbeats 4000000
namespace Go.Proofs
open Go.Bi

def nuE (n : Int) : Ex := .mk 1 0 ⟨1, n, []⟩ [] true []
def noE : Ex := .mk 1 0 vNull [] true []
def aE : Ex := .mk 1 0 ⟨2, 0, [97]⟩ [] true []
def twE (op : Int) (a b : Ex) : Ex := .mk op 0 vNull [] false [a, b]
def isE (a : Ex) : Ex := .mk 21 0 vNull [] false [a]
theorem C.law_num (n : Int) : Pure Try.prog N.bt_law11_num [.d (eI n)] (nuE n).av := by
  rw [nuE, Ex.av_mk]
  refine F.bt_law11_num.go mixed rfl ?_
  repeat' first
    | refine st ?_
    | ((with_reducible apply go_i); (conv => whnf))
    | (with_reducible apply k_d <;> intro _)
    | (with_reducible apply k_b <;> intro _)
  all_goals rfl
theorem C.law_two (op : Int) (a b : Ex) : Pure Try.prog N.bt_law11_two [.d (eI op), a.av, b.av] (twE op a b).av := by
  rw [twE, Ex.av_mk]
  obtain ⟨o1, n1, v1, m1, l1, a1⟩ := a
  obtain ⟨o2, n2, v2, m2, l2, a2⟩ := b
  rw [Ex.av_mk, Ex.av_mk]
  refine F.bt_law11_two.go mixed rfl ?_
  repeat' first
    | refine st ?_
    | ((with_reducible apply go_i); (conv => whnf))
    | (with_reducible apply k_d <;> intro _)
    | (with_reducible apply k_b <;> intro _)
  all_goals (simp only [xL, List.map_cons, List.map_nil, Ex.ds_mk]; rfl)
theorem nuE_av (n : Int) : (nuE n).av = eX 1 0 ⟨1, n, []⟩ [] .nil := by rw [nuE, Ex.av_mk]; rfl
theorem noE_av : noE.av = eX 1 0 vNull [] .nil := by rw [noE, Ex.av_mk]; rfl
theorem aE_av : aE.av = eX 1 0 ⟨2, 0, [97]⟩ [] .nil := by rw [aE, Ex.av_mk]; rfl
theorem twE_av (op : Int) (a b : Ex) : (twE op a b).av = eX op 0 vNull [] (ng false (xL [a, b])) := by rw [twE, Ex.av_mk]
theorem isE_av (a : Ex) : (isE a).av = eX 21 0 vNull [] (.sl [a.ds]) := by rw [isE, Ex.av_mk]; rfl
def ckT (ks : List Int) (e : Ex) : Int × Int := if 24 < dep e then (0, 26) else chk ks e
theorem ck1 : ckT [] (twE 23 noE aE) = (2, 0) := by decide +kernel
theorem ck2 : ckT [] (twE 13 (nuE 1) aE) = (0, 7) := by decide +kernel
theorem ev1 : ev [] (twE 16 (nuE 7) (nuE (-2))) = ⟨1, -3, []⟩ := by decide +kernel
theorem ev2 : ev [] (twE 17 (nuE (-7)) (nuE 2)) = ⟨1, -1, []⟩ := by decide +kernel
theorem ev3 : vTruth (ev [] (twE 7 (nuE 1) noE)) = 1 := by decide +kernel
theorem ev4 : vTruth (ev [] (isE noE)) = 2 := by decide +kernel
theorem ev5 : ev [] (twE 13 (nuE 1) aE) = vNull := by decide +kernel
theorem C.law_awake : Pure Try.prog N.bt_law11_awake [] (.d (.bool true)) := by
  refine F.bt_law11_awake.go mixed rfl ?_
  have n1 := C.law_num 1
  have n7 := C.law_num 7
  have nm2 := C.law_num (-2)
  have nm3 := C.law_num (-3)
  have nm7 := C.law_num (-7)
  have n2 := C.law_num 2
  have nm1 := C.law_num (-1)
  have t1 := C.law_two 23 noE aE
  have t2 := C.law_two 13 (nuE 1) aE
  have t3 := C.law_two 16 (nuE 7) (nuE (-2))
  have t4 := C.law_two 17 (nuE (-7)) (nuE 2)
  have t5 := C.law_two 7 (nuE 1) noE
  have c1 := C.expr_Check [] (by simp) .nil (.inl ⟨rfl, rfl⟩) (twE 23 noE aE) (by decide +kernel)
  have c2 := C.expr_Check [] (by simp) .nil (.inl ⟨rfl, rfl⟩) (twE 13 (nuE 1) aE) (by decide +kernel)
  have e1 := C.expr_Eval [] (by simp) (by simp) .nil (.inl ⟨rfl, rfl⟩) (twE 16 (nuE 7) (nuE (-2))) (by decide +kernel)
  have e2 := C.expr_Eval [] (by simp) (by simp) .nil (.inl ⟨rfl, rfl⟩) (twE 17 (nuE (-7)) (nuE 2)) (by decide +kernel)
  have e3 := C.expr_Eval [] (by simp) (by simp) .nil (.inl ⟨rfl, rfl⟩) (twE 7 (nuE 1) noE) (by decide +kernel)
  have e4 := C.expr_Eval [] (by simp) (by simp) .nil (.inl ⟨rfl, rfl⟩) (isE noE) (by decide +kernel)
  have e5 := C.expr_Eval [] (by simp) (by simp) .nil (.inl ⟨rfl, rfl⟩) (twE 13 (nuE 1) aE) (by decide +kernel)
  rw [show (if 24 < dep (twE 23 noE aE) then ((0, 26) : Int × Int) else chk [] (twE 23 noE aE)) = (2, 0) from ck1] at c1
  rw [show (if 24 < dep (twE 13 (nuE 1) aE) then ((0, 26) : Int × Int) else chk [] (twE 13 (nuE 1) aE)) = (0, 7) from ck2] at c2
  rw [twE_av] at e3
  rw [isE_av] at e4
  replace e3 := C.expr_Truth_of [] .nil _ _ _ _ _ _ e3
  replace e4 := C.expr_Truth_of [] .nil _ _ _ _ _ _ e4
  rw [ev1] at e1
  rw [ev2] at e2
  rw [ev3] at e3
  rw [ev4] at e4
  rw [ev5] at e5
  rw [nuE_av] at n1 n7 nm2 nm3 nm7 n2 nm1
  rw [twE_av] at t1 t2 t3 t4 t5 c1 c2 e1 e2 e5
  simp only [nuE_av, noE_av, aE_av] at t1 t2 t3 t4 t5
  have hno : noE.ds = xds 1 0 vNull [] .nil := by rw [noE, Ex.ds_mk]; rfl
  rw [hno] at e4
  repeat' first
    | refine st ?_
    | ((with_reducible apply go_i); (conv => whnf))
    | ((with_reducible apply k_pn); (· first | exact n1 | exact n7 | exact nm2 | exact nm3 | exact nm7 | exact n2 | exact nm1 | exact t1 | exact t2 | exact t3 | exact t4 | exact t5 | exact c1 | exact c2 | exact e1 | exact e2 | exact e3 | exact e4 | exact e5))
    | ((with_reducible apply k_pc); (· first | exact n1 | exact n7 | exact nm2 | exact nm3 | exact nm7 | exact n2 | exact nm1 | exact t1 | exact t2 | exact t3 | exact t4 | exact t5 | exact c1 | exact c2 | exact e1 | exact e2 | exact e3 | exact e4 | exact e5))
    | (with_reducible apply k_d <;> intro _)
    | (with_reducible apply k_b <;> intro _)
  all_goals rfl
end Go.Proofs
end
section
/- What the laws are handed: values, rows, numbers, and their bulk. No condition. -/
set_option linter.unusedSimpArgs false
set_option linter.unusedVariables false
set_option maxRecDepth 10000
set_option maxHeartbeats 4000000
namespace Go.Proofs
open Go.Bi

abbrev T.int : TypeId := 3
abbrev T.bool : TypeId := 4
abbrev T.str : TypeId := 9
abbrev T.val : TypeId := 23
abbrev T.ints : TypeId := 28
abbrev T.vals : TypeId := 27
theorem cells_int : Try.prog.cellsOf T.int = 1 := by kernel_rfl
theorem cells_str : Try.prog.cellsOf T.str = 1 := by kernel_rfl
theorem cells_val : Try.prog.cellsOf T.val = 3 := by kernel_rfl
theorem cells_bool : Try.prog.cellsOf T.bool = 1 := by kernel_rfl
theorem wt_bool {ds : List D} (h : WT Try.prog T.bool ds) : ∃ b, ds = [.bool b] := h.bool' Try.underlying4
theorem wt_int {ds : List D} (h : WT Try.prog T.int ds) : ∃ n, ds = [eI n] := by
  obtain ⟨a, ha, _, _⟩ := h.int' Try.underlying3
  exact ⟨a, ha⟩
theorem wt_str {ds : List D} (h : WT Try.prog T.str ds) : ∃ s, ds = [.str s] := by
  obtain ⟨a, ha, _⟩ := h.str' Try.underlying9
  exact ⟨a, ha⟩
theorem wt_val {ds : List D} (h : WT Try.prog T.val ds) : ∃ v : Vl, ds = v.ds := by
  obtain ⟨hl, hf⟩ := h.st' Try.underlying23
  rw [cells_val] at hl
  match ds, hl with
  | [x, y, z], _ =>
    have h0 := hf _ (List.mem_cons_self ..)
    have h1 := hf _ (List.mem_cons_of_mem _ (List.mem_cons_self ..))
    have h2 := hf _ (List.mem_cons_of_mem _ (List.mem_cons_of_mem _ (List.mem_cons_self ..)))
    dsimp only at h0 h1 h2
    rw [cells_int] at h0 h1
    rw [cells_str] at h2
    obtain ⟨a, ha⟩ := wt_int h0
    obtain ⟨b, hb⟩ := wt_int h1
    obtain ⟨s, hs⟩ := wt_str h2
    simp at ha hb hs
    exact ⟨⟨a, b, s⟩, by rw [ha, hb, hs]⟩
theorem wt_ints {ds : List D} (h : WT Try.prog T.ints ds) : ∃ d ks, ds = [d] ∧ SlD d (eIs ks) := by
  obtain ⟨d, es, h1, h2, h4, h3⟩ := h.sl' Try.underlying28
  have : ∃ ks, es = eIs ks := by
    clear h1 h2 h4
    induction es with
    | nil => exact ⟨[], rfl⟩
    | cons x es ih =>
      obtain ⟨n, hn⟩ := wt_int (h3 x (by simp))
      obtain ⟨ks, hk⟩ := ih fun y hy => h3 y (by simp [hy])
      exact ⟨n :: ks, by rw [hn, hk]; rfl⟩
  obtain ⟨ks, rfl⟩ := this
  exact ⟨d, ks, h1, h2⟩
theorem wt_vals {ds : List D} (h : WT Try.prog T.vals ds) : ∃ d row, ds = [d] ∧ SlD d (eVs row) := by
  obtain ⟨d, es, h1, h2, h4, h3⟩ := h.sl' Try.underlying27
  have : ∃ row, es = eVs row := by
    clear h1 h2 h4
    induction es with
    | nil => exact ⟨[], rfl⟩
    | cons x es ih =>
      obtain ⟨n, hn⟩ := wt_val (h3 x (by simp))
      obtain ⟨ks, hk⟩ := ih fun y hy => h3 y (by simp [hy])
      exact ⟨n :: ks, by rw [hn, hk]; rfl⟩
  obtain ⟨ks, rfl⟩ := this
  exact ⟨d, ks, h1, h2⟩
theorem av_ints (d : D) : avOf Try.prog T.ints [d] = .d d := by unfold avOf; rw [Try.underlying28]
theorem av_vals (d : D) : avOf Try.prog T.vals [d] = .d d := by unfold avOf; rw [Try.underlying27]
theorem av_int (d : D) : avOf Try.prog T.int [d] = .d d := by unfold avOf; rw [Try.underlying3]
theorem sld_bulk {d : D} {es : List (List D)} (h : SlD d es) : bulkLL es ≤ bulkL [d] := by
  rcases h with ⟨rfl, rfl⟩ | rfl
  · simp [bulkLL]
  · simp only [bulkL, bulkD]; omega
theorem ints_bulk {d : D} {ks : List Int} (h : SlD d (eIs ks)) : ks.length ≤ bulkL [d] := by
  have h1 := sld_bulk h
  have h2 : (eIs ks).length ≤ bulkLL (eIs ks) := bulkLL_len fun x hx => by
    obtain ⟨k, _, rfl⟩ := List.mem_map.1 hx
    simp [bulkL, bulkD]
  rw [eIs_len] at h2
  omega
theorem vals_bulk {d : D} {row : List Vl} (h : SlD d (eVs row)) : row.length ≤ bulkL [d] ∧ ∀ v ∈ row, v.s.length ≤ bulkL [d] := by
  have h1 := sld_bulk h
  have h2 : (eVs row).length ≤ bulkLL (eVs row) := bulkLL_len fun x hx => by
    obtain ⟨k, _, rfl⟩ := List.mem_map.1 hx
    simp only [Vl.ds, bulkL, bulkD]; omega
  rw [eVs_len] at h2
  refine ⟨by omega, fun v hv => ?_⟩
  have h3 : bulkL v.ds ≤ bulkLL (eVs row) := bulkLL_mem (List.mem_map.2 ⟨v, hv, rfl⟩)
  have h4 : v.s.length ≤ bulkL v.ds := by simp only [Vl.ds, bulkL, bulkD]; omega
  omega
theorem bulkR (H : Type) : Bulk (H := H) Go.Proofs.Ytejfiijaomodnaa.Rows.uptoBulk Go.Proofs.Ytejfiijaomodnaa.Rows.uptoBulkAll where
  lit l := by unfold Go.Proofs.Ytejfiijaomodnaa.Rows.uptoBulk; split <;> simp_all
  str b := by simp [Go.Proofs.Ytejfiijaomodnaa.Rows.uptoBulk]
  nil := by simp [Go.Proofs.Ytejfiijaomodnaa.Rows.uptoBulk]
  sl es sp := by simp [Go.Proofs.Ytejfiijaomodnaa.Rows.uptoBulk]
  agg ps := by simp [Go.Proofs.Ytejfiijaomodnaa.Rows.uptoBulk]
  cons x l := by simp [Go.Proofs.Ytejfiijaomodnaa.Rows.uptoBulkAll]
end Go.Proofs
end
section
/- What the laws are handed: expressions. No condition. -/
set_option linter.unusedSimpArgs false
set_option linter.unusedVariables false
set_option maxRecDepth 10000
set_option maxHeartbeats 4000000
namespace Go.Proofs
open Go.Bi

abbrev T.exs : TypeId := 24
abbrev T.ex : TypeId := 26
theorem cells_exs : Try.prog.cellsOf T.exs = 1 := by kernel_rfl
theorem cells_ex : Try.prog.cellsOf T.ex = 7 := by kernel_rfl
theorem wt_ex' {t : TypeId} {ds : List D} (h : WT Try.prog t ds) : (t = T.ex → ∃ e : Ex, ds = e.ds) ∧ (t = T.exs → ∃ nl args, ds = [ng nl (xL args)]) := by
  induction h with
  | int h => exact ⟨fun e => (by subst e; rw [Try.underlying26] at h; cases h), fun e => (by subst e; rw [Try.underlying24] at h; cases h)⟩
  | bool h => exact ⟨fun e => (by subst e; rw [Try.underlying26] at h; cases h), fun e => (by subst e; rw [Try.underlying24] at h; cases h)⟩
  | str h => exact ⟨fun e => (by subst e; rw [Try.underlying26] at h; cases h), fun e => (by subst e; rw [Try.underlying24] at h; cases h)⟩
  | nil h => exact ⟨fun e => (by subst e; rw [Try.underlying26] at h; cases h), fun e => ⟨true, [], rfl⟩⟩
  | @sl t e es h hl hs he ih =>
    refine ⟨fun e => (by subst e; rw [Try.underlying26] at h; cases h), fun e' => ?_⟩
    subst e'
    rw [Try.underlying24] at h
    cases h
    have : ∃ l, es = xL l := by
      clear he hs hl
      induction es with
      | nil => exact ⟨[], rfl⟩
      | cons x es ihh =>
        obtain ⟨n, hn⟩ := (ih x (by simp)).1 rfl
        obtain ⟨ks, hk⟩ := ihh fun y hy => ih y (by simp [hy])
        exact ⟨n :: ks, by rw [hn, hk]; rfl⟩
    obtain ⟨l, rfl⟩ := this
    exact ⟨false, l, rfl⟩
  | @st t fs ds h hl hf ih =>
    refine ⟨fun e => ?_, fun e => (by subst e; rw [Try.underlying24] at h; cases h)⟩
    subst e
    rw [Try.underlying26] at h
    cases h
    rw [cells_ex] at hl
    match ds, hl with
    | [d0, d1, d2, d3, d4, d5, d6], _ =>
      have h0 := hf _ (List.mem_cons_self ..)
      have h1 := hf _ (List.mem_cons_of_mem _ (List.mem_cons_self ..))
      have h2 := hf _ (List.mem_cons_of_mem _ (List.mem_cons_of_mem _ (List.mem_cons_self ..)))
      have h3 := hf _ (List.mem_cons_of_mem _ (List.mem_cons_of_mem _ (List.mem_cons_of_mem _ (List.mem_cons_self ..))))
      have h4 := (ih _ (List.mem_cons_of_mem _ (List.mem_cons_of_mem _ (List.mem_cons_of_mem _ (List.mem_cons_of_mem _ (List.mem_cons_self ..)))))).2 rfl
      dsimp only at h0 h1 h2 h3 h4
      rw [cells_int] at h0 h1
      rw [cells_val] at h2
      rw [cells_str] at h3
      rw [cells_exs] at h4
      obtain ⟨a, ha⟩ := wt_int h0
      obtain ⟨b, hb⟩ := wt_int h1
      obtain ⟨v, hv⟩ := wt_val h2
      obtain ⟨s, hs⟩ := wt_str h3
      obtain ⟨nl, args, hx⟩ := h4
      simp at ha hb hs hx
      refine ⟨.mk a b v s nl args, ?_⟩
      rw [Ex.ds_mk, ha, hb, hs, hx]
      have hv : [d2, d3, d4] = [eI v.k, eI v.n, .str v.s] := hv
      simp only [List.cons.injEq, and_true] at hv
      rw [hv.1, hv.2.1, hv.2.2]
theorem wt_ex {ds : List D} (h : WT Try.prog T.ex ds) : ∃ e : Ex, ds = e.ds := (wt_ex' h).1 rfl
theorem av_ex (e : Ex) : avOf Try.prog T.ex e.ds = e.av := by unfold avOf; rw [Try.underlying26]; rfl
end Go.Proofs
end
section
/- Loops whose back edge may read an array alone from now on; values and columns. No condition. -/
set_option linter.unusedSimpArgs false
set_option linter.unusedVariables false
set_option maxRecDepth 10000
set_option maxHeartbeats 4000000
namespace Go.Bi
structure WeakL (n nb : Nat) (L : Sl) (os : List AO) (L2 : Sl) (os2 : List AO) : Prop where
  un : Weak n nb (ofL L) os (ofL L2) os2
theorem WeakL.keep {n nb : Nat} {L : Sl} {os : List AO} {ts ks : List Nat} {vs ws vs' : List AV} {os2 : List AO} (h0 : valsOf L ts = vs') (h1 : vs = vs') (h2 : ws = valsOf L ks) (m : Nat) (hm : Nat.ble nb m = true) (ho : os.take m = os2)
    (hb : vs.all (fun v => v.bndB m) = true) (hb2 : ws.all (fun v => v.bndB m) = true) (hb3 : os2.all (fun o => o.bndB m) = true) : WeakL n nb L os (zipS ts vs ++ zipS ks ws) os2 :=
  ⟨weak_sel (h1.trans h0.symm) h2 m (Nat.le_of_ble_eq_true hm) ho hb hb2 hb3⟩
theorem WeakL.frz {n nb : Nat} {L L2 : Sl} {os os2 : List AO} (t : Nat) {id len sz frz : Nat} {nl : Bool} {es : List (List D)} (ht : ofL L t = .arr id len) (ho : os[id]? = some (.arr es sz frz nl)) (hl : len = es.length)
    (k : WeakL n nb ((t, .d (if nl then .nil else .sl es)) :: L) (os.set id (.arr es sz es.length nl)) L2 os2) : WeakL n nb L os L2 os2 := by
  have hw := weak_frz (n := n) (nb := nb) (ρ := ofL L) (os := os) t ht ho hl
  rw [ofL_cons] at hw
  exact ⟨hw.trans k.un⟩
/-- A loop whose states need only stand for those that the back edge reaches. -/
theorem x_loopW2 {A : Type} {B : Type} {P : Program} {n nb : Nat} {cd : IC} {N : Sl → List AO → Prop} {E0 : Nat → Sl → List AO → Prop} {R : Sl → List AO → Prop} {L : Sl} {os : List AO} {m : Nat} (hm : P.follows .mixedOrders = true) (ts ks : List Nat) (vs : A → B → List AV) (So : A → B → List AO) (φ : A → B → Prop) (μ : A → B → Nat) (a0 : A) (b0 : B) (hmm : m = os.length) (hnb : Nat.ble nb m = true)
    (hv : vs a0 b0 = valsOf L ts) (ho : os.take m = So a0 b0) (hb : (vs a0 b0).all (fun v => v.bndB m) = true ∧ (So a0 b0).all (fun o => o.bndB m) = true) (hb2 : (valsOf L ks).all (fun v => v.bndB m) = true) (h0 : φ a0 b0)
    (step : Go (selK L ks fun ws => ∀ a b, φ a b → Go (zipSK ts (vs a b) (zipS ks ws) fun L3 => xI P n nb cd (fun L' os' => ∃ a' b', μ a' b' < μ a b ∧ φ a' b' ∧ WeakL n nb L' os' (zipS ts (vs a' b') ++ zipS ks ws) (So a' b')) E0 R L3 (So a b)))) : LoopX P n nb cd N E0 R L os := by
  have step := selK_eq.1 step
  refine ⟨?_⟩
  refine loop_rule hm (fun x : (A × B) => ofL (zipS ts (vs x.1 x.2) ++ zipS ks (valsOf L ks))) (fun x => So x.1 x.2) (fun x => φ x.1 x.2) (fun x => μ x.1 x.2) (a0, b0) h0 ?_ ?_
  · exact weak_sel hv rfl m (Nat.le_of_ble_eq_true hnb) ho hb.1 hb2 hb.2
  · intro x hx
    have := zipSK_eq.1 (step x.1 x.2 hx)
    refine xI_ok (K := ⟨fun L' os' => ∃ a' b', μ a' b' < μ x.1 x.2 ∧ φ a' b' ∧ WeakL n nb L' os' (zipS ts (vs a' b') ++ zipS ks (valsOf L ks)) (So a' b'), E0, R⟩) ⟨fun L' os' h => ?_, fun i L' os' h => ⟨L', rfl, h⟩, fun L' os' h => ⟨L', rfl, h⟩⟩ this
    obtain ⟨a', b', h1, h2, h3⟩ := h
    exact ⟨(a', b'), h2, h1, h3.un⟩
end Go.Bi
namespace Go.Proofs
open Go.Bi

/-! ### Plain: the value depends on the columns alone -/
theorem evOp_col {op n n' : Int} {v : Vl} {l row row' : List Vl} (h : op = 2 → vCol row n = vCol row' n') (h2 : op ≠ 2 → n = n') : evOp op n v l row = evOp op n' v l row' := by
  by_cases h0 : op = 2
  · subst h0
    exact h rfl
  · rw [h2 h0]
    unfold evOp
    repeat' split
    all_goals first | rfl | (exfalso; omega)
theorem ev_col {row row' : List Vl} : ∀ e : Ex, (∀ c ∈ rawC e, vCol row c = vCol row' c) → ev row e = ev row' e := by
  refine Ex.ind fun op n v nm nl args ih h => ?_
  rw [rawC_mk] at h
  rw [ev_mk, ev_mk]
  have ha : args.map (ev row) = args.map (ev row') := List.map_congr_left fun a ha => ih a ha fun c hc => h c (List.mem_append_right _ (List.mem_flatMap.2 ⟨a, ha, hc⟩))
  rw [ha, evOp_col (n' := n) (row' := row') (fun e => h n (by rw [if_pos e]; simp)) (fun _ => rfl)]
theorem fmd_n {n n' : Int} {v : Vl} {nm : List UInt8} {k : Nat} : fmd 2 n v nm k = fmd 2 n' v nm k := by
  unfold fmd
  rw [if_neg (by decide), if_neg (by decide), if_pos rfl, if_neg (by decide), if_neg (by decide), if_pos rfl]
theorem ev_shf {row row' : List Vl} {k : Int} : ∀ e : Ex, (∀ c ∈ rawC e, vCol row' (w64 (c + k)) = vCol row c) → ev row' (shf k e) = ev row e := by
  refine Ex.ind fun op n v nm nl args ih h => ?_
  rw [rawC_mk] at h
  rw [shf_mk, ev_mk, ev_mk, List.length_map, List.map_map]
  have ha : args.map (ev row' ∘ shf k) = args.map (ev row) := List.map_congr_left fun a ha => ih a ha fun c hc => h c (List.mem_append_right _ (List.mem_flatMap.2 ⟨a, ha, hc⟩))
  rw [ha]
  by_cases h2 : op = 2
  · subst h2
    rw [if_pos rfl, fmd_n (n := w64 (n + k)) (n' := n), evOp_col (n' := n) (row' := row) (fun _ => h n (by simp)) (fun e => absurd rfl e)]
  · rw [if_neg h2, evOp_col (n' := n) (row' := row) (fun e => absurd e h2) (fun _ => rfl)]
theorem w64_small {n : Int} (h : 0 ≤ n) (h2 : n < 4294967296) : w64 n = n := by
  show IntKind.i64.wrap n = n
  rw [IntKind.wrap_i64]
  omega
theorem vAt_app (a row : List Vl) {c : Int} (h : 0 ≤ c) : vAt (a ++ row) (c + a.length) = vAt row c := by
  unfold vAt
  rw [List.length_append]
  by_cases h2 : (row.length : Int) ≤ c
  · rw [if_pos (by omega), if_pos (by omega)]
  · rw [if_neg (by omega), if_neg (by omega), List.getD_eq_getElem?_getD, List.getD_eq_getElem?_getD, List.getElem?_append_right (by omega), show (c + a.length).toNat - a.length = c.toNat by omega]
/-- Column c of a mixed row is made the row's. -/
def updM (row mix : List Vl) (c : Int) : List Vl := if 0 ≤ c ∧ c < row.length then mix.set c.toNat (vAt row c) else if 0 ≤ c ∧ c < mix.length then mix.set c.toNat vNull else mix
theorem updM_len (row mix : List Vl) (c : Int) : (updM row mix c).length = mix.length := by
  unfold updM
  repeat' split
  all_goals simp
theorem vAt_set {mix : List Vl} {c d : Int} {v : Vl} (hc : 0 ≤ c ∧ c < mix.length) : vAt (mix.set c.toNat v) d = if c = d then v else vAt mix d := by
  unfold vAt
  rw [List.length_set]
  by_cases h : c = d
  · subst h
    rw [if_neg (by omega), if_pos rfl, List.getD_eq_getElem?_getD, List.getElem?_set_self (by omega)]; rfl
  · rw [if_neg h]
    split
    · rfl
    · rw [List.getD_eq_getElem?_getD, List.getElem?_set_ne (by omega), ← List.getD_eq_getElem?_getD]
theorem updM_at {row mix : List Vl} (hl : row.length ≤ mix.length) (c d : Int) : vAt (updM row mix c) d = if c = d then vAt row c else vAt mix d := by
  unfold updM
  by_cases h1 : 0 ≤ c ∧ c < row.length
  · rw [if_pos h1, vAt_set (by omega)]
  · rw [if_neg h1]
    have hr : vAt row c = vNull := if_pos (by omega)
    by_cases h2 : 0 ≤ c ∧ c < mix.length
    · rw [if_pos h2, vAt_set h2, hr]
    · rw [if_neg h2]
      split
      · rename_i e
        subst e
        rw [hr]
        exact if_pos (by omega)
      · rfl
def mixM (row mix : List Vl) (ks : List Int) : List Vl := ks.foldl (updM row) mix
theorem mixM_len (row : List Vl) : ∀ (ks : List Int) (mix : List Vl), (mixM row mix ks).length = mix.length
  | [], mix => rfl
  | c :: ks, mix => by rw [mixM, List.foldl_cons, ← mixM, mixM_len row ks, updM_len]
theorem mixM_at {row : List Vl} : ∀ (ks : List Int) (mix : List Vl), row.length ≤ mix.length → ∀ d, vAt (mixM row mix ks) d = vAt row d ∨ (d ∉ ks ∧ vAt (mixM row mix ks) d = vAt mix d)
  | [], mix, _, d => .inr ⟨by simp, rfl⟩
  | c :: ks, mix, hl, d => by
    have hu := updM_at hl c d
    rw [mixM, List.foldl_cons, ← mixM]
    rcases mixM_at (row := row) ks (updM row mix c) (by rw [updM_len]; exact hl) d with h | ⟨h1, h2⟩
    · exact .inl h
    · rw [hu] at h2
      by_cases e : c = d
      · rw [if_pos e] at h2; exact .inl (h2.trans (by rw [e]))
      · rw [if_neg e] at h2
        exact .inr ⟨by simp [h1]; omega, h2⟩
theorem mixM_col {row mix : List Vl} (hl : row.length ≤ mix.length) (ks : List Int) : ∀ d ∈ ks, vCol (mixM row mix ks) d = vCol row d := by
  intro d hd
  unfold vCol
  rcases mixM_at ks mix hl d with h | ⟨h, _⟩
  · rw [h]
  · exact absurd hd h
theorem updM_mem {row mix : List Vl} {P : Vl → Prop} (hr : ∀ v ∈ row, P v) (hm : ∀ v ∈ mix, P v) (h0 : P vNull) (c : Int) : ∀ v ∈ updM row mix c, P v := by
  intro v hv
  unfold updM at hv
  split at hv
  · rename_i h
    rcases List.mem_or_eq_of_mem_set hv with h1 | rfl
    · exact hm v h1
    · exact hr _ (List.mem_of_getElem? (vAt_get (by omega) (by omega)))
  · split at hv
    · rcases List.mem_or_eq_of_mem_set hv with h1 | rfl
      · exact hm v h1
      · exact h0
    · exact hm v hv
theorem mixM_mem {row : List Vl} {P : Vl → Prop} (hr : ∀ v ∈ row, P v) (h0 : P vNull) : ∀ (ks : List Int) (mix : List Vl), (∀ v ∈ mix, P v) → ∀ v ∈ mixM row mix ks, P v
  | [], mix, hm => hm
  | c :: ks, mix, hm => by
    rw [mixM, List.foldl_cons, ← mixM]
    exact mixM_mem hr h0 ks _ (updM_mem hr hm h0 c)
theorem shf_bk2 (k : Int) : ∀ e : Ex, (shf k e).bk ≤ e.bk := by
  refine Ex.ind fun op n v nm nl args ih => ?_
  have h : ∀ l : List Ex, (∀ a ∈ l, (shf k a).bk ≤ a.bk) → bulkLL (xL (l.map (shf k))) ≤ bulkLL (xL l) := by
    intro l
    induction l with
    | nil => intro _; exact Nat.le_refl _
    | cons a l ih =>
      intro h
      have h1 := h a (by simp)
      have h2 := ih fun b hb => h b (by simp [hb])
      simp only [xL, List.map_cons, bulkLL] at h2 ⊢
      unfold Ex.bk at h1
      omega
  have h := h args ih
  have hn : ∀ (nl : Bool) (l : List (List D)), bulkD (ng nl l) = bulkLL l + 1 := fun nl l => by
    unfold ng
    split
    · rename_i h
      simp only [Bool.and_eq_true, List.isEmpty_iff] at h
      rw [h.2]; rfl
    · rfl
  rw [shf_mk, Ex.bk, Ex.bk, Ex.ds_mk, Ex.ds_mk]
  simp only [bulkL, bulkD, hn]
  omega
theorem C.r8_Concat (a b : List Vl) (ha : a.length + b.length ≤ 4194304) (da db : D) (hda : SlD da (eVs a)) (hdb : SlD db (eVs b)) : Pure Try.prog N.bt_ref08_Concat [.d da, .d db] (.d (.sl (eVs (a ++ b)))) := by
  have h1 := eVs_len a
  have hm := eVs_mem a
  have h2 := eVs_len b
  have hm2 := eVs_mem b
  have hap : eVs (a ++ b) = eVs a ++ eVs b := by simp [eVs]
  rw [hap]
  have h3 : (([] : List (List D)) ++ eVs a).length = a.length := by simp [h1]
  refine F.bt_ref08_Concat.go mixed rfl ?_
  repeat' first
    | refine st ?_
    | ((with_reducible apply go_i); (conv => whnf))
    | (with_reducible apply k_d <;> intro _)
    | (with_reducible apply k_b <;> intro _)
  all_goals (simp; try rfl)
end Go.Proofs
end
