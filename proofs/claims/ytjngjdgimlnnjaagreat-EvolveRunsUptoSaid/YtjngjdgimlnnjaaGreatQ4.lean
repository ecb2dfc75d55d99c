/- Texts of this claim, joined. No condition. -/
import Derived.Test.YtjngjdgimlnnjaaGreatQ3
import Derived.WalkKit
import Derived.Deep.RegionLaw
import Derived.Lib.SliceRun
import Derived.Lib.ReflectliteSwap
import Derived.Test.YtjngjdgimlnnjaaGreatRows
set_option linter.unusedSimpArgs false
set_option linter.unusedVariables false
set_option maxRecDepth 10000
set_option maxHeartbeats 4000000
section
namespace Go.Proofs
open Go.Bi
def ins (l : List Int) (n : Int) : List Int := l.takeWhile (fun x => decide (x < n)) ++ ([n] ++ (l.dropWhile fun x => decide (x < n)).filter fun x => decide (x ≠ n))
theorem ins_nil (n : Int) : ins [] n = [n] := rfl
theorem ins_cons (a : Int) (l : List Int) (n : Int) : ins (a :: l) n = if a < n then a :: ins l n else n :: (a :: l).filter fun x => decide (x ≠ n) := by
 unfold ins
 by_cases h : a < n
 ·rw [if_pos h, List.takeWhile_cons_of_pos (by simpa using h), List.dropWhile_cons_of_pos (by simpa using h)]; rfl
 ·rw [if_neg h, List.takeWhile_cons_of_neg (by simpa using h), List.dropWhile_cons_of_neg (by simpa using h)]; rfl
theorem ins_len : ∀ (l : List Int) (n : Int), (ins l n).length ≤ l.length + 1
 | [], n => by simp [ins_nil]
 | a :: l, n => by
  rw [ins_cons]
  split
  ·have := ins_len l n
   simp only [List.length_cons]; omega
  ·have := List.length_filter_le (fun x => decide (x ≠ n)) (a :: l)
   simp only [List.length_cons] at *; omega
theorem ins_spec : ∀ {l : List Int} (n : Int), Asc l → Asc (ins l n) ∧ ∀ x, x ∈ ins l n ↔ x = n ∨ x ∈ l
 | [], n, _ => by simp [ins_nil, Asc]
 | a :: l, n, h => by
  have g := List.pairwise_cons.1 h
  rw [ins_cons]
  split
  ·rename_i hlt
   obtain ⟨h1, h2⟩ := ins_spec n g.2
   constructor
   ·refine List.pairwise_cons.2 ⟨fun x hx => ?_, h1⟩
    rcases (h2 x).1 hx with rfl | hx
    ·exact hlt
    ·exact g.1 x hx
   ·intro x
    rw [List.mem_cons, h2, List.mem_cons]
    constructor
    ·rintro (h | h | h)
     ·exact .inr (.inl h)
     ·exact .inl h
     ·exact .inr (.inr h)
    ·rintro (h | h | h)
     ·exact .inr (.inl h)
     ·exact .inl h
     ·exact .inr (.inr h)
  ·rename_i hge
   constructor
   ·refine List.pairwise_cons.2 ⟨fun x hx => ?_, h.filter _⟩
    rw [List.mem_filter] at hx
    have hne : x ≠ n := by simpa using hx.2
    rcases List.mem_cons.1 hx.1 with rfl | hx
    ·omega
    ·have := g.1 x hx; omega
   ·intro x
    rw [List.mem_cons, List.mem_filter]
    by_cases hx : x = n
    ·simp [hx]
    ·simp [hx]
theorem ins_at {l : List Int} {n : Int} {i : Nat} (h : ∀ (j : Nat) y, j < i → l[j]? = some y → y < n) (hi : ∀ y, l[i]? = some y → ¬ y < n) : ins l n = l.take i ++ ([n] ++ (l.drop i).filter fun x => decide (x ≠ n)) := by
 have h1 : ∀ x ∈ l.take i, decide (x < n) = true := by
  intro x hx
  obtain ⟨j, hj⟩ := List.getElem?_of_mem hx
  have hj2 := (List.getElem?_eq_some_iff.1 hj).1
  rw [List.length_take] at hj2
  rw [List.getElem?_take, if_pos (by omega)] at hj
  exact decide_eq_true (h j x (by omega) hj)
 have h2 : (l.drop i).takeWhile (fun x => decide (x < n)) = [] ∧ (l.drop i).dropWhile (fun x => decide (x < n)) = l.drop i := by
  cases hd : l.drop i with
  | nil => exact ⟨rfl, rfl⟩
  | cons y r =>
   have hy : l[i]? = some y := by
    have : (l.drop i)[0]? = some y := by rw [hd]; rfl
    rwa [List.getElem?_drop, Nat.add_zero] at this
   have := hi y hy
   exact ⟨List.takeWhile_cons_of_neg (by simpa using this), List.dropWhile_cons_of_neg (by simpa using this)⟩
 have e : l = l.take i ++ l.drop i := (List.take_append_drop i l).symm
 unfold ins
 rw [show l.takeWhile (fun x => decide (x < n)) = (l.take i ++ l.drop i).takeWhile (fun x => decide (x < n)) by rw [← e], show l.dropWhile (fun x => decide (x < n)) = (l.take i ++ l.drop i).dropWhile (fun x => decide (x < n)) by rw [← e]]
 rw [List.takeWhile_append_of_pos h1, List.dropWhile_append_of_pos h1, h2.1, h2.2, List.append_nil]
theorem foldl_ins_len : ∀ (l out : List Int), (l.foldl ins out).length ≤ out.length + l.length
 | [], out => by simp
 | a :: l, out => by
  have h1 := foldl_ins_len l (ins out a)
  have h2 := ins_len out a
  rw [List.foldl_cons]
  simp only [List.length_cons]
  omega
theorem foldl_ins : ∀ (l : List Int) {out : List Int}, Asc out → Asc (l.foldl ins out) ∧ ∀ x, x ∈ l.foldl ins out ↔ x ∈ out ∨ x ∈ l
 | [], out, h => ⟨h, fun x => by simp⟩
 | a :: l, out, h => by
  obtain ⟨h1, h2⟩ := ins_spec a h
  obtain ⟨h3, h4⟩ := foldl_ins l h1
  refine ⟨h3, fun x => ?_⟩
  rw [List.foldl_cons, h4, h2, List.mem_cons]
  constructor
  ·rintro ((h | h) | h)
   ·exact .inr (.inl h)
   ·exact .inl h
   ·exact .inr (.inr h)
  ·rintro (h | h | h)
   ·exact .inl (.inr h)
   ·exact .inl (.inl h)
   ·exact .inr h
mutual
def rcE : Ex → List Int
 | .mk op n v nm nl args => rcL args (own op n)
def rcL : List Ex → List Int → List Int
 | [], out => out
 | a :: l, out => rcL l ((rcE a).foldl ins out)
end
def rcS (out : List Int) (a : Ex) : List Int := (rcE a).foldl ins out
theorem rcL_eq : ∀ (l : List Ex) (out : List Int), rcL l out = l.foldl rcS out
 | [], out => by simp [rcL]
 | a :: l, out => by rw [rcL, rcL_eq l]; rfl
theorem rcE_mk (op n : Int) (v : Vl) (nm : List UInt8) (nl : Bool) (args : List Ex) : rcE (.mk op n v nm nl args) = args.foldl rcS (own op n) := by rw [rcE, rcL_eq]
theorem foldl_rcS : ∀ (l : List Ex) {out : List Int}, (∀ a ∈ l, ∀ x, x ∈ rcE a ↔ x ∈ rawC a) → Asc out → Asc (l.foldl rcS out) ∧ ∀ x, x ∈ l.foldl rcS out ↔ x ∈ out ∨ x ∈ l.flatMap rawC
 | [], out, _, h => ⟨h, fun x => by simp⟩
 | a :: l, out, hl, h => by
  obtain ⟨h1, h2⟩ := foldl_ins (rcE a) h
  obtain ⟨h3, h4⟩ := foldl_rcS l (fun b hb => hl b (List.mem_cons_of_mem _ hb)) h1
  refine ⟨h3, fun x => ?_⟩
  rw [List.foldl_cons, show rcS out a = (rcE a).foldl ins out from rfl, h4, h2, hl a (List.mem_cons_self ..), List.flatMap_cons, List.mem_append, or_assoc]
theorem own_asc (op n : Int) : Asc (own op n) := by unfold own; split <;> simp [Asc]
theorem rcE_spec : ∀ e : Ex, Asc (rcE e) ∧ ∀ x, x ∈ rcE e ↔ x ∈ rawC e := by
 refine Ex.ind fun op n v nm nl args ih => ?_
 rw [rcE_mk, rawC_mk, ← own]
 obtain ⟨h1, h2⟩ := foldl_rcS args (fun a ha => (ih a ha).2) (own_asc op n)
 exact ⟨h1, fun x => by rw [h2, List.mem_append]⟩
theorem rcE_cols (e : Ex) : rcE e = cols e := asc_ext (rcE_spec e).1 (cols_asc e) fun x => by rw [(rcE_spec e).2, cols_mem]
theorem own_len (op n : Int) : (own op n).length ≤ 1 := by unfold own; split <;> simp
theorem foldl_rcS_len : ∀ (l : List Ex) (out : List Int), (l.foldl rcS out).length ≤ out.length + bulkLL (xL l)
 | [], out => by simp
 | a :: l, out => by
  have h1 := foldl_rcS_len l (rcS out a)
  have h2 : (rcS out a).length ≤ out.length + (rcE a).length := foldl_ins_len _ _
  have h3 := cols_len a
  rw [← rcE_cols] at h3
  rw [List.foldl_cons]
  simp only [xL, List.map_cons, bulkLL]
  unfold Ex.bk at h3
  unfold xL at h1
  omega
theorem bulk_take : ∀ (l : List Ex) (i : Nat), bulkLL (xL (l.take i)) ≤ bulkLL (xL l)
 | [], i => by simp
 | a :: l, 0 => by simp [xL, bulkLL]
 | a :: l, i + 1 => by
  have := bulk_take l i
  rw [List.take_succ_cons]
  simp only [xL, List.map_cons, bulkLL] at *
  omega
theorem C.r11_insert (l : List Int) (hl : l.length ≤ 4194304) (n : Int) (d : D) (hd : SlD d (eIs l)) : Pure Tryz.prog N.bt_ref11_insert [.d d, .d (eI n)] (.d (.sl (eIs (ins l n)))) := by
 refine F.bt_ref11_insert.go mixed rfl ?_
 have hl1 := eIs_len l
 repeat' first|refine st ?_|(with_reducible first|apply k_d|apply k_b)<;>intro _
 refine x_loop2 mixed Lt.bt_ref11_insert_l0 Lk.bt_ref11_insert_l0 (fun (i : Nat) (es : List (List D)) => [.arr 0 es.length, .d (eI i)]) (fun i es => [.arr es 1 0 false]) (fun i es => i ≤ l.length ∧ es = eIs (l.take i) ∧ ∀ (j : Nat) y, j < i → l[j]? = some y → y < n) (fun i _ => l.length - i) 0 [] rfl rfl rfl rfl (fun _ _ _ => ⟨rfl, rfl⟩) rfl ⟨by omega, rfl, by omega⟩ ?_
 repeat' first|refine st ?_|(with_reducible first|apply k_d|apply k_b)<;>intro _
 intro i es ⟨h1, h2, h3⟩
 have hes : es.length = i := by rw [h2, eIs_len, List.length_take]; omega
 have hem : ∀ e ∈ es, e.length = 1 := by
  rw [h2]
  intro e he
  obtain ⟨z, _, rfl⟩ := List.mem_map.1 he
  rfl
 have key : (∃ y, l[i]? = some y ∧ y < n) ∨ ((∀ y, l[i]? = some y → ¬ y < n) ∧ ((∃ y, l[i]? = some y ∧ ¬ y < n) ∨ l.length ≤ i)) := by
  cases hx : l[i]? with
  | none => exact .inr ⟨fun y h => (by cases h), .inr (List.getElem?_eq_none_iff.1 hx)⟩
  | some y =>
   by_cases hy : y < n
   ·exact .inl ⟨y, rfl, hy⟩
   ·exact .inr ⟨fun z hz => (by cases hz; exact hy), .inl ⟨y, rfl, hy⟩⟩
 have rest : (∀ y, l[i]? = some y → ¬ y < n) → ∀ k : Nat, i ≤ k → eIs (l.take i) ++ ([[eI n]] ++ eIs ((((l.take k).drop i)).filter fun x => decide (x ≠ n))) = eIs (l.take i ++ ([n] ++ ((l.take k).drop i).filter fun x => decide (x ≠ n))) := fun _ k _ => by simp [eIs]
 rcases key with ⟨y, hy, hlt⟩ | ⟨hno, hx⟩
 ·have hil := (List.getElem?_eq_some_iff.1 hy).1
  have hg := eIs_get hy
  repeat' first|refine st ?_|(with_reducible first|apply k_d|apply k_b)<;>intro _
  refine ⟨i + 1, es ++ [[eI y]], rfl, rfl, rfl, by omega, by omega, ?_, fun j z hj hz => ?_⟩
  ·rw [h2, List.take_add_one, hy]; simp [eIs]
  ·rcases Nat.lt_succ_iff_lt_or_eq.1 hj with h | rfl
   ·exact h3 j z h hz
   ·rw [hy] at hz; cases hz; exact hlt
 ·have hat := ins_at h3 hno
  rcases hx with ⟨y, hy, hge⟩ | hx
  ·have hg := eIs_get hy
   have hil := (List.getElem?_eq_some_iff.1 hy).1
   repeat' first|refine st ?_|(with_reducible first|apply k_d|apply k_b)<;>intro _
   refine x_loop2 mixed Lt.bt_ref11_insert_l1 Lk.bt_ref11_insert_l1 (fun (k : Nat) (es : List (List D)) => [.arr 0 es.length, .d (eI k)]) (fun k es => [.arr es 1 0 false, .arr [[eI n]] 1 0 false]) (fun k es2 => i ≤ k ∧ k ≤ l.length ∧ es2.length ≤ k + 1 ∧ es2 = eIs (l.take i ++ ([n] ++ ((l.take k).drop i).filter fun x => decide (x ≠ n)))) (fun k _ => l.length - k) i (es ++ [[eI n]]) rfl rfl rfl rfl (fun _ _ _ => ⟨rfl, rfl⟩) rfl ⟨by omega, by omega, by simp; omega, by rw [h2, List.drop_eq_nil_of_le (by rw [List.length_take]; omega)]; simp [eIs]⟩ ?_
   repeat' first|refine st ?_|(with_reducible first|apply k_d|apply k_b)<;>intro _
   intro k es2 ⟨q1, q2, q4, q3⟩
   cases hz : l[k]? with
   | none =>
    have hge2 := List.getElem?_eq_none_iff.1 hz
    rw [List.take_of_length_le hge2, ← hat] at q3
    repeat' first|refine st ?_|(with_reducible first|apply k_d|apply k_b)<;>intro _
    rw [q3]; rfl
   | some z =>
    have hkl := (List.getElem?_eq_some_iff.1 hz).1
    have hg2 := eIs_get hz
    have hdr : (l.take (k + 1)).drop i = (l.take k).drop i ++ [z] := by
     rw [List.take_add_one, hz, List.drop_append_of_le_length (by rw [List.length_take]; omega)]; rfl
    repeat' first|refine st ?_|(with_reducible first|apply k_d|apply k_b)<;>intro _
    ·rename_i he
     refine ⟨k + 1, es2, rfl, rfl, rfl, by omega, by omega, by omega, by omega, ?_⟩
     rw [q3, hdr, List.filter_append]
     simp [he]
    ·rename_i he
     refine ⟨k + 1, es2 ++ [[eI z]], rfl, rfl, rfl, by omega, by omega, by omega, by simp; omega, ?_⟩
     rw [q3, hdr, List.filter_append]
     simp [he, eIs]
  ·repeat' first|refine st ?_|(with_reducible first|apply k_d|apply k_b)<;>intro _
   refine x_loop2 mixed Lt.bt_ref11_insert_l1 Lk.bt_ref11_insert_l1 (fun (k : Nat) (es : List (List D)) => [.arr 0 es.length, .d (eI k)]) (fun k es => [.arr es 1 0 false, .arr [[eI n]] 1 0 false]) (fun k es2 => k = i ∧ es2 = es ++ [[eI n]]) (fun k _ => l.length - k) i (es ++ [[eI n]]) rfl rfl rfl rfl (fun _ _ _ => ⟨rfl, rfl⟩) rfl ⟨rfl, rfl⟩ ?_
   repeat' first|refine st ?_|(with_reducible first|apply k_d|apply k_b)<;>intro _
   intro k es2 ⟨q1, q3⟩
   subst q1
   repeat' first|refine st ?_|(with_reducible first|apply k_d|apply k_b)<;>intro _
   rw [q3, h2, hat, List.drop_eq_nil_of_le hx]
   simp [eIs]
   rfl
theorem C.r11_Columns : ∀ e : Ex, e.bk ≤ 1048576 → Pure Tryz.prog N.bt_ref11_Columns [e.av] (.d (.sl (eIs (rcE e)))) := by
 refine Ex.ind fun op n v nm nl args ih hb => ?_
 obtain ⟨b1, b2, b3, b4⟩ := Ex.bk_bounds hb
 have hbm := Ex.bk_mk op n v nm nl args
 rw [rcE_mk, Ex.av_mk]
 have h1 := xL_len args
 have hm := xL_mem args
 obtain ⟨da, hda⟩ : ∃ d, d = ng nl (xL args) := ⟨_, rfl⟩
 have hsd : SlD da (xL args) := by rw [hda]; exact sld_ng
 rw [← hda]
 have r0 : v.k = v.k := rfl
 have r1 : v.s = v.s := rfl
 have r2 : nm = nm := rfl
 refine F.bt_ref11_Columns.go mixed rfl ?_
 have hown : (op = 2 ∧ own op n = [n]) ∨ (op ≠ 2 ∧ own op n = []) := by
  unfold own
  by_cases h : op = 2
  ·rw [if_pos h]; exact .inl ⟨h, rfl⟩
  ·rw [if_neg h]; exact .inr ⟨h, rfl⟩
 rcases hown with ⟨h2, ho⟩ | ⟨h2, ho⟩
 ·repeat' first|refine st ?_|(with_reducible first|apply k_d|apply k_b)<;>intro _
  refine x_frz 3 rfl rfl rfl ?_
  repeat' first|refine st ?_|(with_reducible first|apply k_d|apply k_b)<;>intro _
  refine x_loop2 mixed Lt.bt_ref11_Columns_l1 Lk.bt_ref11_Columns_l1 (fun (i : Nat) (out : List Int) => [.d (.sl (eIs out)), .d (eI i)]) (fun i out => [.cells [.d (eI op), .d (eI n), .d (eI v.k), .d (eI v.n), .d (.str v.s), .d (.str nm), .d da], .arr [[eI n]] 1 1 false, .arr [[eI n]] 1 0 false]) (fun i out => i ≤ args.length ∧ out = (args.take i).foldl rcS (own op n)) (fun i _ => args.length - i) 0 (own op n) rfl rfl (by rw [ho]; rfl) rfl (fun _ _ _ => ⟨rfl, rfl⟩) rfl ⟨Nat.zero_le _, rfl⟩ ?_
  repeat' first|refine st ?_|(with_reducible first|apply k_d|apply k_b)<;>intro _
  intro i out ⟨h4, h5⟩
  cases hx : args[i]? with
  | none =>
   have hge := List.getElem?_eq_none_iff.1 hx
   rw [List.take_of_length_le hge] at h5
   repeat' first|refine st ?_|(with_reducible first|apply k_d|apply k_b)<;>intro _
   rw [h5]
  | some x =>
   have hlt := (List.getElem?_eq_some_iff.1 hx).1
   have hgx := xL_get hx
   have hxm := List.mem_of_getElem? hx
   have hxb : bulkL x.ds ≤ bulkLL (xL args) := bulkLL_mem (List.mem_map.2 ⟨x, hxm, rfl⟩)
   have hi := ih x hxm (b4 x hxm)
   have hs := foldl_take_succ rcS (own op n) args i x hx
   rw [← h5] at hs
   have hol : out.length ≤ 1 + bulkLL (xL args) := by
    have q1 := foldl_rcS_len (args.take i) (own op n)
    have q2 := own_len op n
    have q3 : bulkLL (xL (args.take i)) ≤ bulkLL (xL args) := bulk_take args i
    rw [h5]; omega
   have hrl := cols_len x
   rw [← rcE_cols] at hrl
   obtain ⟨ys, hys⟩ : ∃ y, y = rcE x := ⟨_, rfl⟩
   have hss : rcS out x = ys.foldl ins out := by rw [hys]; rfl
   rw [hss] at hs
   rw [← hys] at hi hrl
   unfold Ex.bk at hrl
   have hyl := eIs_len ys
   obtain ⟨o1, n1, v1, m1, l1, a1⟩ := x
   rw [Ex.ds_mk] at hgx
   rw [Ex.av_mk] at hi
   repeat' first|refine st ?_|((with_reducible first|apply k_pn|apply k_pc);(·exact hi))|(with_reducible first|apply k_d|apply k_b)<;>intro _
   refine x_loop2 mixed Lt.bt_ref11_Columns_l0 Lk.bt_ref11_Columns_l0 (fun (k : Nat) (o2 : List Int) => [.d (.sl (eIs o2)), .d (eI k)]) (fun k o2 => [.cells [.d (eI op), .d (eI n), .d (eI v.k), .d (eI v.n), .d (.str v.s), .d (.str nm), .d da], .arr [[eI n]] 1 1 false, .arr [[eI n]] 1 0 false]) (fun k o2 => k ≤ ys.length ∧ o2 = (ys.take k).foldl ins out) (fun k _ => ys.length - k) 0 out rfl rfl rfl rfl (fun _ _ _ => ⟨rfl, rfl⟩) rfl ⟨Nat.zero_le _, rfl⟩ ?_
   repeat' first|refine st ?_|(with_reducible first|apply k_d|apply k_b)<;>intro _
   intro k o2 ⟨q1, q2⟩
   cases hy : ys[k]? with
   | none =>
    have hge := List.getElem?_eq_none_iff.1 hy
    rw [List.take_of_length_le hge, ← hs] at q2
    repeat' first|refine st ?_|(with_reducible first|apply k_d|apply k_b)<;>intro _
    exact ⟨i + 1, o2, rfl, rfl, rfl, by omega, by omega, q2⟩
   | some y =>
    have hklt := (List.getElem?_eq_some_iff.1 hy).1
    have hgy := eIs_get hy
    have hs2 := foldl_take_succ ins out ys k y hy
    rw [← q2] at hs2
    have hI := C.r11_insert o2 (by
     have q3 := foldl_ins_len (ys.take k) out
     rw [List.length_take] at q3
     rw [q2]; omega) y (.sl (eIs o2)) sld_sl
    repeat' first|refine st ?_|((with_reducible first|apply k_pn|apply k_pc);(·exact hI))|(with_reducible first|apply k_d|apply k_b)<;>intro _
    exact ⟨k + 1, ins o2 y, rfl, rfl, rfl, by omega, by omega, hs2.symm⟩
 ·repeat' first|refine st ?_|(with_reducible first|apply k_d|apply k_b)<;>intro _
  refine x_frz 3 rfl rfl rfl ?_
  repeat' first|refine st ?_|(with_reducible first|apply k_d|apply k_b)<;>intro _
  refine x_loop2 mixed Lt.bt_ref11_Columns_l1 Lk.bt_ref11_Columns_l1 (fun (i : Nat) (out : List Int) => [.d (.sl (eIs out)), .d (eI i)]) (fun i out => [.cells [.d (eI op), .d (eI n), .d (eI v.k), .d (eI v.n), .d (.str v.s), .d (.str nm), .d da], .arr [] 1 0 false]) (fun i out => i ≤ args.length ∧ out = (args.take i).foldl rcS (own op n)) (fun i _ => args.length - i) 0 (own op n) rfl rfl (by rw [ho]; rfl) rfl (fun _ _ _ => ⟨rfl, rfl⟩) rfl ⟨Nat.zero_le _, rfl⟩ ?_
  repeat' first|refine st ?_|(with_reducible first|apply k_d|apply k_b)<;>intro _
  intro i out ⟨h4, h5⟩
  cases hx : args[i]? with
  | none =>
   have hge := List.getElem?_eq_none_iff.1 hx
   rw [List.take_of_length_le hge] at h5
   repeat' first|refine st ?_|(with_reducible first|apply k_d|apply k_b)<;>intro _
   rw [h5]
  | some x =>
   have hlt := (List.getElem?_eq_some_iff.1 hx).1
   have hgx := xL_get hx
   have hxm := List.mem_of_getElem? hx
   have hxb : bulkL x.ds ≤ bulkLL (xL args) := bulkLL_mem (List.mem_map.2 ⟨x, hxm, rfl⟩)
   have hi := ih x hxm (b4 x hxm)
   have hs := foldl_take_succ rcS (own op n) args i x hx
   rw [← h5] at hs
   have hol : out.length ≤ 1 + bulkLL (xL args) := by
    have q1 := foldl_rcS_len (args.take i) (own op n)
    have q2 := own_len op n
    have q3 : bulkLL (xL (args.take i)) ≤ bulkLL (xL args) := bulk_take args i
    rw [h5]; omega
   have hrl := cols_len x
   rw [← rcE_cols] at hrl
   obtain ⟨ys, hys⟩ : ∃ y, y = rcE x := ⟨_, rfl⟩
   have hss : rcS out x = ys.foldl ins out := by rw [hys]; rfl
   rw [hss] at hs
   rw [← hys] at hi hrl
   unfold Ex.bk at hrl
   have hyl := eIs_len ys
   obtain ⟨o1, n1, v1, m1, l1, a1⟩ := x
   rw [Ex.ds_mk] at hgx
   rw [Ex.av_mk] at hi
   repeat' first|refine st ?_|((with_reducible first|apply k_pn|apply k_pc);(·exact hi))|(with_reducible first|apply k_d|apply k_b)<;>intro _
   refine x_loop2 mixed Lt.bt_ref11_Columns_l0 Lk.bt_ref11_Columns_l0 (fun (k : Nat) (o2 : List Int) => [.d (.sl (eIs o2)), .d (eI k)]) (fun k o2 => [.cells [.d (eI op), .d (eI n), .d (eI v.k), .d (eI v.n), .d (.str v.s), .d (.str nm), .d da], .arr [] 1 0 false]) (fun k o2 => k ≤ ys.length ∧ o2 = (ys.take k).foldl ins out) (fun k _ => ys.length - k) 0 out rfl rfl rfl rfl (fun _ _ _ => ⟨rfl, rfl⟩) rfl ⟨Nat.zero_le _, rfl⟩ ?_
   repeat' first|refine st ?_|(with_reducible first|apply k_d|apply k_b)<;>intro _
   intro k o2 ⟨q1, q2⟩
   cases hy : ys[k]? with
   | none =>
    have hge := List.getElem?_eq_none_iff.1 hy
    rw [List.take_of_length_le hge, ← hs] at q2
    repeat' first|refine st ?_|(with_reducible first|apply k_d|apply k_b)<;>intro _
    exact ⟨i + 1, o2, rfl, rfl, rfl, by omega, by omega, q2⟩
   | some y =>
    have hklt := (List.getElem?_eq_some_iff.1 hy).1
    have hgy := eIs_get hy
    have hs2 := foldl_take_succ ins out ys k y hy
    rw [← q2] at hs2
    have hI := C.r11_insert o2 (by
     have q3 := foldl_ins_len (ys.take k) out
     rw [List.length_take] at q3
     rw [q2]; omega) y (.sl (eIs o2)) sld_sl
    repeat' first|refine st ?_|((with_reducible first|apply k_pn|apply k_pc);(·exact hI))|(with_reducible first|apply k_d|apply k_b)<;>intro _
    exact ⟨k + 1, ins o2 y, rfl, rfl, rfl, by omega, by omega, hs2.symm⟩
end Go.Proofs
end
section
namespace Go.Proofs
open Go.Bi
theorem C.r14_has (l : List Int) (hl : l.length ≤ 1048576) (d : D) (hd : SlD d (eIs l)) (c : Int) : Pure Tryz.prog N.bt_ref14_has [.d d, .d (eI c)] (.d (.bool (decide (c ∈ l)))) := by
 refine F.bt_ref14_has.go mixed rfl ?_
 have h1 := eIs_len l
 have hm := eIs_mem l
 obtain ⟨q, hq⟩ : ∃ q, q = decide (c ∈ l) := ⟨_, rfl⟩
 rw [← hq]
 repeat' first|refine st ?_|(with_reducible first|apply k_d|apply k_b)<;>intro _
 refine x_loop1 mixed Lt.bt_ref14_has_l0 Lk.bt_ref14_has_l0 (fun (i : Nat) => [.d (eI i)]) (fun i => []) (fun i => i ≤ l.length ∧ q = decide (c ∈ l.drop i)) (fun i => l.length - i) 0 rfl rfl rfl rfl (fun _ _ => ⟨rfl, rfl⟩) rfl ⟨by omega, hq⟩ ?_
 repeat' first|refine st ?_|(with_reducible first|apply k_d|apply k_b)<;>intro _
 intro i ⟨h4, h5⟩
 cases hx : l[i]? with
 | some x =>
  obtain ⟨hlt, he⟩ := List.getElem?_eq_some_iff.1 hx
  have hg := eIs_get hx
  rw [List.drop_eq_getElem_cons hlt, he] at h5
  by_cases hc : x = c
  ·subst hc
   rw [show q = true by rw [h5]; simp]
   repeat' first|refine st ?_|(with_reducible first|apply k_d|apply k_b)<;>intro _
   all_goals rfl
  ·repeat' first|refine st ?_|(with_reducible first|apply k_d|apply k_b)<;>intro _
   exact ⟨i + 1, rfl, rfl, rfl, by omega, by omega, by rw [h5]; simp [Ne.symm hc]⟩
 | none =>
  have hge := List.getElem?_eq_none_iff.1 hx
  rw [List.drop_of_length_le hge] at h5
  rw [h5]
  repeat' first|refine st ?_|(with_reducible first|apply k_d|apply k_b)<;>intro _
  all_goals rfl
theorem C.r14_plain (c : Ch) : Pure Tryz.prog N.bt_ref14_plain [c.av] (if c.k = 1 then chD c.k [] [] c.co.nm c.co.k c.co.nl c.df.k c.df.n c.df.s else if c.k = 3 then chD c.k c.nm c.to [] 0 false 0 0 [] else chD c.k c.nm [] [] 0 false 0 0 []) := by
 obtain ⟨k, nm, to, ⟨cn, ck, cl⟩, ⟨vk, vn, vs⟩⟩ := c
 dsimp only
 by_cases h1 : k = 1
 ·rw [if_pos h1]
  refine F.bt_ref14_plain.go mixed rfl ?_
  repeat' first|refine st ?_|(with_reducible first|apply k_d|apply k_b)<;>intro _
  all_goals rfl
 ·rw [if_neg h1]
  by_cases h3 : k = 3
  ·rw [if_pos h3]
   refine F.bt_ref14_plain.go mixed rfl ?_
   repeat' first|refine st ?_|(with_reducible first|apply k_d|apply k_b)<;>intro _
   all_goals rfl
  ·rw [if_neg h3]
   refine F.bt_ref14_plain.go mixed rfl ?_
   repeat' first|refine st ?_|(with_reducible first|apply k_d|apply k_b)<;>intro _
   all_goals rfl
end Go.Proofs
end
section
namespace Go.Proofs
open Go.Bi
theorem C.r14_used (t : Tb) (dc dk df dx : D) (h : Tok t dc dk df dx) (c : Int) : Pure Tryz.prog N.bt_ref14_used [eT t.nm dc dk df dx, .d (eI c)] (.d (.bool (decide (c ∈ usedL t)))) := by
 obtain ⟨q, hq⟩ : ∃ q, q = decide (c ∈ usedL t) := ⟨_, rfl⟩
 rw [← hq]
 unfold usedL usedF usedX at hq
 obtain ⟨n, l, ks, fs, xs⟩ := t
 obtain ⟨hn, hl, hls, hk, hfl, hfc, hxs, hxb, hc, hdk, hdf, hdx⟩ := h
 dsimp only at *
 have hK := C.r14_has ks hk dk hdk c
 have f1 := eFs_len fs
 have f2 := eFs_mem fs
 have x1 := xL_len xs
 have x2 := xL_mem xs
 have fg0 := fun i f => eFs_get (l := fs) (i := i) (f := f)
 obtain ⟨FS, hFS⟩ : ∃ es, es = eFs fs := ⟨_, rfl⟩
 rw [← hFS] at f1 f2 hdf fg0
 have xg0 := xL_get'' (args := xs)
 obtain ⟨XS, hXS⟩ : ∃ es, es = xL xs := ⟨_, rfl⟩
 rw [← hXS] at x1 x2 hdx xg0
 refine F.bt_ref14_used.go mixed rfl ?_
 by_cases hin : c ∈ ks
 ·rw [decide_eq_true hin] at hK
  rw [show q = true by rw [hq]; simp [hin]]
  repeat' first|refine st ?_|((with_reducible first|apply k_pn|apply k_pc);(·exact hK))|(with_reducible first|apply k_d|apply k_b)<;>intro _
  all_goals rfl
 rw [decide_eq_false hin] at hK
 have hq : q = decide (c ∈ fs.flatMap Fo.cs ∨ c ∈ xs.flatMap cols) := by rw [hq]; simp [hin]
 repeat' first|refine st ?_|((with_reducible first|apply k_pn|apply k_pc);(·exact hK))|(with_reducible first|apply k_d|apply k_b)<;>intro _
 refine x_loop1 mixed Lt.bt_ref14_used_l0 Lk.bt_ref14_used_l0 (fun (i : Nat) => [.d (eI i)]) (fun i => [.cells [.d (.str n), .d dc, .d dk, .d df, .d dx]]) (fun i => i ≤ fs.length ∧ q = decide (c ∈ (fs.drop i).flatMap Fo.cs ∨ c ∈ xs.flatMap cols)) (fun i => fs.length - i) 0 rfl rfl rfl rfl (fun _ _ => ⟨rfl, rfl⟩) rfl ⟨by omega, hq⟩ ?_
 repeat' first|refine st ?_|(with_reducible first|apply k_d|apply k_b)<;>intro _
 intro i ⟨h4, h5⟩
 cases hx : fs[i]? with
 | some f =>
  obtain ⟨hlt, he⟩ := List.getElem?_eq_some_iff.1 hx
  have hg := fg0 _ _ hx
  obtain ⟨hf, hft⟩ := hfc f (List.mem_of_getElem? hx)
  have hF := C.r14_has f.cs hf f.d f.sld c
  rw [List.drop_eq_getElem_cons hlt, he] at h5
  obtain ⟨nl, cs, tb⟩ := f
  obtain ⟨fd, hfd⟩ : ∃ fd, fd = Fo.d ⟨nl, cs, tb⟩ := ⟨_, rfl⟩
  have hg : FS[i]? = some [Fo.d ⟨nl, cs, tb⟩, .str tb] := hg
  rw [← hfd] at hg hF
  dsimp only at hF h5
  by_cases hcin : c ∈ cs
  ·rw [decide_eq_true hcin] at hF
   rw [show q = true by rw [h5]; simp [hcin]]
   repeat' first|refine st ?_|((with_reducible first|apply k_pn|apply k_pc);(·exact hF))|(with_reducible first|apply k_d|apply k_b)<;>intro _
   all_goals rfl
  ·rw [decide_eq_false hcin] at hF
   have h5 : q = decide (c ∈ (fs.drop (i + 1)).flatMap Fo.cs ∨ c ∈ xs.flatMap cols) := by rw [h5, List.flatMap_cons]; simp only [List.mem_append, hcin, false_or]
   repeat' first|refine st ?_|((with_reducible first|apply k_pn|apply k_pc);(·exact hF))|(with_reducible first|apply k_d|apply k_b)<;>intro _
   exact ⟨i + 1, rfl, rfl, rfl, by omega, by omega, h5⟩
 | none =>
  have hge := List.getElem?_eq_none_iff.1 hx
  rw [List.drop_of_length_le hge] at h5
  have h5 : q = decide (c ∈ xs.flatMap cols) := by rw [h5]; simp
  repeat' first|refine st ?_|(with_reducible first|apply k_d|apply k_b)<;>intro _
  refine x_loop1 mixed Lt.bt_ref14_used_l1 Lk.bt_ref14_used_l1 (fun (i : Nat) => [.d (eI i)]) (fun i => [.cells [.d (.str n), .d dc, .d dk, .d df, .d dx]]) (fun i => i ≤ xs.length ∧ q = decide (c ∈ (xs.drop i).flatMap cols)) (fun i => xs.length - i) 0 rfl rfl rfl rfl (fun _ _ => ⟨rfl, rfl⟩) rfl ⟨by omega, h5⟩ ?_
  repeat' first|refine st ?_|(with_reducible first|apply k_d|apply k_b)<;>intro _
  intro j ⟨h6, h7⟩
  cases hy : xs[j]? with
  | some e =>
   obtain ⟨hlt, he⟩ := List.getElem?_eq_some_iff.1 hy
   have hb := hxb e (List.mem_of_getElem? hy)
   have hCo := C.r11_Columns e hb
   rw [rcE_cols] at hCo
   have hF := C.r14_has (cols e) (Nat.le_trans (cols_len e) hb) (.sl (eIs (cols e))) sld_sl c
   rw [List.drop_eq_getElem_cons hlt, he] at h7
   obtain ⟨ce, hce⟩ : ∃ d, d = cols e := ⟨_, rfl⟩
   rw [List.flatMap_cons] at h7
   rw [← hce] at hCo hF h7
   obtain ⟨o1, n1, v1, m1, l1, a1⟩ := e
   have hg := xg0 _ _ _ _ _ _ _ hy
   rw [Ex.av_mk] at hCo
   by_cases hcin : c ∈ ce
   ·rw [decide_eq_true hcin] at hF
    rw [show q = true by rw [h7]; simp [hcin]]
    repeat' first|refine st ?_|((with_reducible first|apply k_pn|apply k_pc);(·first|exact hCo|exact hF))|(with_reducible first|apply k_d|apply k_b)<;>intro _
    all_goals rfl
   ·rw [decide_eq_false hcin] at hF
    have h7 : q = decide (c ∈ (xs.drop (j + 1)).flatMap cols) := by rw [h7]; simp only [List.mem_append, hcin, false_or]
    repeat' first|refine st ?_|((with_reducible first|apply k_pn|apply k_pc);(·first|exact hCo|exact hF))|(with_reducible first|apply k_d|apply k_b)<;>intro _
    exact ⟨j + 1, rfl, rfl, rfl, by omega, by omega, h7⟩
  | none =>
   have hge := List.getElem?_eq_none_iff.1 hy
   rw [List.drop_of_length_le hge] at h7
   rw [show q = false by rw [h7]; simp]
   repeat' first|refine st ?_|(with_reducible first|apply k_d|apply k_b)<;>intro _
   all_goals rfl
theorem C.r14_add (t : Tb) (dc dk df dx : D) (h : Tok t dc dk df dx) (c : Ch) (hcn : c.co.nm.length ≤ 1048576) (hcv : c.df.s.length ≤ 1048576) : Pure Tryz.prog N.bt_ref14_add [eT t.nm dc dk df dx, c.av] (.d (eI (addE t c))) := by
 have hF := C.r13_Find t.nm t.cs h.hl dc dk df dx h.dc c.co.nm
 have hN := C.r13_Name c.co.nm hcn
 have hV := C.r7_Valid c.df (by omega)
 have hl := eCs_len t.cs
 have hdc := h.dc
 obtain ⟨q, hq⟩ : ∃ q, q = addE t c := ⟨_, rfl⟩
 rw [← hq]
 unfold addE at hq
 obtain ⟨f, hf⟩ : ∃ f, f = findC c.co.nm t.cs := ⟨_, rfl⟩
 obtain ⟨nb, hnb⟩ : ∃ f, f = nameB c.co.nm := ⟨_, rfl⟩
 obtain ⟨vb, hvb⟩ : ∃ f, f = vValid c.df := ⟨_, rfl⟩
 rw [← hf] at hF hq
 rw [← hnb] at hN hq
 rw [← hvb] at hV hq
 obtain ⟨k, nm, to, ⟨cn, ck, cl⟩, ⟨vk, vn, vs⟩⟩ := c
 obtain ⟨es, hes⟩ : ∃ es, es = eCs t.cs := ⟨_, rfl⟩
 rw [← hes] at hl hdc
 dsimp only at hq hF hN hV
 obtain ⟨m0, hm0⟩ : ∃ m, m = t.cs.length := ⟨_, rfl⟩
 rw [← hm0] at hq hl
 clear hf hnb hvb hes hm0
 refine F.bt_ref14_add.go mixed rfl ?_
 repeat' first|refine st ?_|((with_reducible first|apply k_pn|apply k_pc);(·first|exact hF|exact hN|exact hV))|(with_reducible first|apply k_d|apply k_b)<;>intro _
 all_goals (rw [hq]; clear hq hF hN hV)
 all_goals repeat' split
 all_goals first | rfl | (exfalso; omega) | (exfalso; simp_all; done) | (exfalso; simp_all; omega)
end Go.Proofs
end
section
namespace Go.Proofs
open Go.Bi
theorem C.r14_Check (t : Tb) (dc dk df dx : D) (h : Tok t dc dk df dx) (c : Ch) (hc : Cok c) : Pure Tryz.prog N.bt_ref14_Check [eT t.nm dc dk df dx, c.av] (.d (eI (evoE t c))) := by
 have hT := C.r13_Check t dc dk df dx h
 have hS := C.r14_plain c
 have hA := C.r14_add t dc dk df dx h c hc.cn hc.vs
 have hF := C.r13_Find t.nm t.cs h.hl dc dk df dx h.dc c.nm
 have hG := C.r13_Find t.nm t.cs h.hl dc dk df dx h.dc c.to
 have hN := C.r13_Name c.to hc.to
 have hU := C.r14_used t dc dk df dx h (findC c.nm t.cs)
 have hl := eCs_len t.cs
 have hme := eCs_mem t.cs
 have hdc := h.dc
 obtain ⟨q, hq⟩ : ∃ q, q = evoE t c := ⟨_, rfl⟩
 rw [← hq]
 unfold evoE chgE at hq
 have hfs := fun hh => findC_some (nm := c.nm) (l := t.cs) hh
 obtain ⟨n0, hn0⟩ : ∃ n : Nat, n = (usedL t).count (findC c.nm t.cs) := ⟨_, rfl⟩
 rw [← hn0] at hq
 rw [show decide (findC c.nm t.cs ∈ usedL t) = decide (0 < n0) from decide_eq_decide.2 (by rw [hn0]; exact List.count_pos_iff.symm)] at hU
 obtain ⟨f, hf⟩ : ∃ f, f = findC c.nm t.cs := ⟨_, rfl⟩
 rw [← hf] at hF hq hfs hU
 obtain ⟨g, hg⟩ : ∃ f, f = findC c.to t.cs := ⟨_, rfl⟩
 rw [← hg] at hG hq
 obtain ⟨nb, hnb⟩ : ∃ f, f = nameB c.to := ⟨_, rfl⟩
 rw [← hnb] at hN hq
 obtain ⟨ae, hae⟩ : ∃ f, f = addE t c := ⟨_, rfl⟩
 rw [← hae] at hA hq
 obtain ⟨te, hte⟩ : ∃ f, f = tabE t := ⟨_, rfl⟩
 rw [← hte] at hT hq
 have hix : 0 ≤ f → ∃ s k b, (eCs t.cs)[f.toNat]? = some [.str s, eI k, .bool b] ∧ ckAt t f = k ∧ f < t.cs.length := by
  intro hh
  obtain ⟨d, h1, h2⟩ := hfs hh
  have h3 := (List.getElem?_eq_some_iff.1 h1).1
  exact ⟨d.nm, d.k, d.nl, eCs_get h1, by unfold ckAt; rw [h1], by omega⟩
 obtain ⟨k, nm, to, ⟨cn, ck, cl⟩, ⟨vk, vn, vs⟩⟩ := c
 obtain ⟨es, hes⟩ : ∃ es, es = eCs t.cs := ⟨_, rfl⟩
 rw [← hes] at hl hdc hix hme
 obtain ⟨ka, hka⟩ : ∃ x, x = ckAt t f := ⟨_, rfl⟩
 rw [← hka] at hq hix
 obtain ⟨m0, hm0⟩ : ∃ m, m = t.cs.length := ⟨_, rfl⟩
 rw [← hm0] at hl hix
 simp only [spareB] at hq
 dsimp only at hq hF hG hN hS hA hT hU
 clear hfs hf hg hnb hae hte hes hka hm0 hc h hn0
 have r1 : nm = nm := rfl
 have r2 : to = to := rfl
 have r3 : cn = cn := rfl
 have r4 : vs = vs := rfl
 by_cases h1 : k = 1
 ·rw [if_pos h1] at hS
  refine F.bt_ref14_Check.go mixed rfl ?_
  repeat' first|refine st ?_|((with_reducible first|apply k_pn|apply k_pc);(·first|exact hF|exact hN|exact hG|exact hS|exact hA|exact hT|exact hU))|(with_reducible first|apply k_d|apply k_b)<;>intro _
  all_goals (rw [hq]; clear hq hF hN hG hS hA hT hU hix)
  all_goals (try dsimp only at *)
  all_goals first | (simp_all; done) | (simp_all; (try intros); (repeat' split) <;> omega)
 rw [if_neg h1] at hS
 by_cases h3 : k = 3
 ·rw [if_pos h3] at hS
  refine F.bt_ref14_Check.go mixed rfl ?_
  repeat' first|refine st ?_|((with_reducible first|apply k_pn|apply k_pc);(·first|exact hF|exact hN|exact hG|exact hS|exact hA|exact hT|exact hU))|(with_reducible first|apply k_d|apply k_b)<;>intro _
  all_goals (rw [hq]; clear hq hF hN hG hS hA hT hU hix)
  all_goals (try dsimp only at *)
  all_goals first | (simp_all; done) | (simp_all; (try intros); (repeat' split) <;> omega)
 rw [if_neg h3] at hS
 by_cases hf0 : f < 0
 ·clear hix
  refine F.bt_ref14_Check.go mixed rfl ?_
  repeat' first|refine st ?_|((with_reducible first|apply k_pn|apply k_pc);(·first|exact hF|exact hN|exact hG|exact hS|exact hA|exact hT|exact hU))|(with_reducible first|apply k_d|apply k_b)<;>intro _
  all_goals (rw [hq]; clear hq hF hN hG hS hA hT hU)
  all_goals (try dsimp only at *)
  all_goals first | (simp_all; done) | (simp_all; (try intros); (repeat' split) <;> omega)
 ·obtain ⟨s, kk, b, hgt, rfl, hlt⟩ := hix (by omega)
  have hf1 : 0 ≤ f := by omega
  refine F.bt_ref14_Check.go mixed rfl ?_
  repeat' first|refine st ?_|((with_reducible first|apply k_pn|apply k_pc);(·first|exact hF|exact hN|exact hG|exact hS|exact hA|exact hT|exact hU))|(with_reducible first|apply k_d|apply k_b)<;>intro _
  all_goals (rw [hq]; clear hq hF hN hG hS hA hT hU hix)
  all_goals (try dsimp only at *)
  all_goals first | (simp_all; done) | (simp_all; (try intros); (repeat' split) <;> omega)
end Go.Proofs
end
section
namespace Go.Proofs
open Go.RowKit Go.Lib
theorem tz_co : Bi.tz Tryz.prog 29 = some [.str [], .int .i64 0, .bool false] := by kernel_rfl
theorem under_cos : Tryz.prog.underlying 22 = some (.slice 29) := by kernel_rfl
theorem info_co : (Tryz.prog.info? 29).map (fun i => i.size) = some 3 := by kernel_rfl
theorem zeroCells_one (z : Array Value) (h : 0 < z.size) : (Builtin.zeroCells z 1).toList = z.toList := by
 apply List.ext_getElem?
 intro i
 simp only [Builtin.zeroCells, Nat.one_mul, Array.getElem?_toList, Array.getElem?_map, Array.getElem?_range]
 by_cases hi : i < z.size
 ·simp [hi, Nat.mod_eq_of_lt hi]
 ·simp [hi]
theorem run_clear_co (w : World) (ty : TypeId) (z : Value) (hv : ∀ w, (zeroValue 29).run Tryz.prog w = .ok z w) (hz : z.cells.size = 3) (h1 : ∀ u ∈ z.cells.toList, u.oneCell' = true) (b o c : Nat) (hc : ∀ j, j < 3 → (w.cell? ⟨b, o + j, none⟩).isSome = true) (hf : ∀ j, j < 3 → w.frozen? ⟨b, o + j, none⟩ = false) :
  (Builtin.clear_ #[22] ty #[.slice (some ⟨b, o, none⟩) 1 c]).run Tryz.prog w = .ok (.tuple #[]) (w.setCells b o z.cells.toList) := by
 have hzc := zeroCells_one z.cells (by omega)
 have hst := run_storeCells_cells (P := Tryz.prog) b o z.cells.toList 0 w (by simpa [hz] using hc) (by simpa [hz] using hf) h1
 simp only [Nat.add_zero] at hst
 simp [Builtin.clear_, run_underlying under_cos, hv, hzc, hst]
set_option maxHeartbeats 4000000 in
set_option maxRecDepth 1000000 in
theorem del_co (z : Value) (hv : ∀ w, (zeroValue 29).run Tryz.prog w = .ok z w) (hz : z.cells.size = 3) (hz1 : ∀ u ∈ z.cells.toList, u.oneCell' = true) (blk n cap i : Nat) (ca : Array Value) (w : World) (hi : i < n) (hl : n ≤ cap) (hm : cap ≤ 9223372036854775807) (hsz : ca.size = cap * 3)
  (hc : ∀ k, w.cell? ⟨blk, k, none⟩ = ca[k]?) (hf : ∀ k, k < ca.size → w.frozen? ⟨blk, k, none⟩ = false) (hone : ∀ k u, k < n * 3 → ca[k]? = some u → u.oneCell' = true) :
  Calls Tryz.prog 40 #[.slice (some ⟨blk, 0, none⟩) n cap, .int .i64 i, .int .i64 ((i : Int) + 1)] w fun e w' => e = .returned (.slice (some ⟨blk, 0, none⟩) (n - 1) cap) ∧
   w' = (w.drew.setCells blk (0 + i * 3) ((ca.toList.drop ((i + 1) * 3)).take ((n - (i + 1)) * 3))).setCells blk ((i + (n - (i + 1))) * 3) z.cells.toList := by
 obtain ⟨i0, hi0, hz1'⟩ := Option.map_eq_some_iff.1 info_co
 obtain ⟨news, hnews⟩ : ∃ news, news = (ca.toList.drop ((i + 1) * 3)).take ((n - (i + 1)) * 3) := ⟨_, rfl⟩
 have hlen : news.length = (n - (i + 1)) * 3 := by rw [hnews]; simp; omega
 have hget : ∀ t, t < (n - (i + 1)) * 3 → news[t]? = ca[(i + 1) * 3 + t]? := by
  intro t ht
  rw [hnews, List.getElem?_take, if_pos ht, List.getElem?_drop, Array.getElem?_toList]
 obtain ⟨A, hA, hsrc⟩ : ∃ A : Addr, (if cap = i + 1 then some (⟨blk, 0, none⟩ : Addr) else some ⟨blk, (i + 1) * 3, none⟩) = some A ∧ Hid (∀ t u, news[t]? = some u → w.drew.cell? (A.add t) = some u) := by
  by_cases h : cap = i + 1
  ·refine ⟨⟨blk, 0, none⟩, by simp [h], fun t u hu => ?_⟩
   have h0 : news.length = 0 := by rw [hlen]; omega
   rw [List.length_eq_zero_iff.1 h0] at hu
   simp at hu
  ·refine ⟨⟨blk, (i + 1) * 3, none⟩, by simp [h], fun t u hu => ?_⟩
   have ht : t < (n - (i + 1)) * 3 := by
    have := (List.getElem?_eq_some_iff.1 hu).1
    rwa [hlen] at this
   rw [hget t ht] at hu
   rw [Addr.add_lit]
   exact (hc _).trans hu
 have s1 : Hid (news.length = (n - (i + 1)) * 3) := hlen
 have s2 : Hid (∀ u ∈ news, u.oneCell' = true) := by
  intro u hu
  obtain ⟨t, ht⟩ := List.mem_iff_getElem?.1 hu
  have htl : t < (n - (i + 1)) * 3 := by
   have := (List.getElem?_eq_some_iff.1 ht).1
   rwa [hlen] at this
  rw [hget t htl] at ht
  exact hone _ u (by omega) ht
 have s3 : Hid (∀ t, t < news.length → (w.drew.cell? ⟨blk, 0 + i * 3 + t, none⟩).isSome = true ∧ w.drew.frozen? ⟨blk, 0 + i * 3 + t, none⟩ = false) := by
  intro t ht
  rw [hlen] at ht
  have hk : 0 + i * 3 + t < ca.size := by omega
  refine ⟨?_, hf _ hk⟩
  show (w.cell? _).isSome = true
  rw [hc, Array.getElem?_eq_getElem hk]; rfl
 obtain ⟨W1, hW1⟩ : ∃ W1, W1 = w.drew.setCells blk (0 + i * 3) news := ⟨_, rfl⟩
 have hcl : ∀ ty, (Builtin.clear_ #[22] ty #[.slice (some ⟨blk, (i + (n - (i + 1))) * 3, none⟩) (n - (i + (n - (i + 1)))) (cap - (i + (n - (i + 1))))]).run Tryz.prog W1 = .ok (.tuple #[]) (W1.setCells blk ((i + (n - (i + 1))) * 3) z.cells.toList) := fun ty => by
  rw [show n - (i + (n - (i + 1))) = 1 by omega]
  refine run_clear_co W1 ty z hv hz hz1 blk _ _ (fun j hj => ?_) (fun j hj => ?_)
  ·rw [hW1]
   have hk : (i + (n - (i + 1))) * 3 + j < ca.size := by omega
   refine isSome_setCells blk _ _ _ _ ?_
   show (w.cell? _).isSome = true
   rw [hc, Array.getElem?_eq_getElem hk]; rfl
  ·rw [hW1, World.frozen?_setCells]
   exact hf _ (by omega)
 rw [← hnews]
 obtain ⟨zs, hzs⟩ : ∃ zs, zs = z.cells.toList := ⟨_, rfl⟩
 rw [← hzs] at hcl ⊢
 clear hzs hz1 hz hv
 have hW : Hid (W1 = w.drew.setCells blk (0 + i * 3) news) := hW1
 have hic : i ≤ cap := by omega
 have hjc : i + 1 ≤ cap := by omega
 have hp0 : (0 : Int) ≤ (i : Int) + 1 := by omega
 have hp1 : (i : Int) + 1 ≤ (n : Int) := by omega
 have hp2 : ((i : Int) + 1).toNat = i + 1 := by omega
 have hne : ¬ ((i : Int) = (i : Int) + 1) := by omega
 clear hW1 hc hf hget hnews hlen hone
 go_enter Tryz.func40, Tryz.ntmps40
 go_wp2_with fail
 go_region_law (refine step_append_room rfl (.tmp 22) (.tmp 25) 22 rfl 29 i0 3 under_cos hi0 hz1' blk 0 i cap (by simp [Act.eval, Act.put]) A (n - (i + 1)) (cap - (i + 1)) news (by simp [Act.eval, Act.put]) s1.out hsrc.out s2.out (by omega) s3.out ?_; rw [← hW.out])
 go_wp2
 go_ret
 exact ⟨by rw [show n - 1 = i + (n - (i + 1)) by omega]; rfl, by rw [hW.out]⟩
end Go.Proofs
end
section
namespace Go.Bi
open Go
theorem heap_setCells (b : Nat) : ∀ (vs : List Value) (o : Nat) (w : World) (ca : Array Value) (t : TypeId), w.heap[b]? = some (.cells ca t (0, 0)) →
  ∃ ca', (w.setCells b o vs).heap[b]? = some (.cells ca' t (0, 0)) ∧ ca'.size = ca.size ∧ (∀ k, ca'[k]? = if o ≤ k ∧ k < o + vs.length ∧ k < ca.size then vs[k - o]? else ca[k]?) ∧
   (∀ b', b' ≠ b → (w.setCells b o vs).heap[b']? = w.heap[b']?) ∧ (w.setCells b o vs).os = w.os ∧ (w.setCells b o vs).tape = w.tape ∧ (w.setCells b o vs).output = w.output ∧ (w.setCells b o vs).heap.size = w.heap.size
 | [], o, w, ca, t, h => ⟨ca, h, rfl, fun k => by rw [if_neg (by simp; omega)], fun _ _ => rfl, rfl, rfl, rfl, rfl⟩
 | v :: vs, o, w, ca, t, h => by
  have h1 : (w.setCell ⟨b, o, none⟩ v).heap[b]? = some (.cells (ca.setIfInBounds o v) t (0, 0)) := by
   simp [World.setCell, Array.getElem?_modify, h]
  obtain ⟨ca', a1, a2, a3, a4, a5, a6, a7, a8⟩ := heap_setCells b vs (o + 1) (w.setCell ⟨b, o, none⟩ v) _ t h1
  refine ⟨ca', a1, by rw [a2]; simp, fun k => ?_, fun b' hb => ?_, a5, a6, a7, by rw [World.setCells, a8]; simp [World.setCell]⟩
  ·rw [a3 k]
   simp only [Array.size_setIfInBounds, List.length_cons]
   by_cases hk : k = o
   ·subst hk
    rw [if_neg (by omega)]
    by_cases hs : k < ca.size
    ·rw [if_pos (by omega), Nat.sub_self, Array.getElem?_setIfInBounds_self_of_lt hs]; rfl
    ·rw [if_neg (by omega), Array.getElem?_eq_none (by simp; omega), Array.getElem?_eq_none (by omega)]
   ·rw [Array.getElem?_setIfInBounds_ne (fun e => hk e.symm)]
    by_cases hc : o + 1 ≤ k ∧ k < o + 1 + vs.length ∧ k < ca.size
    ·rw [if_pos hc, if_pos (by omega), show k - o = (k - (o + 1)) + 1 by omega, List.getElem?_cons_succ]
    ·rw [if_neg hc, if_neg (by omega)]
  ·rw [World.setCells, a4 b' hb]
   simp [World.setCell, Array.getElem?_modify, Ne.symm hb]
section
variable {P : Program} {M : Mem} {G : Gh} {os : List AO} {w w' : World}
theorem rows_env (he : Env M G os w) {id sz : Nat} {es es' : List (List D)} (ho : os[id]? = some (.arr es sz 0 false)) (hlen : es'.length = es.length) (hsz : ∀ e ∈ es', e.length = sz) (hos : w'.os = w.os) (htp : w'.tape = w.tape) (hout : w'.output = w.output) (hs : w'.heap.size = w.heap.size)
  (hoth : ∀ b, b ≠ G.blk id → w'.heap[b]? = w.heap[b]?) (hca : ∀ ca t, w.heap[G.blk id]? = some (.cells ca t (0, 0)) → ∃ ca', w'.heap[G.blk id]? = some (.cells ca' t (0, 0)) ∧ ca'.size = ca.size ∧ ∀ (i j : Nat) e x, es'[i]? = some e → e[j]? = some x → ∃ u, ca'[i * sz + j]? = some u ∧ Rd M x u) :
  Env M G (os.set id (.arr es' sz 0 false)) w' ∧ Since M G os w M G (os.set id (.arr es' sz 0 false)) w' := by
 obtain ⟨h1, h2, h3, h4, h5⟩ := he.obj id _ ho
 obtain ⟨ca, t, h6, h7, h8, h9, h10, h11⟩ := h5 rfl
 obtain ⟨ca', k1, k2, k3⟩ := hca ca t h6
 have hlt := (List.getElem?_eq_some_iff.1 ho).1
 have hno : ∀ a v, M a = some v → a.block = G.blk id → False := fun a v ha hb => by
  obtain ⟨es', sz', frz', nl', h12, h13⟩ := he.sep id a v (Live.arr ho) ha hb
  rw [ho] at h12
  cases h12
  omega
 have hk : Keeps G G id (os.set id (.arr es' sz 0 false)) (.arr es sz 0 false) := ⟨es', 0, false, by simp [hlt], by omega, fun _ => ⟨rfl, rfl, rfl⟩⟩
 have hsu := since_upd he (w' := w') (M' := M) ho rfl hos htp hout hs hoth (fun _ _ h => h) (fun _ _ h => .inl h) hk
 refine ⟨env_upd he ho rfl hos htp hout hs hoth (fun _ _ h => h) (fun _ _ h => .inl h) hk (fun _ _ => rfl) (fun a v ha hb => (hno a v ha hb).elim) (fun a v ha hb => (hno a v ha hb).elim) ?_, hsu⟩
 exact ⟨h1, hsz, Nat.zero_le _, fun h => (by cases h), fun _ => ⟨ca', t, k1, by rw [k2]; exact h7, by omega, h9, k3, fun o ho => by omega⟩⟩
end
end Go.Bi
end
section
namespace Go.Proofs
open Go.Bi
def zRow : List D := [.str [], .int .i64 0, .bool false]
theorem erase_get {α : Type} (l : List α) (i : Nat) (hi : i < l.length) (r : Nat) : (l.eraseIdx i)[r]? = if r < i then l[r]? else l[r + 1]? := by
 rw [List.getElem?_eraseIdx]
theorem C.slices_Delete (es : List (List D)) (hm : ∀ e ∈ es, e.length = 3) (i : Nat) (hi : i < es.length) {os : List AO} {id : Nat} (ho : os[id]? = some (.arr es 3 0 false)) :
  CallSpec Tryz.prog N.slices_Delete__api_Column_api_Column [.arr id es.length, .d (eI i), .d (eI ((i : Int) + 1))] os (fun r os' => r = .d (.sl (es.eraseIdx i)) ∧ os' = os.set id (.arr (es.eraseIdx i ++ [zRow]) 3 (es.length - 1) false)) := by
 refine ⟨⟨_, Tryz.func40, rfl, by decide⟩, fun M G w vs hE hl hv => ?_⟩
 obtain ⟨v0, v1, v2, rfl⟩ : ∃ v0 v1 v2, vs = #[v0, v1, v2] := by
  obtain ⟨l⟩ := vs
  match l, hl with
  | [x, y, z], _ => exact ⟨x, y, z, rfl⟩
 have hv0 := hv 0 _ v0 rfl rfl
 have hv1 : Rd M (eI i) v1 := hv 1 _ v1 rfl rfl
 have hv2 : Rd M (eI ((i : Int) + 1)) v2 := hv 2 _ v2 rfl rfl
 cases hv1
 cases hv2
 obtain ⟨h0, es0, sz0, frz0, nl0, h1, h2, h3⟩ := hv0
 rw [ho] at h1
 cases h1
 have hv := h3 rfl
 subst hv
 unfold Gh.slv
 rw [if_neg (by decide)]
 obtain ⟨z, hz1, hz2, hz3⟩ := tz_zero (M := M) tz_co
 have hzs : z.cells.size = 3 := hz2
 have hzone : ∀ u ∈ z.cells.toList, u.oneCell' = true := by
  intro u hu
  obtain ⟨j, hj⟩ := List.mem_iff_getElem?.1 hu
  have hjl : j < 3 := by have := (List.getElem?_eq_some_iff.1 hj).1; simpa [hzs] using this
  have hr := hz3 j ([D.str [], .int .i64 0, .bool false][j]) u (List.getElem?_eq_getElem (by simpa using hjl)) (by simpa using hj)
  exact Rd.oneCell hr
 obtain ⟨k1, k2, k3, k4, k5⟩ := hE.obj id _ ho
 obtain ⟨ca, t, h6, h7, h8, h9, h10, h11⟩ := k5 rfl
 have hcell : ∀ k, w.cell? ⟨G.blk id, k, none⟩ = ca[k]? := fun k => by simp [World.cell?, h6]
 have hfr : ∀ k, k < ca.size → w.frozen? ⟨G.blk id, k, none⟩ = false := fun k _ => by simp [World.frozen?, h6]
 have hone : ∀ k u, k < es.length * 3 → ca[k]? = some u → u.oneCell' = true := by
  intro k u hk hu
  have hr : k / 3 < es.length := by omega
  have he : es[k / 3]? = some es[k / 3] := List.getElem?_eq_getElem hr
  have hlen := hm _ (List.mem_of_getElem? he)
  have hx : es[k / 3][k % 3]? = some es[k / 3][k % 3] := List.getElem?_eq_getElem (by omega)
  obtain ⟨u', hu', hrd⟩ := h10 _ _ _ _ he hx
  rw [show k / 3 * 3 + k % 3 = k by omega, hu] at hu'
  cases hu'
  exact Rd.oneCell hrd
 refine (del_co z hz1 hzs hzone (G.blk id) es.length (G.cap id) i ca w hi h8 (by unfold maxLen at h9; omega) h7 hcell hfr hone).mono ?_
 rintro e w' ⟨rfl, rfl⟩
 obtain ⟨news, hnews⟩ : ∃ news, news = (ca.toList.drop ((i + 1) * 3)).take ((es.length - (i + 1)) * 3) := ⟨_, rfl⟩
 have hnl : news.length = (es.length - (i + 1)) * 3 := by rw [hnews]; simp; omega
 have hget : ∀ t, t < (es.length - (i + 1)) * 3 → news[t]? = ca[(i + 1) * 3 + t]? := by
  intro t ht
  rw [hnews, List.getElem?_take, if_pos ht, List.getElem?_drop, Array.getElem?_toList]
 rw [← hnews]
 have hd : w.drew.heap[G.blk id]? = some (.cells ca t (0, 0)) := h6
 obtain ⟨ca1, a1, a2, a3, a4, a5, a6, a7, a8⟩ := heap_setCells (G.blk id) news (0 + i * 3) w.drew ca t hd
 obtain ⟨ca2, b1, b2, b3, b4, b5, b6, b7, b8⟩ := heap_setCells (G.blk id) z.cells.toList ((i + (es.length - (i + 1))) * 3) _ ca1 t a1
 have hel : (es.eraseIdx i).length = es.length - 1 := by rw [List.length_eraseIdx, if_pos hi]
 obtain ⟨e1, s1⟩ := rows_env (w' := (w.drew.setCells (G.blk id) (0 + i * 3) news).setCells (G.blk id) ((i + (es.length - (i + 1))) * 3) z.cells.toList) hE.drew (id := id) (sz := 3) (es' := es.eraseIdx i ++ [zRow]) ho (by rw [List.length_append, hel, List.length_singleton]; omega) (fun e he => by
   rcases List.mem_append.1 he with he | he
   ·exact hm e (List.mem_of_mem_eraseIdx he)
   ·cases List.mem_singleton.1 he; rfl) (by rw [b5, a5]) (by rw [b6, a6]) (by rw [b7, a7]) (by rw [b8, a8]) (fun b hb => by rw [b4 b hb, a4 b hb]) (fun ca0 t0 hh => by
   rw [hd] at hh
   cases hh
   refine ⟨ca2, b1, by rw [b2, a2], fun r j e x hr hj => ?_⟩
   have hrl := (List.getElem?_eq_some_iff.1 hr).1
   rw [List.length_append, hel, List.length_singleton] at hrl
   have hjl : j < 3 := by
    have h := (List.getElem?_eq_some_iff.1 hj).1
    rcases List.mem_append.1 (List.mem_of_getElem? hr) with he | he
    ·rwa [hm e (List.mem_of_mem_eraseIdx he)] at h
    ·cases List.mem_singleton.1 he; exact h
   rw [b3, a2]
   have hzl : z.cells.toList.length = 3 := by simpa using hzs
   rw [hzl]
   by_cases hlast : r = es.length - 1
   ·rw [if_pos (by omega)]
    rw [List.getElem?_append_right (by omega), hel, show r - (es.length - 1) = 0 by omega] at hr
    cases hr
    rw [show r * 3 + j - (i + (es.length - (i + 1))) * 3 = j by omega]
    have hju : z.cells[j]? = some z.cells[j] := Array.getElem?_eq_getElem (by omega)
    exact ⟨z.cells[j], by rw [Array.getElem?_toList]; exact hju, hz3 j x _ hj hju⟩
   ·rw [if_neg (by omega), a3, hnl]
    rw [List.getElem?_append_left (by omega), erase_get es i hi] at hr
    by_cases hri : r < i
    ·rw [if_pos hri] at hr
     rw [if_neg (by omega)]
     exact h10 r j e x hr hj
    ·rw [if_neg hri] at hr
     rw [if_pos (by omega), hget _ (by omega), show (i + 1) * 3 + (r * 3 + j - (0 + i * 3)) = (r + 1) * 3 + j by omega]
     exact h10 (r + 1) j e x hr hj)
 have ho2 : (os.set id (.arr (es.eraseIdx i ++ [zRow]) 3 0 false))[id]? = some (.arr (es.eraseIdx i ++ [zRow]) 3 0 false) := set_self ho
 obtain ⟨e2, s2, r2⟩ := freeze_pre e1 (id := id) (m := es.length - 1) ho2 (by rw [List.length_append, hel]; omega)
 rw [List.set_set] at e2 s2
 refine ⟨_, rfl, _, G, .d (.sl (es.eraseIdx i)), _, e2, ((since_drew ..).trans s1).trans s2, ?_, rfl, rfl⟩
 have ht : (es.eraseIdx i ++ [zRow]).take (es.length - 1) = es.eraseIdx i := by rw [← hel, List.take_left]
 rw [ht] at r2
 exact r2
end Go.Proofs
end
section
namespace Go.Bi
open Go
theorem x_selm {P : Program} {n nb : Nat} {cd : IC} {N : Sl → List AO → Prop} {E0 : Nat → Sl → List AO → Prop} {R : Sl → List AO → Prop} {L : Sl} {os : List AO} (ts : List Nat) (vs : List AV) (σ : List Nat) (os2 : List AO) (h1 : valsOf L ts = vs.map (mA (sg σ))) (hlv : vs.length = ts.length) (hn : σ.Nodup)
  (hσ : σ.take nb = List.range nb) (ho : σ.map (fun s => os[s]?) = os2.map (fun o => some (mO (sg σ) o))) (hid : (os2.take nb).map (mO (sg σ)) = os2.take nb)
  (hb : vs.all (fun v => v.bndB os2.length) = true) (hb3 : os2.all (fun o => o.bndB os2.length) = true) (k : LoopX P n nb cd N E0 R (zipS ts vs) os2) : LoopX P n nb cd N E0 R L os := by
 have hw := weak_selm (n := n) (nb := nb) (ks := []) (ws := []) σ h1 rfl hlv hn hσ ho hid hb rfl hb3
 rw [show zipS ts vs ++ zipS [] [] = zipS ts vs by show zipS ts vs ++ [] = _; rw [List.append_nil]] at hw
 refine ⟨fun code hc c M G w a hR => ?_⟩
 obtain ⟨M', G', hR'⟩ := hw c M G w a hR
 exact k.h code hc c M' G' w a hR'
end Go.Bi
namespace Go.Proofs
open Go.Bi
def isN : D → Bool
 | .nil => true
 | _ => false
theorem C.cloneI (l : List (List D)) (hl : l.length ≤ 1048577) (hm : ∀ e ∈ l, e.length = 1) (d : D) (hd : SlD d l) : CallSpec Tryz.prog N.slices_Clone__int_int [.d d] [] (fun r os => r = .arr 0 l.length ∧ os = [.arr l 1 0 (isN d)]) := by
 rcases hd with ⟨rfl, rfl⟩ | rfl
 ·refine CallSpec.own_nil 1 (by decide) ?_
  refine F.slices_Clone__int_int.go mixed rfl ?_
  repeat' first|refine st ?_|((with_reducible apply go_i);conv=>whnf)|(with_reducible first|apply k_d|apply k_b)<;>intro _
 ·refine F.slices_Clone__int_int.goO mixed rfl ?_
  have h0 : ([] : List (List D)).length = 0 := rfl
  have h00 : (([] : List (List D)) ++ l).length = l.length := rfl
  have hb : (([] : List (List D)).length + l.length) * 8 ≤ 140737488355328 ∧ ([] : List (List D)).length + l.length ≤ 9223372036854775807 := by rw [h0]; omega
  repeat' first|refine st ?_|((with_reducible apply go_i);conv=>whnf)|(with_reducible first|apply k_d|apply k_b)<;>intro _
  all_goals (refine ⟨rfl, ?_⟩; cases l <;> rfl)
theorem C.cloneC (l : List (List D)) (hl : l.length ≤ 1048577) (hm : ∀ e ∈ l, e.length = 3) (d : D) (hd : SlD d l) : CallSpec Tryz.prog N.slices_Clone__api_Column_api_Column [.d d] [] (fun r os => r = .arr 0 l.length ∧ os = [.arr l 3 0 (isN d)]) := by
 rcases hd with ⟨rfl, rfl⟩ | rfl
 ·refine CallSpec.own_nil 3 (by decide) ?_
  refine F.slices_Clone__api_Column_api_Column.go mixed rfl ?_
  repeat' first|refine st ?_|((with_reducible apply go_i);conv=>whnf)|(with_reducible first|apply k_d|apply k_b)<;>intro _
 ·refine F.slices_Clone__api_Column_api_Column.goO mixed rfl ?_
  have h0 : ([] : List (List D)).length = 0 := rfl
  have h00 : (([] : List (List D)) ++ l).length = l.length := rfl
  have hb : (([] : List (List D)).length + l.length) * 32 ≤ 140737488355328 ∧ ([] : List (List D)).length + l.length ≤ 9223372036854775807 := by rw [h0]; omega
  repeat' first|refine st ?_|((with_reducible apply go_i);conv=>whnf)|(with_reducible first|apply k_d|apply k_b)<;>intro _
  all_goals (refine ⟨rfl, ?_⟩; cases l <;> rfl)
structure Fi where
 d : D
 es : List (List D)
 nl : Bool
 tb : List UInt8
def Fi.ok (f : Fi) : Prop := CallSpec Tryz.prog N.slices_Clone__int_int [.d f.d] [] (fun r os => r = .arr 0 f.es.length ∧ os = [.arr f.es 1 0 f.nl])
def eFi (l : List Fi) : List (List D) := l.map fun f => [f.d, .str f.tb]
def rowsF : Nat → List Fi → List (List AV)
 | _, [] => []
 | k, f :: fs => [.arr k f.es.length, .d (.str f.tb)] :: rowsF (k + 1) fs
def innF (fs : List Fi) : List AO := fs.map fun f => .arr f.es 1 0 f.nl
def oB (nm : List UInt8) (lc lk lf lx : Nat) : List AV := [.d (.str nm), .arr 2 lc, .arr 3 lk, .rs 5 lf, .arr 6 lx]
def clB (tab out : List AV) (nm : List UInt8) (C K : List (List D)) (cn kn : Bool) (fs : List Fi) (A : List (List D)) (an : Bool) : List AO :=
 [.cells tab, .cells out, .arr C 3 0 cn, .arr K 1 0 kn, .cells (oB nm C.length K.length fs.length A.length), .rarr (rowsF 7 fs) 2 fs.isEmpty, .arr A 7 0 an] ++ innF fs
end Go.Proofs
end
section
namespace Go.Proofs
open Go.Bi
theorem C.clone3 (nm : List UInt8) (dc dk df dx : D) (Cs Ks : List (List D)) (cn kn : Bool) (hC : CallSpec Tryz.prog N.slices_Clone__api_Column_api_Column [.d dc] [] (fun r os => r = .arr 0 Cs.length ∧ os = [.arr Cs 3 0 cn])) (hK : CallSpec Tryz.prog N.slices_Clone__int_int [.d dk] [] (fun r os => r = .arr 0 Ks.length ∧ os = [.arr Ks 1 0 kn]))
  (f0 f1 f2 : Fi) (hf0 : f0.ok) (hf1 : f1.ok) (hf2 : f2.ok) (hd : df = .sl (eFi [f0, f1, f2])) (l : List Ex) (hb : ∀ x ∈ l, x.bk ≤ 1048576) (hl : l.length ≤ 1048576) (hdx : SlD dx (xL l)) :
  CallSpec Tryz.prog N.schema_Clone [eT nm dc dk df dx] [] (fun r os => r = .agg (oB nm Cs.length Ks.length 3 (xL (l.map (shf 0))).length) ∧ os = clB [.d (.str nm), .d dc, .d dk, .d df, .d dx] (oB nm Cs.length Ks.length 3 (xL (l.map (shf 0))).length) nm Cs Ks cn kn [f0, f1, f2] (xL (l.map (shf 0))) (xL (l.map (shf 0))).isEmpty) := by
 have h1 := xL_len l
 have hm := xL_mem l
 have hg0 := xL_get'' (args := l)
 obtain ⟨R, hR⟩ : ∃ R, R = xL (l.map (shf 0)) := ⟨_, rfl⟩
 rw [← hR]
 obtain ⟨es, hes⟩ : ∃ es, es = xL l := ⟨_, rfl⟩
 rw [← hes] at h1 hm hdx hg0
 subst hd
 obtain ⟨fd0, fe0, fn0, ft0⟩ := f0
 have hf0 : CallSpec Tryz.prog N.slices_Clone__int_int [.d fd0] [] (fun r os => r = .arr 0 fe0.length ∧ os = [.arr fe0 1 0 fn0]) := hf0
 obtain ⟨fd1, fe1, fn1, ft1⟩ := f1
 have hf1 : CallSpec Tryz.prog N.slices_Clone__int_int [.d fd1] [] (fun r os => r = .arr 0 fe1.length ∧ os = [.arr fe1 1 0 fn1]) := hf1
 obtain ⟨fd2, fe2, fn2, ft2⟩ := f2
 have hf2 : CallSpec Tryz.prog N.slices_Clone__int_int [.d fd2] [] (fun r os => r = .arr 0 fe2.length ∧ os = [.arr fe2 1 0 fn2]) := hf2
 rw [show eFi [⟨fd0, fe0, fn0, ft0⟩, ⟨fd1, fe1, fn1, ft1⟩, ⟨fd2, fe2, fn2, ft2⟩] = [[fd0, .str ft0], [fd1, .str ft1], [fd2, .str ft2]] from rfl]
 refine F.schema_Clone.goO mixed rfl ?_
 repeat' first|refine st ?_|((with_reducible apply k_ow);(·first|exact hC|exact hK|exact hf0|exact hf1|exact hf2))|(with_reducible first|apply k_d|apply k_b)<;>intro _
 refine x_nilrc 4 3 2 rfl rfl rfl ?_
 refine x_nilcc 4 4 7 rfl rfl rfl ?_
 refine x_rounds 4 ?_
 refine x_round mixed ?_
 repeat' first|refine st ?_|((with_reducible apply k_ow);(·first|exact hC|exact hK|exact hf0|exact hf1|exact hf2))|(with_reducible first|apply k_d|apply k_b)<;>intro _
 refine x_round mixed ?_
 repeat' first|refine st ?_|((with_reducible apply k_ow);(·first|exact hC|exact hK|exact hf0|exact hf1|exact hf2))|(with_reducible first|apply k_d|apply k_b)<;>intro _
 refine x_round mixed ?_
 repeat' first|refine st ?_|((with_reducible apply k_ow);(·first|exact hC|exact hK|exact hf0|exact hf1|exact hf2))|(with_reducible first|apply k_d|apply k_b)<;>intro _
 refine x_round mixed ?_
 repeat' first|refine st ?_|((with_reducible apply k_ow);(·first|exact hC|exact hK|exact hf0|exact hf1|exact hf2))|(with_reducible first|apply k_d|apply k_b)<;>intro _
 refine x_selm [2, 3, 37, 38, 39] [.ptr 1 0, .ptr 4 0, .d dx, .d (.int .i64 es.length), .d (eI 0)] [0, 1, 2, 3, 4, 5, 6, 8, 11, 14] (clB [.d (.str nm), .d dc, .d dk, .d (.sl [[fd0, .str ft0], [fd1, .str ft1], [fd2, .str ft2]]), .d dx] [.d (.str []), .d .nil, .d .nil, .d .nil, .d .nil] nm Cs Ks cn kn [⟨fd0, fe0, fn0, ft0⟩, ⟨fd1, fe1, fn1, ft1⟩, ⟨fd2, fe2, fn2, ft2⟩] [] true) rfl rfl (by decide) rfl rfl rfl rfl rfl ?_
 refine x_loop2 mixed Lt.schema_Clone_l1 Lk.schema_Clone_l1 (fun (i : Nat) (w : List (List D) × Bool) => [.d (eI i)]) (fun i w => clB [.d (.str nm), .d dc, .d dk, .d (.sl [[fd0, .str ft0], [fd1, .str ft1], [fd2, .str ft2]]), .d dx] [.d (.str []), .d .nil, .d .nil, .d .nil, .d .nil] nm Cs Ks cn kn [⟨fd0, fe0, fn0, ft0⟩, ⟨fd1, fe1, fn1, ft1⟩, ⟨fd2, fe2, fn2, ft2⟩] w.1 w.2) (fun i w => i ≤ l.length ∧ w.1 = Mt (shf 0) l i ∧ w.2 = w.1.isEmpty) (fun i w => l.length - i) 0 ([], true) rfl rfl rfl rfl (fun _ _ _ => ⟨rfl, rfl⟩) rfl ⟨by omega, rfl, rfl⟩ ?_
 repeat' first|refine st ?_|(with_reducible first|apply k_d|apply k_b)<;>intro _
 intro i w ⟨h4, h5, h6⟩
 obtain ⟨A, b⟩ := w
 dsimp only at h5 h6 ⊢
 have hAl : A.length = i := by rw [h5]; exact Mt_len _ l i (by omega)
 have hAm : ∀ e ∈ A, e.length = 7 := by rw [h5]; exact Mt_mem _ _ _
 cases hx : l[i]? with
 | some x =>
  have hlt := (List.getElem?_eq_some_iff.1 hx).1
  have hs := Mt_succ (φ := shf 0) hx
  have hS := C.expr_Shift x (hb x (List.mem_of_getElem? hx)) 0
  rw [← h5] at hs
  obtain ⟨z, hz⟩ : ∃ z, z = shf 0 x := ⟨_, rfl⟩
  rw [← hz] at hs hS
  obtain ⟨o1, n1, v1, m1, l1, a1⟩ := x
  obtain ⟨o2, n2, v2, m2, l2, a2⟩ := z
  have hg := hg0 _ _ _ _ _ _ _ hx
  rw [Ex.ds_mk] at hs
  rw [Ex.av_mk, Ex.av_mk] at hS
  repeat' first|refine st ?_|((with_reducible first|apply k_pn|apply k_pc);(·exact hS))|(with_reducible first|apply k_d|apply k_b)<;>intro _
  exact ⟨i + 1, (A ++ [xds o2 n2 v2 m2 (ng l2 (xL a2))], false), rfl, rfl, rfl, by omega, by omega, hs, by simp⟩
 | none =>
  have hge := List.getElem?_eq_none_iff.1 hx
  rw [Mt_end hge, ← hR] at h5
  subst h5
  subst h6
  repeat' first|refine st ?_|(with_reducible first|apply k_d|apply k_b)<;>intro _
  all_goals exact ⟨rfl, rfl⟩
theorem C.clone4 (nm : List UInt8) (dc dk df dx : D) (Cs Ks : List (List D)) (cn kn : Bool) (hC : CallSpec Tryz.prog N.slices_Clone__api_Column_api_Column [.d dc] [] (fun r os => r = .arr 0 Cs.length ∧ os = [.arr Cs 3 0 cn])) (hK : CallSpec Tryz.prog N.slices_Clone__int_int [.d dk] [] (fun r os => r = .arr 0 Ks.length ∧ os = [.arr Ks 1 0 kn]))
  (f0 f1 f2 f3 : Fi) (hf0 : f0.ok) (hf1 : f1.ok) (hf2 : f2.ok) (hf3 : f3.ok) (hd : df = .sl (eFi [f0, f1, f2, f3])) (l : List Ex) (hb : ∀ x ∈ l, x.bk ≤ 1048576) (hl : l.length ≤ 1048576) (hdx : SlD dx (xL l)) :
  CallSpec Tryz.prog N.schema_Clone [eT nm dc dk df dx] [] (fun r os => r = .agg (oB nm Cs.length Ks.length 4 (xL (l.map (shf 0))).length) ∧ os = clB [.d (.str nm), .d dc, .d dk, .d df, .d dx] (oB nm Cs.length Ks.length 4 (xL (l.map (shf 0))).length) nm Cs Ks cn kn [f0, f1, f2, f3] (xL (l.map (shf 0))) (xL (l.map (shf 0))).isEmpty) := by
 have h1 := xL_len l
 have hm := xL_mem l
 have hg0 := xL_get'' (args := l)
 obtain ⟨R, hR⟩ : ∃ R, R = xL (l.map (shf 0)) := ⟨_, rfl⟩
 rw [← hR]
 obtain ⟨es, hes⟩ : ∃ es, es = xL l := ⟨_, rfl⟩
 rw [← hes] at h1 hm hdx hg0
 subst hd
 obtain ⟨fd0, fe0, fn0, ft0⟩ := f0
 have hf0 : CallSpec Tryz.prog N.slices_Clone__int_int [.d fd0] [] (fun r os => r = .arr 0 fe0.length ∧ os = [.arr fe0 1 0 fn0]) := hf0
 obtain ⟨fd1, fe1, fn1, ft1⟩ := f1
 have hf1 : CallSpec Tryz.prog N.slices_Clone__int_int [.d fd1] [] (fun r os => r = .arr 0 fe1.length ∧ os = [.arr fe1 1 0 fn1]) := hf1
 obtain ⟨fd2, fe2, fn2, ft2⟩ := f2
 have hf2 : CallSpec Tryz.prog N.slices_Clone__int_int [.d fd2] [] (fun r os => r = .arr 0 fe2.length ∧ os = [.arr fe2 1 0 fn2]) := hf2
 obtain ⟨fd3, fe3, fn3, ft3⟩ := f3
 have hf3 : CallSpec Tryz.prog N.slices_Clone__int_int [.d fd3] [] (fun r os => r = .arr 0 fe3.length ∧ os = [.arr fe3 1 0 fn3]) := hf3
 rw [show eFi [⟨fd0, fe0, fn0, ft0⟩, ⟨fd1, fe1, fn1, ft1⟩, ⟨fd2, fe2, fn2, ft2⟩, ⟨fd3, fe3, fn3, ft3⟩] = [[fd0, .str ft0], [fd1, .str ft1], [fd2, .str ft2], [fd3, .str ft3]] from rfl]
 refine F.schema_Clone.goO mixed rfl ?_
 repeat' first|refine st ?_|((with_reducible apply k_ow);(·first|exact hC|exact hK|exact hf0|exact hf1|exact hf2|exact hf3))|(with_reducible first|apply k_d|apply k_b)<;>intro _
 refine x_nilrc 4 3 2 rfl rfl rfl ?_
 refine x_nilcc 4 4 7 rfl rfl rfl ?_
 refine x_rounds 5 ?_
 refine x_round mixed ?_
 repeat' first|refine st ?_|((with_reducible apply k_ow);(·first|exact hC|exact hK|exact hf0|exact hf1|exact hf2|exact hf3))|(with_reducible first|apply k_d|apply k_b)<;>intro _
 refine x_round mixed ?_
 repeat' first|refine st ?_|((with_reducible apply k_ow);(·first|exact hC|exact hK|exact hf0|exact hf1|exact hf2|exact hf3))|(with_reducible first|apply k_d|apply k_b)<;>intro _
 refine x_round mixed ?_
 repeat' first|refine st ?_|((with_reducible apply k_ow);(·first|exact hC|exact hK|exact hf0|exact hf1|exact hf2|exact hf3))|(with_reducible first|apply k_d|apply k_b)<;>intro _
 refine x_round mixed ?_
 repeat' first|refine st ?_|((with_reducible apply k_ow);(·first|exact hC|exact hK|exact hf0|exact hf1|exact hf2|exact hf3))|(with_reducible first|apply k_d|apply k_b)<;>intro _
 refine x_round mixed ?_
 repeat' first|refine st ?_|((with_reducible apply k_ow);(·first|exact hC|exact hK|exact hf0|exact hf1|exact hf2|exact hf3))|(with_reducible first|apply k_d|apply k_b)<;>intro _
 refine x_selm [2, 3, 37, 38, 39] [.ptr 1 0, .ptr 4 0, .d dx, .d (.int .i64 es.length), .d (eI 0)] [0, 1, 2, 3, 4, 5, 6, 8, 11, 14, 17] (clB [.d (.str nm), .d dc, .d dk, .d (.sl [[fd0, .str ft0], [fd1, .str ft1], [fd2, .str ft2], [fd3, .str ft3]]), .d dx] [.d (.str []), .d .nil, .d .nil, .d .nil, .d .nil] nm Cs Ks cn kn [⟨fd0, fe0, fn0, ft0⟩, ⟨fd1, fe1, fn1, ft1⟩, ⟨fd2, fe2, fn2, ft2⟩, ⟨fd3, fe3, fn3, ft3⟩] [] true) rfl rfl (by decide) rfl rfl rfl rfl rfl ?_
 refine x_loop2 mixed Lt.schema_Clone_l1 Lk.schema_Clone_l1 (fun (i : Nat) (w : List (List D) × Bool) => [.d (eI i)]) (fun i w => clB [.d (.str nm), .d dc, .d dk, .d (.sl [[fd0, .str ft0], [fd1, .str ft1], [fd2, .str ft2], [fd3, .str ft3]]), .d dx] [.d (.str []), .d .nil, .d .nil, .d .nil, .d .nil] nm Cs Ks cn kn [⟨fd0, fe0, fn0, ft0⟩, ⟨fd1, fe1, fn1, ft1⟩, ⟨fd2, fe2, fn2, ft2⟩, ⟨fd3, fe3, fn3, ft3⟩] w.1 w.2) (fun i w => i ≤ l.length ∧ w.1 = Mt (shf 0) l i ∧ w.2 = w.1.isEmpty) (fun i w => l.length - i) 0 ([], true) rfl rfl rfl rfl (fun _ _ _ => ⟨rfl, rfl⟩) rfl ⟨by omega, rfl, rfl⟩ ?_
 repeat' first|refine st ?_|(with_reducible first|apply k_d|apply k_b)<;>intro _
 intro i w ⟨h4, h5, h6⟩
 obtain ⟨A, b⟩ := w
 dsimp only at h5 h6 ⊢
 have hAl : A.length = i := by rw [h5]; exact Mt_len _ l i (by omega)
 have hAm : ∀ e ∈ A, e.length = 7 := by rw [h5]; exact Mt_mem _ _ _
 cases hx : l[i]? with
 | some x =>
  have hlt := (List.getElem?_eq_some_iff.1 hx).1
  have hs := Mt_succ (φ := shf 0) hx
  have hS := C.expr_Shift x (hb x (List.mem_of_getElem? hx)) 0
  rw [← h5] at hs
  obtain ⟨z, hz⟩ : ∃ z, z = shf 0 x := ⟨_, rfl⟩
  rw [← hz] at hs hS
  obtain ⟨o1, n1, v1, m1, l1, a1⟩ := x
  obtain ⟨o2, n2, v2, m2, l2, a2⟩ := z
  have hg := hg0 _ _ _ _ _ _ _ hx
  rw [Ex.ds_mk] at hs
  rw [Ex.av_mk, Ex.av_mk] at hS
  repeat' first|refine st ?_|((with_reducible first|apply k_pn|apply k_pc);(·exact hS))|(with_reducible first|apply k_d|apply k_b)<;>intro _
  exact ⟨i + 1, (A ++ [xds o2 n2 v2 m2 (ng l2 (xL a2))], false), rfl, rfl, rfl, by omega, by omega, hs, by simp⟩
 | none =>
  have hge := List.getElem?_eq_none_iff.1 hx
  rw [Mt_end hge, ← hR] at h5
  subst h5
  subst h6
  repeat' first|refine st ?_|(with_reducible first|apply k_d|apply k_b)<;>intro _
  all_goals exact ⟨rfl, rfl⟩
end Go.Proofs
end
section
namespace Go.Proofs
open Go.Bi
abbrev T.int : TypeId := 3
abbrev T.bool : TypeId := 4
abbrev T.str : TypeId := 9
abbrev T.val : TypeId := 31
abbrev T.ints : TypeId := 23
theorem cells_int : Tryz.prog.cellsOf T.int = 1 := by kernel_rfl
theorem cells_str : Tryz.prog.cellsOf T.str = 1 := by kernel_rfl
theorem cells_val : Tryz.prog.cellsOf T.val = 3 := by kernel_rfl
theorem cells_bool : Tryz.prog.cellsOf T.bool = 1 := by kernel_rfl
theorem wt_bool {ds : List D} (h : WT Tryz.prog T.bool ds) : ∃ b, ds = [.bool b] := h.bool' Tryz.underlying4
theorem wt_int {ds : List D} (h : WT Tryz.prog T.int ds) : ∃ n, ds = [eI n] := by
 obtain ⟨a, ha, _, _⟩ := h.int' Tryz.underlying3
 exact ⟨a, ha⟩
theorem wt_str {ds : List D} (h : WT Tryz.prog T.str ds) : ∃ s, ds = [.str s] := by
 obtain ⟨a, ha, _⟩ := h.str' Tryz.underlying9
 exact ⟨a, ha⟩
theorem wt_val {ds : List D} (h : WT Tryz.prog T.val ds) : ∃ v : Vl, ds = v.ds := by
 obtain ⟨hl, hf⟩ := h.st' Tryz.underlying31
 rw [cells_val] at hl
 match ds, hl with
 | [x, y, z], _ =>
  have h0 := hf _ (List.mem_cons_self ..)
  have h1 := hf _ (List.mem_cons_of_mem _ (List.mem_cons_self ..))
  have h2 := hf _ (List.mem_cons_of_mem _ (List.mem_cons_of_mem _ (List.mem_cons_self ..)))
  dsimp only at h0 h1 h2
  rw [cells_int] at h0 h1
  rw [cells_str] at h2
  obtain ⟨a, ha⟩ := wt_int h0
  obtain ⟨b, hb⟩ := wt_int h1
  obtain ⟨s, hs⟩ := wt_str h2
  simp at ha hb hs
  exact ⟨⟨a, b, s⟩, by rw [ha, hb, hs]⟩
theorem wt_ints {ds : List D} (h : WT Tryz.prog T.ints ds) : ∃ d ks, ds = [d] ∧ SlD d (eIs ks) := by
 obtain ⟨d, es, h1, h2, h4, h3⟩ := h.sl' Tryz.underlying23
 have : ∃ ks, es = eIs ks := by
  clear h1 h2 h4
  induction es with
  | nil => exact ⟨[], rfl⟩
  | cons x es ih =>
   obtain ⟨n, hn⟩ := wt_int (h3 x (by simp))
   obtain ⟨ks, hk⟩ := ih fun y hy => h3 y (by simp [hy])
   exact ⟨n :: ks, by rw [hn, hk]; rfl⟩
 obtain ⟨ks, rfl⟩ := this
 exact ⟨d, ks, h1, h2⟩
theorem sld_bulk {d : D} {es : List (List D)} (h : SlD d es) : bulkLL es ≤ bulkL [d] := by
 rcases h with ⟨rfl, rfl⟩ | rfl
 ·simp [bulkLL]
 ·simp only [bulkL, bulkD]; omega
theorem ints_bulk {d : D} {ks : List Int} (h : SlD d (eIs ks)) : ks.length ≤ bulkL [d] := by
 have h1 := sld_bulk h
 have h2 : (eIs ks).length ≤ bulkLL (eIs ks) := bulkLL_len fun x hx => by
  obtain ⟨k, _, rfl⟩ := List.mem_map.1 hx
  simp [bulkL, bulkD]
 rw [eIs_len] at h2
 omega
theorem bulkR (H : Type) : Bulk (H := H) Go.Proofs.YtjngjdgimlnnjaaGreat.Rows.uptoBulk Go.Proofs.YtjngjdgimlnnjaaGreat.Rows.uptoBulkAll where
 lit l := by unfold Go.Proofs.YtjngjdgimlnnjaaGreat.Rows.uptoBulk; split <;> simp_all
 str b := by simp [Go.Proofs.YtjngjdgimlnnjaaGreat.Rows.uptoBulk]
 nil := by simp [Go.Proofs.YtjngjdgimlnnjaaGreat.Rows.uptoBulk]
 sl es sp := by simp [Go.Proofs.YtjngjdgimlnnjaaGreat.Rows.uptoBulk]
 agg ps := by simp [Go.Proofs.YtjngjdgimlnnjaaGreat.Rows.uptoBulk]
 cons x l := by simp [Go.Proofs.YtjngjdgimlnnjaaGreat.Rows.uptoBulkAll]
end Go.Proofs
end
section
namespace Go.Proofs
open Go.Bi
abbrev T.exs : TypeId := 25
abbrev T.ex : TypeId := 67
theorem cells_exs : Tryz.prog.cellsOf T.exs = 1 := by kernel_rfl
theorem cells_ex : Tryz.prog.cellsOf T.ex = 7 := by kernel_rfl
end Go.Proofs
end
section
namespace Go.Proofs
open Go.Bi
mutual
def smE : Ex → Ex → Bool
 | .mk op n v name nl args, .mk op' n' v' name' nl' args' => decide (op = op') && decide (n = n') && decide (v = v') && decide (name = name') && smL args args'
def smL : List Ex → List Ex → Bool
 | [], [] => true
 | a :: l, b :: m => smE a b && smL l m
 | [], _ :: _ => false
 | _ :: _, [] => false
end
theorem smL_eq : ∀ l m, smL l m = (decide (l.length = m.length) && (l.zip m).all fun p => smE p.1 p.2)
 | [], [] => by simp [smL]
 | a :: l, b :: m => by
  rw [smL, smL_eq l m]
  simp only [List.length_cons, List.zip_cons_cons, List.all_cons]
  cases smE a b <;> simp
 | [], _ :: _ => by simp [smL]
 | _ :: _, [] => by simp [smL]
theorem smE_mk (op n : Int) (v : Vl) (name : List UInt8) (nl : Bool) (args : List Ex) (op' n' : Int) (v' : Vl) (name' : List UInt8) (nl' : Bool) (args' : List Ex) : smE (.mk op n v name nl args) (.mk op' n' v' name' nl' args') = (decide (op = op') && decide (n = n') && decide (v = v') && decide (name = name') && smL args args') := by rw [smE]
theorem all_take_succ3 {α : Type} {p : α → Bool} {l : List α} {i : Nat} {x : α} (h : l[i]? = some x) : (l.take (i + 1)).all p = ((l.take i).all p && p x) := by
 rw [List.take_add_one, h]; simp
theorem all_none3 {α : Type} {p : α → Bool} {l : List α} {i : Nat} {x : α} (h : l[i]? = some x) (hx : p x = false) : l.all p = false := by
 rw [Bool.eq_false_iff]
 intro e
 have := List.all_eq_true.1 e x (List.mem_of_getElem? h)
 rw [hx] at this; cases this
theorem xL_get' {args : List Ex} (i : Nat) (op' n' : Int) (v' : Vl) (name' : List UInt8) (nl' : Bool) (args' : List Ex) (h : args[i]? = some (.mk op' n' v' name' nl' args')) : (xL args)[i]? = some (xds op' n' v' name' (ng nl' (xL args'))) := by
 rw [← Ex.ds_mk]; exact xL_get h
end Go.Proofs
end
section
namespace Go.Proofs
open Go.Bi
inductive Ex.Rg : Ex → Prop
 | mk {op n : Int} {v : Vl} {nm : List UInt8} {nl : Bool} {args : List Ex} (h1 : IntKind.i64.min ≤ n) (h2 : n ≤ IntKind.i64.max) (h : ∀ a ∈ args, Ex.Rg a) : Ex.Rg (.mk op n v nm nl args)
theorem wt_exr' {t : TypeId} {ds : List D} (h : WT Tryz.prog t ds) : (t = T.ex → ∃ e : Ex, ds = e.ds ∧ e.Rg) ∧ (t = T.exs → ∃ nl args, ds = [ng nl (xL args)] ∧ ∀ a ∈ args, Ex.Rg a) := by
 induction h with
 | int h => exact ⟨fun e => (by subst e; rw [Tryz.underlying67] at h; cases h), fun e => (by subst e; rw [Tryz.underlying25] at h; cases h)⟩
 | bool h => exact ⟨fun e => (by subst e; rw [Tryz.underlying67] at h; cases h), fun e => (by subst e; rw [Tryz.underlying25] at h; cases h)⟩
 | str h => exact ⟨fun e => (by subst e; rw [Tryz.underlying67] at h; cases h), fun e => (by subst e; rw [Tryz.underlying25] at h; cases h)⟩
 | nil h => exact ⟨fun e => (by subst e; rw [Tryz.underlying67] at h; cases h), fun e => ⟨true, [], rfl, by simp⟩⟩
 | @sl t e es h hl hs he ih =>
  refine ⟨fun e => (by subst e; rw [Tryz.underlying67] at h; cases h), fun e' => ?_⟩
  subst e'
  rw [Tryz.underlying25] at h
  cases h
  have hq : ∃ l, es = xL l ∧ ∀ a ∈ l, Ex.Rg a := by
   clear he hs hl
   induction es with
   | nil => exact ⟨[], rfl, by simp⟩
   | cons x es ihh =>
    obtain ⟨n, hn, hr⟩ := (ih x (by simp)).1 rfl
    obtain ⟨ks, hk, hrs⟩ := ihh fun y hy => ih y (by simp [hy])
    refine ⟨n :: ks, by rw [hn, hk]; rfl, fun a ha => ?_⟩
    rcases List.mem_cons.1 ha with rfl | ha
    ·exact hr
    ·exact hrs a ha
  obtain ⟨l, rfl, hlr⟩ := hq
  exact ⟨false, l, rfl, hlr⟩
 | @st t fs ds h hl hf ih =>
  refine ⟨fun e => ?_, fun e => (by subst e; rw [Tryz.underlying25] at h; cases h)⟩
  subst e
  rw [Tryz.underlying67] at h
  cases h
  rw [cells_ex] at hl
  match ds, hl with
  | [d0, d1, d2, d3, d4, d5, d6], _ =>
   have h0 := hf _ (List.mem_cons_self ..)
   have h1 := hf _ (List.mem_cons_of_mem _ (List.mem_cons_self ..))
   have h2 := hf _ (List.mem_cons_of_mem _ (List.mem_cons_of_mem _ (List.mem_cons_self ..)))
   have h3 := hf _ (List.mem_cons_of_mem _ (List.mem_cons_of_mem _ (List.mem_cons_of_mem _ (List.mem_cons_self ..))))
   have h4 := (ih _ (List.mem_cons_of_mem _ (List.mem_cons_of_mem _ (List.mem_cons_of_mem _ (List.mem_cons_of_mem _ (List.mem_cons_self ..)))))).2 rfl
   dsimp only at h0 h1 h2 h3 h4
   rw [cells_int] at h0 h1
   rw [cells_val] at h2
   rw [cells_str] at h3
   rw [cells_exs] at h4
   obtain ⟨a, ha⟩ := wt_int h0
   obtain ⟨b, hb, hb1, hb2⟩ := h1.int' Tryz.underlying3
   obtain ⟨v, hv⟩ := wt_val h2
   obtain ⟨s, hs⟩ := wt_str h3
   obtain ⟨nl, args, hx, hr⟩ := h4
   simp at ha hb hs hx
   refine ⟨.mk a b v s nl args, ?_, .mk hb1 hb2 hr⟩
   rw [Ex.ds_mk, ha, hb, hs, hx]
   have hv : [d2, d3, d4] = [eI v.k, eI v.n, .str v.s] := hv
   simp only [List.cons.injEq, and_true] at hv
   rw [hv.1, hv.2.1, hv.2.2]
theorem wt_exsr {ds : List D} (h : WT Tryz.prog T.exs ds) : ∃ nl args, ds = [ng nl (xL args)] ∧ ∀ a ∈ args, Ex.Rg a := (wt_exr' h).2 rfl
theorem bulk_ng (nl : Bool) (l : List (List D)) : bulkD (ng nl l) = bulkLL l + 1 := by
 unfold ng
 split
 ·rename_i h
  simp only [Bool.and_eq_true, List.isEmpty_iff] at h
  rw [h.2]; rfl
 ·rfl
theorem bulk_map (f : Ex → Ex) (l : List Ex) (h : ∀ a ∈ l, (f a).bk ≤ a.bk) : bulkLL (xL (l.map f)) ≤ bulkLL (xL l) := by
 induction l with
 | nil => exact Nat.le_refl _
 | cons a l ih =>
  have h1 := h a (by simp)
  have h2 := ih fun x hx => h x (by simp [hx])
  unfold Ex.bk at h1
  simp only [List.map_cons, xL, bulkLL] at h2 ⊢
  omega
theorem C.r11_List (l m : List Ex) (hlen : l.length = m.length) (hl : l.length ≤ 1048576) (h : ∀ (i : Nat) (x y : Ex), l[i]? = some x → m[i]? = some y → Pure Tryz.prog N.bt_ref11_Same [x.av, y.av] (.d (.bool true))) (d d' : D) (hd : SlD d (xL l)) (hd' : SlD d' (xL m)) : Pure Tryz.prog N.bt_ref11_List [.d d, .d d'] (.d (.bool true)) := by
 have h1 := xL_len l
 have hm := xL_mem l
 have h1' := xL_len m
 have hm' := xL_mem m
 have hg0 := xL_get' (args := l)
 have hg1 := xL_get' (args := m)
 obtain ⟨es, hes⟩ : ∃ es, es = xL l := ⟨_, rfl⟩
 obtain ⟨es', hes'⟩ : ∃ es, es = xL m := ⟨_, rfl⟩
 rw [← hes] at h1 hm hd hg0
 rw [← hes'] at h1' hm' hd' hg1
 have hee : (es.length : Int) = es'.length := by omega
 refine F.bt_ref11_List.go mixed rfl ?_
 repeat' first|refine st ?_|(with_reducible first|apply k_d|apply k_b)<;>intro _
 refine x_loop1 mixed Lt.bt_ref11_List_l0 Lk.bt_ref11_List_l0 (fun (i : Nat) => [.d (eI i)]) (fun i => []) (fun i => i ≤ l.length) (fun i => l.length - i) 0 rfl rfl rfl rfl (fun _ _ => ⟨rfl, rfl⟩) rfl (by omega) ?_
 repeat' first|refine st ?_|(with_reducible first|apply k_d|apply k_b)<;>intro _
 intro i h4
 cases hx : l[i]? with
 | some x =>
  have hlt := (List.getElem?_eq_some_iff.1 hx).1
  obtain ⟨y, hy⟩ : ∃ y, m[i]? = some y := ⟨_, List.getElem?_eq_getElem (by omega)⟩
  have hS := h i x y hx hy
  obtain ⟨o1, n1, v1, m1, l1, a1⟩ := x
  obtain ⟨o2, n2, v2, m2, l2, a2⟩ := y
  rw [Ex.av_mk, Ex.av_mk] at hS
  have hg := hg0 _ _ _ _ _ _ _ hx
  have hg' : es'[((i : Nat) : Int).toNat]? = _ := hg1 i _ _ _ _ _ _ hy
  have hlt' : (i : Int) < es'.length := by omega
  repeat' first|refine st ?_|((with_reducible first|apply k_pn|apply k_pc);(·exact hS))|(with_reducible first|apply k_d|apply k_b)<;>intro _
  exact ⟨i + 1, rfl, rfl, rfl, by omega, by omega⟩
 | none =>
  have hge := List.getElem?_eq_none_iff.1 hx
  repeat' first|refine st ?_|(with_reducible first|apply k_d|apply k_b)<;>intro _
  all_goals rfl
end Go.Proofs
end
