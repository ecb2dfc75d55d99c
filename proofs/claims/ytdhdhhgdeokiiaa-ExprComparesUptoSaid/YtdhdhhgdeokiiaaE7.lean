/- The value of an expression. No condition. -/
import Derived.Test.YtdhdhhgdeokiiaaE3c
import Derived.Test.YtdhdhhgdeokiiaaE5
import Derived.Test.YtdhdhhgdeokiiaaE6
set_option linter.unusedSimpArgs false
set_option linter.unusedVariables false
set_option maxRecDepth 10000
set_option maxHeartbeats 4000000
namespace Go.Proofs
open Go.Bi

def coa : List Vl → Vl
  | [] => vNull
  | v :: l => if v.k = 0 then coa l else v
def evOp (op n : Int) (v : Vl) (l : List Vl) (row : List Vl) : Vl :=
  if op = 1 then v
  else if op = 2 then vCol row n
  else if op = 22 then (if vTruth (l.getD 0 vNull) = 2 then l.getD 1 vNull else l.getD 2 vNull)
  else if op = 4 then vOf (tNot (vTruth (l.getD 0 vNull)))
  else if op = 5 ∨ op = 6 then vOf (lgF op (l.getD 0 vNull) (l.drop 1))
  else if op = 21 then vBool (decide ((l.getD 0 vNull).k = 0))
  else if op = 23 then coa l
  else if op = 24 then vRel n (l.getD 0 vNull) (l.getD 1 vNull) (l.getD 2 vNull) (l.getD 3 vNull)
  else if op = 19 ∨ op = 20 then vTxt op l
  else if 13 ≤ op ∧ op ≤ 18 then vAri op l
  else vOf (vCp op (l.getD 0 vNull) (l.getD 1 vNull))
mutual
def ev (row : List Vl) : Ex → Vl
  | .mk op n v name nl args => if fmd op n v name args.length then evOp op n v (evs row args) row else vNull
def evs (row : List Vl) : List Ex → List Vl
  | [] => []
  | e :: es => ev row e :: evs row es
end
theorem evs_eq (row : List Vl) : ∀ l, evs row l = l.map (ev row)
  | [] => by simp [evs]
  | e :: es => by simp [evs, evs_eq row es]
theorem ev_mk (row : List Vl) (op n : Int) (v : Vl) (name : List UInt8) (nl : Bool) (args : List Ex) : ev row (.mk op n v name nl args) = if fmd op n v name args.length then evOp op n v (args.map (ev row)) row else vNull := by
  rw [ev, evs_eq]
theorem cnt_case {op : Int} {k : Nat} (h : (cnt op k).1 = true) : ((op = 1 ∨ op = 2) ∧ k = 0) ∨ ((op = 4 ∨ op = 18 ∨ op = 20 ∨ op = 21) ∧ k = 1) ∨ ((7 ≤ op ∧ op ≤ 17 ∨ op = 19) ∧ k = 2) ∨ ((op = 5 ∨ op = 6) ∧ 2 ≤ k) ∨ (op = 22 ∧ k = 3) ∨ (op = 23 ∧ 1 ≤ k) ∨ (op = 24 ∧ k = 4) := by
  unfold cnt at h
  repeat' split at h
  all_goals (simp at h)
  all_goals omega
theorem fmd_cnt {op n : Int} {v : Vl} {name : List UInt8} {k : Nat} (h : fmd op n v name k = true) : (cnt op k).1 = true := by
  unfold fmd at h
  simp only [Bool.and_eq_true] at h
  exact h.1.1
theorem fmd_1v {n : Int} {v : Vl} {name : List UInt8} {k : Nat} (h : fmd 1 n v name k = true) : vValid v = true := by
  unfold fmd at h
  simp only [Bool.and_eq_true, if_true] at h
  exact h.2.2
theorem vNull_valid : vValid vNull = true := by decide
theorem vOrN_valid (v : Vl) : vValid (vOrN v) = true := by
  unfold vOrN
  split
  · assumption
  · exact vNull_valid
theorem vBool_valid (b : Bool) : vValid (vBool b) = true := by cases b <;> decide
theorem vOf_valid (t : Int) : vValid (vOf t) = true := by
  unfold vOf
  split
  · exact vBool_valid _
  · split
    · exact vBool_valid _
    · exact vNull_valid
theorem vInt_valid (n : Int) : vValid (vInt n) = true := vOrN_valid _
theorem getD_valid {l : List Vl} (h : ∀ v ∈ l, vValid v = true) (i : Nat) : vValid (l.getD i vNull) = true := by
  rw [List.getD_eq_getElem?_getD]
  cases hx : l[i]? with
  | none => exact vNull_valid
  | some v => exact h v (List.mem_of_getElem? hx)
theorem coa_valid : ∀ {l : List Vl}, (∀ v ∈ l, vValid v = true) → vValid (coa l) = true
  | [], _ => vNull_valid
  | v :: l, h => by
    unfold coa
    split
    · exact coa_valid fun x hx => h x (by simp [hx])
    · exact h v (by simp)
theorem evOp_valid {op n : Int} {v : Vl} {l row : List Vl} (hl : ∀ v ∈ l, vValid v = true) (h1 : op = 1 → vValid v = true) : vValid (evOp op n v l row) = true := by
  unfold evOp
  split
  · rename_i h; exact h1 h
  split
  · exact vOrN_valid _
  split
  · split
    · exact getD_valid hl 1
    · exact getD_valid hl 2
  split
  · exact vOf_valid _
  split
  · exact vOf_valid _
  split
  · exact vBool_valid _
  split
  · exact coa_valid hl
  split
  · unfold vRel
    split
    · exact vBool_valid _
    · exact vNull_valid
  split
  · unfold vTxt
    split
    · split <;> exact vOrN_valid _
    · exact vNull_valid
  split
  · unfold vAri vAr vNeg vBin vPr
    repeat' split
    all_goals first | exact vOrN_valid _ | exact vNull_valid
  · exact vOf_valid _
theorem ev_valid (row : List Vl) : ∀ e, vValid (ev row e) = true := by
  refine Ex.ind fun op n v name nl args ih => ?_
  rw [ev_mk]
  split
  · rename_i h
    refine evOp_valid (fun w hw => ?_) (fun e => ?_)
    · obtain ⟨a, ha, rfl⟩ := List.mem_map.1 hw
      exact ih a ha
    · subst e; exact fmd_1v h
  · exact vNull_valid
theorem ev_s (row : List Vl) (e : Ex) : (ev row e).s.length ≤ 200 := valid_s (ev_valid row e)
theorem evs_s (row : List Vl) (args : List Ex) : ∀ v ∈ args.map (ev row), v.s.length ≤ 200 := fun v hv => by
  obtain ⟨a, _, rfl⟩ := List.mem_map.1 hv
  exact ev_s row a
theorem evs_n (row : List Vl) (args : List Ex) : ∀ v ∈ args.map (ev row), nSm v.n := fun v hv => by
  obtain ⟨a, _, rfl⟩ := List.mem_map.1 hv
  exact valid_n (ev_valid row a)
abbrev z3 : List D := [eI 0, eI 0, .str []]
def Lv (row : List Vl) (args : List Ex) (i : Nat) : List (List D) := eVs ((args.take i).map (ev row)) ++ List.replicate (args.length - i) z3
theorem Lv_len (row : List Vl) (args : List Ex) (i : Nat) (h : i ≤ args.length) : (Lv row args i).length = args.length := by
  unfold Lv
  rw [List.length_append, eVs_len, List.length_map, List.length_take, List.length_replicate]
  omega
theorem Lv_mem (row : List Vl) (args : List Ex) (i : Nat) : ∀ e ∈ Lv row args i, e.length = 3 := by
  intro e he
  rcases List.mem_append.1 he with h | h
  · exact eVs_mem _ e h
  · rw [List.eq_of_mem_replicate h]; rfl
theorem Lv_get {row : List Vl} {args : List Ex} {i : Nat} (h : i < args.length) : (Lv row args i)[i]? = some z3 := by
  unfold Lv
  rw [List.getElem?_append_right (by rw [eVs_len, List.length_map, List.length_take]; omega)]
  rw [eVs_len, List.length_map, List.length_take, List.getElem?_replicate, if_pos (by omega)]
theorem Lv_set {row : List Vl} {args : List Ex} {i : Nat} {x : Ex} (h : args[i]? = some x) : (Lv row args i).set i (ev row x).ds = Lv row args (i + 1) := by
  have hlt := (List.getElem?_eq_some_iff.1 h).1
  have hl : (eVs ((args.take i).map (ev row))).length = i := by rw [eVs_len, List.length_map, List.length_take]; omega
  unfold Lv
  rw [List.set_append_right _ _ (by omega), hl, Nat.sub_self]
  rw [show args.length - i = (args.length - (i + 1)) + 1 by omega, List.replicate_succ, List.set_cons_zero]
  rw [List.take_add_one, h]
  simp [eVs]
theorem Lv_end {row : List Vl} {args : List Ex} {i : Nat} (h : args.length ≤ i) : Lv row args i = eVs (args.map (ev row)) := by
  unfold Lv
  rw [List.take_of_length_le h, show args.length - i = 0 by omega]
  simp
theorem Lv_zero (row : List Vl) (args : List Ex) (n : Nat) (h : n = args.length) : List.replicate ((n : Int)).toNat z3 = Lv row args 0 := by
  unfold Lv
  subst h
  simp [eVs]
end Go.Proofs
