/- Expressions; what is well-formed: the program's and the reference's alike. No condition. -/
import Derived.Test.YtdhdhhgdeokiiaaE2
set_option linter.unusedSimpArgs false
set_option linter.unusedVariables false
set_option maxRecDepth 10000
set_option maxHeartbeats 4000000
namespace Go.Proofs
open Go.Bi

/-- An expression; `nl`: an empty list of arguments is nil. -/
inductive Ex where
  | mk (op n : Int) (v : Vl) (name : List UInt8) (nl : Bool) (args : List Ex)
theorem Ex.ind {p : Ex → Prop} (h : ∀ op n v name nl args, (∀ a ∈ args, p a) → p (.mk op n v name nl args)) : ∀ e, p e
  | .mk op n v name nl args => h _ _ _ _ _ _ fun a ha => Ex.ind h a
termination_by e => SizeOf.sizeOf e
decreasing_by
  have := List.sizeOf_lt_of_mem ha
  simp only [Ex.mk.sizeOf_spec]
  omega
def ng (nl : Bool) (l : List (List D)) : D := if nl && l.isEmpty then .nil else .sl l
theorem sld_ng {nl : Bool} {l : List (List D)} : SlD (ng nl l) l := by
  unfold ng
  split
  · rename_i h
    simp only [Bool.and_eq_true, List.isEmpty_iff] at h
    exact .inl ⟨rfl, h.2⟩
  · exact .inr rfl
abbrev xds (op n : Int) (v : Vl) (name : List UInt8) (d : D) : List D := [eI op, eI n, eI v.k, eI v.n, .str v.s, .str name, d]
abbrev eX (op n : Int) (v : Vl) (name : List UInt8) (d : D) : AV := .agg [.d (eI op), .d (eI n), .d (eI v.k), .d (eI v.n), .d (.str v.s), .d (.str name), .d d]
mutual
def Ex.ds : Ex → List D
  | .mk op n v name nl args => xds op n v name (ng nl (Ex.dss args))
def Ex.dss : List Ex → List (List D)
  | [] => []
  | e :: es => e.ds :: Ex.dss es
end
theorem Ex.dss_eq : ∀ l, Ex.dss l = l.map Ex.ds
  | [] => by simp [Ex.dss]
  | e :: es => by simp [Ex.dss, Ex.dss_eq es]
def xL (l : List Ex) : List (List D) := l.map Ex.ds
theorem Ex.ds_mk (op n : Int) (v : Vl) (name : List UInt8) (nl : Bool) (args : List Ex) : (Ex.mk op n v name nl args).ds = xds op n v name (ng nl (xL args)) := by
  rw [Ex.ds, Ex.dss_eq]; rfl
def Ex.av (e : Ex) : AV := .agg (e.ds.map .d)
theorem Ex.av_mk (op n : Int) (v : Vl) (name : List UInt8) (nl : Bool) (args : List Ex) : (Ex.mk op n v name nl args).av = eX op n v name (ng nl (xL args)) := by
  rw [Ex.av, Ex.ds_mk]; rfl
theorem xL_len (l : List Ex) : (xL l).length = l.length := by simp [xL]
theorem xL_mem (l : List Ex) : ∀ e ∈ xL l, e.length = 7 := by
  intro e he
  obtain ⟨⟨op, n, v, name, nl, args⟩, _, rfl⟩ := List.mem_map.1 he
  rw [Ex.ds_mk]; rfl
theorem xL_get {l : List Ex} {i : Nat} {e : Ex} (h : l[i]? = some e) : (xL l)[i]? = some e.ds := by simp [xL, h]
/-- How much an expression holds. -/
def Ex.bk (e : Ex) : Nat := bulkL e.ds
theorem bulkLL_mem {l : List (List D)} {x : List D} (h : x ∈ l) : bulkL x ≤ bulkLL l := by
  induction l with
  | nil => cases h
  | cons y l ih =>
    simp only [bulkLL]
    rcases List.mem_cons.1 h with rfl | h
    · omega
    · have := ih h; omega
theorem bulkLL_len {l : List (List D)} (h : ∀ x ∈ l, 1 ≤ bulkL x) : l.length ≤ bulkLL l := by
  induction l with
  | nil => exact Nat.zero_le _
  | cons y l ih =>
    have h1 := h y (by simp)
    have h2 := ih fun x hx => h x (by simp [hx])
    simp only [bulkLL, List.length_cons]
    omega
theorem Ex.bk_mk (op n : Int) (v : Vl) (name : List UInt8) (nl : Bool) (args : List Ex) : bulkLL (xL args) + v.s.length + name.length + 6 ≤ (Ex.mk op n v name nl args).bk := by
  rw [Ex.bk, Ex.ds_mk]
  simp only [bulkL, bulkD]
  unfold ng
  split
  · rename_i h
    simp only [Bool.and_eq_true, List.isEmpty_iff] at h
    rw [h.2]
    simp only [bulkD, bulkLL]
    omega
  · simp only [bulkD]; omega
theorem Ex.bk_pos (e : Ex) : 6 ≤ e.bk := by
  obtain ⟨op, n, v, name, nl, args⟩ := e
  have := Ex.bk_mk op n v name nl args
  omega
theorem xL_bulk_len (l : List Ex) : l.length ≤ bulkLL (xL l) := by
  rw [← xL_len l]
  refine bulkLL_len fun x hx => ?_
  obtain ⟨e, _, rfl⟩ := List.mem_map.1 hx
  have := e.bk_pos
  unfold Ex.bk at this
  omega
theorem Ex.bk_arg {op n : Int} {v : Vl} {name : List UInt8} {nl : Bool} {args : List Ex} {a : Ex} (h : a ∈ args) : a.bk < (Ex.mk op n v name nl args).bk := by
  have h1 := Ex.bk_mk op n v name nl args
  have h2 : bulkL a.ds ≤ bulkLL (xL args) := bulkLL_mem (List.mem_map.2 ⟨a, h, rfl⟩)
  unfold Ex.bk at *
  omega
theorem Ex.bk_bounds {op n : Int} {v : Vl} {name : List UInt8} {nl : Bool} {args : List Ex} {B : Nat} (h : (Ex.mk op n v name nl args).bk ≤ B) : args.length ≤ B ∧ v.s.length ≤ B ∧ name.length ≤ B ∧ ∀ a ∈ args, a.bk ≤ B := by
  have h1 := Ex.bk_mk op n v name nl args
  have h2 := xL_bulk_len args
  exact ⟨by omega, by omega, by omega, fun a ha => by have := Ex.bk_arg (op := op) (n := n) (v := v) (name := name) (nl := nl) ha; omega⟩

end Go.Proofs
