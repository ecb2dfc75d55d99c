/- The walk: loops over families of states that are lists; known conditions as propositions. No condition. -/
import Derived.Test.YtjngjdgimlnnjaaBS
set_option linter.unusedVariables false
namespace Go.Bi

def AV.bnd1B (m : Nat) : AV → Bool
  | .ptr id _ => Nat.blt id m
  | .aptr id _ _ _ => Nat.blt id m
  | .arr id _ => Nat.blt id m
  | .clo _ caps => caps.all fun id => Nat.blt id m
  | .iter id => Nat.blt id m
  | .mp id => Nat.blt id m
  | .mit id => Nat.blt id m
  | .rs id _ => Nat.blt id m
  | .rp id _ _ _ => Nat.blt id m
  | _ => true
def AV.bnd2B (m : Nat) : AV → Bool
  | .agg cs => cs.all fun c => c.bnd1B m
  | a => a.bnd1B m
def AV.bndB (m : Nat) : AV → Bool
  | .tup cs => cs.all fun c => c.bnd2B m
  | a => a.bnd2B m
def AO.bndB (m : Nat) : AO → Bool
  | .cells cs => cs.all fun c => c.bnd1B m
  | .map kvs => kvs.all fun p => p.2.bnd2B m
  | .mit k _ _ => Nat.blt k m
  | .rarr es _ _ => es.all fun e => e.all fun c => c.bnd1B m
  | _ => true

theorem bnd1_of {m : Nat} {c : AV} (h : c.bnd1B m = true) : c.bnd1 m := by
  cases c with
  | clo f caps => intro id hid; exact Nat.le_of_ble_eq_true (List.all_eq_true.1 h id hid)
  | ptr id off => exact Nat.le_of_ble_eq_true h
  | aptr id len i off => exact Nat.le_of_ble_eq_true h
  | arr id len => exact Nat.le_of_ble_eq_true h
  | iter id => exact Nat.le_of_ble_eq_true h
  | mp id => exact Nat.le_of_ble_eq_true h
  | mit id => exact Nat.le_of_ble_eq_true h
  | rs id len => exact Nat.le_of_ble_eq_true h
  | rp id len i off => exact Nat.le_of_ble_eq_true h
  | _ => trivial
theorem bnd2_of {m : Nat} {c : AV} (h : c.bnd2B m = true) : c.bnd2 m := by
  cases c with
  | agg cs => intro x hx; exact bnd1_of (List.all_eq_true.1 h x hx)
  | clo f caps => exact bnd1_of (c := .clo f caps) h
  | ptr id off => exact bnd1_of (c := .ptr id off) h
  | aptr id len i off => exact bnd1_of (c := .aptr id len i off) h
  | arr id len => exact bnd1_of (c := .arr id len) h
  | iter id => exact bnd1_of (c := .iter id) h
  | mp id => exact bnd1_of (c := .mp id) h
  | mit id => exact bnd1_of (c := .mit id) h
  | rs id len => exact bnd1_of (c := .rs id len) h
  | rp id len i off => exact bnd1_of (c := .rp id len i off) h
  | _ => trivial
theorem bnd_of {m : Nat} {c : AV} (h : c.bndB m = true) : c.bnd m := by
  cases c with
  | tup cs => intro x hx; exact bnd2_of (List.all_eq_true.1 h x hx)
  | agg cs => exact bnd2_of (c := .agg cs) h
  | clo f caps => exact bnd2_of (c := .clo f caps) h
  | ptr id off => exact bnd2_of (c := .ptr id off) h
  | aptr id len i off => exact bnd2_of (c := .aptr id len i off) h
  | arr id len => exact bnd2_of (c := .arr id len) h
  | iter id => exact bnd2_of (c := .iter id) h
  | mp id => exact bnd2_of (c := .mp id) h
  | mit id => exact bnd2_of (c := .mit id) h
  | rs id len => exact bnd2_of (c := .rs id len) h
  | rp id len i off => exact bnd2_of (c := .rp id len i off) h
  | _ => trivial
theorem bndo_of {m : Nat} {o : AO} (h : o.bndB m = true) : o.bnd m := by
  cases o with
  | cells cs => intro x hx; exact bnd1_of (List.all_eq_true.1 h x hx)
  | map kvs => intro x hx; exact bnd2_of (List.all_eq_true.1 h x hx)
  | mit k n s => exact Nat.le_of_ble_eq_true h
  | rarr es sz nl => intro e he c hc; exact bnd1_of (List.all_eq_true.1 (List.all_eq_true.1 h e he) c hc)
  | _ => trivial

theorem wrapu_nn (n : Int) : 0 ≤ IntKind.u64.wrap n := by
  simp only [IntKind.wrap, IntKind.signed, Bool.false_and, Bool.false_eq_true, if_false]
  exact Int.emod_nonneg _ (by decide)

/-- A state that tells no more than another one. -/
def AllIn (ρ : Rho) (m : Nat) : List (Nat × AV) → Prop
  | [] => True
  | (t, v) :: l => ρ t = v ∧ v.bndB m = true ∧ AllIn ρ m l
def OsIn (m : Nat) : List AO → Prop
  | [] => True
  | o :: l => o.bndB m = true ∧ OsIn m l

section
variable {P : Program} {n nb : Nat} {L Lt : List (Nat × AV)} {os os2 : List AO} {rest : List IOp} {K : Rho → List AO → Prop} {t : Nat} {v : AV} {x y z : Opd}
variable {N R : Rho → List AO → Prop} {E : Nat → Rho → List AO → Prop} {ρ : Rho}

theorem ai_nil {m : Nat} : AllIn ρ m [] := trivial
theorem ai_cons {m : Nat} {l : List (Nat × AV)} (h1 : ρ t = v) (h2 : v.bndB m = true) (h3 : AllIn ρ m l) : AllIn ρ m ((t, v) :: l) := ⟨h1, h2, h3⟩
theorem oi_nil {m : Nat} : OsIn m [] := trivial
theorem oi_cons {m : Nat} {o : AO} {l : List AO} (h2 : o.bndB m = true) (h3 : OsIn m l) : OsIn m (o :: l) := ⟨h2, h3⟩

theorem weak_ofL (m : Nat) (hm : nb ≤ m) (he : os.take m = os2) (h : AllIn ρ m Lt) (ho : OsIn m os2) : Weak n nb ρ os (ofL Lt) os2 := by
  subst he
  refine weak_take m hm (fun t => ?_) ?_
  · clear ho
    induction Lt with
    | nil => exact .inl rfl
    | cons p l ih =>
      obtain ⟨a, v⟩ := p
      obtain ⟨h1, h2, h3⟩ := h
      simp only [ofL]
      cases hb : Nat.beq t a with
      | true =>
        have := Nat.eq_of_beq_eq_true hb
        subst this
        refine .inr ⟨h1.symm, ?_⟩
        rw [h1]
        exact bnd_of h2
      | false => exact ih h3
  · intro o hmem
    generalize os.take m = l at ho hmem
    induction l with
    | nil => cases hmem
    | cons a l ih =>
      cases hmem with
      | head => exact bndo_of ho.1
      | tail _ h' => exact ih ho.2 h'

theorem t_loop {α : Type} (hm : P.follows .mixedOrders = true) {c : IC} (Lf : α → List (Nat × AV)) (So : α → List AO) (φ : α → Prop) (μ : α → Nat) (x0 : α) (h0 : φ x0) (hw : Weak n nb ρ os (ofL (Lf x0)) (So x0))
    (step : ∀ x, φ x → wpI P n nb c ⟨fun ρ' os' => ∃ y, φ y ∧ μ y < μ x ∧ Weak n nb ρ' os' (ofL (Lf y)) (So y), E, R⟩ (ofL (Lf x)) (So x)) : wpI P n nb (.loop c) ⟨N, E, R⟩ ρ os :=
  loop_rule hm (fun x => ofL (Lf x)) So φ μ x0 h0 hw step
theorem w_next {α : Type} {φ : α → Prop} {μ : α → Nat} {x : α} {Lf : α → List (Nat × AV)} {So : α → List AO} (y : α) (h1 : φ y) (h2 : μ y < μ x) (h3 : Weak n nb ρ os (ofL (Lf y)) (So y)) : ∃ y, φ y ∧ μ y < μ x ∧ Weak n nb ρ os (ofL (Lf y)) (So y) := ⟨y, h1, h2, h3⟩

theorem ite_t {c : Prop} [Decidable c] {f g : Rho → List AO → Prop} (h : c) (k : f ρ os) : (if c then f else g) ρ os := by rw [if_pos h]; exact k
theorem ite_f {c : Prop} [Decidable c] {f g : Rho → List AO → Prop} (h : ¬ c) (k : g ρ os) : (if c then f else g) ρ os := by rw [if_neg h]; exact k

theorem br_dt {p : Prop} [Decidable p] {X : Prop} (h : p → X) : Br (decide p) true X := fun e => h (of_decide_eq_true e)
theorem br_df {p : Prop} [Decidable p] {X : Prop} (h : ¬ p → X) : Br (decide p) false X := fun e => h (of_decide_eq_false e)
theorem br_nt {q : Bool} {X : Prop} (h : Br q false X) : Br (!q) true X := fun e => h (by simpa using e)
theorem br_nf {q : Bool} {X : Prop} (h : Br q true X) : Br (!q) false X := fun e => h (by simpa using e)

/-! ### Slices of our own -/
theorem st_bslF {m sz : Nat} {zs : List D} {ps : List (Nat × Nat × Opd)} {cs : List AV} {xs : List D} {os1 : List AO} (hf : fillF (ofL L) ps (((List.replicate m zs).flatten).map .d) = some cs) (hz : frzCs os cs = some (xs, os1))
    (h : opsI P rest (ofL ((t, .arr os1.length m) :: L)) (os1 ++ [.arr (chunks sz m xs) sz 0 false]) K) : opsI P (⟨some t, none, .bsl m sz zs ps⟩ :: rest) (ofL L) os K :=
  st_op (by simp only [opI]; exact fillF_sound hf (by rw [hz]; exact .inl h))
theorem st_bsldF {m sz : Nat} {zs : List D} {ps : List (Nat × Nat × Opd)} {cs : List AV} {xs : List D} (hf : fillF (ofL L) ps (((List.replicate m zs).flatten).map .d) = some cs) (hz : frzCs os cs = some (xs, os))
    (h : opsI P rest (ofL ((t, .d (.sl (chunks sz m xs))) :: L)) os K) : opsI P (⟨some t, none, .bsld m sz zs ps⟩ :: rest) (ofL L) os K :=
  st_op (by simp only [opI]; exact fillF_sound hf (by rw [hz]; exact ⟨rfl, h⟩))
/-- One element more behind a slice of our own. -/
theorem st_app1 {sz bytes id len frz id2 len2 sz2 frz2 : Nat} {nl nl2 : Bool} {es : List (List D)} {e : List D} (hx : evO (ofL L) x = .arr id len) (hy : evO (ofL L) y = .arr id2 len2) (ho2 : os[id2]? = some (.arr [e] sz2 frz2 nl2)) (hl2 : len2 = 1)
    (ho : os[id]? = some (.arr es sz frz nl)) (hl : len = es.length) (h1 : (es.length + 1) * bytes ≤ 140737488355328) (h2 : es.length + 1 ≤ 9223372036854775807) (he : e.length = sz)
    (h : opsI P rest (ofL ((t, .arr id (es.length + 1)) :: L)) (os.set id (.arr (es ++ [e]) sz frz false)) K) : opsI P (⟨some t, none, .app sz bytes x y⟩ :: rest) (ofL L) os K := st_op (by
  simp only [opI, hx, hy, newsI, ho2]
  refine ⟨by simpa using hl2, ?_⟩
  simp only [appI, ho]
  refine ⟨hl, trivial, by simpa using h1, by simpa using h2, by simpa using he, ?_⟩
  simpa using h)
theorem w_nil (t sz : Nat) (hsz : 0 < sz) (ht : ofL L t = .d .nil)
    (h3 : Weak n nb (ofL ((t, .arr os.length 0) :: L)) (os ++ [.arr [] sz 0 true]) (ofL Lt) os2) : Weak n nb (ofL L) os (ofL Lt) os2 := by
  have := weak_nil (n := n) (nb := nb) (ρ := ofL L) (os := os) t sz hsz ht
  rw [ofL_cons] at this
  exact this.trans h3

/-! ### Slices that may be nil -/
/-- `d` is a slice of the elements `es`, nil only if it has none. -/
def SlD (d : D) (es : List (List D)) : Prop := (d = .nil ∧ es = []) ∨ d = .sl es
def nsl (es : List (List D)) : D := if es.isEmpty then .nil else .sl es
theorem sld_sl {es : List (List D)} : SlD (.sl es) es := .inr rfl
theorem sld_nil : SlD .nil [] := .inl ⟨rfl, rfl⟩
theorem sld_nsl {es : List (List D)} : SlD (nsl es) es := by
  unfold nsl SlD
  cases es <;> simp
theorem st_len_s {d : D} {es : List (List D)} (hx : evO (ofL L) x = .d d) (hd : SlD d es) (h : opsI P rest (ofL ((t, .d (.int .i64 es.length)) :: L)) os K) : opsI P (⟨some t, none, .len x⟩ :: rest) (ofL L) os K := by
  rcases hd with ⟨rfl, rfl⟩ | rfl
  · exact st_len_nil hx h
  · exact st_len hx h
theorem st_ixsl_s {sz : Nat} {d : D} {es : List (List D)} {k : IntKind} {a : Int} (hx : evO (ofL L) x = .d d) (hd : SlD d es) (hy : evO (ofL L) y = .d (.int k a)) (h1 : 0 ≤ a) (h2 : a < es.length) (hs : ∀ e ∈ es, e.length = sz) (h : opsI P rest (ofL ((t, .dptr es a.toNat 0) :: L)) os K) : opsI P (⟨some t, none, .ixsl sz x y⟩ :: rest) (ofL L) os K := by
  rcases hd with ⟨rfl, rfl⟩ | rfl
  · simp at h2; omega
  · exact st_ixsl hx hy h1 h2 hs h
theorem st_ixvalO {len sz : Nat} {cs : List AV} {k : IntKind} {a : Int} (hx : evO (ofL L) x = .agg cs) (hy : evO (ofL L) y = .d (.int k a)) (h1 : 0 ≤ a) (h2 : a < len) (hs : sz = 1) (hc : cs[a.toNat]? = some v) (h : opsI P rest (ofL ((t, v) :: L)) os K) : opsI P (⟨some t, none, .ixval len sz false x y⟩ :: rest) (ofL L) os K :=
  st_ixval hx hy h1 h2 hs (List.getElem?_eq_some_iff.1 hc).1 (by rw [List.getD_eq_getElem?_getD, hc]; exact h)
theorem st_loadaV {id off m : Nat} {cs vs : List AV} (hx : evO (ofL L) x = .ptr id off) (ho : os[id]? = some (.cells cs)) (hv : (cs.drop off).take m = vs) (hc : off + m ≤ cs.length) (h : opsI P rest (ofL ((t, .agg vs) :: L)) os K) : opsI P (⟨some t, none, .load true m x⟩ :: rest) (ofL L) os K := by
  subst hv; exact st_loada hx ho hc h
theorem oi_cd {m : Nat} {ds : List D} {l : List AO} (h : OsIn m l) : OsIn m (.cells (ds.map .d) :: l) :=
  oi_cons (List.all_eq_true.2 fun c hc => by obtain ⟨x, _, rfl⟩ := List.mem_map.1 hc; rfl) h
theorem ai_gd {m : Nat} {ds : List D} {l : List (Nat × AV)} (h1 : ρ t = .agg (ds.map .d)) (h : AllIn ρ m l) : AllIn ρ m ((t, .agg (ds.map .d)) :: l) :=
  ai_cons h1 (List.all_eq_true.2 fun c hc => by obtain ⟨x, _, rfl⟩ := List.mem_map.1 hc; rfl) h
theorem ret_cell {id off m s : Nat} {cs : List AV} {ds : List D} {r : AV} (hx : ofL L s = .ptr id off) (ho : os[id]? = some (.cells cs)) (hv : (cs.drop off).take m = ds.map .d) (hc : off + m ≤ cs.length) (e : AV.agg (ds.map .d) = r) : retI 0 (fun r' os => r' = r ∧ os = []) [.cell s m true] (ofL L) os := by
  simp only [retI, resI, hx, loadI, ho, if_true, hv]
  refine ⟨hc, ?_⟩
  simp only [frzGs, frzG, frzCs_d, ret1]
  exact ⟨by simp, e, by simp⟩
end
end Go.Bi
