/- The walk: control over a state with three ways on; copies by shape; parts of aggregates; the return. No condition. -/
import Derived.Test.YtjngjdgimlnnjaaBR
set_option linter.unusedVariables false
namespace Go.Bi

section
variable {P : Program} {n nb : Nat} {L : List (Nat × AV)} {os os1 : List AO} {rest : List IOp} {K : Rho → List AO → Prop} {t : Nat} {v : AV} {x y z : Opd}
variable {N R : Rho → List AO → Prop} {E : Nat → Rho → List AO → Prop} {ρ : Rho}

theorem k_skip (h : N ρ os) : wpI P n nb .skip ⟨N, E, R⟩ ρ os := h
theorem k_region {is : List IOp} (h : opsI P is ρ os N) : wpI P n nb (.region is) ⟨N, E, R⟩ ρ os := h
theorem k_seq {a b : IC} (h : wpI P n nb a ⟨fun ρ os => wpI P n nb b ⟨N, E, R⟩ ρ os, E, R⟩ ρ os) : wpI P n nb (.seq a b) ⟨N, E, R⟩ ρ os := h
theorem k_sreg {is : List IOp} {b : IC} (h : opsI P is ρ os (fun ρ os => wpI P n nb b ⟨N, E, R⟩ ρ os)) : wpI P n nb (.seq (.region is) b) ⟨N, E, R⟩ ρ os := h
theorem k_block {id : Nat} {a : IC} (h : wpI P n nb a ⟨N, fun i => if i = id then N else E i, R⟩ ρ os) : wpI P n nb (.block id a) ⟨N, E, R⟩ ρ os := h
theorem k_exit {id : Nat} (h : E id ρ os) : wpI P n nb (.exit id) ⟨N, E, R⟩ ρ os := h
theorem k_ret (h : R ρ os) : wpI P n nb .ret ⟨N, E, R⟩ ρ os := h
theorem k_loop {c : IC} (h : Tri P n nb (.loop c) ⟨N, E, R⟩ ρ os) : wpI P n nb (.loop c) ⟨N, E, R⟩ ρ os := h
theorem k_cond {c : Opd} {a b : IC} {q : Bool} (hc : evO (ofL L) c = .d (.bool q)) (h1 : q = true → wpI P n nb a ⟨N, E, R⟩ (ofL L) os) (h2 : q = false → wpI P n nb b ⟨N, E, R⟩ (ofL L) os) : wpI P n nb (.cond c a b) ⟨N, E, R⟩ (ofL L) os := st_cond hc h1 h2
theorem k_condt {c : Opd} {a b : IC} (hc : evO (ofL L) c = .d (.bool true)) (h1 : wpI P n nb a ⟨N, E, R⟩ (ofL L) os) : wpI P n nb (.cond c a b) ⟨N, E, R⟩ (ofL L) os := st_cond_t hc rfl h1
theorem k_condf {c : Opd} {a b : IC} (hc : evO (ofL L) c = .d (.bool false)) (h1 : wpI P n nb b ⟨N, E, R⟩ (ofL L) os) : wpI P n nb (.cond c a b) ⟨N, E, R⟩ (ofL L) os := st_cond_f hc rfl h1

theorem g_t {g : Nat} {op : IK} {d : Option Nat} (hg : ofL L g = .d (.bool true)) (h : opsI P (⟨d, none, op⟩ :: rest) (ofL L) os K) : opsI P (⟨d, some (g, true), op⟩ :: rest) (ofL L) os K := st_gy hg rfl h
theorem g_f {g : Nat} {op : IK} {d : Option Nat} (hg : ofL L g = .d (.bool false)) (h : opsI P (⟨d, none, op⟩ :: rest) (ofL L) os K) : opsI P (⟨d, some (g, false), op⟩ :: rest) (ofL L) os K := st_gy hg rfl h
theorem g_tn {g : Nat} {op : IK} (hg : ofL L g = .d (.bool false)) (h : opsI P rest (ofL ((t, .tup []) :: L)) os K) : opsI P (⟨some t, some (g, true), op⟩ :: rest) (ofL L) os K := st_gn hg rfl h
theorem g_fn {g : Nat} {op : IK} (hg : ofL L g = .d (.bool true)) (h : opsI P rest (ofL ((t, .tup []) :: L)) os K) : opsI P (⟨some t, some (g, false), op⟩ :: rest) (ofL L) os K := st_gn hg rfl h
theorem g_u {g : Nat} {want : Bool} {op : IK} (hg : ofL L g = .tup []) (h : opsI P rest (ofL ((t, .tup []) :: L)) os K) : opsI P (⟨some t, some (g, want), op⟩ :: rest) (ofL L) os K := st_gu hg h

theorem mv_i {k : IntKind} {a : Int} (hx : evO (ofL L) x = .d (.int k a)) (h : opsI P rest (ofL ((t, .d (.int k a)) :: L)) os K) : opsI P (⟨some t, none, .mv x⟩ :: rest) (ofL L) os K := st_mv hx h
theorem mv_b {a : Bool} (hx : evO (ofL L) x = .d (.bool a)) (h : opsI P rest (ofL ((t, .d (.bool a)) :: L)) os K) : opsI P (⟨some t, none, .mv x⟩ :: rest) (ofL L) os K := st_mv hx h
/-- A copy of a condition before a guard: from here on it is known. -/
theorem mv_s {a : Bool} {w : Bool} {d : Option Nat} {op : IK} (hx : evO (ofL L) x = .d (.bool a))
    (h1 : a = true → opsI P (⟨d, some (t, w), op⟩ :: rest) (ofL ((t, .d (.bool true)) :: L)) os K)
    (h2 : a = false → opsI P (⟨d, some (t, w), op⟩ :: rest) (ofL ((t, .d (.bool false)) :: L)) os K) : opsI P (⟨some t, none, .mv x⟩ :: ⟨d, some (t, w), op⟩ :: rest) (ofL L) os K := by
  refine st_mv hx ?_
  cases a
  · exact h2 rfl
  · exact h1 rfl
theorem mv_d {d : D} (hx : evO (ofL L) x = .d d) (h : opsI P rest (ofL ((t, .d d) :: L)) os K) : opsI P (⟨some t, none, .mv x⟩ :: rest) (ofL L) os K := st_mv hx h
theorem mv_g {cs : List AV} (hx : evO (ofL L) x = .agg cs) (h : opsI P rest (ofL ((t, .agg cs) :: L)) os K) : opsI P (⟨some t, none, .mv x⟩ :: rest) (ofL L) os K := st_mv hx h
theorem mv_t {cs : List AV} (hx : evO (ofL L) x = .tup cs) (h : opsI P rest (ofL ((t, .tup cs) :: L)) os K) : opsI P (⟨some t, none, .mv x⟩ :: rest) (ofL L) os K := st_mv hx h
theorem mv_p {a b : Nat} (hx : evO (ofL L) x = .ptr a b) (h : opsI P rest (ofL ((t, .ptr a b) :: L)) os K) : opsI P (⟨some t, none, .mv x⟩ :: rest) (ofL L) os K := st_mv hx h
theorem mv_a {a b : Nat} (hx : evO (ofL L) x = .arr a b) (h : opsI P rest (ofL ((t, .arr a b) :: L)) os K) : opsI P (⟨some t, none, .mv x⟩ :: rest) (ofL L) os K := st_mv hx h
theorem mv_c {a : FuncId} {b : List Nat} (hx : evO (ofL L) x = .clo a b) (h : opsI P rest (ofL ((t, .clo a b) :: L)) os K) : opsI P (⟨some t, none, .mv x⟩ :: rest) (ofL L) os K := st_mv hx h

theorem pick_t {a : Bool} (hx : evO (ofL L) x = .d (.bool true)) (hy : evO (ofL L) y = .d (.bool a)) (h : opsI P rest (ofL ((t, .d (.bool a)) :: L)) os K) : opsI P (⟨some t, none, .pick x y z⟩ :: rest) (ofL L) os K := st_pickt hx rfl hy h
theorem pick_f {a : Bool} (hx : evO (ofL L) x = .d (.bool false)) (hz : evO (ofL L) z = .d (.bool a)) (h : opsI P rest (ofL ((t, .d (.bool a)) :: L)) os K) : opsI P (⟨some t, none, .pick x y z⟩ :: rest) (ofL L) os K := st_pickf hx rfl hz h

/-- What is laid down by parts. -/
def fillF (ρ : Rho) : List (Nat × Nat × Opd) → List AV → Option (List AV)
  | [], cs => some cs
  | (off, n, o) :: ps, cs => match (evO ρ o).cells with
    | some xs => bif Nat.beq xs.length n && Nat.ble (off + n) cs.length then fillF ρ ps (setR cs off xs) else none
    | none => none
theorem fillF_sound {ps : List (Nat × Nat × Opd)} : ∀ {cs cs' : List AV} {K : List AV → Prop}, fillF ρ ps cs = some cs' → K cs' → fillA ρ ps cs K := by
  induction ps with
  | nil => intro cs cs' K h hk; cases h; exact hk
  | cons p ps ih =>
    intro cs cs' K h hk
    obtain ⟨off, n, o⟩ := p
    simp only [fillF] at h
    simp only [fillA]
    split at h
    · rename_i xs hxs
      rw [hxs]
      cases hb : (Nat.beq xs.length n && Nat.ble (off + n) cs.length) with
      | false => rw [hb] at h; cases h
      | true =>
        rw [hb] at h
        rw [Bool.and_eq_true] at hb
        exact ⟨Nat.eq_of_beq_eq_true hb.1, Nat.le_of_ble_eq_true hb.2, ih h hk⟩
    · cases h
theorem st_buildF {zs : List D} {ps : List (Nat × Nat × Opd)} {cs : List AV} (hf : fillF (ofL L) ps (zs.map .d) = some cs) (h : opsI P rest (ofL ((t, .agg cs) :: L)) os K) : opsI P (⟨some t, none, .build zs ps⟩ :: rest) (ofL L) os K := st_build (fillF_sound hf h)

/-! ### Arguments and results -/
def RG (os : List AO) (l : List AV) (f : List AV → List AO → Prop) : Prop :=
  match frzGs os l with
  | some (l', os') => f l' os'
  | none => False
theorem rg_nil {f : List AV → List AO → Prop} (h : f [] os) : RG os [] f := h
theorem rg_d {l : List AV} {d : D} {f : List AV → List AO → Prop} (hv : v = .d d) (h : RG os l (fun l' os' => f (.d d :: l') os')) : RG os (v :: l) f := by
  subst hv
  simp only [RG, frzGs, frzG, frzC] at *
  split at h
  · rename_i h1; rw [h1]; exact h
  · exact h.elim
theorem frzCs_d {ds : List D} : frzCs os (ds.map .d) = some (ds, os) := by
  induction ds with
  | nil => rfl
  | cons x ds ih => simp only [List.map_cons, frzCs, frzC, ih]
theorem rg_g {l : List AV} {cs : List AV} {ds : List D} {os2 : List AO} {f : List AV → List AO → Prop} (hv : v = .agg cs) (hc : frzCs os cs = some (ds, os2)) (h : RG os2 l (fun l' os' => f (.agg (ds.map .d) :: l') os')) : RG os (v :: l) f := by
  subst hv
  simp only [RG, frzGs, frzG, hc] at *
  split at h
  · rename_i h1; rw [h1]; exact h
  · exact h.elim
theorem frzC_arr {id len sz frz : Nat} {nl : Bool} {es : List (List D)} (ho : os[id]? = some (.arr es sz frz nl)) (hl : len = es.length) : frzC os (.arr id len) = some (if nl then .nil else .sl es, os.set id (.arr es sz es.length nl)) := by
  simp only [frzC, ho, hl, if_true]
theorem rg_a {l : List AV} {id len sz frz : Nat} {nl : Bool} {es : List (List D)} {f : List AV → List AO → Prop} (hv : v = .arr id len) (ho : os[id]? = some (.arr es sz frz nl)) (hl : len = es.length) (h : RG (os.set id (.arr es sz es.length nl)) l (fun l' os' => f (.d (if nl then .nil else .sl es) :: l') os')) : RG os (v :: l) f := by
  subst hv
  simp only [RG, frzGs, frzG, frzC_arr ho hl] at *
  split at h
  · rename_i h1; rw [h1]; exact h
  · exact h.elim

def resF (ρ : Rho) (os : List AO) : List RV → Option (List AV)
  | [] => some []
  | .t s :: rs => match resF ρ os rs with
    | some l => some (ρ s :: l)
    | none => none
  | .cell s m g :: rs => match ρ s with
    | .ptr id off => match os[id]? with
      | some (.cells cs) => bif g then (bif Nat.ble (off + m) cs.length then (match resF ρ os rs with | some l => some (.agg ((cs.drop off).take m) :: l) | none => none) else none)
        else (bif Nat.blt off cs.length then (match resF ρ os rs with | some l => some (cs.getD off .junk :: l) | none => none) else none)
      | _ => none
    | _ => none
theorem resF_sound : ∀ {rs : List RV} {l : List AV} {K : List AV → Prop}, resF ρ os rs = some l → K l → resI ρ os rs K := by
  intro rs
  induction rs with
  | nil => intro l K h hk; cases h; exact hk
  | cons r rs ih =>
    intro l K h hk
    cases r with
    | t s =>
      simp only [resF] at h
      split at h
      · rename_i l1 h1
        cases h
        exact ih (K := fun l => K (ρ s :: l)) h1 hk
      · cases h
    | cell s m g =>
      simp only [resF] at h
      simp only [resI]
      split at h
      · rename_i id off hr
        split at h
        · rename_i cs ho
          cases g with
          | true =>
            simp only [cond_true] at h
            cases hb : Nat.ble (off + m) cs.length with
            | false => rw [hb] at h; cases h
            | true =>
              rw [hb, cond_true] at h
              split at h
              · rename_i l1 h1
                cases h
                simp only [hr, loadI, ho, if_true]
                exact ⟨Nat.le_of_ble_eq_true hb, ih (K := fun l => K (_ :: l)) h1 hk⟩
              · cases h
          | false =>
            simp only [cond_false] at h
            cases hb : Nat.blt off cs.length with
            | false => rw [hb] at h; cases h
            | true =>
              rw [hb, cond_true] at h
              split at h
              · rename_i l1 h1
                cases h
                simp only [hr, loadI, ho, Bool.false_eq_true, if_false]
                exact ⟨Nat.le_of_ble_eq_true hb, ih (K := fun l => K (_ :: l)) h1 hk⟩
              · cases h
        · cases h
      · cases h
theorem ret_p {rs : List RV} {l : List AV} {r : AV} (h : resF (ofL L) os rs = some l) (h2 : RG os l (fun l' _ => ret1 l' = r)) : retI 0 (fun r' os => r' = r ∧ os = []) rs (ofL L) os := by
  refine resF_sound h ?_
  simp only [RG] at h2
  split at h2
  · rename_i h1
    rw [h1]
    exact ⟨by simp, h2, rfl⟩
  · exact h2.elim

theorem prep_nil : prepGs os [] = some ([], os) := rfl
theorem prep_d {l as : List AV} {d : D} (hv : v = .d d) (h : prepGs os l = some (as, os1)) : prepGs os (v :: l) = some (.d d :: as, os1) := by
  subst hv
  simp only [prepGs, AV.ref, AV.ref1, Bool.false_eq_true, if_false, frzG, frzC, h]
theorem prep_p {l as : List AV} {a b : Nat} (hv : v = .ptr a b) (h : prepGs os l = some (as, os1)) : prepGs os (v :: l) = some (.ptr a b :: as, os1) := by
  subst hv
  simp only [prepGs, AV.ref, AV.ref1, if_true, h]
theorem prep_a {l as : List AV} {id len sz frz : Nat} {nl : Bool} {es : List (List D)} (hv : v = .arr id len) (ho : os[id]? = some (.arr es sz frz nl)) (hl : len = es.length) (h : prepGs (os.set id (.arr es sz es.length nl)) l = some (as, os1)) : prepGs os (v :: l) = some (.d (if nl then .nil else .sl es) :: as, os1) := by
  subst hv
  simp only [prepGs, AV.ref, AV.ref1, Bool.false_eq_true, if_false, frzG, frzC_arr ho hl, h]
theorem prep_g {l as : List AV} {ds : List D} (hv : v = .agg (ds.map .d)) (h : prepGs os l = some (as, os1)) : prepGs os (v :: l) = some (.agg (ds.map .d) :: as, os1) := by
  subst hv
  have : (AV.agg (ds.map AV.d)).ref = false := by
    simp only [AV.ref]
    rw [List.any_eq_false]
    intro x hx
    obtain ⟨y, _, rfl⟩ := List.mem_map.1 hx
    simp [AV.ref1]
  simp only [prepGs, this, Bool.false_eq_true, if_false, frzG, frzCs_d, h]

theorem callP {g : FuncId} {xs : List Opd} {as : List AV} {r : AV} (hp : Pure P g as r) (ha : prepGs os (xs.map (evO (ofL L))) = some (as, os1)) (hr : as.any AV.ref = false) (hs : shA os1.length r = r) (h : opsI P rest (ofL ((t, r) :: L)) os1 K) : opsI P (⟨some t, none, .call (.c (.fn g)) xs⟩ :: rest) (ofL L) os K :=
  st_callP hp ha hr (by rw [hs]; exact h)
theorem frzs_nil : frzGs os [] = some ([], os) := rfl
theorem frzs_d {l as : List AV} {d : D} (hv : v = .d d) (h : frzGs os l = some (as, os1)) : frzGs os (v :: l) = some (.d d :: as, os1) := by
  subst hv
  simp only [frzGs, frzG, frzC, h]
theorem frzs_g {l as : List AV} {ds : List D} (hv : v = .agg (ds.map .d)) (h : frzGs os l = some (as, os1)) : frzGs os (v :: l) = some (.agg (ds.map .d) :: as, os1) := by
  subst hv
  simp only [frzGs, frzG, frzCs_d, h]
theorem callD {g : FuncId} {xs : List Opd} {as : List AV} {r : AV} (hp : Pure P g as r) (ha : frzGs os (xs.map (evO (ofL L))) = some (as, os)) (h : opsI P rest (ofL ((t, r) :: L)) os K) : opsI P (⟨some t, none, .calld (.c (.fn g)) xs⟩ :: rest) (ofL L) os K :=
  st_callD hp ha h

/-! ### By kind, with what is known of a condition -/
def Br (q w : Bool) (X : Prop) : Prop := q = w → X
theorem br_tt {X : Prop} (h : X) : Br true true X := fun _ => h
theorem br_ff {X : Prop} (h : X) : Br false false X := fun _ => h
theorem br_tf {X : Prop} : Br true false X := fun e => by cases e
theorem br_ft {X : Prop} : Br false true X := fun e => by cases e
theorem br_in {q w : Bool} {X : Prop} (h : q = w → X) : Br q w X := h

theorem a_cond {c : Opd} {a b : IC} {q : Bool} (hc : evO (ofL L) c = .d (.bool q)) (h1 : Br q true (wpI P n nb a ⟨N, E, R⟩ (ofL L) os)) (h2 : Br q false (wpI P n nb b ⟨N, E, R⟩ (ofL L) os)) : wpI P n nb (.cond c a b) ⟨N, E, R⟩ (ofL L) os := st_cond hc h1 h2
theorem a_gt {g : Nat} {op : IK} {q : Bool} (hg : ofL L g = .d (.bool q)) (h1 : Br q true (opsI P (⟨some t, none, op⟩ :: rest) (ofL L) os K)) (h2 : Br q false (opsI P rest (ofL ((t, .tup []) :: L)) os K)) : opsI P (⟨some t, some (g, true), op⟩ :: rest) (ofL L) os K := st_gs hg h1 h2
theorem a_gf {g : Nat} {op : IK} {q : Bool} (hg : ofL L g = .d (.bool q)) (h1 : Br q false (opsI P (⟨some t, none, op⟩ :: rest) (ofL L) os K)) (h2 : Br q true (opsI P rest (ofL ((t, .tup []) :: L)) os K)) : opsI P (⟨some t, some (g, false), op⟩ :: rest) (ofL L) os K := st_gs hg h1 h2
theorem a_gu {g : Nat} {w : Bool} {op : IK} (hg : ofL L g = .tup []) (h : opsI P rest (ofL ((t, .tup []) :: L)) os K) : opsI P (⟨some t, some (g, w), op⟩ :: rest) (ofL L) os K := st_gu hg h
theorem a_mvs {a : Bool} {w : Bool} {d : Option Nat} {op : IK} (hx : evO (ofL L) x = .d (.bool a))
    (h1 : Br a true (opsI P (⟨d, some (t, w), op⟩ :: rest) (ofL ((t, .d (.bool true)) :: L)) os K))
    (h2 : Br a false (opsI P (⟨d, some (t, w), op⟩ :: rest) (ofL ((t, .d (.bool false)) :: L)) os K)) : opsI P (⟨some t, none, .mv x⟩ :: ⟨d, some (t, w), op⟩ :: rest) (ofL L) os K := mv_s hx h1 h2
theorem a_pick {q : Bool} (hx : evO (ofL L) x = .d (.bool q)) (h1 : Br q true (opsI P (⟨some t, none, .mv y⟩ :: rest) (ofL L) os K)) (h2 : Br q false (opsI P (⟨some t, none, .mv z⟩ :: rest) (ofL L) os K)) : opsI P (⟨some t, none, .pick x y z⟩ :: rest) (ofL L) os K := by
  cases q
  · exact st_pickf hx rfl rfl (by simpa only [opsI, stepI, gI, updo, ofL_cons, opI] using h2 rfl)
  · exact st_pickt hx rfl rfl (by simpa only [opsI, stepI, gI, updo, ofL_cons, opI] using h1 rfl)
end
end Go.Bi
