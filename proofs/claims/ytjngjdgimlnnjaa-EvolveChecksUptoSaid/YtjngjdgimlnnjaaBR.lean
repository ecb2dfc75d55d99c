/- The walk: one lemma an operation, over a state that is a list of slots. No condition. -/
import Derived.Test.YtjngjdgimlnnjaaBQ
set_option linter.unusedVariables false
namespace Go.Bi

def ofL : List (Nat × AV) → Rho
  | [], _ => .junk
  | (a, v) :: l, t => bif Nat.beq t a then v else ofL l t

def argsL : Nat → List AV → List (Nat × AV)
  | _, [] => []
  | i, a :: l => (i, a) :: argsL (i + 1) l

theorem ofL_cons (t : Nat) (v : AV) (L : List (Nat × AV)) : upd t v (ofL L) = ofL ((t, v) :: L) := by
  funext s
  simp only [upd, ofL]
  by_cases h : s = t
  · subst h; simp
  · have : Nat.beq s t = false := by
      cases hq : Nat.beq s t with
      | false => rfl
      | true => exact absurd (Nat.eq_of_beq_eq_true hq) h
    simp [h, this]

theorem ofL_args (args : List AV) : argsRho args = ofL (argsL 0 args) := by
  have key : ∀ (l : List AV) (i t : Nat), ofL (argsL i l) t = if i ≤ t then l.getD (t - i) .junk else .junk := by
    intro l
    induction l with
    | nil => intro i t; simp [argsL, ofL]
    | cons a l ih =>
      intro i t
      simp only [argsL, ofL]
      by_cases h : t = i
      · subst h; simp
      · have : Nat.beq t i = false := by
          cases hq : Nat.beq t i with
          | false => rfl
          | true => exact absurd (Nat.eq_of_beq_eq_true hq) h
        rw [this, cond_false, ih]
        by_cases h2 : i ≤ t
        · rw [if_pos h2, if_pos (by omega), show t - i = (t - (i + 1)) + 1 by omega]
          simp
        · rw [if_neg h2, if_neg (by omega)]
  funext t
  rw [key]
  simp [argsRho]

section
variable {P : Program} {n nb : Nat} {L : List (Nat × AV)} {os os1 : List AO} {rest : List IOp} {K : Rho → List AO → Prop} {t : Nat} {v : AV} {x y z : Opd}

theorem IsFn.walk (hm : P.follows .mixedOrders = true) {f n : Nat} {ic : IC} {rs : List RV} (h : IsFn P f n ic rs) {args : List AV} {bs : List AO} (hargs : args.length ≤ n) {Q : AV → List AO → Prop}
    (hw : wpI P n bs.length ic { norm := retI bs.length Q rs, exit := fun _ _ _ => False, ret := retI bs.length Q rs } (ofL (argsL 0 args)) bs) : CallSpec P f args bs Q := by
  rw [← ofL_args] at hw
  exact h.intro hm hargs hw

theorem IsFn.walkP (hm : P.follows .mixedOrders = true) {f n : Nat} {ic : IC} {rs : List RV} (h : IsFn P f n ic rs) {args : List AV} (hargs : args.length ≤ n) {r : AV}
    (hw : wpI P n 0 ic { norm := retI 0 (fun r' os => r' = r ∧ os = []) rs, exit := fun _ _ _ => False, ret := retI 0 (fun r' os => r' = r ∧ os = []) rs } (ofL (argsL 0 args)) []) : Pure P f args r :=
  h.walk hm hargs hw

/-! ### Control -/
theorem st_skip {K : Kt} {ρ : Rho} (h : K.norm ρ os) : wpI P n nb .skip K ρ os := h
theorem st_region {K : Kt} {ρ : Rho} {is : List IOp} (h : opsI P is ρ os K.norm) : wpI P n nb (.region is) K ρ os := h
theorem st_seq {K : Kt} {ρ : Rho} {a b : IC} (h : wpI P n nb a { K with norm := fun ρ os => wpI P n nb b K ρ os } ρ os) : wpI P n nb (.seq a b) K ρ os := h
theorem st_block {K : Kt} {ρ : Rho} {id : Nat} {a : IC} (h : wpI P n nb a { K with exit := fun i => if i = id then K.norm else K.exit i } ρ os) : wpI P n nb (.block id a) K ρ os := h
theorem st_exit {K : Kt} {ρ : Rho} {id : Nat} (h : K.exit id ρ os) : wpI P n nb (.exit id) K ρ os := h
theorem st_ret {K : Kt} {ρ : Rho} (h : K.ret ρ os) : wpI P n nb .ret K ρ os := h
theorem st_loop {K : Kt} {ρ : Rho} {c : IC} (h : Tri P n nb (.loop c) K ρ os) : wpI P n nb (.loop c) K ρ os := h
theorem st_cond {K : Kt} {c : Opd} {a b : IC} {q : Bool} (hc : evO (ofL L) c = .d (.bool q)) (h1 : q = true → wpI P n nb a K (ofL L) os) (h2 : q = false → wpI P n nb b K (ofL L) os) : wpI P n nb (.cond c a b) K (ofL L) os := by
  simp only [wpI, hc]; exact ⟨h1, h2⟩
theorem st_cond_t {K : Kt} {c : Opd} {a b : IC} {q : Bool} (hc : evO (ofL L) c = .d (.bool q)) (hq : q = true) (h : wpI P n nb a K (ofL L) os) : wpI P n nb (.cond c a b) K (ofL L) os :=
  st_cond hc (fun _ => h) (fun e => by rw [hq] at e; cases e)
theorem st_cond_f {K : Kt} {c : Opd} {a b : IC} {q : Bool} (hc : evO (ofL L) c = .d (.bool q)) (hq : q = false) (h : wpI P n nb b K (ofL L) os) : wpI P n nb (.cond c a b) K (ofL L) os :=
  st_cond hc (fun e => by rw [hq] at e; cases e) (fun _ => h)

/-! ### Guards -/
theorem st_nil (h : K (ofL L) os) : opsI P [] (ofL L) os K := h
theorem st_g {d : Option Nat} {g : Nat} {want q : Bool} {op : IK} (hg : ofL L g = .d (.bool q)) (h1 : q = want → opsI P (⟨d, none, op⟩ :: rest) (ofL L) os K) (h2 : q = (!want) → opsI P rest (updo d (.tup []) (ofL L)) os K) : opsI P (⟨d, some (g, want), op⟩ :: rest) (ofL L) os K := by
  simp only [opsI, stepI, gI, hg] at *
  exact ⟨h1, h2⟩
theorem st_gy {d : Option Nat} {g : Nat} {want q : Bool} {op : IK} (hg : ofL L g = .d (.bool q)) (hq : q = want) (h : opsI P (⟨d, none, op⟩ :: rest) (ofL L) os K) : opsI P (⟨d, some (g, want), op⟩ :: rest) (ofL L) os K :=
  st_g hg (fun _ => h) (fun e => by rw [hq] at e; cases want <;> cases e)
theorem st_gn {g : Nat} {want q : Bool} {op : IK} (hg : ofL L g = .d (.bool q)) (hq : q = !want) (h : opsI P rest (ofL ((t, .tup []) :: L)) os K) : opsI P (⟨some t, some (g, want), op⟩ :: rest) (ofL L) os K :=
  st_g hg (fun e => by rw [e] at hq; cases want <;> cases hq) (fun _ => by simp only [updo, ofL_cons]; exact h)
theorem st_gn0 {g : Nat} {want q : Bool} {op : IK} (hg : ofL L g = .d (.bool q)) (hq : q = !want) (h : opsI P rest (ofL L) os K) : opsI P (⟨none, some (g, want), op⟩ :: rest) (ofL L) os K :=
  st_g hg (fun e => by rw [e] at hq; cases want <;> cases hq) (fun _ => h)
theorem st_gu {g : Nat} {want : Bool} {op : IK} (hg : ofL L g = .tup []) (h : opsI P rest (ofL ((t, .tup []) :: L)) os K) : opsI P (⟨some t, some (g, want), op⟩ :: rest) (ofL L) os K := by
  simp only [opsI, stepI, gI, hg, updo, ofL_cons]
  exact h
/-- A guard that is not decided: either way. -/
theorem st_gs {g : Nat} {want q : Bool} {op : IK} (hg : ofL L g = .d (.bool q)) (h1 : q = want → opsI P (⟨some t, none, op⟩ :: rest) (ofL L) os K) (h2 : q = (!want) → opsI P rest (ofL ((t, .tup []) :: L)) os K) : opsI P (⟨some t, some (g, want), op⟩ :: rest) (ofL L) os K :=
  st_g hg h1 (fun e => by simp only [updo, ofL_cons]; exact h2 e)

/-! ### Operations -/
theorem st_op {op : IK} (h : opI P (ofL L) os (fun r os' => opsI P rest (ofL ((t, r) :: L)) os' K) op) : opsI P (⟨some t, none, op⟩ :: rest) (ofL L) os K := by
  simp only [opsI, stepI, gI, updo, ofL_cons]
  exact h
theorem st_op0 {op : IK} (h : opI P (ofL L) os (fun r os' => opsI P rest (ofL L) os' K) op) : opsI P (⟨none, none, op⟩ :: rest) (ofL L) os K := by
  simp only [opsI, stepI, gI, updo]
  exact h

theorem st_mv (hx : evO (ofL L) x = v) (h : opsI P rest (ofL ((t, v) :: L)) os K) : opsI P (⟨some t, none, .mv x⟩ :: rest) (ofL L) os K :=
  st_op (by simp only [opI, hx]; exact h)
theorem st_pickt {q : Bool} (hx : evO (ofL L) x = .d (.bool q)) (hq : q = true) (hy : evO (ofL L) y = v) (h : opsI P rest (ofL ((t, v) :: L)) os K) : opsI P (⟨some t, none, .pick x y z⟩ :: rest) (ofL L) os K :=
  st_op (by simp only [opI, hx, hy]; exact ⟨fun _ => h, fun e => (by rw [hq] at e; cases e)⟩)
theorem st_pickf {q : Bool} (hx : evO (ofL L) x = .d (.bool q)) (hq : q = false) (hz : evO (ofL L) z = v) (h : opsI P rest (ofL ((t, v) :: L)) os K) : opsI P (⟨some t, none, .pick x y z⟩ :: rest) (ofL L) os K :=
  st_op (by simp only [opI, hx, hz]; exact ⟨fun e => (by rw [hq] at e; cases e), fun _ => h⟩)
theorem st_not {q : Bool} (hx : evO (ofL L) x = .d (.bool q)) (h : opsI P rest (ofL ((t, .d (.bool !q)) :: L)) os K) : opsI P (⟨some t, none, .un .not x⟩ :: rest) (ofL L) os K :=
  st_op (by simp only [opI, hx, unD]; exact h)
theorem st_neg {k : IntKind} {a : Int} (hx : evO (ofL L) x = .d (.int k a)) (h : opsI P rest (ofL ((t, .d (.int k (k.wrap (0 - a)))) :: L)) os K) : opsI P (⟨some t, none, .un .neg x⟩ :: rest) (ofL L) os K :=
  st_op (by simp only [opI, hx, unD]; exact h)

theorem wrap64 {a : Int} (h1 : -9223372036854775808 ≤ a) (h2 : a ≤ 9223372036854775807) : IntKind.i64.wrap a = a := by
  rw [IntKind.wrap_i64]; omega

section bin
variable {k : IntKind} {a b : Int} (hx : evO (ofL L) x = .d (.int k a)) (hy : evO (ofL L) y = .d (.int k b))
include hx hy
theorem st_lss (h : opsI P rest (ofL ((t, .d (.bool (decide (a < b)))) :: L)) os K) : opsI P (⟨some t, none, .bin .lss x y⟩ :: rest) (ofL L) os K := st_op (by simp only [opI, hx, hy, binD, binI]; exact ⟨trivial, h⟩)
theorem st_leq (h : opsI P rest (ofL ((t, .d (.bool (decide (a ≤ b)))) :: L)) os K) : opsI P (⟨some t, none, .bin .leq x y⟩ :: rest) (ofL L) os K := st_op (by simp only [opI, hx, hy, binD, binI]; exact ⟨trivial, h⟩)
theorem st_gtr (h : opsI P rest (ofL ((t, .d (.bool (decide (b < a)))) :: L)) os K) : opsI P (⟨some t, none, .bin .gtr x y⟩ :: rest) (ofL L) os K := st_op (by simp only [opI, hx, hy, binD, binI]; exact ⟨trivial, h⟩)
theorem st_geq (h : opsI P rest (ofL ((t, .d (.bool (decide (b ≤ a)))) :: L)) os K) : opsI P (⟨some t, none, .bin .geq x y⟩ :: rest) (ofL L) os K := st_op (by simp only [opI, hx, hy, binD, binI]; exact ⟨trivial, h⟩)
theorem st_eql (h : opsI P rest (ofL ((t, .d (.bool (decide (a = b)))) :: L)) os K) : opsI P (⟨some t, none, .bin .eql x y⟩ :: rest) (ofL L) os K := st_op (by simp only [opI, hx, hy, binD, binI]; refine ⟨trivial, ?_⟩; rw [show (a == b) = decide (a = b) by rw [Bool.eq_iff_iff]; simp]; exact h)
theorem st_neq (h : opsI P rest (ofL ((t, .d (.bool (!decide (a = b)))) :: L)) os K) : opsI P (⟨some t, none, .bin .neq x y⟩ :: rest) (ofL L) os K := st_op (by simp only [opI, hx, hy, binD, binI]; refine ⟨trivial, ?_⟩; rw [show (a != b) = !decide (a = b) by rw [Bool.eq_iff_iff]; simp]; exact h)
theorem st_add' (h : opsI P rest (ofL ((t, .d (.int k (k.wrap (a + b)))) :: L)) os K) : opsI P (⟨some t, none, .bin .add x y⟩ :: rest) (ofL L) os K := st_op (by simp only [opI, hx, hy, binD, binI]; exact ⟨trivial, h⟩)
theorem st_sub' (h : opsI P rest (ofL ((t, .d (.int k (k.wrap (a - b)))) :: L)) os K) : opsI P (⟨some t, none, .bin .sub x y⟩ :: rest) (ofL L) os K := st_op (by simp only [opI, hx, hy, binD, binI]; exact ⟨trivial, h⟩)
theorem st_mul' (h : opsI P rest (ofL ((t, .d (.int k (k.wrap (a * b)))) :: L)) os K) : opsI P (⟨some t, none, .bin .mul x y⟩ :: rest) (ofL L) os K := st_op (by simp only [opI, hx, hy, binD, binI]; exact ⟨trivial, h⟩)
theorem st_quo (hb : b ≠ 0) (h : opsI P rest (ofL ((t, .d (.int k (k.wrap (a.tdiv b)))) :: L)) os K) : opsI P (⟨some t, none, .bin .quo x y⟩ :: rest) (ofL L) os K := st_op (by simp only [opI, hx, hy, binD, binI]; exact ⟨trivial, hb, h⟩)
theorem st_rem (hb : b ≠ 0) (h : opsI P rest (ofL ((t, .d (.int k (a.tmod b))) :: L)) os K) : opsI P (⟨some t, none, .bin .rem x y⟩ :: rest) (ofL L) os K := st_op (by simp only [opI, hx, hy, binD, binI]; exact ⟨trivial, hb, h⟩)
theorem st_and (h : opsI P rest (ofL ((t, .d (.int k (k.wrap (BitVec.ofInt k.bits a &&& BitVec.ofInt k.bits b).toNat))) :: L)) os K) : opsI P (⟨some t, none, .bin .and x y⟩ :: rest) (ofL L) os K := st_op (by simp only [opI, hx, hy, binD, binI]; exact ⟨trivial, h⟩)
theorem st_or (h : opsI P rest (ofL ((t, .d (.int k (k.wrap (BitVec.ofInt k.bits a ||| BitVec.ofInt k.bits b).toNat))) :: L)) os K) : opsI P (⟨some t, none, .bin .or x y⟩ :: rest) (ofL L) os K := st_op (by simp only [opI, hx, hy, binD, binI]; exact ⟨trivial, h⟩)
end bin
theorem st_add {a b : Int} (hx : evO (ofL L) x = .d (.int .i64 a)) (hy : evO (ofL L) y = .d (.int .i64 b)) (h1 : -9223372036854775808 ≤ a + b) (h2 : a + b ≤ 9223372036854775807) (h : opsI P rest (ofL ((t, .d (.int .i64 (a + b))) :: L)) os K) : opsI P (⟨some t, none, .bin .add x y⟩ :: rest) (ofL L) os K :=
  st_add' hx hy (by rw [wrap64 h1 h2]; exact h)
theorem st_sub {a b : Int} (hx : evO (ofL L) x = .d (.int .i64 a)) (hy : evO (ofL L) y = .d (.int .i64 b)) (h1 : -9223372036854775808 ≤ a - b) (h2 : a - b ≤ 9223372036854775807) (h : opsI P rest (ofL ((t, .d (.int .i64 (a - b))) :: L)) os K) : opsI P (⟨some t, none, .bin .sub x y⟩ :: rest) (ofL L) os K :=
  st_sub' hx hy (by rw [wrap64 h1 h2]; exact h)
theorem st_mul {a b : Int} (hx : evO (ofL L) x = .d (.int .i64 a)) (hy : evO (ofL L) y = .d (.int .i64 b)) (h1 : -9223372036854775808 ≤ a * b) (h2 : a * b ≤ 9223372036854775807) (h : opsI P rest (ofL ((t, .d (.int .i64 (a * b))) :: L)) os K) : opsI P (⟨some t, none, .bin .mul x y⟩ :: rest) (ofL L) os K :=
  st_mul' hx hy (by rw [wrap64 h1 h2]; exact h)
theorem st_shl {k k' : IntKind} {a b : Int} (hx : evO (ofL L) x = .d (.int k a)) (hy : evO (ofL L) y = .d (.int k' b)) (hb : 0 ≤ b) (h : opsI P rest (ofL ((t, .d (.int k (k.wrap (a * 2 ^ (min b.toNat k.bits))))) :: L)) os K) : opsI P (⟨some t, none, .bin .shl x y⟩ :: rest) (ofL L) os K := st_op (by simp only [opI, hx, hy, binD]; exact ⟨hb, h⟩)
theorem st_shr {k k' : IntKind} {a b : Int} (hx : evO (ofL L) x = .d (.int k a)) (hy : evO (ofL L) y = .d (.int k' b)) (hb : 0 ≤ b) (h : opsI P rest (ofL ((t, .d (.int k (a.fdiv (2 ^ (min b.toNat k.bits))))) :: L)) os K) : opsI P (⟨some t, none, .bin .shr x y⟩ :: rest) (ofL L) os K := st_op (by simp only [opI, hx, hy, binD]; exact ⟨hb, h⟩)
section str
variable {a b : List UInt8} (hx : evO (ofL L) x = .d (.str a)) (hy : evO (ofL L) y = .d (.str b))
include hx hy
theorem st_seql (h : opsI P rest (ofL ((t, .d (.bool (decide (a = b)))) :: L)) os K) : opsI P (⟨some t, none, .bin .eql x y⟩ :: rest) (ofL L) os K := st_op (by simp only [opI, hx, hy, binD, binS]; rw [show (a == b) = decide (a = b) by rw [Bool.eq_iff_iff]; simp]; exact h)
theorem st_sneq (h : opsI P rest (ofL ((t, .d (.bool (!decide (a = b)))) :: L)) os K) : opsI P (⟨some t, none, .bin .neq x y⟩ :: rest) (ofL L) os K := st_op (by simp only [opI, hx, hy, binD, binS]; rw [show (a == b) = decide (a = b) by rw [Bool.eq_iff_iff]; simp]; exact h)
theorem st_slss (h : opsI P rest (ofL ((t, .d (.bool (Op.bytesLess a b))) :: L)) os K) : opsI P (⟨some t, none, .bin .lss x y⟩ :: rest) (ofL L) os K := st_op (by simp only [opI, hx, hy, binD, binS]; exact h)
theorem st_sleq (h : opsI P rest (ofL ((t, .d (.bool (Op.bytesLess a b || a == b))) :: L)) os K) : opsI P (⟨some t, none, .bin .leq x y⟩ :: rest) (ofL L) os K := st_op (by simp only [opI, hx, hy, binD, binS]; exact h)
theorem st_sgtr (h : opsI P rest (ofL ((t, .d (.bool !(Op.bytesLess a b || a == b))) :: L)) os K) : opsI P (⟨some t, none, .bin .gtr x y⟩ :: rest) (ofL L) os K := st_op (by simp only [opI, hx, hy, binD, binS]; exact h)
theorem st_sgeq (h : opsI P rest (ofL ((t, .d (.bool !(Op.bytesLess a b))) :: L)) os K) : opsI P (⟨some t, none, .bin .geq x y⟩ :: rest) (ofL L) os K := st_op (by simp only [opI, hx, hy, binD, binS]; exact h)
theorem st_sadd (hl : a.length + b.length ≤ 9223372036854775807) (h : opsI P rest (ofL ((t, .d (.str (a ++ b))) :: L)) os K) : opsI P (⟨some t, none, .bin .add x y⟩ :: rest) (ofL L) os K := st_op (by simp only [opI, hx, hy, binD, binS]; exact ⟨hl, h⟩)
end str
theorem st_eqb {neg a b : Bool} (hx : evO (ofL L) x = .d (.bool a)) (hy : evO (ofL L) y = .d (.bool b)) (h : opsI P rest (ofL ((t, .d (.bool (if neg then !(a == b) else a == b))) :: L)) os K) : opsI P (⟨some t, none, .eqb neg x y⟩ :: rest) (ofL L) os K := st_op (by simp only [opI, hx, hy]; exact h)
theorem st_eqs {neg : Bool} {ks : List SK} {cs ds : List AV} {b : Bool} (hx : evO (ofL L) x = .agg cs) (hy : evO (ofL L) y = .agg ds) (hb : eqL ks cs ds = some b) (h : opsI P rest (ofL ((t, .d (.bool (if neg then !b else b))) :: L)) os K) : opsI P (⟨some t, none, .eqs neg ks x y⟩ :: rest) (ofL L) os K := st_op (by simp only [opI, hx, hy, hb]; exact h)
theorem st_eqn_nil {neg : Bool} (hx : evO (ofL L) x = .d .nil) (h : opsI P rest (ofL ((t, .d (.bool !neg)) :: L)) os K) : opsI P (⟨some t, none, .eqnil neg x⟩ :: rest) (ofL L) os K := st_op (by simp only [opI, hx]; exact h)
theorem st_eqn_sl {neg : Bool} {es : List (List D)} (hx : evO (ofL L) x = .d (.sl es)) (h : opsI P rest (ofL ((t, .d (.bool neg)) :: L)) os K) : opsI P (⟨some t, none, .eqnil neg x⟩ :: rest) (ofL L) os K := st_op (by simp only [opI, hx]; exact h)
theorem st_conv {k k' : IntKind} {a : Int} (hx : evO (ofL L) x = .d (.int k' a)) (h : opsI P rest (ofL ((t, .d (.int k (k.wrap a))) :: L)) os K) : opsI P (⟨some t, none, .conv k x⟩ :: rest) (ofL L) os K := st_op (by simp only [opI, hx]; exact h)
theorem st_cvs {a : List UInt8} (hx : evO (ofL L) x = .d (.str a)) (h : opsI P rest (ofL ((t, .d (.str a)) :: L)) os K) : opsI P (⟨some t, none, .cvs x⟩ :: rest) (ofL L) os K := st_op (by simp only [opI, hx]; exact h)
theorem st_faddr {off id o : Nat} (hx : evO (ofL L) x = .ptr id o) (h : opsI P rest (ofL ((t, .ptr id (o + off)) :: L)) os K) : opsI P (⟨some t, none, .faddr off x⟩ :: rest) (ofL L) os K := st_op (by simp only [opI, hx, shI]; exact h)
theorem st_faddr_d {off i o : Nat} {es : List (List D)} (hx : evO (ofL L) x = .dptr es i o) (h : opsI P rest (ofL ((t, .dptr es i (o + off)) :: L)) os K) : opsI P (⟨some t, none, .faddr off x⟩ :: rest) (ofL L) os K := st_op (by simp only [opI, hx, shI]; exact h)
theorem st_faddr_a {off id l i o sz frz : Nat} {nl : Bool} {es : List (List D)} (hx : evO (ofL L) x = .aptr id l i o) (ho : os[id]? = some (.arr es sz frz nl)) (hl : l = es.length) (h : opsI P rest (ofL ((t, .aptr id l i (o + off)) :: L)) os K) : opsI P (⟨some t, none, .faddr off x⟩ :: rest) (ofL L) os K := st_op (by simp only [opI, hx, shI, ho]; exact ⟨hl, h⟩)
theorem st_nilck {id o : Nat} (hx : evO (ofL L) x = .ptr id o) (h : opsI P rest (ofL ((t, .ptr id o) :: L)) os K) : opsI P (⟨some t, none, .nilck x⟩ :: rest) (ofL L) os K := st_op (by simp only [opI, hx, shI]; exact h)
theorem st_field {off m : Nat} {cs : List AV} (hx : evO (ofL L) x = .agg cs) (hc : cs[off]? = some v) (h : opsI P rest (ofL ((t, v) :: L)) os K) : opsI P (⟨some t, none, .field off m false x⟩ :: rest) (ofL L) os K := st_op (by
  simp only [opI, hx, Bool.false_eq_true, if_false]
  refine ⟨(List.getElem?_eq_some_iff.1 hc).1, ?_⟩
  rw [List.getD_eq_getElem?_getD, hc]; exact h)
theorem st_fielda {off m : Nat} {cs : List AV} (hx : evO (ofL L) x = .agg cs) (hc : off + m ≤ cs.length) (h : opsI P rest (ofL ((t, .agg ((cs.drop off).take m)) :: L)) os K) : opsI P (⟨some t, none, .field off m true x⟩ :: rest) (ofL L) os K := st_op (by
  simp only [opI, hx, if_true]; exact ⟨hc, h⟩)
theorem st_ixarr {len sz id o : Nat} {k : IntKind} {a : Int} (hx : evO (ofL L) x = .ptr id o) (hy : evO (ofL L) y = .d (.int k a)) (h1 : 0 ≤ a) (h2 : a < len) (h : opsI P rest (ofL ((t, .ptr id (o + a.toNat * sz)) :: L)) os K) : opsI P (⟨some t, none, .ixarr len sz x y⟩ :: rest) (ofL L) os K := st_op (by simp only [opI, hx, hy, shI]; exact ⟨h1, h2, h⟩)
theorem st_ixsl {sz : Nat} {es : List (List D)} {k : IntKind} {a : Int} (hx : evO (ofL L) x = .d (.sl es)) (hy : evO (ofL L) y = .d (.int k a)) (h1 : 0 ≤ a) (h2 : a < es.length) (hs : ∀ e ∈ es, e.length = sz) (h : opsI P rest (ofL ((t, .dptr es a.toNat 0) :: L)) os K) : opsI P (⟨some t, none, .ixsl sz x y⟩ :: rest) (ofL L) os K := st_op (by simp only [opI, hx, hy]; exact ⟨h1, h2, hs, h⟩)
theorem st_ixsla {sz id len frz : Nat} {es : List (List D)} {k : IntKind} {a : Int} (hx : evO (ofL L) x = .arr id len) (hy : evO (ofL L) y = .d (.int k a)) (ho : os[id]? = some (.arr es sz frz false)) (hl : len = es.length) (h1 : 0 ≤ a) (h2 : a < es.length) (h : opsI P rest (ofL ((t, .aptr id len a.toNat 0) :: L)) os K) : opsI P (⟨some t, none, .ixsl sz x y⟩ :: rest) (ofL L) os K := st_op (by simp only [opI, hx, hy, ho]; exact ⟨hl, trivial, h1, h2, trivial, h⟩)
theorem st_ixstr {s : List UInt8} {k : IntKind} {a : Int} (hx : evO (ofL L) x = .d (.str s)) (hy : evO (ofL L) y = .d (.int k a)) (h1 : 0 ≤ a) (h2 : a < s.length) (h : opsI P rest (ofL ((t, .d (.int .u8 (s.getD a.toNat 0).toNat)) :: L)) os K) : opsI P (⟨some t, none, .ixstr x y⟩ :: rest) (ofL L) os K := st_op (by simp only [opI, hx, hy]; exact ⟨h1, h2, h⟩)
theorem st_ixval {len sz : Nat} {cs : List AV} {k : IntKind} {a : Int} (hx : evO (ofL L) x = .agg cs) (hy : evO (ofL L) y = .d (.int k a)) (h1 : 0 ≤ a) (h2 : a < len) (hs : sz = 1) (hc : a.toNat < cs.length) (h : opsI P rest (ofL ((t, cs.getD a.toNat .junk) :: L)) os K) : opsI P (⟨some t, none, .ixval len sz false x y⟩ :: rest) (ofL L) os K := st_op (by simp only [opI, hx, hy, Bool.false_eq_true, if_false]; exact ⟨h1, h2, hs, hc, h⟩)
theorem st_ixvala {len sz : Nat} {cs : List AV} {k : IntKind} {a : Int} (hx : evO (ofL L) x = .agg cs) (hy : evO (ofL L) y = .d (.int k a)) (h1 : 0 ≤ a) (h2 : a < len) (hc : a.toNat * sz + sz ≤ cs.length) (h : opsI P rest (ofL ((t, .agg ((cs.drop (a.toNat * sz)).take sz)) :: L)) os K) : opsI P (⟨some t, none, .ixval len sz true x y⟩ :: rest) (ofL L) os K := st_op (by simp only [opI, hx, hy, if_true]; exact ⟨h1, h2, hc, h⟩)
theorem st_build {zs : List D} {ps : List (Nat × Nat × Opd)} (h : fillA (ofL L) ps (zs.map .d) fun cs => opsI P rest (ofL ((t, .agg cs) :: L)) os K) : opsI P (⟨some t, none, .build zs ps⟩ :: rest) (ofL L) os K := st_op h
theorem st_clo0 {f : FuncId} (h : opsI P rest (ofL ((t, .d (.fn f)) :: L)) os K) : opsI P (⟨some t, none, .clo f []⟩ :: rest) (ofL L) os K := st_op h
theorem st_ext {i : Nat} {vs : List AV} (hx : evO (ofL L) x = .tup vs) (hc : vs[i]? = some v) (h : opsI P rest (ofL ((t, v) :: L)) os K) : opsI P (⟨some t, none, .ext i x⟩ :: rest) (ofL L) os K := st_op (by
  simp only [opI, hx]
  refine ⟨(List.getElem?_eq_some_iff.1 hc).1, ?_⟩
  rw [List.getD_eq_getElem?_getD, hc]; exact h)
theorem st_lens {s : List UInt8} (hx : evO (ofL L) x = .d (.str s)) (h : opsI P rest (ofL ((t, .d (.int .i64 s.length)) :: L)) os K) : opsI P (⟨some t, none, .lens x⟩ :: rest) (ofL L) os K := st_op (by simp only [opI, hx]; exact h)
theorem st_len {es : List (List D)} (hx : evO (ofL L) x = .d (.sl es)) (h : opsI P rest (ofL ((t, .d (.int .i64 es.length)) :: L)) os K) : opsI P (⟨some t, none, .len x⟩ :: rest) (ofL L) os K := st_op (by simp only [opI, hx]; exact h)
theorem st_len_nil (hx : evO (ofL L) x = .d .nil) (h : opsI P rest (ofL ((t, .d (.int .i64 0)) :: L)) os K) : opsI P (⟨some t, none, .len x⟩ :: rest) (ofL L) os K := st_op (by simp only [opI, hx]; exact h)
theorem st_lena {id len sz frz : Nat} {nl : Bool} {es : List (List D)} (hx : evO (ofL L) x = .arr id len) (ho : os[id]? = some (.arr es sz frz nl)) (hl : len = es.length) (h : opsI P rest (ofL ((t, .d (.int .i64 es.length)) :: L)) os K) : opsI P (⟨some t, none, .len x⟩ :: rest) (ofL L) os K := st_op (by simp only [opI, hx, ho]; exact ⟨hl, h⟩)
theorem st_lenk {m : Nat} (h : opsI P rest (ofL ((t, .d (.int .i64 m)) :: L)) os K) : opsI P (⟨some t, none, .lenk m⟩ :: rest) (ofL L) os K := st_op h
theorem st_min {k k' : IntKind} {a b : Int} (hx : evO (ofL L) x = .d (.int k a)) (hy : evO (ofL L) y = .d (.int k' b)) (h : opsI P rest (ofL ((t, .d (.int k (min a b))) :: L)) os K) : opsI P (⟨some t, none, .minmax false x [y]⟩ :: rest) (ofL L) os K := st_op (by
  simp only [opI, hx, List.map_cons, List.map_nil, hy, minmaxI, Bool.false_eq_true, if_false]
  exact ⟨fun hle => by rw [Int.min_eq_left hle] at h; exact h, fun hlt => by rw [Int.min_eq_right (by omega)] at h; exact h⟩)
theorem st_max {k k' : IntKind} {a b : Int} (hx : evO (ofL L) x = .d (.int k a)) (hy : evO (ofL L) y = .d (.int k b)) (h : opsI P rest (ofL ((t, .d (.int k (max a b))) :: L)) os K) : opsI P (⟨some t, none, .minmax true x [y]⟩ :: rest) (ofL L) os K := st_op (by
  simp only [opI, hx, List.map_cons, List.map_nil, hy, minmaxI, if_true]
  exact ⟨fun hle => by rw [Int.max_eq_left hle] at h; exact h, fun hlt => by rw [Int.max_eq_right (by omega)] at h; exact h⟩)
theorem st_load {id off m : Nat} {cs : List AV} (hx : evO (ofL L) x = .ptr id off) (ho : os[id]? = some (.cells cs)) (hc : cs[off]? = some v) (h : opsI P rest (ofL ((t, v) :: L)) os K) : opsI P (⟨some t, none, .load false m x⟩ :: rest) (ofL L) os K := st_op (by
  simp only [opI, hx, loadI, ho, Bool.false_eq_true, if_false]
  refine ⟨(List.getElem?_eq_some_iff.1 hc).1, ?_⟩
  rw [List.getD_eq_getElem?_getD, hc]; exact h)
theorem st_loada {id off m : Nat} {cs : List AV} (hx : evO (ofL L) x = .ptr id off) (ho : os[id]? = some (.cells cs)) (hc : off + m ≤ cs.length) (h : opsI P rest (ofL ((t, .agg ((cs.drop off).take m)) :: L)) os K) : opsI P (⟨some t, none, .load true m x⟩ :: rest) (ofL L) os K := st_op (by
  simp only [opI, hx, loadI, ho, if_true]; exact ⟨hc, h⟩)
theorem st_loadd {i off m : Nat} {es : List (List D)} {e : List D} {d : D} (hx : evO (ofL L) x = .dptr es i off) (he : es[i]? = some e) (hc : e[off]? = some d) (h : opsI P rest (ofL ((t, .d d) :: L)) os K) : opsI P (⟨some t, none, .load false m x⟩ :: rest) (ofL L) os K := st_op (by
  have hd : es.getD i [] = e := by rw [List.getD_eq_getElem?_getD, he]; rfl
  simp only [opI, hx, loadI, Bool.false_eq_true, if_false, hd]
  refine ⟨(List.getElem?_eq_some_iff.1 he).1, (List.getElem?_eq_some_iff.1 hc).1, ?_⟩
  rw [List.getD_eq_getElem?_getD, hc]; exact h)
theorem st_loadda {i off m : Nat} {es : List (List D)} {e : List D} (hx : evO (ofL L) x = .dptr es i off) (he : es[i]? = some e) (hc : off + m ≤ e.length) (h : opsI P rest (ofL ((t, .agg (((e.drop off).take m).map .d)) :: L)) os K) : opsI P (⟨some t, none, .load true m x⟩ :: rest) (ofL L) os K := st_op (by
  have hd : es.getD i [] = e := by rw [List.getD_eq_getElem?_getD, he]; rfl
  simp only [opI, hx, loadI, if_true, hd]
  exact ⟨(List.getElem?_eq_some_iff.1 he).1, hc, h⟩)
theorem st_loadr {id len i off m sz frz : Nat} {es : List (List D)} {e : List D} {d : D} (hx : evO (ofL L) x = .aptr id len i off) (ho : os[id]? = some (.arr es sz frz false)) (hl : len = es.length) (he : es[i]? = some e) (hs : off < sz) (hc : e[off]? = some d) (h : opsI P rest (ofL ((t, .d d) :: L)) os K) : opsI P (⟨some t, none, .load false m x⟩ :: rest) (ofL L) os K := st_op (by
  have hd : es.getD i [] = e := by rw [List.getD_eq_getElem?_getD, he]; rfl
  simp only [opI, hx, loadI, ho, Bool.false_eq_true, if_false, hd]
  refine ⟨hl, (List.getElem?_eq_some_iff.1 he).1, trivial, hs, ?_⟩
  rw [List.getD_eq_getElem?_getD, hc]; exact h)
theorem st_loadra {id len i off m sz frz : Nat} {es : List (List D)} {e : List D} (hx : evO (ofL L) x = .aptr id len i off) (ho : os[id]? = some (.arr es sz frz false)) (hl : len = es.length) (he : es[i]? = some e) (hs : off + m ≤ sz) (h : opsI P rest (ofL ((t, .agg (((e.drop off).take m).map .d)) :: L)) os K) : opsI P (⟨some t, none, .load true m x⟩ :: rest) (ofL L) os K := st_op (by
  have hd : es.getD i [] = e := by rw [List.getD_eq_getElem?_getD, he]; rfl
  simp only [opI, hx, loadI, ho, if_true, hd]
  exact ⟨hl, (List.getElem?_eq_some_iff.1 he).1, trivial, hs, h⟩)
theorem st_store {id off m : Nat} {cs vc : List AV} (hx : evO (ofL L) x = .ptr id off) (hy : (evO (ofL L) y).cells = some vc) (ho : os[id]? = some (.cells cs)) (hl : vc.length = m) (hc : off + m ≤ cs.length) (h : opsI P rest (ofL L) (os.set id (.cells (setR cs off vc))) K) : opsI P (⟨none, none, .store m x y⟩ :: rest) (ofL L) os K := st_op0 (by
  simp only [opI, hx, storeI, hy, ho]; exact ⟨hl, hc, h⟩)
theorem st_storer {id len i off m sz frz : Nat} {es : List (List D)} {vc : List AV} {xs : List D} (hx : evO (ofL L) x = .aptr id len i off) (hy : (evO (ofL L) y).cells = some vc) (hf : frzCs os vc = some (xs, os1)) (ho : os1[id]? = some (.arr es sz frz false)) (hl : len = es.length) (hz : frz ≤ i) (hi : i < es.length) (hm : xs.length = m) (hc : off + m ≤ sz)
    (h : opsI P rest (ofL L) (os1.set id (.arr (es.set i (setR (es.getD i []) off xs)) sz frz false)) K) : opsI P (⟨none, none, .store m x y⟩ :: rest) (ofL L) os K := st_op0 (by
  simp only [opI, hx, storeI, hy, hf, ho]; exact ⟨hl, hz, hi, trivial, hm, hc, h⟩)
theorem st_alloc {zs : List D} (h : opsI P rest (ofL ((t, .ptr os.length 0) :: L)) (os ++ [.cells (zs.map .d)]) K) : opsI P (⟨some t, none, .alloc zs⟩ :: rest) (ofL L) os K := st_op h
theorem st_box {m : Nat} {cs : List AV} (hx : (evO (ofL L) x).cells = some cs) (hm : cs.length = m) (h : opsI P rest (ofL ((t, .ptr os.length 0) :: L)) (os ++ [.cells cs]) K) : opsI P (⟨some t, none, .box m x⟩ :: rest) (ofL L) os K := st_op (by simp only [opI, hx]; exact ⟨hm, h⟩)
theorem st_mksl {sz bytes : Nat} {zs : List D} {k k' : IntKind} {a b : Int} (hx : evO (ofL L) x = .d (.int k a)) (hy : evO (ofL L) y = .d (.int k' b)) (h0 : 0 ≤ a) (h1 : a ≤ b) (h2 : b * bytes ≤ 140737488355328) (h3 : b ≤ 9223372036854775807) (h : opsI P rest (ofL ((t, .arr os.length a.toNat) :: L)) (os ++ [.arr (List.replicate a.toNat zs) sz 0 false]) K) : opsI P (⟨some t, none, .mksl sz bytes zs x y⟩ :: rest) (ofL L) os K := st_op (by
  simp only [opI, hx, hy]; exact ⟨h0, h1, h2, h3, h⟩)
theorem st_callP {g : FuncId} {xs : List Opd} {as : List AV} {r : AV} (hp : Pure P g as r) (ha : prepGs os (xs.map (evO (ofL L))) = some (as, os1)) (hr : as.any AV.ref = false) (h : opsI P rest (ofL ((t, shA os1.length r) :: L)) os1 K) : opsI P (⟨some t, none, .call (.c (.fn g)) xs⟩ :: rest) (ofL L) os K := st_op (by
  simp only [opI, ha, evO, hr, Bool.false_eq_true, if_false]
  exact .inl (hp.use (by simpa using h)))
theorem st_callD {g : FuncId} {xs : List Opd} {as : List AV} {r : AV} (hp : Pure P g as r) (ha : frzGs os (xs.map (evO (ofL L))) = some (as, os)) (h : opsI P rest (ofL ((t, r) :: L)) os K) : opsI P (⟨some t, none, .calld (.c (.fn g)) xs⟩ :: rest) (ofL L) os K := st_op (by
  simp only [opI, ha, evO]
  exact .inl ⟨trivial, r, hp, h⟩)
end
end Go.Bi
