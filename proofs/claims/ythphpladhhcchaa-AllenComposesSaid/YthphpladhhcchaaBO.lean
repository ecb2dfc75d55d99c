/- The code: what it does to abstract states, loops, the return, contracts of functions. No condition. -/
import Derived.Test.YthphpladhhcchaaBN
import Derived.Scope
set_option linter.unusedVariables false
namespace Go.Bi

/-- What is to hold at each way out. -/
structure Kt where
  norm : Rho → List AO → Prop
  exit : Nat → Rho → List AO → Prop
  ret : Rho → List AO → Prop

def post (n nb : Nat) (c : Ctx) (K : Kt) : Exit → Act → World → Prop
  | .normal, a, w => Fits n nb c K.norm a w
  | .exit id, a, w => Fits n nb c (K.exit id) a w
  | .ret, a, w => Fits n nb c K.ret a w
  | _, _, _ => False

/-- Whatever code is translated to this: begun in a state that fits, it ends in one of which `K` speaks. -/
def Tri (P : Program) (n nb : Nat) (ic : IC) (K : Kt) (ρ : Rho) (os : List AO) : Prop :=
  ∀ code, cC P n code = some ic → ∀ (c : Ctx) M G w a, Rel n nb c M G os w ρ a → code.wp P (post n nb c K) a w

def wpI (P : Program) (n nb : Nat) : IC → Kt → Rho → List AO → Prop
  | .skip, K, ρ, os => K.norm ρ os
  | .region is, K, ρ, os => opsI P is ρ os K.norm
  | .seq x y, K, ρ, os => wpI P n nb x { K with norm := fun ρ os => wpI P n nb y K ρ os } ρ os
  | .cond c x y, K, ρ, os => match evO ρ c with
    | .d (.bool b) => (b = true → wpI P n nb x K ρ os) ∧ (b = false → wpI P n nb y K ρ os)
    | _ => False
  | .block id x, K, ρ, os => wpI P n nb x { K with exit := fun i => if i = id then K.norm else K.exit i } ρ os
  | .loop x, K, ρ, os => Tri P n nb (.loop x) K ρ os
  | .exit id, K, ρ, os => K.exit id ρ os
  | .ret, K, ρ, os => K.ret ρ os

section
variable {P : Program} {n nb : Nat}

theorem region_wp {ops : Array Oper} {draw : Bool} {id : Nat} {is : List IOp} (hm : P.follows .mixedOrders = true) (hc : ops.toList.mapM (cOp P n draw ops.toList) = some is) (hd : draw = true → drawOK ops.toList is = true) {K : Kt} {ρ : Rho} {os : List AO} (h : opsI P is ρ os K.norm)
    {c : Ctx} {M : Mem} {G : Gh} {w : World} {a : Act} (hR : Rel n nb c M G os w ρ a) : (Code.region id ops draw).wp P (post n nb c K) a w := by
  have hlen : is.length = ops.size := by have := (mapM_get hc).1; simpa using this
  have hall : opsIx P is (List.range ops.size) ρ os K.norm := by rw [← hlen]; exact opsIx_all h
  cases draw with
  | false => exact wp_region (ops_wp hc (fun a w h => h) _ hR hall)
  | true =>
    refine wp_region_draw fun t => ?_
    have hR' : Rel n nb c M G os w.drew ρ a := {
      env := hR.env.drew, since := hR.since.trans (since_drew ..), tmps := hR.tmps, size := hR.size, defers := hR.defers, base := hR.base }
    refine ops_wp (w := w.drew) hc (fun a w h => h) _ hR' ?_
    simp only [Region.schedule, hm, Bool.true_or, if_true, Region.linearise]
    refine reorder hlen (hd rfl) K.norm ops.size t _ ρ os (by simp) ?_ (fun i hi hl => ?_) ?_
    · have : (left ops.size (Array.replicate ops.size false)).length ≤ (List.range ops.size).length := List.length_filter_le _ _
      simpa using this
    · simp [hi] at hl
    · have : left ops.size (Array.replicate ops.size false) = List.range ops.size := by
        unfold left
        rw [List.filter_eq_self]
        intro i hi
        have := List.mem_range.1 hi
        simp [this]
      rw [this]
      exact hall

theorem post_mono {c : Ctx} {K K' : Kt} (h1 : ∀ ρ os, K.norm ρ os → K'.norm ρ os) (h2 : ∀ i ρ os, K.exit i ρ os → K'.exit i ρ os) (h3 : ∀ ρ os, K.ret ρ os → K'.ret ρ os) {e : Exit} {a : Act} {w : World} (h : post n nb c K e a w) : post n nb c K' e a w := by
  cases e with
  | normal => obtain ⟨M, G, os, ρ, hR, hk⟩ := h; exact ⟨M, G, os, ρ, hR, h1 _ _ hk⟩
  | exit id => obtain ⟨M, G, os, ρ, hR, hk⟩ := h; exact ⟨M, G, os, ρ, hR, h2 _ _ _ hk⟩
  | ret => obtain ⟨M, G, os, ρ, hR, hk⟩ := h; exact ⟨M, G, os, ρ, hR, h3 _ _ hk⟩
  | _ => exact h

theorem Tri.mono {ic : IC} {K K' : Kt} {ρ : Rho} {os : List AO} (h : Tri P n nb ic K ρ os) (h1 : ∀ ρ os, K.norm ρ os → K'.norm ρ os) (h2 : ∀ i ρ os, K.exit i ρ os → K'.exit i ρ os) (h3 : ∀ ρ os, K.ret ρ os → K'.ret ρ os) : Tri P n nb ic K' ρ os :=
  fun code hc c M G w a hR => wp_mono (h code hc c M G w a hR) fun _ _ _ hp => post_mono h1 h2 h3 hp

theorem wpI_tri (hm : P.follows .mixedOrders = true) : ∀ (code : Code) (ic : IC), cC P n code = some ic → ∀ (K : Kt) (ρ : Rho) (os : List AO), wpI P n nb ic K ρ os → ∀ (c : Ctx) M G w a, Rel n nb c M G os w ρ a → code.wp P (post n nb c K) a w := by
  intro code
  induction code with
  | skip =>
    intro ic hc K ρ os h c M G w a hR
    simp only [cC] at hc
    cases hc
    exact wp_skip ⟨M, G, os, ρ, hR, h⟩
  | region id ops draw =>
    intro ic hc K ρ os h c M G w a hR
    simp only [cC] at hc
    split at hc
    · rename_i is his
      split at hc
      · rename_i hdr
        split at hc
        · rename_i hok
          cases hc
          exact region_wp hm his (fun _ => hok) h hR
        · cases hc
      · rename_i hdr
        cases hc
        exact region_wp hm his (fun e => absurd e hdr) h hR
    · cases hc
  | seq x y ihx ihy =>
    intro ic hc K ρ os h c M G w a hR
    simp only [cC] at hc
    split at hc
    · rename_i x' y' hx hy
      cases hc
      simp only [wpI] at h
      refine wp_seq (wp_mono (ihx x' hx _ ρ os h c M G w a hR) fun e a' w' hp => ?_)
      cases e with
      | normal =>
        obtain ⟨M', G', os', ρ', hR', hk⟩ := hp
        exact ihy y' hy K ρ' os' hk c M' G' w' a' hR'
      | exit i => exact hp
      | ret => exact hp
      | _ => exact hp
    · cases hc
  | cond cnd x y ihx ihy =>
    intro ic hc K ρ os h c M G w a hR
    simp only [cC] at hc
    split at hc
    · rename_i c' x' y' h1 hx hy
      cases hc
      simp only [wpI] at h
      have e1 := cO_ev hR.tmps h1
      split at h
      · rename_i b hb
        rw [hb] at e1
        exact wp_cond_split (va_bool e1) (fun ht => ihx x' hx K ρ os (h.1 ht) c M G w a hR) (fun hf => ihy y' hy K ρ os (h.2 hf) c M G w a hR)
      · exact h.elim
    · cases hc
  | block id x ih =>
    intro ic hc K ρ os h c M G w a hR
    simp only [cC] at hc
    obtain ⟨x', hx, rfl⟩ := opt_map hc
    simp only [wpI] at h
    refine wp_block (wp_mono (ih x' hx _ ρ os h c M G w a hR) fun e a' w' hp => ?_)
    cases e with
    | exit i =>
      obtain ⟨M', G', os', ρ', hR', hk⟩ := hp
      simp only [Exit.inBlock]
      dsimp only at hk
      split
      · rename_i hi
        rw [if_pos hi] at hk
        exact ⟨M', G', os', ρ', hR', hk⟩
      · rename_i hi
        rw [if_neg hi] at hk
        exact ⟨M', G', os', ρ', hR', hk⟩
    | normal => exact hp
    | ret => exact hp
    | _ => exact hp
  | loop x ih =>
    intro ic hc K ρ os h c M G w a hR
    simp only [cC] at hc
    obtain ⟨x', hx, rfl⟩ := opt_map hc
    simp only [wpI] at h
    exact h (.loop x) (by simp only [cC, hx]; rfl) c M G w a hR
  | exit id =>
    intro ic hc K ρ os h c M G w a hR
    simp only [cC] at hc
    cases hc
    exact wp_exit ⟨M, G, os, ρ, hR, h⟩
  | ret =>
    intro ic hc K ρ os h c M G w a hR
    simp only [cC] at hc
    cases hc
    exact wp_ret ⟨M, G, os, ρ, hR, h⟩
  | scope x ih =>
    intro ic hc K ρ os h c M G w a hR
    simp only [cC] at hc
    refine wp_scope_straight (wp_mono (ih ic hc K ρ os h c M G w a hR) fun e a' w' hp => ?_)
    cases e <;> first | exact hp | exact hp.elim
  | label l => intro ic hc; simp [cC] at hc
  | goto l => intro ic hc; simp [cC] at hc
  | rangeFunc f ps x y ihx ihy => intro ic hc; simp [cC] at hc
  | refuse why => intro ic hc; simp [cC] at hc

/-- One state may stand for another. -/
def Weak (n nb : Nat) (ρ : Rho) (os : List AO) (ρ' : Rho) (os' : List AO) : Prop :=
  ∀ (c : Ctx) M G w a, Rel n nb c M G os w ρ a → ∃ M' G', Rel n nb c M' G' os' w ρ' a

theorem Weak.refl {ρ : Rho} {os : List AO} : Weak n nb ρ os ρ os := fun c M G w a h => ⟨M, G, h⟩
theorem Weak.trans {ρ ρ1 ρ2 : Rho} {os os1 os2 : List AO} (h : Weak n nb ρ os ρ1 os1) (k : Weak n nb ρ1 os1 ρ2 os2) : Weak n nb ρ os ρ2 os2 :=
  fun c M G w a hR => let ⟨M1, G1, h1⟩ := h c M G w a hR; k c M1 G1 w a h1

/-- A loop: a family of states, one of which stands at every round's head, and a measure that every round lowers. -/
theorem loop_rule {α : Type} (hm : P.follows .mixedOrders = true) {ic : IC} {K : Kt} {ρ : Rho} {os : List AO} (Sρ : α → Rho) (So : α → List AO) (φ : α → Prop) (μ : α → Nat) (x0 : α) (h0 : φ x0) (hw : Weak n nb ρ os (Sρ x0) (So x0))
    (step : ∀ x, φ x → wpI P n nb ic { K with norm := fun ρ' os' => ∃ y, φ y ∧ μ y < μ x ∧ Weak n nb ρ' os' (Sρ y) (So y) } (Sρ x) (So x)) : Tri P n nb (.loop ic) K ρ os := by
  have body_ok : ∀ (body : Code), cC P n body = some ic → ∀ (c : Ctx) M G w a, Rel n nb c M G os w ρ a → (Code.loop body).wp P (post n nb c K) a w := by
    intro body hic c M G w a hR
    obtain ⟨M1, G1, hR1⟩ := hw c M G w a hR
    have key : ∀ k x a w M G, φ x → μ x = k → Rel n nb c M G (So x) w (Sρ x) a → ∀ (b : Frame) (kk : List Item) (cs : List Frame),
        ∃ e a' w', post n nb c K e a' w' ∧ Arrives P (lone (b.at a (.code body :: .inLoop body :: kk)) cs w) b kk cs e a' w' := by
      intro k
      induction k using Nat.strongRecOn with
      | _ k ih =>
        intro x a w M G hx hk hR b kk cs
        obtain ⟨e, a1, w1, hq, harr⟩ := wpI_tri hm body ic hic _ _ _ (step x hx) c M G w a hR b (.inLoop body :: kk) cs
        cases e with
        | normal =>
          obtain ⟨M', G', os', ρ', hR', y, hy, hlt, hwk⟩ := hq
          obtain ⟨M2, G2, hR2⟩ := hwk c M' G' w1 a1 hR'
          obtain ⟨e2, a2, w2, hq2, harr2⟩ := ih (μ y) (by omega) y a1 w1 M2 G2 hy rfl hR2 b kk cs
          exact ⟨e2, a2, w2, hq2, .of_steps (Steps.trans harr (.one step_inLoop)) harr2⟩
        | exit id => exact ⟨.exit id, a1, w1, hq, .pass (x := .inLoop body) rfl (fun _ _ => .inl (by simp)) harr⟩
        | ret => exact ⟨.ret, a1, w1, hq, .pass (x := .inLoop body) rfl (fun _ _ => .inl (by simp)) harr⟩
        | _ => exact hq.elim
    intro b kk cs
    obtain ⟨e, a', w', hq, harr⟩ := key _ x0 a w M1 G1 h0 rfl hR1 b kk cs
    exact ⟨e, a', w', hq, .of_steps (.one step_loop) harr⟩
  intro code
  induction code with
  | loop body ih =>
    intro hc c M G w a hR
    simp only [cC] at hc
    obtain ⟨ic', hic, he⟩ := opt_map hc
    cases he
    exact body_ok body hic c M G w a hR
  | scope x ih =>
    intro hc c M G w a hR
    simp only [cC] at hc
    refine wp_scope_straight (wp_mono (ih hc c M G w a hR) fun e a' w' hp => ?_)
    cases e <;> first | exact hp | exact hp.elim
  | skip => intro hc; simp [cC] at hc
  | region id ops draw => intro hc; simp only [cC] at hc; split at hc <;> (try split at hc) <;> (try split at hc) <;> cases hc
  | seq x y => intro hc; simp only [cC] at hc; split at hc <;> cases hc
  | cond cnd x y => intro hc; simp only [cC] at hc; split at hc <;> cases hc
  | block id x => intro hc; simp only [cC] at hc; obtain ⟨_, _, he⟩ := opt_map hc; cases he
  | exit id => intro hc; simp [cC] at hc
  | ret => intro hc; simp [cC] at hc
  | label l => intro hc; simp [cC] at hc
  | goto l => intro hc; simp [cC] at hc
  | rangeFunc f ps x y => intro hc; simp [cC] at hc
  | refuse why => intro hc; simp [cC] at hc

end
end Go.Bi
