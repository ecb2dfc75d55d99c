/- Texts of this claim, joined. No condition. -/
import Derived.Test.YtliodmbpolmpjaaP2
import Derived.Test.YtliodmbpolmpjaaRows
section
/- Checks and constraints. No condition. -/
set_option linter.unusedSimpArgs false
set_option linter.unusedVariables false
set_option maxRecDepth 10000
set_option maxHeartbeats 4000000
namespace Go.Proofs
open Go.Bi

def ckTop (ks : List Int) (e : Ex) : Int × Int := if 24 < dep e then (0, 26) else chk ks e
def cheE (ks : List Int) (e : Ex) : Int := if (ckTop ks e).2 = 0 then (if (ckTop ks e).1 = 3 ∨ (ckTop ks e).1 = 0 then 0 else 7) else (ckTop ks e).2
def chesF (ks : List Int) : List Ex → Int
  | [] => 0
  | e :: r => if cheE ks e = 0 then chesF ks r else cheE ks e
def chesE (ks : List Int) (l : List Ex) : Int := if l.length ≤ 4 then chesF ks l else 5
theorem chesF_drop {ks : List Int} {l : List Ex} {i : Nat} {e : Ex} (h : l[i]? = some e) : chesF ks (l.drop i) = if cheE ks e = 0 then chesF ks (l.drop (i + 1)) else cheE ks e := by
  obtain ⟨hlt, he⟩ := List.getElem?_eq_some_iff.1 h
  rw [List.drop_eq_getElem_cons hlt, he]; rfl
theorem xL_get'' {args : List Ex} (i : Nat) (op' n' : Int) (v' : Vl) (name' : List UInt8) (nl' : Bool) (args' : List Ex) (h : args[i]? = some (.mk op' n' v' name' nl' args')) : (xL args)[i]? = some (xds op' n' v' name' (ng nl' (xL args'))) := by
  rw [← Ex.ds_mk]; exact xL_get h
theorem C.schema_checkChecks (n : List UInt8) (l : List Co) (hl : l.length ≤ 1048576) (dc dk df dx : D) (hc : SlD dc (eCs l)) (xs : List Ex) (hxs : xs.length ≤ 1048576) (hxb : ∀ e ∈ xs, e.bk ≤ 1048576) (hdx : SlD dx (xL xs)) : Pure Try.prog N.schema_checkChecks [eT n dc dk df dx] (.d (eI (chesE (kd l) xs))) := by
  refine F.schema_checkChecks.go mixed rfl ?_
  have h1 := xL_len xs
  have hm := xL_mem xs
  have hK := C.schema_Kinds n l hl dc dk df dx hc
  unfold chesE
  by_cases h0 : xs.length ≤ 4
  rotate_left
  · rw [if_neg h0]
    repeat' first
      | refine st ?_
      | ((with_reducible apply go_i); (conv => whnf))
      | (with_reducible apply k_d <;> intro _)
      | (with_reducible apply k_b <;> intro _)
    all_goals first | rfl | (exfalso; omega)
  rw [if_pos h0]
  obtain ⟨q, hq⟩ : ∃ q, q = chesF (kd l) xs := ⟨_, rfl⟩
  rw [← hq]
  repeat' first
    | refine st ?_
    | ((with_reducible apply go_i); (conv => whnf))
    | (with_reducible apply k_d <;> intro _)
    | (with_reducible apply k_b <;> intro _)
  refine x_loop1 mixed Lt.schema_checkChecks_l0 Lk.schema_checkChecks_l0 (fun (i : Nat) => [.d (eI i)]) (fun i => [.cells [.d (.str n), .d dc, .d dk, .d df, .d dx]]) (fun i => i ≤ xs.length ∧ q = chesF (kd l) (xs.drop i)) (fun i => xs.length - i) 0 rfl rfl rfl rfl (fun _ _ => ⟨rfl, rfl⟩) rfl ⟨by omega, hq⟩ ?_
  repeat' first
    | refine st ?_
    | ((with_reducible apply go_i); (conv => whnf))
    | (with_reducible apply k_d <;> intro _)
    | (with_reducible apply k_b <;> intro _)
  intro i ⟨h4, h5⟩
  cases hx : xs[i]? with
  | some e =>
    have hlt := (List.getElem?_eq_some_iff.1 hx).1
    have hE := C.expr_Check (kd l) (by rw [kd_len]; exact hl) (kdD l) (kdD_sl l) e (hxb e (List.mem_of_getElem? hx))
    rw [chesF_drop hx] at h5
    unfold cheE at h5
    obtain ⟨⟨k, er⟩, hr⟩ : ∃ r, r = ckTop (kd l) e := ⟨_, rfl⟩
    rw [← hr] at h5
    unfold ckTop at hr
    rw [← hr] at hE
    dsimp only at h5 hE
    obtain ⟨op', n', v', name', nl', args'⟩ := e
    rw [Ex.av_mk] at hE
    have hg := xL_get'' i _ _ _ _ _ _ hx
    obtain ⟨z, hz⟩ : ∃ z, z = (if er = 0 then (if k = 3 ∨ k = 0 then (0 : Int) else 7) else er) := ⟨_, rfl⟩
    rw [← hz] at h5
    by_cases he : er = 0
    · rw [if_pos he] at hz
      by_cases h3 : k = 3
      · rw [if_pos (Or.inl h3)] at hz
        rw [if_pos hz] at h5
        repeat' first
          | refine st ?_
          | ((with_reducible apply go_i); (conv => whnf))
          | ((with_reducible apply k_pn); (· first | exact hK | exact hE))
          | ((with_reducible apply k_pc); (· first | exact hK | exact hE))
          | (with_reducible apply k_d <;> intro _)
          | (with_reducible apply k_b <;> intro _)
        exact ⟨i + 1, rfl, rfl, rfl, by omega, by omega, h5⟩
      · by_cases h00 : k = 0
        · rw [if_pos (Or.inr h00)] at hz
          rw [if_pos hz] at h5
          repeat' first
            | refine st ?_
            | ((with_reducible apply go_i); (conv => whnf))
            | ((with_reducible apply k_pn); (· first | exact hK | exact hE))
            | ((with_reducible apply k_pc); (· first | exact hK | exact hE))
            | (with_reducible apply k_d <;> intro _)
            | (with_reducible apply k_b <;> intro _)
          exact ⟨i + 1, rfl, rfl, rfl, by omega, by omega, h5⟩
        · rw [if_neg (by omega)] at hz
          rw [if_neg (by omega), hz] at h5
          rw [h5]
          repeat' first
            | refine st ?_
            | ((with_reducible apply go_i); (conv => whnf))
            | ((with_reducible apply k_pn); (· first | exact hK | exact hE))
            | ((with_reducible apply k_pc); (· first | exact hK | exact hE))
            | (with_reducible apply k_d <;> intro _)
            | (with_reducible apply k_b <;> intro _)
          all_goals rfl
    · rw [if_neg he] at hz
      rw [if_neg (by omega), hz] at h5
      rw [h5]
      repeat' first
        | refine st ?_
        | ((with_reducible apply go_i); (conv => whnf))
        | ((with_reducible apply k_pn); (· first | exact hK | exact hE))
        | ((with_reducible apply k_pc); (· first | exact hK | exact hE))
        | (with_reducible apply k_d <;> intro _)
        | (with_reducible apply k_b <;> intro _)
      all_goals rfl
  | none =>
    have hge := List.getElem?_eq_none_iff.1 hx
    rw [List.drop_eq_nil_of_le hge] at h5
    rw [h5]
    repeat' first
      | refine st ?_
      | ((with_reducible apply go_i); (conv => whnf))
      | (with_reducible apply k_d <;> intro _)
      | (with_reducible apply k_b <;> intro _)
    all_goals rfl
end Go.Proofs
end
section
/- Constraints and whole tables: the reference and the program. No condition. -/
set_option linter.unusedSimpArgs false
set_option linter.unusedVariables false
set_option maxRecDepth 10000
set_option maxHeartbeats 4000000
namespace Go.Proofs
open Go.Bi

/-- What a definition holds. -/
structure Tb where
  nm : List UInt8
  cs : List Co
  ks : List Int
  fs : List Fo
  xs : List Ex
/-- Its cells, and that it is small. -/
structure Tok (t : Tb) (dc dk df dx : D) : Prop where
  hn : t.nm.length ≤ 1048576
  hl : t.cs.length ≤ 1048576
  hls : ∀ c ∈ t.cs, c.nm.length ≤ 1048576
  hk : t.ks.length ≤ 1048576
  hfl : t.fs.length ≤ 1048576
  hfc : ∀ f ∈ t.fs, f.cs.length ≤ 1048576 ∧ f.tb.length ≤ 1048576
  hxs : t.xs.length ≤ 1048576
  hxb : ∀ e ∈ t.xs, e.bk ≤ 1048576
  dc : SlD dc (eCs t.cs)
  dk : SlD dk (eIs t.ks)
  df : SlD df (eFs t.fs)
  dx : SlD dx (xL t.xs)
def conE (t : Tb) : Int := if t.fs.length ≤ 4 then (if forsF t.cs.length t.fs = 0 then chesE (kd t.cs) t.xs else forsF t.cs.length t.fs) else 5
theorem conE_eq (t : Tb) : conE t = if forsE t.cs.length t.fs = 0 then chesE (kd t.cs) t.xs else forsE t.cs.length t.fs := by
  unfold conE forsE
  by_cases h : t.fs.length ≤ 4
  · rw [if_pos h, if_pos h]
  · rw [if_neg h, if_neg h, if_neg (by decide)]
def tabE (t : Tb) : Int := if nameB t.nm then (if colE t.cs = 0 then (if keyE t.cs t.ks = 0 then conE t else keyE t.cs t.ks) else colE t.cs) else 1
theorem C.r13_constraints (t : Tb) (dc dk df dx : D) (h : Tok t dc dk df dx) : Pure Try.prog N.bt_ref13_constraints [eT t.nm dc dk df dx] (.d (eI (conE t))) := by
  obtain ⟨n, l, ks, fs, xs⟩ := t
  obtain ⟨hn, hl, hls, hk, hfl, hfc, hxs, hxb, hc, hdk, hdf, hdx⟩ := h
  dsimp only at hn hl hls hk hfl hfc hxs hxb hc hdk hdf hdx ⊢
  refine F.bt_ref13_constraints.go mixed rfl ?_
  have h1 := eFs_len fs
  have hm := eFs_mem fs
  have h2 := xL_len xs
  have hm2 := xL_mem xs
  have hK := C.r13_Kinds n l hl dc dk df dx hc
  unfold conE
  dsimp only
  by_cases h0 : fs.length ≤ 4
  rotate_left
  · rw [if_neg h0]
    repeat' first
      | refine st ?_
      | ((with_reducible apply go_i); (conv => whnf))
      | (with_reducible apply k_d <;> intro _)
      | (with_reducible apply k_b <;> intro _)
    all_goals first | rfl | (exfalso; omega)
  rw [if_pos h0]
  obtain ⟨q, hq⟩ : ∃ q, q = (if forsF l.length fs = 0 then chesE (kd l) xs else forsF l.length fs) := ⟨_, rfl⟩
  rw [← hq]
  repeat' first
    | refine st ?_
    | ((with_reducible apply go_i); (conv => whnf))
    | (with_reducible apply k_d <;> intro _)
    | (with_reducible apply k_b <;> intro _)
  refine x_loop1 mixed Lt.bt_ref13_constraints_l0 Lk.bt_ref13_constraints_l0 (fun (i : Nat) => [.d (eI i)]) (fun i => [.cells [.d (.str n), .d dc, .d dk, .d df, .d dx]]) (fun i => i ≤ fs.length ∧ forsF l.length fs = forsF l.length (fs.drop i)) (fun i => fs.length - i) 0 rfl rfl rfl rfl (fun _ _ => ⟨rfl, rfl⟩) rfl ⟨by omega, rfl⟩ ?_
  repeat' first
    | refine st ?_
    | ((with_reducible apply go_i); (conv => whnf))
    | (with_reducible apply k_d <;> intro _)
    | (with_reducible apply k_b <;> intro _)
  intro i ⟨h4, h5⟩
  cases hx : fs[i]? with
  | some f =>
    have hlt := (List.getElem?_eq_some_iff.1 hx).1
    have hg := eFs_get hx
    obtain ⟨hf, hft⟩ := hfc f (List.mem_of_getElem? hx)
    have hF := C.r13_foreign n l hl dc dk df dx hc f hf hft
    rw [forsF_drop hx] at h5
    obtain ⟨e, he⟩ : ∃ e, e = forE l.length f := ⟨_, rfl⟩
    rw [← he] at h5 hF
    obtain ⟨fd, hfd⟩ : ∃ fd, fd = f.d := ⟨_, rfl⟩
    have hg : (eFs fs)[i]? = some [fd, .str f.tb] := by rw [hfd]; exact hg
    rw [← hfd] at hF
    by_cases h0 : e = 0
    · rw [if_pos h0] at h5
      repeat' first
        | refine st ?_
        | ((with_reducible apply go_i); (conv => whnf))
        | ((with_reducible apply k_pn); (· exact hF))
        | ((with_reducible apply k_pc); (· exact hF))
        | (with_reducible apply k_d <;> intro _)
        | (with_reducible apply k_b <;> intro _)
      exact ⟨i + 1, rfl, rfl, rfl, by omega, by omega, h5⟩
    · rw [if_neg h0] at h5
      rw [h5, if_neg h0] at hq
      rw [hq]
      repeat' first
        | refine st ?_
        | ((with_reducible apply go_i); (conv => whnf))
        | ((with_reducible apply k_pn); (· exact hF))
        | ((with_reducible apply k_pc); (· exact hF))
        | (with_reducible apply k_d <;> intro _)
        | (with_reducible apply k_b <;> intro _)
      all_goals rfl
  | none =>
    have hge := List.getElem?_eq_none_iff.1 hx
    rw [List.drop_eq_nil_of_le hge] at h5
    have h5 : forsF l.length fs = 0 := h5
    rw [if_pos h5] at hq
    unfold chesE at hq
    by_cases h0 : xs.length ≤ 4
    rotate_left
    · rw [if_neg h0] at hq
      rw [hq]
      repeat' first
        | refine st ?_
        | ((with_reducible apply go_i); (conv => whnf))
        | (with_reducible apply k_d <;> intro _)
        | (with_reducible apply k_b <;> intro _)
      all_goals first | rfl | (exfalso; omega)
    rw [if_pos h0] at hq
    repeat' first
      | refine st ?_
      | ((with_reducible apply go_i); (conv => whnf))
      | (with_reducible apply k_d <;> intro _)
      | (with_reducible apply k_b <;> intro _)
    refine x_loop1 mixed Lt.bt_ref13_constraints_l1 Lk.bt_ref13_constraints_l1 (fun (i : Nat) => [.d (eI i)]) (fun i => [.cells [.d (.str n), .d dc, .d dk, .d df, .d dx]]) (fun i => i ≤ xs.length ∧ q = chesF (kd l) (xs.drop i)) (fun i => xs.length - i) 0 rfl rfl rfl rfl (fun _ _ => ⟨rfl, rfl⟩) rfl ⟨by omega, hq⟩ ?_
    repeat' first
      | refine st ?_
      | ((with_reducible apply go_i); (conv => whnf))
      | (with_reducible apply k_d <;> intro _)
      | (with_reducible apply k_b <;> intro _)
    intro i ⟨h4, h5⟩
    cases hx : xs[i]? with
    | some e =>
      have hlt := (List.getElem?_eq_some_iff.1 hx).1
      have hE := C.r11_Check (kd l) (by rw [kd_len]; exact hl) (.sl (eIs (kd l))) (.inr rfl) e (hxb e (List.mem_of_getElem? hx))
      rw [chesF_drop hx] at h5
      unfold cheE at h5
      obtain ⟨⟨k, er⟩, hr⟩ : ∃ r, r = ckTop (kd l) e := ⟨_, rfl⟩
      rw [← hr] at h5
      unfold ckTop at hr
      rw [← hr] at hE
      dsimp only at h5 hE
      obtain ⟨op', n', v', name', nl', args'⟩ := e
      rw [Ex.av_mk] at hE
      have hg := xL_get'' i _ _ _ _ _ _ hx
      obtain ⟨z, hz⟩ : ∃ z, z = (if er = 0 then (if k = 3 ∨ k = 0 then (0 : Int) else 7) else er) := ⟨_, rfl⟩
      rw [← hz] at h5
      by_cases he : er = 0
      · rw [if_pos he] at hz
        by_cases h3 : k = 3
        · rw [if_pos (Or.inl h3)] at hz
          rw [if_pos hz] at h5
          repeat' first
            | refine st ?_
            | ((with_reducible apply go_i); (conv => whnf))
            | ((with_reducible apply k_pn); (· first | exact hK | exact hE))
            | ((with_reducible apply k_pc); (· first | exact hK | exact hE))
            | (with_reducible apply k_d <;> intro _)
            | (with_reducible apply k_b <;> intro _)
          exact ⟨i + 1, rfl, rfl, rfl, by omega, by omega, h5⟩
        · by_cases h00 : k = 0
          · rw [if_pos (Or.inr h00)] at hz
            rw [if_pos hz] at h5
            repeat' first
              | refine st ?_
              | ((with_reducible apply go_i); (conv => whnf))
              | ((with_reducible apply k_pn); (· first | exact hK | exact hE))
              | ((with_reducible apply k_pc); (· first | exact hK | exact hE))
              | (with_reducible apply k_d <;> intro _)
              | (with_reducible apply k_b <;> intro _)
            exact ⟨i + 1, rfl, rfl, rfl, by omega, by omega, h5⟩
          · rw [if_neg (by omega)] at hz
            rw [if_neg (by omega), hz] at h5
            rw [h5]
            repeat' first
              | refine st ?_
              | ((with_reducible apply go_i); (conv => whnf))
              | ((with_reducible apply k_pn); (· first | exact hK | exact hE))
              | ((with_reducible apply k_pc); (· first | exact hK | exact hE))
              | (with_reducible apply k_d <;> intro _)
              | (with_reducible apply k_b <;> intro _)
            all_goals rfl
      · rw [if_neg he] at hz
        rw [if_neg (by omega), hz] at h5
        rw [h5]
        repeat' first
          | refine st ?_
          | ((with_reducible apply go_i); (conv => whnf))
          | ((with_reducible apply k_pn); (· first | exact hK | exact hE))
          | ((with_reducible apply k_pc); (· first | exact hK | exact hE))
          | (with_reducible apply k_d <;> intro _)
          | (with_reducible apply k_b <;> intro _)
        all_goals rfl
    | none =>
      have hge := List.getElem?_eq_none_iff.1 hx
      rw [List.drop_eq_nil_of_le hge] at h5
      rw [h5]
      repeat' first
        | refine st ?_
        | ((with_reducible apply go_i); (conv => whnf))
        | (with_reducible apply k_d <;> intro _)
        | (with_reducible apply k_b <;> intro _)
      all_goals rfl
theorem C.r13_Check (t : Tb) (dc dk df dx : D) (h : Tok t dc dk df dx) : Pure Try.prog N.bt_ref13_Check [eT t.nm dc dk df dx] (.d (eI (tabE t))) := by
  have h1 := C.r13_Name t.nm h.hn
  have h2 := C.r13_columns t.nm t.cs h.hl h.hls dc dk df dx h.dc
  have h3 := C.r13_key t.nm t.cs h.hl dc dk df dx h.dc t.ks h.hk h.dk
  have h4 := C.r13_constraints t dc dk df dx h
  refine F.bt_ref13_Check.go mixed rfl ?_
  unfold tabE
  cases hv : nameB t.nm with
  | false =>
    rw [hv] at h1
    rw [if_neg (by simp)]
    repeat' first
      | refine st ?_
      | ((with_reducible apply go_i); (conv => whnf))
      | ((with_reducible apply k_pn); (· exact h1))
      | ((with_reducible apply k_pc); (· exact h1))
      | (with_reducible apply k_d <;> intro _)
      | (with_reducible apply k_b <;> intro _)
    all_goals rfl
  | true =>
    rw [hv] at h1
    rw [if_pos rfl]
    by_cases ha : colE t.cs = 0
    · rw [if_pos ha]
      rw [ha] at h2
      by_cases hb : keyE t.cs t.ks = 0
      · rw [if_pos hb]
        rw [hb] at h3
        repeat' first
          | refine st ?_
          | ((with_reducible apply go_i); (conv => whnf))
          | ((with_reducible apply k_pn); (· first | exact h1 | exact h2 | exact h3 | exact h4))
          | ((with_reducible apply k_pc); (· first | exact h1 | exact h2 | exact h3 | exact h4))
          | (with_reducible apply k_d <;> intro _)
          | (with_reducible apply k_b <;> intro _)
        all_goals rfl
      · rw [if_neg hb]
        repeat' first
          | refine st ?_
          | ((with_reducible apply go_i); (conv => whnf))
          | ((with_reducible apply k_pn); (· first | exact h1 | exact h2 | exact h3 | exact h4))
          | ((with_reducible apply k_pc); (· first | exact h1 | exact h2 | exact h3 | exact h4))
          | (with_reducible apply k_d <;> intro _)
          | (with_reducible apply k_b <;> intro _)
        all_goals rfl
    · rw [if_neg ha]
      repeat' first
        | refine st ?_
        | ((with_reducible apply go_i); (conv => whnf))
        | ((with_reducible apply k_pn); (· first | exact h1 | exact h2 | exact h3 | exact h4))
        | ((with_reducible apply k_pc); (· first | exact h1 | exact h2 | exact h3 | exact h4))
        | (with_reducible apply k_d <;> intro _)
        | (with_reducible apply k_b <;> intro _)
      all_goals rfl
theorem C.schema_Check (t : Tb) (dc dk df dx : D) (h : Tok t dc dk df dx) : Pure Try.prog N.schema_Check [eT t.nm dc dk df dx] (.d (eI (tabE t))) := by
  have h1 := C.schema_Name t.nm h.hn
  have h2 := C.schema_checkColumns t.nm t.cs h.hl h.hls dc dk df dx h.dc
  have h3 := C.schema_checkKey t.nm t.cs h.hl dc dk df dx h.dc t.ks h.hk h.dk
  have h4 := C.schema_checkForeigns t.nm t.cs h.hl t.fs h.hfl h.hfc dc dk df dx h.dc h.df
  have h5 := C.schema_checkChecks t.nm t.cs h.hl dc dk df dx h.dc t.xs h.hxs h.hxb h.dx
  obtain ⟨n, l, ks, fs, xs⟩ := t
  dsimp only at h1 h2 h3 h4 h5 ⊢
  refine F.schema_Check.go mixed rfl ?_
  unfold tabE
  rw [conE_eq]
  dsimp only
  cases hv : nameB n with
  | false =>
    rw [hv] at h1
    rw [if_neg (by simp)]
    repeat' first
      | refine st ?_
      | ((with_reducible apply go_i); (conv => whnf))
      | ((with_reducible apply k_pn); (· exact h1))
      | ((with_reducible apply k_pc); (· exact h1))
      | (with_reducible apply k_d <;> intro _)
      | (with_reducible apply k_b <;> intro _)
    all_goals rfl
  | true =>
    rw [hv] at h1
    rw [if_pos rfl]
    obtain ⟨a, ha⟩ : ∃ a, a = colE l := ⟨_, rfl⟩
    obtain ⟨b, hb⟩ : ∃ a, a = keyE l ks := ⟨_, rfl⟩
    obtain ⟨c, hc⟩ : ∃ a, a = forsE l.length fs := ⟨_, rfl⟩
    obtain ⟨d, hd⟩ : ∃ a, a = chesE (kd l) xs := ⟨_, rfl⟩
    rw [← ha] at h2 ⊢
    rw [← hb] at h3 ⊢
    rw [← hc] at h4 ⊢
    rw [← hd] at h5 ⊢
    obtain ⟨q, hq⟩ : ∃ q, q = (if a = 0 then (if b = 0 then (if c = 0 then d else c) else b) else a) := ⟨_, rfl⟩
    rw [← hq]
    obtain ⟨A, hA⟩ : ∃ A : List (List D), A = [[.fn N.schema_checkColumns], [.fn N.schema_checkKey], [.fn N.schema_checkForeigns], [.fn N.schema_checkChecks]] := ⟨_, rfl⟩
    have hAl : A.length = 4 := by rw [hA]; rfl
    repeat' first
      | refine st ?_
      | ((with_reducible apply go_i); (conv => whnf))
      | ((with_reducible apply k_pn); (· exact h1))
      | ((with_reducible apply k_pc); (· exact h1))
      | (with_reducible apply k_d <;> intro _)
      | (with_reducible apply k_b <;> intro _)
    rw [← hA]
    refine x_loop1 mixed Lt.schema_Check_l0 Lk.schema_Check_l0 (fun (i : Nat) => [.d (eI i)]) (fun i => [.cells [.d (.str n), .d dc, .d dk, .d df, .d dx], .arr A 1 0 false]) (fun i => i ≤ 4 ∧ (0 < i → a = 0) ∧ (1 < i → b = 0) ∧ (2 < i → c = 0) ∧ (3 < i → d = 0)) (fun i => 4 - i) 0 rfl rfl rfl rfl (fun _ _ => ⟨rfl, rfl⟩) rfl ⟨by omega, by omega, by omega, by omega, by omega⟩ ?_
    repeat' first
      | refine st ?_
      | ((with_reducible apply go_i); (conv => whnf))
      | (with_reducible apply k_d <;> intro _)
      | (with_reducible apply k_b <;> intro _)
    intro i ⟨g0, g1, g2, g3, g4⟩
    by_cases e4 : i = 4
    · rw [if_pos (g1 (by omega)), if_pos (g2 (by omega)), if_pos (g3 (by omega)), g4 (by omega)] at hq
      rw [hq]
      repeat' first
        | refine st ?_
        | ((with_reducible apply go_i); (conv => whnf))
        | (with_reducible apply k_d <;> intro _)
        | (with_reducible apply k_b <;> intro _)
      all_goals rfl
    by_cases e0 : i = 0
    · have hg : A[i]? = some [.fn N.schema_checkColumns] := by rw [hA, e0]; rfl
      by_cases z : a = 0
      · repeat' first
          | refine st ?_
          | ((with_reducible apply go_i); (conv => whnf))
          | ((with_reducible apply k_pn); (· exact h2))
          | ((with_reducible apply k_pc); (· exact h2))
          | (with_reducible apply k_d <;> intro _)
          | (with_reducible apply k_b <;> intro _)
        exact ⟨i + 1, rfl, rfl, rfl, by omega, by omega, fun _ => z, by omega, by omega, by omega⟩
      · rw [if_neg z] at hq
        rw [hq]
        repeat' first
          | refine st ?_
          | ((with_reducible apply go_i); (conv => whnf))
          | ((with_reducible apply k_pn); (· exact h2))
          | ((with_reducible apply k_pc); (· exact h2))
          | (with_reducible apply k_d <;> intro _)
          | (with_reducible apply k_b <;> intro _)
        all_goals rfl
    by_cases e1 : i = 1
    · have hg : A[i]? = some [.fn N.schema_checkKey] := by rw [hA, e1]; rfl
      rw [if_pos (g1 (by omega))] at hq
      by_cases z : b = 0
      · repeat' first
          | refine st ?_
          | ((with_reducible apply go_i); (conv => whnf))
          | ((with_reducible apply k_pn); (· exact h3))
          | ((with_reducible apply k_pc); (· exact h3))
          | (with_reducible apply k_d <;> intro _)
          | (with_reducible apply k_b <;> intro _)
        exact ⟨i + 1, rfl, rfl, rfl, by omega, by omega, fun _ => g1 (by omega), fun _ => z, by omega, by omega⟩
      · rw [if_neg z] at hq
        rw [hq]
        repeat' first
          | refine st ?_
          | ((with_reducible apply go_i); (conv => whnf))
          | ((with_reducible apply k_pn); (· exact h3))
          | ((with_reducible apply k_pc); (· exact h3))
          | (with_reducible apply k_d <;> intro _)
          | (with_reducible apply k_b <;> intro _)
        all_goals rfl
    by_cases e2 : i = 2
    · have hg : A[i]? = some [.fn N.schema_checkForeigns] := by rw [hA, e2]; rfl
      rw [if_pos (g1 (by omega)), if_pos (g2 (by omega))] at hq
      by_cases z : c = 0
      · repeat' first
          | refine st ?_
          | ((with_reducible apply go_i); (conv => whnf))
          | ((with_reducible apply k_pn); (· exact h4))
          | ((with_reducible apply k_pc); (· exact h4))
          | (with_reducible apply k_d <;> intro _)
          | (with_reducible apply k_b <;> intro _)
        exact ⟨i + 1, rfl, rfl, rfl, by omega, by omega, fun _ => g1 (by omega), fun _ => g2 (by omega), fun _ => z, by omega⟩
      · rw [if_neg z] at hq
        rw [hq]
        repeat' first
          | refine st ?_
          | ((with_reducible apply go_i); (conv => whnf))
          | ((with_reducible apply k_pn); (· exact h4))
          | ((with_reducible apply k_pc); (· exact h4))
          | (with_reducible apply k_d <;> intro _)
          | (with_reducible apply k_b <;> intro _)
        all_goals rfl
    have e3 : i = 3 := by omega
    · have hg : A[i]? = some [.fn N.schema_checkChecks] := by rw [hA, e3]; rfl
      rw [if_pos (g1 (by omega)), if_pos (g2 (by omega)), if_pos (g3 (by omega))] at hq
      by_cases z : d = 0
      · repeat' first
          | refine st ?_
          | ((with_reducible apply go_i); (conv => whnf))
          | ((with_reducible apply k_pn); (· exact h5))
          | ((with_reducible apply k_pc); (· exact h5))
          | (with_reducible apply k_d <;> intro _)
          | (with_reducible apply k_b <;> intro _)
        exact ⟨i + 1, rfl, rfl, rfl, by omega, by omega, fun _ => g1 (by omega), fun _ => g2 (by omega), fun _ => g3 (by omega), fun _ => z⟩
      · rw [hq]
        repeat' first
          | refine st ?_
          | ((with_reducible apply go_i); (conv => whnf))
          | ((with_reducible apply k_pn); (· exact h5))
          | ((with_reducible apply k_pc); (· exact h5))
          | (with_reducible apply k_d <;> intro _)
          | (with_reducible apply k_b <;> intro _)
        all_goals rfl
end Go.Proofs
end
section
/- Accepts: rows that a table takes. No condition. -/
set_option linter.unusedSimpArgs false
set_option linter.unusedVariables false
set_option maxRecDepth 10000
set_option maxHeartbeats 4000000
namespace Go.Proofs
open Go.Bi

def acF : List Vl → List Co → Int
  | v :: r, c :: l => if vValid v = false then 8 else if v.k = 0 then (if c.nl then acF r l else 12) else if v.k = c.k then acF r l else 7
  | _, _ => 0
def acc (row : List Vl) (cols : List Co) : Int := if row.length = cols.length then acF row cols else 13
theorem acF_drop {row : List Vl} {cols : List Co} {i : Nat} {v : Vl} {c : Co} (h : row[i]? = some v) (hc : cols[i]? = some c) : acF (row.drop i) (cols.drop i) = if vValid v = false then 8 else if v.k = 0 then (if c.nl then acF (row.drop (i + 1)) (cols.drop (i + 1)) else 12) else if v.k = c.k then acF (row.drop (i + 1)) (cols.drop (i + 1)) else 7 := by
  obtain ⟨hlt, he⟩ := List.getElem?_eq_some_iff.1 h
  obtain ⟨hlt2, he2⟩ := List.getElem?_eq_some_iff.1 hc
  rw [List.drop_eq_getElem_cons hlt, he, List.drop_eq_getElem_cons hlt2, he2, acF]
theorem C.schema_Accepts (n : List UInt8) (l : List Co) (hl : l.length ≤ 1048576) (dc dk df dx : D) (hc : SlD dc (eCs l)) (row : List Vl) (hr : row.length ≤ 1048576) (hrs : ∀ v ∈ row, v.s.length ≤ 1048576) (dr : D) (hdr : SlD dr (eVs row)) : Pure Try.prog N.schema_Accepts [eT n dc dk df dx, .d dr] (.d (eI (acc row l))) := by
  refine F.schema_Accepts.go mixed rfl ?_
  have h1 := eCs_len l
  have hm := eCs_mem l
  have h2 := eVs_len row
  have hm2 := eVs_mem row
  unfold acc
  by_cases hll : row.length = l.length
  rotate_left
  · rw [if_neg hll]
    repeat' first
      | refine st ?_
      | ((with_reducible apply go_i); (conv => whnf))
      | (with_reducible apply k_d <;> intro _)
      | (with_reducible apply k_b <;> intro _)
    all_goals first | rfl | (exfalso; omega)
  rw [if_pos hll]
  have hll2 : (eVs row).length = (eCs l).length := by omega
  obtain ⟨q, hq⟩ : ∃ q, q = acF row l := ⟨_, rfl⟩
  rw [← hq]
  repeat' first
    | refine st ?_
    | ((with_reducible apply go_i); (conv => whnf))
    | (with_reducible apply k_d <;> intro _)
    | (with_reducible apply k_b <;> intro _)
  refine x_loop1 mixed Lt.schema_Accepts_l0 Lk.schema_Accepts_l0 (fun (i : Nat) => [.d (eI i)]) (fun i => [.cells [.d (.str n), .d dc, .d dk, .d df, .d dx]]) (fun i => i ≤ row.length ∧ q = acF (row.drop i) (l.drop i)) (fun i => row.length - i) 0 rfl rfl rfl rfl (fun _ _ => ⟨rfl, rfl⟩) rfl ⟨by omega, hq⟩ ?_
  repeat' first
    | refine st ?_
    | ((with_reducible apply go_i); (conv => whnf))
    | (with_reducible apply k_d <;> intro _)
    | (with_reducible apply k_b <;> intro _)
  intro i ⟨h4, h5⟩
  cases hx : row[i]? with
  | some v =>
    have hlt := (List.getElem?_eq_some_iff.1 hx).1
    obtain ⟨c, hcx⟩ : ∃ c, l[i]? = some c := ⟨_, List.getElem?_eq_getElem (by omega)⟩
    have hg := eVs_get hx
    have hg2 : (eCs l)[((i : Nat) : Int).toNat]? = some c.ds := eCs_get hcx
    have hb2 : (i : Int) < (eCs l).length := by omega
    have hV := C.value_Valid v (Nat.le_trans (hrs v (List.mem_of_getElem? hx)) (by omega))
    rw [acF_drop hx hcx] at h5
    cases hv : vValid v with
    | false =>
      rw [if_pos hv] at h5
      rw [hv] at hV
      rw [h5]
      repeat' first
        | refine st ?_
        | ((with_reducible apply go_i); (conv => whnf))
        | ((with_reducible apply k_pn); (· exact hV))
        | ((with_reducible apply k_pc); (· exact hV))
        | (with_reducible apply k_d <;> intro _)
        | (with_reducible apply k_b <;> intro _)
      all_goals rfl
    | true =>
      rw [hv] at hV
      rw [if_neg (by rw [hv]; simp)] at h5
      obtain ⟨cn, ck, cl⟩ := c
      dsimp only at h5 hg2
      by_cases hk : v.k = 0
      · rw [if_pos hk] at h5
        cases cl with
        | true =>
          rw [if_pos rfl] at h5
          repeat' first
            | refine st ?_
            | ((with_reducible apply go_i); (conv => whnf))
            | ((with_reducible apply k_pn); (· exact hV))
            | ((with_reducible apply k_pc); (· exact hV))
            | (with_reducible apply k_d <;> intro _)
            | (with_reducible apply k_b <;> intro _)
          exact ⟨i + 1, rfl, rfl, rfl, by omega, by omega, h5⟩
        | false =>
          rw [if_neg (by simp)] at h5
          rw [h5]
          repeat' first
            | refine st ?_
            | ((with_reducible apply go_i); (conv => whnf))
            | ((with_reducible apply k_pn); (· exact hV))
            | ((with_reducible apply k_pc); (· exact hV))
            | (with_reducible apply k_d <;> intro _)
            | (with_reducible apply k_b <;> intro _)
          all_goals rfl
      · rw [if_neg hk] at h5
        by_cases hkk : v.k = ck
        · rw [if_pos hkk] at h5
          repeat' first
            | refine st ?_
            | ((with_reducible apply go_i); (conv => whnf))
            | ((with_reducible apply k_pn); (· exact hV))
            | ((with_reducible apply k_pc); (· exact hV))
            | (with_reducible apply k_d <;> intro _)
            | (with_reducible apply k_b <;> intro _)
          exact ⟨i + 1, rfl, rfl, rfl, by omega, by omega, h5⟩
        · rw [if_neg hkk] at h5
          rw [h5]
          repeat' first
            | refine st ?_
            | ((with_reducible apply go_i); (conv => whnf))
            | ((with_reducible apply k_pn); (· exact hV))
            | ((with_reducible apply k_pc); (· exact hV))
            | (with_reducible apply k_d <;> intro _)
            | (with_reducible apply k_b <;> intro _)
          all_goals rfl
  | none =>
    have hge := List.getElem?_eq_none_iff.1 hx
    rw [List.drop_eq_nil_of_le hge] at h5
    rw [h5]
    repeat' first
      | refine st ?_
      | ((with_reducible apply go_i); (conv => whnf))
      | (with_reducible apply k_d <;> intro _)
      | (with_reducible apply k_b <;> intro _)
    all_goals rfl
theorem C.r13_Accepts (n : List UInt8) (l : List Co) (hl : l.length ≤ 1048576) (dc dk df dx : D) (hc : SlD dc (eCs l)) (row : List Vl) (hr : row.length ≤ 1048576) (hrs : ∀ v ∈ row, v.s.length ≤ 1048576) (dr : D) (hdr : SlD dr (eVs row)) : Pure Try.prog N.bt_ref13_Accepts [eT n dc dk df dx, .d dr] (.d (eI (acc row l))) := by
  refine F.bt_ref13_Accepts.go mixed rfl ?_
  have h1 := eCs_len l
  have hm := eCs_mem l
  have h2 := eVs_len row
  have hm2 := eVs_mem row
  unfold acc
  by_cases hll : row.length = l.length
  rotate_left
  · rw [if_neg hll]
    repeat' first
      | refine st ?_
      | ((with_reducible apply go_i); (conv => whnf))
      | (with_reducible apply k_d <;> intro _)
      | (with_reducible apply k_b <;> intro _)
    all_goals first | rfl | (exfalso; omega)
  rw [if_pos hll]
  have hll2 : (eVs row).length = (eCs l).length := by omega
  obtain ⟨q, hq⟩ : ∃ q, q = acF row l := ⟨_, rfl⟩
  rw [← hq]
  repeat' first
    | refine st ?_
    | ((with_reducible apply go_i); (conv => whnf))
    | (with_reducible apply k_d <;> intro _)
    | (with_reducible apply k_b <;> intro _)
  refine x_loop1 mixed Lt.bt_ref13_Accepts_l0 Lk.bt_ref13_Accepts_l0 (fun (i : Nat) => [.d (eI i)]) (fun i => [.cells [.d (.str n), .d dc, .d dk, .d df, .d dx]]) (fun i => i ≤ row.length ∧ q = acF (row.drop i) (l.drop i)) (fun i => row.length - i) 0 rfl rfl rfl rfl (fun _ _ => ⟨rfl, rfl⟩) rfl ⟨by omega, hq⟩ ?_
  repeat' first
    | refine st ?_
    | ((with_reducible apply go_i); (conv => whnf))
    | (with_reducible apply k_d <;> intro _)
    | (with_reducible apply k_b <;> intro _)
  intro i ⟨h4, h5⟩
  cases hx : row[i]? with
  | some v =>
    have hlt := (List.getElem?_eq_some_iff.1 hx).1
    obtain ⟨c, hcx⟩ : ∃ c, l[i]? = some c := ⟨_, List.getElem?_eq_getElem (by omega)⟩
    have hg := eVs_get hx
    have hg2 : (eCs l)[((i : Nat) : Int).toNat]? = some c.ds := eCs_get hcx
    have hb2 : (i : Int) < (eCs l).length := by omega
    have hV := C.r7_Valid v (Nat.le_trans (hrs v (List.mem_of_getElem? hx)) (by omega))
    rw [acF_drop hx hcx] at h5
    cases hv : vValid v with
    | false =>
      rw [if_pos hv] at h5
      rw [hv] at hV
      rw [h5]
      repeat' first
        | refine st ?_
        | ((with_reducible apply go_i); (conv => whnf))
        | ((with_reducible apply k_pn); (· exact hV))
        | ((with_reducible apply k_pc); (· exact hV))
        | (with_reducible apply k_d <;> intro _)
        | (with_reducible apply k_b <;> intro _)
      all_goals rfl
    | true =>
      rw [hv] at hV
      rw [if_neg (by rw [hv]; simp)] at h5
      obtain ⟨cn, ck, cl⟩ := c
      dsimp only at h5 hg2
      by_cases hk : v.k = 0
      · rw [if_pos hk] at h5
        cases cl with
        | true =>
          rw [if_pos rfl] at h5
          repeat' first
            | refine st ?_
            | ((with_reducible apply go_i); (conv => whnf))
            | ((with_reducible apply k_pn); (· exact hV))
            | ((with_reducible apply k_pc); (· exact hV))
            | (with_reducible apply k_d <;> intro _)
            | (with_reducible apply k_b <;> intro _)
          exact ⟨i + 1, rfl, rfl, rfl, by omega, by omega, h5⟩
        | false =>
          rw [if_neg (by simp)] at h5
          rw [h5]
          repeat' first
            | refine st ?_
            | ((with_reducible apply go_i); (conv => whnf))
            | ((with_reducible apply k_pn); (· exact hV))
            | ((with_reducible apply k_pc); (· exact hV))
            | (with_reducible apply k_d <;> intro _)
            | (with_reducible apply k_b <;> intro _)
          all_goals rfl
      · rw [if_neg hk] at h5
        by_cases hkk : v.k = ck
        · rw [if_pos hkk] at h5
          repeat' first
            | refine st ?_
            | ((with_reducible apply go_i); (conv => whnf))
            | ((with_reducible apply k_pn); (· exact hV))
            | ((with_reducible apply k_pc); (· exact hV))
            | (with_reducible apply k_d <;> intro _)
            | (with_reducible apply k_b <;> intro _)
          exact ⟨i + 1, rfl, rfl, rfl, by omega, by omega, h5⟩
        · rw [if_neg hkk] at h5
          rw [h5]
          repeat' first
            | refine st ?_
            | ((with_reducible apply go_i); (conv => whnf))
            | ((with_reducible apply k_pn); (· exact hV))
            | ((with_reducible apply k_pc); (· exact hV))
            | (with_reducible apply k_d <;> intro _)
            | (with_reducible apply k_b <;> intro _)
          all_goals rfl
  | none =>
    have hge := List.getElem?_eq_none_iff.1 hx
    rw [List.drop_eq_nil_of_le hge] at h5
    rw [h5]
    repeat' first
      | refine st ?_
      | ((with_reducible apply go_i); (conv => whnf))
      | (with_reducible apply k_d <;> intro _)
      | (with_reducible apply k_b <;> intro _)
    all_goals rfl
end Go.Proofs
end
section
/- Keys of rows. No condition. -/
set_option linter.unusedSimpArgs false
set_option linter.unusedVariables false
set_option maxRecDepth 10000
set_option maxHeartbeats 4000000
namespace Go.Proofs
open Go.Bi

def pick (row : List Vl) (ks : List Int) : List Vl := ks.map (vAt row)
def Pt (row : List Vl) (ks : List Int) (i : Nat) : List (List D) := eVs (pick row (ks.take i))
theorem Pt_len (row : List Vl) (ks : List Int) (i : Nat) (h : i ≤ ks.length) : (Pt row ks i).length = i := by
  unfold Pt pick
  rw [eVs_len, List.length_map, List.length_take]
  omega
theorem Pt_succ {row : List Vl} {ks : List Int} {i : Nat} {k : Int} (h : ks[i]? = some k) : Pt row ks i ++ [(vAt row k).ds] = Pt row ks (i + 1) := by
  unfold Pt pick
  rw [List.take_add_one, h]
  simp [eVs]
theorem Pt_end {row : List Vl} {ks : List Int} {i : Nat} (h : ks.length ≤ i) : Pt row ks i = eVs (pick row ks) := by
  unfold Pt
  rw [List.take_of_length_le h]
theorem C.tuple_Pick (row : List Vl) (hr : row.length ≤ 1048576) (dr : D) (hdr : SlD dr (eVs row)) (ks : List Int) (hk : ks.length ≤ 1048576) (dk : D) (hdk : SlD dk (eIs ks)) : Pure Try.prog N.tuple_Pick [.d dr, .d dk] (.d (.sl (eVs (pick row ks)))) := by
  refine F.tuple_Pick.go mixed rfl ?_
  have h1 := eIs_len ks
  have hm := eIs_mem ks
  have hb : 0 ≤ ((eIs ks).length : Int) ∧ ((eIs ks).length : Int) * 32 ≤ 140737488355328 ∧ ((eIs ks).length : Int) ≤ 9223372036854775807 := by omega
  repeat' first
    | refine st ?_
    | ((with_reducible apply go_i); (conv => whnf))
    | (with_reducible apply k_d <;> intro _)
    | (with_reducible apply k_b <;> intro _)
  refine x_loop2 mixed Lt.tuple_Pick_l0 Lk.tuple_Pick_l0 (fun (i : Nat) (A : List (List D)) => [.arr 0 A.length, .d (eI i)]) (fun i A => [.arr A 3 0 false]) (fun i A => i ≤ ks.length ∧ A = Pt row ks i) (fun i _ => ks.length - i) 0 [] rfl rfl rfl rfl (fun _ _ _ => ⟨rfl, rfl⟩) rfl ⟨by omega, rfl⟩ ?_
  repeat' first
    | refine st ?_
    | ((with_reducible apply go_i); (conv => whnf))
    | (with_reducible apply k_d <;> intro _)
    | (with_reducible apply k_b <;> intro _)
  intro i A ⟨h4, h5⟩
  have hAl : A.length = i := by rw [h5]; exact Pt_len row ks i (by omega)
  have hAm : ∀ e ∈ A, e.length = 3 := by rw [h5]; exact eVs_mem _
  cases hx : ks[i]? with
  | some k =>
    have hlt := (List.getElem?_eq_some_iff.1 hx).1
    have hs := Pt_succ (row := row) hx
    have hg := eIs_get hx
    have hA := C.tuple_at row (by omega) dr hdr k
    rw [← h5] at hs
    obtain ⟨v, hv⟩ : ∃ v, v = vAt row k := ⟨_, rfl⟩
    rw [← hv] at hA hs
    repeat' first
      | refine st ?_
      | ((with_reducible apply go_i); (conv => whnf))
      | ((with_reducible apply k_pn); (· exact hA))
      | ((with_reducible apply k_pc); (· exact hA))
      | (with_reducible apply k_d <;> intro _)
      | (with_reducible apply k_b <;> intro _)
    exact ⟨i + 1, A ++ [v.ds], rfl, rfl, rfl, by omega, by omega, hs⟩
  | none =>
    have hge := List.getElem?_eq_none_iff.1 hx
    rw [Pt_end hge] at h5
    rw [← h5]
    repeat' first
      | refine st ?_
      | ((with_reducible apply go_i); (conv => whnf))
      | (with_reducible apply k_d <;> intro _)
      | (with_reducible apply k_b <;> intro _)
    all_goals rfl
theorem C.r8_Pick (row : List Vl) (hr : row.length ≤ 1048576) (dr : D) (hdr : SlD dr (eVs row)) (ks : List Int) (hk : ks.length ≤ 1048576) (dk : D) (hdk : SlD dk (eIs ks)) : Pure Try.prog N.bt_ref08_Pick [.d dr, .d dk] (.d (.sl (eVs (pick row ks)))) := by
  refine F.bt_ref08_Pick.go mixed rfl ?_
  have h1 := eIs_len ks
  have hm := eIs_mem ks
  repeat' first
    | refine st ?_
    | ((with_reducible apply go_i); (conv => whnf))
    | (with_reducible apply k_d <;> intro _)
    | (with_reducible apply k_b <;> intro _)
  refine x_loop2 mixed Lt.bt_ref08_Pick_l0 Lk.bt_ref08_Pick_l0 (fun (i : Nat) (A : List (List D)) => [.arr 0 A.length, .d (eI i)]) (fun i A => [.arr A 3 0 false]) (fun i A => i ≤ ks.length ∧ A = Pt row ks i) (fun i _ => ks.length - i) 0 [] rfl rfl rfl rfl (fun _ _ _ => ⟨rfl, rfl⟩) rfl ⟨by omega, rfl⟩ ?_
  repeat' first
    | refine st ?_
    | ((with_reducible apply go_i); (conv => whnf))
    | (with_reducible apply k_d <;> intro _)
    | (with_reducible apply k_b <;> intro _)
  intro i A ⟨h4, h5⟩
  have hAl : A.length = i := by rw [h5]; exact Pt_len row ks i (by omega)
  have hAm : ∀ e ∈ A, e.length = 3 := by rw [h5]; exact eVs_mem _
  cases hx : ks[i]? with
  | some k =>
    have hlt := (List.getElem?_eq_some_iff.1 hx).1
    have hs := Pt_succ (row := row) hx
    have hg := eIs_get hx
    have hA := C.r8_At row (by omega) dr hdr k
    rw [← h5] at hs
    obtain ⟨v, hv⟩ : ∃ v, v = vAt row k := ⟨_, rfl⟩
    rw [← hv] at hA hs
    repeat' first
      | refine st ?_
      | ((with_reducible apply go_i); (conv => whnf))
      | ((with_reducible apply k_pn); (· exact hA))
      | ((with_reducible apply k_pc); (· exact hA))
      | (with_reducible apply k_d <;> intro _)
      | (with_reducible apply k_b <;> intro _)
    exact ⟨i + 1, A ++ [v.ds], rfl, rfl, rfl, by omega, by omega, hs⟩
  | none =>
    have hge := List.getElem?_eq_none_iff.1 hx
    rw [Pt_end hge] at h5
    rw [← h5]
    repeat' first
      | refine st ?_
      | ((with_reducible apply go_i); (conv => whnf))
      | (with_reducible apply k_d <;> intro _)
      | (with_reducible apply k_b <;> intro _)
    all_goals rfl
theorem C.schema_Key (n : List UInt8) (dc dk df dx : D) (row : List Vl) (hr : row.length ≤ 1048576) (dr : D) (hdr : SlD dr (eVs row)) (ks : List Int) (hk : ks.length ≤ 1048576) (hdk : SlD dk (eIs ks)) : Pure Try.prog N.schema_Key [eT n dc dk df dx, .d dr] (.d (.sl (eVs (pick row ks)))) := by
  refine F.schema_Key.go mixed rfl ?_
  have hP := C.tuple_Pick row hr dr hdr ks hk dk hdk
  repeat' first
    | refine st ?_
    | ((with_reducible apply go_i); (conv => whnf))
    | ((with_reducible apply k_pn); (· exact hP))
    | ((with_reducible apply k_pc); (· exact hP))
    | (with_reducible apply k_d <;> intro _)
    | (with_reducible apply k_b <;> intro _)
  all_goals rfl
theorem C.r13_Key (n : List UInt8) (dc dk df dx : D) (row : List Vl) (hr : row.length ≤ 1048576) (dr : D) (hdr : SlD dr (eVs row)) (ks : List Int) (hk : ks.length ≤ 1048576) (hdk : SlD dk (eIs ks)) : Pure Try.prog N.bt_ref13_Key [eT n dc dk df dx, .d dr] (.d (.sl (eVs (pick row ks)))) := by
  refine F.bt_ref13_Key.go mixed rfl ?_
  have hP := C.r8_Pick row hr dr hdr ks hk dk hdk
  repeat' first
    | refine st ?_
    | ((with_reducible apply go_i); (conv => whnf))
    | ((with_reducible apply k_pn); (· exact hP))
    | ((with_reducible apply k_pc); (· exact hP))
    | (with_reducible apply k_d <;> intro _)
    | (with_reducible apply k_b <;> intro _)
  all_goals rfl
theorem C.r13_Ints_same (ks : List Int) (hk : ks.length ≤ 1048576) (d d' : D) (hd : SlD d (eIs ks)) (hd' : SlD d' (eIs ks)) : Pure Try.prog N.bt_ref13_Ints [.d d, .d d'] (.d (.bool true)) := by
  refine F.bt_ref13_Ints.go mixed rfl ?_
  have h1 := eIs_len ks
  have hm := eIs_mem ks
  repeat' first
    | refine st ?_
    | ((with_reducible apply go_i); (conv => whnf))
    | (with_reducible apply k_d <;> intro _)
    | (with_reducible apply k_b <;> intro _)
  refine x_loop1 mixed Lt.bt_ref13_Ints_l0 Lk.bt_ref13_Ints_l0 (fun (i : Nat) => [.d (eI i)]) (fun i => []) (fun i => i ≤ ks.length) (fun i => ks.length - i) 0 rfl rfl rfl rfl (fun _ _ => ⟨rfl, rfl⟩) rfl (Nat.zero_le _) ?_
  repeat' first
    | refine st ?_
    | ((with_reducible apply go_i); (conv => whnf))
    | (with_reducible apply k_d <;> intro _)
    | (with_reducible apply k_b <;> intro _)
  intro i h4
  cases hx : ks[i]? with
  | some k =>
    have hlt := (List.getElem?_eq_some_iff.1 hx).1
    have hg := eIs_get hx
    repeat' first
      | refine st ?_
      | ((with_reducible apply go_i); (conv => whnf))
      | (with_reducible apply k_d <;> intro _)
      | (with_reducible apply k_b <;> intro _)
    exact ⟨i + 1, rfl, rfl, rfl, by omega, by omega⟩
  | none =>
    have hge := List.getElem?_eq_none_iff.1 hx
    repeat' first
      | refine st ?_
      | ((with_reducible apply go_i); (conv => whnf))
      | (with_reducible apply k_d <;> intro _)
      | (with_reducible apply k_b <;> intro _)
    all_goals rfl
theorem vCmp_refl (v : Vl) : vCmp v v = 0 := by
  have h : cmpB v.s v.s = 0 := (cmpB_less v.s v.s).2.2.1.2 rfl
  have h2 : ∀ n : Int, cmpI n n = 0 := fun n => by unfold cmpI; rw [if_neg (by omega), if_neg (by omega)]
  unfold vCmp
  rw [h, h2, h2]; rfl
theorem C.r7_Compare_refl (v : Vl) : Pure Try.prog N.bt_ref07_Compare [eV v, eV v] (.d (eI 0)) := by
  have h := C.r7_Compare v v
  rw [vCmp_refl] at h
  exact h
theorem C.r8_Equal_refl (row : List Vl) (hr : row.length ≤ 1048576) (d d' : D) (hd : SlD d (eVs row)) (hd' : SlD d' (eVs row)) : Pure Try.prog N.bt_ref08_Equal [.d d, .d d'] (.d (.bool true)) := by
  have hC : Pure Try.prog N.bt_ref08_Compare [.d d, .d d'] (.d (eI 0)) := by
    refine F.bt_ref08_Compare.go mixed rfl ?_
    have h1 := eVs_len row
    have hm := eVs_mem row
    repeat' first
      | refine st ?_
      | ((with_reducible apply go_i); (conv => whnf))
      | (with_reducible apply k_d <;> intro _)
      | (with_reducible apply k_b <;> intro _)
    refine x_loop1 mixed Lt.bt_ref08_Compare_l0 Lk.bt_ref08_Compare_l0 (fun (i : Nat) => [.d (eI i)]) (fun i => []) (fun i => i ≤ row.length) (fun i => row.length - i) 0 rfl rfl rfl rfl (fun _ _ => ⟨rfl, rfl⟩) rfl (Nat.zero_le _) ?_
    repeat' first
      | refine st ?_
      | ((with_reducible apply go_i); (conv => whnf))
      | (with_reducible apply k_d <;> intro _)
      | (with_reducible apply k_b <;> intro _)
    intro i h4
    cases hx : row[i]? with
    | some v =>
      have hlt := (List.getElem?_eq_some_iff.1 hx).1
      have hg := eVs_get hx
      have hR := C.r7_Compare_refl v
      repeat' first
        | refine st ?_
        | ((with_reducible apply go_i); (conv => whnf))
        | ((with_reducible apply k_pn); (· exact hR))
        | ((with_reducible apply k_pc); (· exact hR))
        | (with_reducible apply k_d <;> intro _)
        | (with_reducible apply k_b <;> intro _)
      exact ⟨i + 1, rfl, rfl, rfl, by omega, by omega⟩
    | none =>
      have hge := List.getElem?_eq_none_iff.1 hx
      repeat' first
        | refine st ?_
        | ((with_reducible apply go_i); (conv => whnf))
        | (with_reducible apply k_d <;> intro _)
        | (with_reducible apply k_b <;> intro _)
      all_goals rfl
  refine F.bt_ref08_Equal.go mixed rfl ?_
  repeat' first
    | refine st ?_
    | ((with_reducible apply go_i); (conv => whnf))
    | ((with_reducible apply k_pn); (· exact hC))
    | ((with_reducible apply k_pc); (· exact hC))
    | (with_reducible apply k_d <;> intro _)
    | (with_reducible apply k_b <;> intro _)
  all_goals rfl
end Go.Proofs
end
section
/- The examples of the chapter. No condition. -/
set_option linter.unusedSimpArgs false
set_option linter.unusedVariables false
set_option maxRecDepth 10000
set_option maxHeartbeats 4000000
namespace Go.Proofs
open Go.Bi

def smC : List Co := [⟨[97], 1, false⟩, ⟨[98], 2, true⟩]
theorem C.law13_Sample : CallSpec Try.prog N.bt_law13_Sample [] [] (fun r os => r = .agg [.d (.str [116]), .arr 1 2, .arr 2 1, .d .nil, .d .nil] ∧ os = [.cells [.d (.str [116]), .arr 1 2, .arr 2 1, .d .nil, .d .nil], .arr (eCs smC) 3 0 false, .arr [[eI 0]] 1 0 false]) := by
  refine F.bt_law13_Sample.goO mixed rfl ?_
  repeat' first
    | refine st ?_
    | ((with_reducible apply go_i); (conv => whnf))
    | (with_reducible apply k_d <;> intro _)
    | (with_reducible apply k_b <;> intro _)
  all_goals exact ⟨rfl, rfl⟩
theorem C.law13_awake : Pure Try.prog N.bt_law13_awake [] (.d (.bool true)) := by
  refine F.bt_law13_awake.go mixed rfl ?_
  have i1 := C.r7_Int 1
  have i2 := C.r7_Text [120] (by decide)
  have i3 := C.r7_Null
  rw [show vInt 1 = ⟨1, 1, []⟩ by decide +kernel] at i1
  rw [show vText [120] = ⟨2, 0, [120]⟩ by decide +kernel] at i2
  have n1 := C.schema_Name [120, 95, 49] (by decide)
  have n2 := C.schema_Name [115, 101, 108, 101, 99, 116] (by decide)
  have n3 := C.schema_Name [83, 101, 108, 101, 99, 116] (by decide)
  rw [show nameB [120, 95, 49] = true by decide +kernel] at n1
  rw [show nameB [115, 101, 108, 101, 99, 116] = false by decide +kernel] at n2
  rw [show nameB [83, 101, 108, 101, 99, 116] = false by decide +kernel] at n3
  have tk : ∀ k : Int, Tok ⟨[116], smC, [k], [], []⟩ (.sl (eCs smC)) (.sl [[eI k]]) .nil .nil := fun k =>
    { hn := by simp, hl := by simp [smC], hls := by simp [smC], hk := by simp, hfl := by simp, hfc := by simp, hxs := by simp, hxb := by simp, dc := .inr rfl, dk := .inr rfl, df := .inl ⟨rfl, rfl⟩, dx := .inl ⟨rfl, rfl⟩ }
  have c1 := C.schema_Check _ _ _ _ _ (tk 0)
  have c2 := C.schema_Check _ _ _ _ _ (tk 1)
  rw [show tabE ⟨[116], smC, [0], [], []⟩ = 0 by decide +kernel] at c1
  rw [show tabE ⟨[116], smC, [1], [], []⟩ = 12 by decide +kernel] at c2
  have a1 := C.schema_Accepts [116] smC (by decide) (.sl (eCs smC)) (.sl [[eI 0]]) .nil .nil (.inr rfl) [⟨1, 1, []⟩, vNull] (by decide) (by decide) (.sl (eVs [⟨1, 1, []⟩, vNull])) (.inr rfl)
  have a2 := C.schema_Accepts [116] smC (by decide) (.sl (eCs smC)) (.sl [[eI 0]]) .nil .nil (.inr rfl) [vNull, ⟨2, 0, [120]⟩] (by decide) (by decide) (.sl (eVs [vNull, ⟨2, 0, [120]⟩])) (.inr rfl)
  have a3 := C.schema_Accepts [116] smC (by decide) (.sl (eCs smC)) (.sl [[eI 0]]) .nil .nil (.inr rfl) [⟨2, 0, [120]⟩, ⟨2, 0, [120]⟩] (by decide) (by decide) (.sl (eVs [⟨2, 0, [120]⟩, ⟨2, 0, [120]⟩])) (.inr rfl)
  rw [show acc [⟨1, 1, []⟩, vNull] smC = 0 by decide +kernel] at a1
  rw [show acc [vNull, ⟨2, 0, [120]⟩] smC = 12 by decide +kernel] at a2
  rw [show acc [⟨2, 0, [120]⟩, ⟨2, 0, [120]⟩] smC = 7 by decide +kernel] at a3
  repeat' first
    | refine st ?_
    | ((with_reducible apply go_i); (conv => whnf))
    | ((with_reducible apply k_pn); (· first | exact i1 | exact i2 | exact i3 | exact n1 | exact n2 | exact n3 | exact c1 | exact c2 | exact a1 | exact a2 | exact a3))
    | ((with_reducible apply k_pc); (· first | exact i1 | exact i2 | exact i3 | exact n1 | exact n2 | exact n3 | exact c1 | exact c2 | exact a1 | exact a2 | exact a3))
    | ((with_reducible apply k_nc); (· first | exact C.law13_Sample); (try rintro _ _ ⟨rfl, rfl⟩))
    | ((with_reducible apply k_pr); (· first | exact C.law13_Sample))
    | ((with_reducible apply k_cs); (· first | exact C.law13_Sample); (try rintro _ _ ⟨rfl, rfl⟩))
    | ((with_reducible apply k_cal); refine st ?_; (with_reducible apply k_chk); (· exact rfl); refine st ?_; (with_reducible apply k_cs); (· first | exact C.law13_Sample); (try rintro _ _ ⟨rfl, rfl⟩))
    | (with_reducible apply k_d <;> intro _)
    | (with_reducible apply k_b <;> intro _)
  all_goals rfl
end Go.Proofs
end
section
/- ExprKinds: what is accepted has the kind that Check returns. No condition. -/
set_option linter.unusedSimpArgs false
set_option linter.unusedVariables false
set_option maxRecDepth 10000
set_option maxHeartbeats 4000000
namespace Go.Proofs
open Go.Bi

def fitB (v : Vl) (k : Int) : Bool := vValid v && (decide (v.k = 0) || decide (v.k = k))
def fits (row : List Vl) (ks : List Int) : Bool := decide (row.length = ks.length) && (row.zip ks).all fun p => fitB p.1 p.2
theorem all_take_succ2 {α : Type} {p : α → Bool} {l : List α} {i : Nat} {x : α} (h : l[i]? = some x) : (l.take (i + 1)).all p = ((l.take i).all p && p x) := by
  rw [List.take_add_one, h]; simp
theorem all_none2 {α : Type} {p : α → Bool} {l : List α} {i : Nat} {x : α} (h : l[i]? = some x) (hx : p x = false) : l.all p = false := by
  rw [Bool.eq_false_iff]
  intro e
  have := List.all_eq_true.1 e x (List.mem_of_getElem? h)
  rw [hx] at this; cases this
theorem C.r8_Fits (row : List Vl) (ks : List Int) (hr : row.length ≤ 1048576) (hk : ks.length ≤ 1048576) (hrs : ∀ v ∈ row, v.s.length ≤ 1048576) (dr : D) (hdr : SlD dr (eVs row)) (dk : D) (hdk : SlD dk (eIs ks)) : Pure Try.prog N.bt_ref08_Fits [.d dr, .d dk] (.d (.bool (fits row ks))) := by
  refine F.bt_ref08_Fits.go mixed rfl ?_
  have h1 := eVs_len row
  have hm := eVs_mem row
  have h2 := eIs_len ks
  have hm2 := eIs_mem ks
  obtain ⟨q, hq⟩ : ∃ q, q = fits row ks := ⟨_, rfl⟩
  rw [← hq]
  by_cases hl : row.length = ks.length
  rotate_left
  · have : q = false := by rw [hq, fits, decide_eq_false hl]; rfl
    rw [this]
    repeat' first
      | refine st ?_
      | ((with_reducible apply go_i); (conv => whnf))
      | (with_reducible apply k_d <;> intro _)
      | (with_reducible apply k_b <;> intro _)
    all_goals first | rfl | (exfalso; omega)
  unfold fits at hq
  rw [decide_eq_true hl, Bool.true_and] at hq
  have hl2 : (eVs row).length = (eIs ks).length := by omega
  repeat' first
    | refine st ?_
    | ((with_reducible apply go_i); (conv => whnf))
    | (with_reducible apply k_d <;> intro _)
    | (with_reducible apply k_b <;> intro _)
  refine x_loop1 mixed Lt.bt_ref08_Fits_l0 Lk.bt_ref08_Fits_l0 (fun (i : Nat) => [.d (eI i)]) (fun i => []) (fun i => i ≤ row.length ∧ ((row.zip ks).take i).all (fun p => fitB p.1 p.2) = true) (fun i => row.length - i) 0 rfl rfl rfl rfl (fun _ _ => ⟨rfl, rfl⟩) rfl ⟨by omega, rfl⟩ ?_
  repeat' first
    | refine st ?_
    | ((with_reducible apply go_i); (conv => whnf))
    | (with_reducible apply k_d <;> intro _)
    | (with_reducible apply k_b <;> intro _)
  intro i ⟨h4, h5⟩
  cases hx : row[i]? with
  | some v =>
    have hlt := (List.getElem?_eq_some_iff.1 hx).1
    obtain ⟨k, hkx⟩ : ∃ k, ks[i]? = some k := ⟨_, List.getElem?_eq_getElem (by omega)⟩
    have hz : (row.zip ks)[i]? = some (v, k) := List.getElem?_zip_eq_some.2 ⟨hx, hkx⟩
    have hg := eVs_get hx
    have hg2 := eIs_get hkx
    have hV := C.r7_Valid v (Nat.le_trans (hrs v (List.mem_of_getElem? hx)) (by omega))
    have hs := all_take_succ2 (p := fun p => fitB p.1 p.2) hz
    rw [h5, Bool.true_and] at hs
    dsimp only at hs
    cases hv : vValid v with
    | false =>
      rw [hv] at hV
      have hb : fitB v k = false := by rw [fitB, hv]; rfl
      have hf := all_none2 (p := fun p => fitB p.1 p.2) hz hb
      rw [hf] at hq
      repeat' first
        | refine st ?_
        | ((with_reducible apply go_i); (conv => whnf))
        | ((with_reducible apply k_pn); (· exact hV))
        | ((with_reducible apply k_pc); (· exact hV))
        | (with_reducible apply k_d <;> intro _)
        | (with_reducible apply k_b <;> intro _)
      all_goals (rw [hq])
    | true =>
      rw [hv] at hV
      by_cases hk0 : v.k = 0
      · have hb : fitB v k = true := by rw [fitB, hv, decide_eq_true hk0]; rfl
        repeat' first
          | refine st ?_
          | ((with_reducible apply go_i); (conv => whnf))
          | ((with_reducible apply k_pn); (· exact hV))
          | ((with_reducible apply k_pc); (· exact hV))
          | (with_reducible apply k_d <;> intro _)
          | (with_reducible apply k_b <;> intro _)
        exact ⟨i + 1, rfl, rfl, rfl, by omega, by omega, hs.trans hb⟩
      · by_cases hkk : v.k = k
        · have hb : fitB v k = true := by rw [fitB, hv, decide_eq_true hkk]; simp
          repeat' first
            | refine st ?_
            | ((with_reducible apply go_i); (conv => whnf))
            | ((with_reducible apply k_pn); (· exact hV))
            | ((with_reducible apply k_pc); (· exact hV))
            | (with_reducible apply k_d <;> intro _)
            | (with_reducible apply k_b <;> intro _)
          exact ⟨i + 1, rfl, rfl, rfl, by omega, by omega, hs.trans hb⟩
        · have hb : fitB v k = false := by rw [fitB, hv, decide_eq_false hkk, decide_eq_false hk0]; rfl
          have hf := all_none2 (p := fun p => fitB p.1 p.2) hz hb
          rw [hf] at hq
          repeat' first
            | refine st ?_
            | ((with_reducible apply go_i); (conv => whnf))
            | ((with_reducible apply k_pn); (· exact hV))
            | ((with_reducible apply k_pc); (· exact hV))
            | (with_reducible apply k_d <;> intro _)
            | (with_reducible apply k_b <;> intro _)
          all_goals (rw [hq])
  | none =>
    have hge := List.getElem?_eq_none_iff.1 hx
    rw [List.take_of_length_le (by rw [List.length_zip]; omega)] at h5
    rw [h5] at hq
    repeat' first
      | refine st ?_
      | ((with_reducible apply go_i); (conv => whnf))
      | (with_reducible apply k_d <;> intro _)
      | (with_reducible apply k_b <;> intro _)
    all_goals (rw [hq])
theorem uniF_mem : ∀ (l : List Int) (k r : Int), uniF k l = (r, true) → (k = 0 ∨ k = r) ∧ ∀ x ∈ l, x = 0 ∨ x = r
  | [], k, r, h => by
    simp only [uniF, Prod.mk.injEq] at h
    exact ⟨.inr h.1, by simp⟩
  | y :: l, k, r, h => by
    unfold uniF at h
    by_cases hy : y = 0
    · rw [if_pos hy] at h
      obtain ⟨h1, h2⟩ := uniF_mem l k r h
      exact ⟨h1, fun x hx => by rcases List.mem_cons.1 hx with rfl | hx; exact .inl hy; exact h2 x hx⟩
    · rw [if_neg hy] at h
      by_cases hk : k ≠ 0 ∧ k ≠ y
      · rw [if_pos hk] at h; simp at h
      · rw [if_neg hk] at h
        obtain ⟨h1, h2⟩ := uniF_mem l y r h
        exact ⟨by omega, fun x hx => by rcases List.mem_cons.1 hx with rfl | hx; exact h1; exact h2 x hx⟩
theorem fe_zero : ∀ {l : List (Int × Int)}, fe l = 0 → ∀ x ∈ l, x.2 = 0
  | [], _, x, hx => by cases hx
  | y :: l, h, x, hx => by
    unfold fe at h
    by_cases hy : y.2 = 0
    · rw [if_pos hy] at h
      rcases List.mem_cons.1 hx with rfl | hx
      · exact hy
      · exact fe_zero h x hx
    · rw [if_neg hy] at h; exact absurd h hy
theorem vOrN_k (v : Vl) : (vOrN v).k = v.k ∨ (vOrN v).k = 0 := by
  unfold vOrN
  split
  · exact .inl rfl
  · exact .inr rfl
theorem vOf_k (t : Int) : (vOf t).k = 3 ∨ (vOf t).k = 0 := by
  unfold vOf
  split
  · exact .inl rfl
  · split
    · exact .inl rfl
    · exact .inr rfl
/-- Values that have kinds, one by one. -/
def Knd (l : List Vl) (ks : List Int) : Prop := l.length = ks.length ∧ ∀ i, (h : i < l.length) → (h2 : i < ks.length) → l[i].k = ks[i] ∨ l[i].k = 0
theorem Knd.all {l : List Vl} {ks : List Int} (h : Knd l ks) {r : Int} (hr : ∀ x ∈ ks, x = 0 ∨ x = r) : ∀ v ∈ l, v.k = r ∨ v.k = 0 := by
  intro v hv
  obtain ⟨i, hi, rfl⟩ := List.mem_iff_getElem.1 hv
  have h2 : i < ks.length := by have := h.1; omega
  have h3 := h.2 i hi h2
  have h4 := hr ks[i] (List.getElem_mem h2)
  omega
theorem coa_k {l : List Vl} {r : Int} (h : ∀ v ∈ l, v.k = r ∨ v.k = 0) : (coa l).k = r ∨ (coa l).k = 0 := by
  induction l with
  | nil => exact .inr rfl
  | cons v l ih =>
    unfold coa
    split
    · exact ih fun x hx => h x (by simp [hx])
    · exact h v (by simp)
theorem getD_k {l : List Vl} {r : Int} (h : ∀ v ∈ l, v.k = r ∨ v.k = 0) (i : Nat) : (l.getD i vNull).k = r ∨ (l.getD i vNull).k = 0 := by
  rw [List.getD_eq_getElem?_getD]
  cases hx : l[i]? with
  | none => exact .inr rfl
  | some v => exact h v (List.mem_of_getElem? hx)
theorem evOp_k {op n : Int} {v : Vl} {l row : List Vl} {ks : List Int} (hop : op ≠ 2) (hK : Knd l ks) (hc : (cnt op l.length).1 = true) (h : (res op v ks).2 = true) : (evOp op n v l row).k = (res op v ks).1 ∨ (evOp op n v l row).k = 0 := by
  have hcnt := cnt_case hc
  by_cases h1 : op = 1
  · subst h1; exact .inl rfl
  rcases hcnt with ⟨k, e⟩ | ⟨k, e⟩ | ⟨k, e⟩ | ⟨k, e⟩ | ⟨k, e⟩ | ⟨k, e⟩ | ⟨k, e⟩
  · omega
  · rcases k with rfl | rfl | rfl | rfl
    · exact vOf_k _
    · show (vAri 18 l).k = 1 ∨ (vAri 18 l).k = 0
      unfold vAri vAr vNeg
      repeat' split
      all_goals first | exact vOrN_k _ | (exfalso; omega) | exact .inr rfl
    · show (vTxt 20 l).k = 1 ∨ (vTxt 20 l).k = 0
      unfold vTxt
      repeat' split
      all_goals first | exact vOrN_k _ | exact .inr rfl | (exfalso; omega)
    · exact .inl rfl
  · by_cases h19 : op = 19
    · subst h19
      show (vTxt 19 l).k = 2 ∨ (vTxt 19 l).k = 0
      unfold vTxt
      repeat' split
      all_goals first | exact vOrN_k _ | exact .inr rfl | (exfalso; omega)
    · by_cases h13 : 13 ≤ op
      · have e1 : evOp op n v l row = vAri op l := by
          unfold evOp
          rw [if_neg (by omega), if_neg (by omega), if_neg (by omega), if_neg (by omega), if_neg (by omega), if_neg (by omega), if_neg (by omega), if_neg (by omega), if_neg (by omega), if_pos (by omega)]
        have e2 : (res op v ks).1 = 1 := by
          unfold res
          rw [if_neg (by omega), if_neg (by omega), if_neg (by omega), if_neg (by omega), if_neg (by omega), if_neg (by omega), if_neg (by omega), if_neg (by omega), if_neg (by omega)]
        rw [e1, e2]
        unfold vAri vAr vNeg vBin vPr
        repeat' split
        all_goals first | exact vOrN_k _ | exact .inr rfl
      · have e1 : evOp op n v l row = vOf (vCp op (l.getD 0 vNull) (l.getD 1 vNull)) := by
          unfold evOp
          rw [if_neg (by omega), if_neg (by omega), if_neg (by omega), if_neg (by omega), if_neg (by omega), if_neg (by omega), if_neg (by omega), if_neg (by omega), if_neg (by omega), if_neg (by omega)]
        have e2 : (res op v ks).1 = 3 := by
          unfold res
          rw [if_neg (by omega), if_neg (by omega), if_pos (by omega)]
        rw [e1, e2]
        exact vOf_k _
  · rcases k with rfl | rfl
    · exact vOf_k _
    · exact vOf_k _
  · subst k
    obtain ⟨a, b, c, rfl⟩ : ∃ a b c, l = [a, b, c] := by
      match l, e with
      | [a, b, c], _ => exact ⟨a, b, c, rfl⟩
    obtain ⟨x, y, z, rfl⟩ : ∃ a b c, ks = [a, b, c] := by
      match ks, hK.1 with
      | [a, b, c], _ => exact ⟨a, b, c, rfl⟩
    have h' : ((uni [y, z]).2 && allK [x] 3) = true := h
    rw [Bool.and_eq_true] at h'
    obtain ⟨⟨r, t⟩, hr⟩ : ∃ q, uni [y, z] = q := ⟨_, rfl⟩
    rw [hr] at h'
    have ht : t = true := h'.1
    subst ht
    have hu := (uniF_mem _ _ _ hr).2
    show (if vTruth a = 2 then b else c).k = (uni [y, z]).1 ∨ (if vTruth a = 2 then b else c).k = 0
    rw [hr]
    have hb : b.k = y ∨ b.k = 0 := hK.2 1 (by simp) (by simp)
    have hc : c.k = z ∨ c.k = 0 := hK.2 2 (by simp) (by simp)
    have hy := hu y (by simp)
    have hz := hu z (by simp)
    dsimp only
    split <;> omega
  · obtain ⟨rfl, _⟩ := k
    obtain ⟨⟨r, t⟩, hr⟩ : ∃ q, uni ks = q := ⟨_, rfl⟩
    have ht : t = true := by have : (uni ks).2 = true := h; rw [hr] at this; exact this
    subst ht
    show (coa l).k = (uni ks).1 ∨ (coa l).k = 0
    rw [hr]
    exact coa_k (hK.all (uniF_mem _ _ _ hr).2)
  · subst k
    show (vRel n (l.getD 0 vNull) (l.getD 1 vNull) (l.getD 2 vNull) (l.getD 3 vNull)).k = 3 ∨ (vRel n (l.getD 0 vNull) (l.getD 1 vNull) (l.getD 2 vNull) (l.getD 3 vNull)).k = 0
    unfold vRel
    split
    · exact .inl rfl
    · exact .inr rfl
theorem ev_kind (row : List Vl) (ks : List Int) (hf : fits row ks = true) : ∀ e : Ex, (chk ks e).2 = 0 → (ev row e).k = (chk ks e).1 ∨ (ev row e).k = 0 := by
  unfold fits at hf
  rw [Bool.and_eq_true] at hf
  have hlen := of_decide_eq_true hf.1
  have hall := List.all_eq_true.1 hf.2
  refine Ex.ind fun op n v name nl args ih h => ?_
  rw [chk_mk] at h ⊢
  rw [ev_mk]
  cases hfm : fmd op n v name args.length with
  | false => exact .inr rfl
  | true =>
  rw [if_pos rfl]
  by_cases h2 : op = 2
  · subst h2
    have hk : (cnt 2 args.length).2 = true := rfl
    unfold ckF at h ⊢
    rw [hk, if_neg (by simp), hfm, if_neg (by simp), if_pos rfl] at h ⊢
    by_cases hn : 0 ≤ n ∧ n < ks.length
    · rw [if_pos hn]
      show (vCol row n).k = ks.getD n.toNat 0 ∨ (vCol row n).k = 0
      have hx : n.toNat < row.length := by omega
      have hy : n.toNat < ks.length := by omega
      have hz := hall (row[n.toNat], ks[n.toNat]) (List.mem_iff_getElem.2 ⟨n.toNat, by rw [List.length_zip]; omega, by rw [List.getElem_zip]⟩)
      dsimp only [fitB] at hz
      rw [Bool.and_eq_true, Bool.or_eq_true, decide_eq_true_eq, decide_eq_true_eq] at hz
      have e1 : vCol row n = row[n.toNat] := by
        unfold vCol vAt
        rw [if_neg (by omega), List.getD_eq_getElem?_getD, List.getElem?_eq_getElem hx]
        show vOrN row[n.toNat] = _
        rw [vOrN, if_pos hz.1]
      have e2 : ks.getD n.toNat 0 = ks[n.toNat] := by rw [List.getD_eq_getElem?_getD, List.getElem?_eq_getElem hy]; rfl
      rw [e1, e2]
      exact hz.2.symm
    · rw [if_neg hn] at h; cases h
  rw [ckF_known hfm h2] at h ⊢
  by_cases hfe : fe (args.map (chk ks)) = 0
  rotate_left
  · rw [if_neg hfe] at h; exact absurd h hfe
  rw [if_pos hfe] at h ⊢
  cases hr : (res op v ((args.map (chk ks)).map Prod.fst)).2 with
  | false => rw [hr] at h; simp at h
  | true =>
    rw [if_pos rfl]
    refine evOp_k h2 ⟨by simp, fun i hi hj => ?_⟩ (by rw [List.length_map]; exact fmd_cnt hfm) hr
    rw [List.getElem_map, List.getElem_map, List.getElem_map]
    exact ih _ (List.getElem_mem _) (fe_zero hfe _ (List.mem_map.2 ⟨_, List.getElem_mem _, rfl⟩))
end Go.Proofs
end
section
/- What a checked table and an accepted row are like. No condition. -/
set_option linter.unusedSimpArgs false
set_option linter.unusedVariables false
set_option maxRecDepth 10000
set_option maxHeartbeats 4000000
namespace Go.Proofs
open Go.Bi

theorem tabE_ok {t : Tb} (h : tabE t = 0) : nameB t.nm = true ∧ colE t.cs = 0 ∧ keyE t.cs t.ks = 0 ∧ conE t = 0 := by
  unfold tabE at h
  split at h
  · rename_i h1
    split at h
    · rename_i h2
      split at h
      · rename_i h3; exact ⟨h1, h2, h3, h⟩
      · rename_i h3; exact absurd h h3
    · rename_i h2; exact absurd h h2
  · cases h
theorem colE_ok {l : List Co} (h : colE l = 0) : 1 ≤ l.length ∧ l.length ≤ 12 ∧ colF [] l = 0 := by
  unfold colE at h
  split at h
  · rename_i h1; exact ⟨h1.1, h1.2, h⟩
  · cases h
theorem colF_ok : ∀ {l : List Co} {seen : List (List UInt8)}, colF seen l = 0 → ∀ (i : Nat) c, l[i]? = some c → nameB c.nm = true ∧ 1 ≤ c.k ∧ c.k ≤ 3 ∧ ¬ c.nm ∈ seen ∧ ∀ (j : Nat) d, l[j]? = some d → d.nm = c.nm → j = i
  | [], _, _, i, c, hi => by simp at hi
  | a :: r, seen, h, i, c, hi => by
    unfold colF at h
    split at h
    · rename_i h1
      split at h
      · rename_i h2
        split at h
        · cases h
        · rename_i h3
          have ih := colF_ok h
          cases i with
          | zero =>
            simp only [List.getElem?_cons_zero, Option.some.injEq] at hi
            subst hi
            refine ⟨h1, h2.1, h2.2, h3, fun j d hj e => ?_⟩
            cases j with
            | zero => rfl
            | succ j =>
              rw [List.getElem?_cons_succ] at hj
              exact absurd (by simp [e]) (ih j d hj).2.2.2.1
          | succ i =>
            rw [List.getElem?_cons_succ] at hi
            obtain ⟨g1, g2, g3, g4, g5⟩ := ih i c hi
            refine ⟨g1, g2, g3, fun hm => g4 (by simp [hm]), fun j d hj e => ?_⟩
            cases j with
            | zero =>
              simp only [List.getElem?_cons_zero, Option.some.injEq] at hj
              subst hj
              exact absurd (by simp [e]) g4
            | succ j =>
              rw [List.getElem?_cons_succ] at hj
              rw [g5 j d hj e]
      · cases h
    · cases h
theorem findF_at {nm : List UInt8} : ∀ {l : List Co} {s i : Nat} {c : Co}, l[i]? = some c → c.nm = nm → (∀ (j : Nat) d, l[j]? = some d → d.nm = nm → j = i) → findF nm s l = (s + i : Nat)
  | [], s, i, c, hi, _, _ => by simp at hi
  | a :: r, s, i, c, hi, e, hu => by
    unfold findF
    cases i with
    | zero =>
      simp only [List.getElem?_cons_zero, Option.some.injEq] at hi
      subst hi
      rw [if_pos e]; simp
    | succ i =>
      rw [if_neg (fun h => by have := hu 0 a rfl h; omega)]
      rw [List.getElem?_cons_succ] at hi
      rw [findF_at (s := s + 1) hi e (fun j d hj e' => by have := hu (j + 1) d (by rw [List.getElem?_cons_succ]; exact hj) e'; omega)]
      congr 1; omega
theorem findC_at {l : List Co} (h : colE l = 0) {i : Nat} {c : Co} (hi : l[i]? = some c) : findC c.nm l = i := by
  have := colF_ok (colE_ok h).2.2 i c hi
  have := findF_at (s := 0) hi rfl this.2.2.2.2
  rw [findC, this]; simp
theorem keyF_ok {l : List Co} : ∀ {ks : List Int} {p : Option Int}, keyF l p ks = 0 → ∀ k ∈ ks, 0 ≤ k ∧ k < l.length ∧ (l.getD k.toNat ⟨[], 0, false⟩).nl = false
  | [], _, _, k, hk => by cases hk
  | a :: r, p, h, k, hk => by
    unfold keyF at h
    have key : (0 ≤ a ∧ a < l.length) ∧ (l.getD a.toNat ⟨[], 0, false⟩).nl = false ∧ keyF l (some a) r = 0 := by
      split at h
      · rename_i h1
        refine ⟨h1, ?_⟩
        cases p with
        | some q =>
          dsimp only at h
          split at h
          · cases h
          · split at h
            · cases h
            · rename_i h2; exact ⟨by simpa using h2, h⟩
        | none =>
          dsimp only at h
          split at h
          · cases h
          · rename_i h2; exact ⟨by simpa using h2, h⟩
      · cases h
    rcases List.mem_cons.1 hk with rfl | hk
    · exact ⟨key.1.1, key.1.2, key.2.1⟩
    · exact keyF_ok key.2.2 k hk
theorem keyE_ok {l : List Co} {ks : List Int} (h : keyE l ks = 0) : ks ≠ [] ∧ ∀ k ∈ ks, 0 ≤ k ∧ k < l.length ∧ (l.getD k.toNat ⟨[], 0, false⟩).nl = false := by
  unfold keyE at h
  split at h
  · cases h
  · rename_i h1
    exact ⟨fun e => h1 (by rw [e]; rfl), keyF_ok h⟩
theorem acF_ok : ∀ {row : List Vl} {l : List Co}, row.length = l.length → acF row l = 0 → ∀ (i : Nat) v c, row[i]? = some v → l[i]? = some c → vValid v = true ∧ (v.k = 0 → c.nl = true) ∧ (v.k = 0 ∨ v.k = c.k)
  | [], _, _, _, i, v, c, hi, _ => by simp at hi
  | a :: r, [], h, _, _, _, _, _, _ => by simp at h
  | a :: r, b :: l, hl, h, i, v, c, hi, hc => by
    unfold acF at h
    have key : vValid a = true ∧ (a.k = 0 → b.nl = true) ∧ (a.k = 0 ∨ a.k = b.k) ∧ acF r l = 0 := by
      split at h
      · cases h
      · rename_i h1
        refine ⟨by simpa using h1, ?_⟩
        split at h
        · rename_i h2
          split at h
          · rename_i h3; exact ⟨fun _ => h3, .inl h2, h⟩
          · cases h
        · rename_i h2
          split at h
          · rename_i h3; exact ⟨fun e => absurd e h2, .inr h3, h⟩
          · cases h
    cases i with
    | zero =>
      simp only [List.getElem?_cons_zero, Option.some.injEq] at hi hc
      subst hi; subst hc
      exact ⟨key.1, key.2.1, key.2.2.1⟩
    | succ i =>
      rw [List.getElem?_cons_succ] at hi hc
      exact acF_ok (by simpa using hl) key.2.2.2 i v c hi hc
theorem acc_ok {row : List Vl} {l : List Co} (h : acc row l = 0) : row.length = l.length ∧ ∀ (i : Nat) v c, row[i]? = some v → l[i]? = some c → vValid v = true ∧ (v.k = 0 → c.nl = true) ∧ (v.k = 0 ∨ v.k = c.k) := by
  unfold acc at h
  split at h
  · rename_i h1; exact ⟨h1, acF_ok h1 h⟩
  · cases h
theorem acc_fits {row : List Vl} {l : List Co} (h : acc row l = 0) : fits row (kd l) = true := by
  obtain ⟨h1, h2⟩ := acc_ok h
  unfold fits
  rw [decide_eq_true (by rw [kd_len]; exact h1), Bool.true_and, List.all_eq_true]
  intro p hp
  obtain ⟨i, hi⟩ := List.getElem?_of_mem hp
  rw [List.getElem?_zip_eq_some] at hi
  obtain ⟨hi1, hi2⟩ := hi
  unfold kd at hi2
  rw [List.getElem?_map] at hi2
  cases hc : l[i]? with
  | none => rw [hc] at hi2; cases hi2
  | some c =>
    rw [hc] at hi2
    simp only [Option.map_some, Option.some.injEq] at hi2
    obtain ⟨g1, g2, g3⟩ := h2 i p.1 c hi1 hc
    unfold fitB
    rw [g1, ← hi2]
    rcases g3 with g3 | g3
    · simp [g3]
    · simp [g3]
theorem acc_key {row : List Vl} {l : List Co} {ks : List Int} (h : acc row l = 0) (hk : keyE l ks = 0) : ∀ k ∈ ks, (vAt row k).k ≠ 0 := by
  intro k hm e
  obtain ⟨h1, h2⟩ := acc_ok h
  obtain ⟨g1, g2, g3⟩ := (keyE_ok hk).2 k hm
  have hlt : k.toNat < l.length := by omega
  have hv := vAt_get (l := row) (i := k) (by omega) (by omega)
  have := (h2 k.toNat _ _ hv (List.getElem?_eq_getElem hlt)).2.1 e
  rw [List.getD_eq_getElem?_getD, List.getElem?_eq_getElem hlt] at g3
  simp at g3
  rw [g3] at this
  cases this
end Go.Proofs
end
section
/- The laws of the chapter: their contracts. No condition. -/
set_option linter.unusedSimpArgs false
set_option linter.unusedVariables false
set_option maxRecDepth 10000
set_option maxHeartbeats 4000000
namespace Go.Proofs
open Go.Bi

theorem L.SchemaChecks (s : List UInt8) (hs : s.length ≤ 1048576) (t : Tb) (dc dk df dx : D) (h : Tok t dc dk df dx) : Pure Try.prog N.bt_law13_SchemaChecks [.d (.str s), eT t.nm dc dk df dx] (.d (.bool true)) := by
  have h1 := C.schema_Name s hs
  have h2 := C.r13_Name s hs
  have h3 := C.schema_Check t dc dk df dx h
  have h4 := C.r13_Check t dc dk df dx h
  refine F.bt_law13_SchemaChecks.go mixed rfl ?_
  repeat' first
    | refine st ?_
    | ((with_reducible apply go_i); (conv => whnf))
    | ((with_reducible apply k_pn); (· first | exact h1 | exact h2 | exact h3 | exact h4 | exact C.law13_awake))
    | ((with_reducible apply k_pc); (· first | exact h1 | exact h2 | exact h3 | exact h4 | exact C.law13_awake))
    | (with_reducible apply k_d <;> intro _)
    | (with_reducible apply k_b <;> intro _)
  all_goals simp_all
theorem L.SchemaAccepts (t : Tb) (dc dk df dx : D) (h : Tok t dc dk df dx) (row : List Vl) (hr : row.length ≤ 1048576) (hrs : ∀ v ∈ row, v.s.length ≤ 1048576) (dr : D) (hdr : SlD dr (eVs row)) : Pure Try.prog N.bt_law13_SchemaAccepts [eT t.nm dc dk df dx, .d dr] (.d (.bool true)) := by
  have h1 := C.schema_Accepts t.nm t.cs h.hl dc dk df dx h.dc row hr hrs dr hdr
  have h2 := C.r13_Accepts t.nm t.cs h.hl dc dk df dx h.dc row hr hrs dr hdr
  refine F.bt_law13_SchemaAccepts.go mixed rfl ?_
  repeat' first
    | refine st ?_
    | ((with_reducible apply go_i); (conv => whnf))
    | ((with_reducible apply k_pn); (· first | exact h1 | exact h2 | exact C.law13_awake))
    | ((with_reducible apply k_pc); (· first | exact h1 | exact h2 | exact C.law13_awake))
    | (with_reducible apply k_d <;> intro _)
    | (with_reducible apply k_b <;> intro _)
  all_goals simp_all
theorem L.SchemaQueries (t : Tb) (dc dk df dx : D) (h : Tok t dc dk df dx) (nm : List UInt8) (row : List Vl) (hr : row.length ≤ 1048576) (dr : D) (hdr : SlD dr (eVs row)) : Pure Try.prog N.bt_law13_SchemaQueries [eT t.nm dc dk df dx, .d (.str nm), .d dr] (.d (.bool true)) := by
  have h1 := C.schema_Kinds t.nm t.cs h.hl dc dk df dx h.dc
  have h2 := C.r13_Kinds t.nm t.cs h.hl dc dk df dx h.dc
  have h3 := C.r13_Ints_same (kd t.cs) (by rw [kd_len]; exact h.hl) _ _ (kdD_sl t.cs) (.inr rfl)
  have h4 := C.schema_Find t.nm t.cs h.hl dc dk df dx h.dc nm
  have h5 := C.r13_Find t.nm t.cs h.hl dc dk df dx h.dc nm
  have h6 := C.schema_Key t.nm dc dk df dx row hr dr hdr t.ks h.hk h.dk
  have h7 := C.r13_Key t.nm dc dk df dx row hr dr hdr t.ks h.hk h.dk
  have h8 := C.r8_Equal_refl (pick row t.ks) (by unfold pick; rw [List.length_map]; exact h.hk) _ _ (.inr rfl) (.inr rfl)
  refine F.bt_law13_SchemaQueries.go mixed rfl ?_
  repeat' first
    | refine st ?_
    | ((with_reducible apply go_i); (conv => whnf))
    | ((with_reducible apply k_pn); (· first | exact h1 | exact h2 | exact h3 | exact h4 | exact h5 | exact h6 | exact h7 | exact h8 | exact C.law13_awake))
    | ((with_reducible apply k_pc); (· first | exact h1 | exact h2 | exact h3 | exact h4 | exact h5 | exact h6 | exact h7 | exact h8 | exact C.law13_awake))
    | (with_reducible apply k_d <;> intro _)
    | (with_reducible apply k_b <;> intro _)
  all_goals simp_all
theorem L.SchemaRows (t : Tb) (dc dk df dx : D) (h : Tok t dc dk df dx) (row : List Vl) (hr : row.length ≤ 1048576) (hrs : ∀ v ∈ row, v.s.length ≤ 1048576) (dr : D) (hdr : SlD dr (eVs row)) : Pure Try.prog N.bt_law13_SchemaRows [eT t.nm dc dk df dx, .d dr] (.d (.bool true)) := by
  have h1 := C.schema_Check t dc dk df dx h
  have h2 := C.schema_Accepts t.nm t.cs h.hl dc dk df dx h.dc row hr hrs dr hdr
  have h3 := C.schema_Key t.nm dc dk df dx row hr dr hdr t.ks h.hk h.dk
  have h4 := C.schema_Kinds t.nm t.cs h.hl dc dk df dx h.dc
  have h5 := C.r8_Fits row (kd t.cs) hr (by rw [kd_len]; exact h.hl) hrs dr hdr _ (kdD_sl t.cs)
  have h6 := C.law13_awake
  have hA := C.law13_awake
  refine F.bt_law13_SchemaRows.go mixed rfl ?_
  by_cases hc : tabE t = 0
  rotate_left
  · repeat' first
      | refine st ?_
      | ((with_reducible apply go_i); (conv => whnf))
      | ((with_reducible apply k_pn); (· first | exact h1 | exact hA))
      | ((with_reducible apply k_pc); (· first | exact h1 | exact hA))
      | (with_reducible apply k_d <;> intro _)
      | (with_reducible apply k_b <;> intro _)
    all_goals rfl
  by_cases ha : acc row t.cs = 0
  rotate_left
  · rw [hc] at h1
    repeat' first
      | refine st ?_
      | ((with_reducible apply go_i); (conv => whnf))
      | ((with_reducible apply k_pn); (· first | exact h1 | exact h2 | exact hA))
      | ((with_reducible apply k_pc); (· first | exact h1 | exact h2 | exact hA))
      | (with_reducible apply k_d <;> intro _)
      | (with_reducible apply k_b <;> intro _)
    all_goals rfl
  have hkk := acc_key ha (tabE_ok hc).2.2.1
  rw [hc] at h1
  rw [ha] at h2
  rw [acc_fits ha] at h5
  obtain ⟨A, hAe⟩ : ∃ A, A = pick row t.ks := ⟨_, rfl⟩
  have hAl : A.length = t.ks.length := by rw [hAe]; unfold pick; rw [List.length_map]
  have hAk : ∀ v ∈ A, v.k ≠ 0 := by
    intro v hv
    rw [hAe] at hv
    obtain ⟨k, hk, rfl⟩ := List.mem_map.1 hv
    exact hkk k hk
  rw [← hAe] at h3
  have q1 := eVs_len A
  have q2 := eVs_mem A
  have q3 := eIs_len t.ks
  have hdk := h.dk
  have hks := h.hk
  have q4 : (eVs A).length = (eIs t.ks).length := by omega
  repeat' first
    | refine st ?_
    | ((with_reducible apply go_i); (conv => whnf))
    | ((with_reducible apply k_pn); (· first | exact h1 | exact h2 | exact h3))
    | ((with_reducible apply k_pc); (· first | exact h1 | exact h2 | exact h3))
    | (with_reducible apply k_d <;> intro _)
    | (with_reducible apply k_b <;> intro _)
  refine x_loop1 mixed Lt.bt_law13_SchemaRows_l0 Lk.bt_law13_SchemaRows_l0 (fun (i : Nat) => [.d (eI i)]) (fun i => [.cells [.d (.str t.nm), .d dc, .d dk, .d df, .d dx]]) (fun i => i ≤ A.length) (fun i => A.length - i) 0 rfl rfl rfl rfl (fun _ _ => ⟨rfl, rfl⟩) rfl (Nat.zero_le _) ?_
  repeat' first
    | refine st ?_
    | ((with_reducible apply go_i); (conv => whnf))
    | (with_reducible apply k_d <;> intro _)
    | (with_reducible apply k_b <;> intro _)
  intro i h4'
  cases hx : A[i]? with
  | some v =>
    have hlt := (List.getElem?_eq_some_iff.1 hx).1
    have hg := eVs_get hx
    have hv := hAk v (List.mem_of_getElem? hx)
    repeat' first
      | refine st ?_
      | ((with_reducible apply go_i); (conv => whnf))
      | (with_reducible apply k_d <;> intro _)
      | (with_reducible apply k_b <;> intro _)
    exact ⟨i + 1, rfl, rfl, rfl, by omega, by omega⟩
  | none =>
    have hge := List.getElem?_eq_none_iff.1 hx
    repeat' first
      | refine st ?_
      | ((with_reducible apply go_i); (conv => whnf))
      | ((with_reducible apply k_pn); (· first | exact h4 | exact h5 | exact hA))
      | ((with_reducible apply k_pc); (· first | exact h4 | exact h5 | exact hA))
      | (with_reducible apply k_d <;> intro _)
      | (with_reducible apply k_b <;> intro _)
    all_goals rfl
theorem L.SchemaFinds (t : Tb) (dc dk df dx : D) (h : Tok t dc dk df dx) : Pure Try.prog N.bt_law13_SchemaFinds [eT t.nm dc dk df dx] (.d (.bool true)) := by
  have h1 := C.schema_Check t dc dk df dx h
  have h2 := C.schema_Name t.nm h.hn
  have hA := C.law13_awake
  refine F.bt_law13_SchemaFinds.go mixed rfl ?_
  by_cases hc : tabE t = 0
  rotate_left
  · repeat' first
      | refine st ?_
      | ((with_reducible apply go_i); (conv => whnf))
      | ((with_reducible apply k_pn); (· first | exact h1 | exact hA))
      | ((with_reducible apply k_pc); (· first | exact h1 | exact hA))
      | (with_reducible apply k_d <;> intro _)
      | (with_reducible apply k_b <;> intro _)
    all_goals rfl
  rw [hc] at h1
  obtain ⟨o1, o2, o3, o4⟩ := tabE_ok hc
  rw [o1] at h2
  have hdc := h.dc
  have q1 := eCs_len t.cs
  have q2 := eCs_mem t.cs
  have hl := h.hl
  repeat' first
    | refine st ?_
    | ((with_reducible apply go_i); (conv => whnf))
    | ((with_reducible apply k_pn); (· exact h1))
    | ((with_reducible apply k_pc); (· exact h1))
    | (with_reducible apply k_d <;> intro _)
    | (with_reducible apply k_b <;> intro _)
  refine x_loop1 mixed Lt.bt_law13_SchemaFinds_l0 Lk.bt_law13_SchemaFinds_l0 (fun (i : Nat) => [.d (eI i)]) (fun i => [.cells [.d (.str t.nm), .d dc, .d dk, .d df, .d dx]]) (fun i => i ≤ t.cs.length) (fun i => t.cs.length - i) 0 rfl rfl rfl rfl (fun _ _ => ⟨rfl, rfl⟩) rfl (Nat.zero_le _) ?_
  repeat' first
    | refine st ?_
    | ((with_reducible apply go_i); (conv => whnf))
    | (with_reducible apply k_d <;> intro _)
    | (with_reducible apply k_b <;> intro _)
  intro i h4'
  cases hx : t.cs[i]? with
  | some c =>
    have hlt := (List.getElem?_eq_some_iff.1 hx).1
    have hg := eCs_get hx
    have hF := C.schema_Find t.nm t.cs h.hl dc dk df dx h.dc c.nm
    rw [findC_at o2 hx] at hF
    have hN := C.schema_Name c.nm (h.hls c (List.mem_of_getElem? hx))
    rw [(colF_ok (colE_ok o2).2.2 i c hx).1] at hN
    repeat' first
      | refine st ?_
      | ((with_reducible apply go_i); (conv => whnf))
      | ((with_reducible apply k_pn); (· first | exact hF | exact hN))
      | ((with_reducible apply k_pc); (· first | exact hF | exact hN))
      | (with_reducible apply k_d <;> intro _)
      | (with_reducible apply k_b <;> intro _)
    exact ⟨i + 1, rfl, rfl, rfl, by omega, by omega⟩
  | none =>
    have hge := List.getElem?_eq_none_iff.1 hx
    repeat' first
      | refine st ?_
      | ((with_reducible apply go_i); (conv => whnf))
      | ((with_reducible apply k_pn); (· first | exact h2 | exact hA))
      | ((with_reducible apply k_pc); (· first | exact h2 | exact hA))
      | (with_reducible apply k_d <;> intro _)
      | (with_reducible apply k_b <;> intro _)
    all_goals rfl
end Go.Proofs
end
section
/- What the laws are handed: values, rows, numbers, and their bulk. No condition. -/
set_option linter.unusedSimpArgs false
set_option linter.unusedVariables false
set_option maxRecDepth 10000
set_option maxHeartbeats 4000000
namespace Go.Proofs
open Go.Bi

abbrev T.int : TypeId := 3
abbrev T.bool : TypeId := 4
abbrev T.str : TypeId := 9
abbrev T.val : TypeId := 42
abbrev T.ints : TypeId := 23
abbrev T.vals : TypeId := 33
theorem cells_int : Try.prog.cellsOf T.int = 1 := by kernel_rfl
theorem cells_str : Try.prog.cellsOf T.str = 1 := by kernel_rfl
theorem cells_val : Try.prog.cellsOf T.val = 3 := by kernel_rfl
theorem cells_bool : Try.prog.cellsOf T.bool = 1 := by kernel_rfl
theorem wt_bool {ds : List D} (h : WT Try.prog T.bool ds) : ∃ b, ds = [.bool b] := h.bool' Try.underlying4
theorem wt_int {ds : List D} (h : WT Try.prog T.int ds) : ∃ n, ds = [eI n] := by
  obtain ⟨a, ha, _, _⟩ := h.int' Try.underlying3
  exact ⟨a, ha⟩
theorem wt_str {ds : List D} (h : WT Try.prog T.str ds) : ∃ s, ds = [.str s] := by
  obtain ⟨a, ha, _⟩ := h.str' Try.underlying9
  exact ⟨a, ha⟩
theorem wt_val {ds : List D} (h : WT Try.prog T.val ds) : ∃ v : Vl, ds = v.ds := by
  obtain ⟨hl, hf⟩ := h.st' Try.underlying42
  rw [cells_val] at hl
  match ds, hl with
  | [x, y, z], _ =>
    have h0 := hf _ (List.mem_cons_self ..)
    have h1 := hf _ (List.mem_cons_of_mem _ (List.mem_cons_self ..))
    have h2 := hf _ (List.mem_cons_of_mem _ (List.mem_cons_of_mem _ (List.mem_cons_self ..)))
    dsimp only at h0 h1 h2
    rw [cells_int] at h0 h1
    rw [cells_str] at h2
    obtain ⟨a, ha⟩ := wt_int h0
    obtain ⟨b, hb⟩ := wt_int h1
    obtain ⟨s, hs⟩ := wt_str h2
    simp at ha hb hs
    exact ⟨⟨a, b, s⟩, by rw [ha, hb, hs]⟩
theorem wt_ints {ds : List D} (h : WT Try.prog T.ints ds) : ∃ d ks, ds = [d] ∧ SlD d (eIs ks) := by
  obtain ⟨d, es, h1, h2, h4, h3⟩ := h.sl' Try.underlying23
  have : ∃ ks, es = eIs ks := by
    clear h1 h2 h4
    induction es with
    | nil => exact ⟨[], rfl⟩
    | cons x es ih =>
      obtain ⟨n, hn⟩ := wt_int (h3 x (by simp))
      obtain ⟨ks, hk⟩ := ih fun y hy => h3 y (by simp [hy])
      exact ⟨n :: ks, by rw [hn, hk]; rfl⟩
  obtain ⟨ks, rfl⟩ := this
  exact ⟨d, ks, h1, h2⟩
theorem wt_vals {ds : List D} (h : WT Try.prog T.vals ds) : ∃ d row, ds = [d] ∧ SlD d (eVs row) := by
  obtain ⟨d, es, h1, h2, h4, h3⟩ := h.sl' Try.underlying33
  have : ∃ row, es = eVs row := by
    clear h1 h2 h4
    induction es with
    | nil => exact ⟨[], rfl⟩
    | cons x es ih =>
      obtain ⟨n, hn⟩ := wt_val (h3 x (by simp))
      obtain ⟨ks, hk⟩ := ih fun y hy => h3 y (by simp [hy])
      exact ⟨n :: ks, by rw [hn, hk]; rfl⟩
  obtain ⟨ks, rfl⟩ := this
  exact ⟨d, ks, h1, h2⟩
theorem av_ints (d : D) : avOf Try.prog T.ints [d] = .d d := by unfold avOf; rw [Try.underlying23]
theorem av_vals (d : D) : avOf Try.prog T.vals [d] = .d d := by unfold avOf; rw [Try.underlying33]
theorem av_int (d : D) : avOf Try.prog T.int [d] = .d d := by unfold avOf; rw [Try.underlying3]
theorem sld_bulk {d : D} {es : List (List D)} (h : SlD d es) : bulkLL es ≤ bulkL [d] := by
  rcases h with ⟨rfl, rfl⟩ | rfl
  · simp [bulkLL]
  · simp only [bulkL, bulkD]; omega
theorem ints_bulk {d : D} {ks : List Int} (h : SlD d (eIs ks)) : ks.length ≤ bulkL [d] := by
  have h1 := sld_bulk h
  have h2 : (eIs ks).length ≤ bulkLL (eIs ks) := bulkLL_len fun x hx => by
    obtain ⟨k, _, rfl⟩ := List.mem_map.1 hx
    simp [bulkL, bulkD]
  rw [eIs_len] at h2
  omega
theorem vals_bulk {d : D} {row : List Vl} (h : SlD d (eVs row)) : row.length ≤ bulkL [d] ∧ ∀ v ∈ row, v.s.length ≤ bulkL [d] := by
  have h1 := sld_bulk h
  have h2 : (eVs row).length ≤ bulkLL (eVs row) := bulkLL_len fun x hx => by
    obtain ⟨k, _, rfl⟩ := List.mem_map.1 hx
    simp only [Vl.ds, bulkL, bulkD]; omega
  rw [eVs_len] at h2
  refine ⟨by omega, fun v hv => ?_⟩
  have h3 : bulkL v.ds ≤ bulkLL (eVs row) := bulkLL_mem (List.mem_map.2 ⟨v, hv, rfl⟩)
  have h4 : v.s.length ≤ bulkL v.ds := by simp only [Vl.ds, bulkL, bulkD]; omega
  omega
theorem bulkR (H : Type) : Bulk (H := H) Go.Proofs.Ytliodmbpolmpjaa.Rows.uptoBulk Go.Proofs.Ytliodmbpolmpjaa.Rows.uptoBulkAll where
  lit l := by unfold Go.Proofs.Ytliodmbpolmpjaa.Rows.uptoBulk; split <;> simp_all
  str b := by simp [Go.Proofs.Ytliodmbpolmpjaa.Rows.uptoBulk]
  nil := by simp [Go.Proofs.Ytliodmbpolmpjaa.Rows.uptoBulk]
  sl es sp := by simp [Go.Proofs.Ytliodmbpolmpjaa.Rows.uptoBulk]
  agg ps := by simp [Go.Proofs.Ytliodmbpolmpjaa.Rows.uptoBulk]
  cons x l := by simp [Go.Proofs.Ytliodmbpolmpjaa.Rows.uptoBulkAll]
end Go.Proofs
end
section
/- What the laws are handed: expressions. No condition. -/
set_option linter.unusedSimpArgs false
set_option linter.unusedVariables false
set_option maxRecDepth 10000
set_option maxHeartbeats 4000000
namespace Go.Proofs
open Go.Bi

abbrev T.exs : TypeId := 25
abbrev T.ex : TypeId := 68
theorem cells_exs : Try.prog.cellsOf T.exs = 1 := by kernel_rfl
theorem cells_ex : Try.prog.cellsOf T.ex = 7 := by kernel_rfl
theorem wt_ex' {t : TypeId} {ds : List D} (h : WT Try.prog t ds) : (t = T.ex → ∃ e : Ex, ds = e.ds) ∧ (t = T.exs → ∃ nl args, ds = [ng nl (xL args)]) := by
  induction h with
  | int h => exact ⟨fun e => (by subst e; rw [Try.underlying68] at h; cases h), fun e => (by subst e; rw [Try.underlying25] at h; cases h)⟩
  | bool h => exact ⟨fun e => (by subst e; rw [Try.underlying68] at h; cases h), fun e => (by subst e; rw [Try.underlying25] at h; cases h)⟩
  | str h => exact ⟨fun e => (by subst e; rw [Try.underlying68] at h; cases h), fun e => (by subst e; rw [Try.underlying25] at h; cases h)⟩
  | nil h => exact ⟨fun e => (by subst e; rw [Try.underlying68] at h; cases h), fun e => ⟨true, [], rfl⟩⟩
  | @sl t e es h hl hs he ih =>
    refine ⟨fun e => (by subst e; rw [Try.underlying68] at h; cases h), fun e' => ?_⟩
    subst e'
    rw [Try.underlying25] at h
    cases h
    have : ∃ l, es = xL l := by
      clear he hs hl
      induction es with
      | nil => exact ⟨[], rfl⟩
      | cons x es ihh =>
        obtain ⟨n, hn⟩ := (ih x (by simp)).1 rfl
        obtain ⟨ks, hk⟩ := ihh fun y hy => ih y (by simp [hy])
        exact ⟨n :: ks, by rw [hn, hk]; rfl⟩
    obtain ⟨l, rfl⟩ := this
    exact ⟨false, l, rfl⟩
  | @st t fs ds h hl hf ih =>
    refine ⟨fun e => ?_, fun e => (by subst e; rw [Try.underlying25] at h; cases h)⟩
    subst e
    rw [Try.underlying68] at h
    cases h
    rw [cells_ex] at hl
    match ds, hl with
    | [d0, d1, d2, d3, d4, d5, d6], _ =>
      have h0 := hf _ (List.mem_cons_self ..)
      have h1 := hf _ (List.mem_cons_of_mem _ (List.mem_cons_self ..))
      have h2 := hf _ (List.mem_cons_of_mem _ (List.mem_cons_of_mem _ (List.mem_cons_self ..)))
      have h3 := hf _ (List.mem_cons_of_mem _ (List.mem_cons_of_mem _ (List.mem_cons_of_mem _ (List.mem_cons_self ..))))
      have h4 := (ih _ (List.mem_cons_of_mem _ (List.mem_cons_of_mem _ (List.mem_cons_of_mem _ (List.mem_cons_of_mem _ (List.mem_cons_self ..)))))).2 rfl
      dsimp only at h0 h1 h2 h3 h4
      rw [cells_int] at h0 h1
      rw [cells_val] at h2
      rw [cells_str] at h3
      rw [cells_exs] at h4
      obtain ⟨a, ha⟩ := wt_int h0
      obtain ⟨b, hb⟩ := wt_int h1
      obtain ⟨v, hv⟩ := wt_val h2
      obtain ⟨s, hs⟩ := wt_str h3
      obtain ⟨nl, args, hx⟩ := h4
      simp at ha hb hs hx
      refine ⟨.mk a b v s nl args, ?_⟩
      rw [Ex.ds_mk, ha, hb, hs, hx]
      have hv : [d2, d3, d4] = [eI v.k, eI v.n, .str v.s] := hv
      simp only [List.cons.injEq, and_true] at hv
      rw [hv.1, hv.2.1, hv.2.2]
theorem wt_ex {ds : List D} (h : WT Try.prog T.ex ds) : ∃ e : Ex, ds = e.ds := (wt_ex' h).1 rfl
theorem av_ex (e : Ex) : avOf Try.prog T.ex e.ds = e.av := by unfold avOf; rw [Try.underlying68]; rfl
end Go.Proofs
end
section
/- What the laws are handed: definitions of tables. No condition. -/
set_option linter.unusedSimpArgs false
set_option linter.unusedVariables false
set_option maxRecDepth 10000
set_option maxHeartbeats 4000000
namespace Go.Proofs
open Go.Bi

abbrev T.co : TypeId := 38
abbrev T.cos : TypeId := 22
abbrev T.fo : TypeId := 65
abbrev T.fos : TypeId := 24
abbrev T.tb : TypeId := 27
theorem cells_co : Try.prog.cellsOf T.co = 3 := by kernel_rfl
theorem cells_cos : Try.prog.cellsOf T.cos = 1 := by kernel_rfl
theorem cells_ints : Try.prog.cellsOf T.ints = 1 := by kernel_rfl
theorem cells_fo : Try.prog.cellsOf T.fo = 2 := by kernel_rfl
theorem cells_fos : Try.prog.cellsOf T.fos = 1 := by kernel_rfl
theorem cells_tb : Try.prog.cellsOf T.tb = 5 := by kernel_rfl
theorem wt_co {ds : List D} (h : WT Try.prog T.co ds) : ∃ c : Co, ds = c.ds := by
  obtain ⟨hl, hf⟩ := h.st' Try.underlying38
  rw [cells_co] at hl
  match ds, hl with
  | [x, y, z], _ =>
    have h0 := hf _ (List.mem_cons_self ..)
    have h1 := hf _ (List.mem_cons_of_mem _ (List.mem_cons_self ..))
    have h2 := hf _ (List.mem_cons_of_mem _ (List.mem_cons_of_mem _ (List.mem_cons_self ..)))
    dsimp only at h0 h1 h2
    rw [cells_str] at h0
    rw [cells_int] at h1
    rw [cells_bool] at h2
    obtain ⟨a, ha⟩ := wt_str h0
    obtain ⟨b, hb⟩ := wt_int h1
    obtain ⟨s, hs⟩ := wt_bool h2
    simp at ha hb hs
    exact ⟨⟨a, b, s⟩, by rw [ha, hb, hs]⟩
theorem wt_cos {ds : List D} (h : WT Try.prog T.cos ds) : ∃ d l, ds = [d] ∧ SlD d (eCs l) := by
  obtain ⟨d, es, h1, h2, h4, h3⟩ := h.sl' Try.underlying22
  have : ∃ l, es = eCs l := by
    clear h1 h2 h4
    induction es with
    | nil => exact ⟨[], rfl⟩
    | cons x es ih =>
      obtain ⟨n, hn⟩ := wt_co (h3 x (by simp))
      obtain ⟨ks, hk⟩ := ih fun y hy => h3 y (by simp [hy])
      exact ⟨n :: ks, by rw [hn, hk]; rfl⟩
  obtain ⟨ks, rfl⟩ := this
  exact ⟨d, ks, h1, h2⟩
theorem wt_fo {ds : List D} (h : WT Try.prog T.fo ds) : ∃ f : Fo, ds = f.ds := by
  obtain ⟨hl, hf⟩ := h.st' Try.underlying65
  rw [cells_fo] at hl
  match ds, hl with
  | [x, y], _ =>
    have h0 := hf _ (List.mem_cons_self ..)
    have h1 := hf _ (List.mem_cons_of_mem _ (List.mem_cons_self ..))
    dsimp only at h0 h1
    rw [cells_ints] at h0
    rw [cells_str] at h1
    obtain ⟨d, ks, ha, hd⟩ := wt_ints h0
    obtain ⟨s, hs⟩ := wt_str h1
    simp at ha hs
    rcases hd with ⟨rfl, he⟩ | rfl
    · have : ks = [] := by cases ks with
        | nil => rfl
        | cons k ks => cases he
      subst this
      exact ⟨⟨true, [], s⟩, by rw [ha, hs]; rfl⟩
    · exact ⟨⟨false, ks, s⟩, by rw [ha, hs]; rfl⟩
theorem wt_fos {ds : List D} (h : WT Try.prog T.fos ds) : ∃ d l, ds = [d] ∧ SlD d (eFs l) := by
  obtain ⟨d, es, h1, h2, h4, h3⟩ := h.sl' Try.underlying24
  have : ∃ l, es = eFs l := by
    clear h1 h2 h4
    induction es with
    | nil => exact ⟨[], rfl⟩
    | cons x es ih =>
      obtain ⟨n, hn⟩ := wt_fo (h3 x (by simp))
      obtain ⟨ks, hk⟩ := ih fun y hy => h3 y (by simp [hy])
      exact ⟨n :: ks, by rw [hn, hk]; rfl⟩
  obtain ⟨ks, rfl⟩ := this
  exact ⟨d, ks, h1, h2⟩
theorem wt_exs {ds : List D} (h : WT Try.prog T.exs ds) : ∃ d l, ds = [d] ∧ SlD d (xL l) := by
  obtain ⟨nl, args, h⟩ := (wt_ex' h).2 rfl
  exact ⟨_, args, h, sld_ng⟩
theorem wt_tb {ds : List D} (h : WT Try.prog T.tb ds) : ∃ (t : Tb) (dc dk df dx : D), ds = [.str t.nm, dc, dk, df, dx] ∧ SlD dc (eCs t.cs) ∧ SlD dk (eIs t.ks) ∧ SlD df (eFs t.fs) ∧ SlD dx (xL t.xs) := by
  obtain ⟨hl, hf⟩ := h.st' Try.underlying27
  rw [cells_tb] at hl
  match ds, hl with
  | [d0, d1, d2, d3, d4], _ =>
    have h0 := hf _ (List.mem_cons_self ..)
    have h1 := hf _ (List.mem_cons_of_mem _ (List.mem_cons_self ..))
    have h2 := hf _ (List.mem_cons_of_mem _ (List.mem_cons_of_mem _ (List.mem_cons_self ..)))
    have h3 := hf _ (List.mem_cons_of_mem _ (List.mem_cons_of_mem _ (List.mem_cons_of_mem _ (List.mem_cons_self ..))))
    have h4 := hf _ (List.mem_cons_of_mem _ (List.mem_cons_of_mem _ (List.mem_cons_of_mem _ (List.mem_cons_of_mem _ (List.mem_cons_self ..)))))
    dsimp only at h0 h1 h2 h3 h4
    rw [cells_str] at h0
    rw [cells_cos] at h1
    rw [cells_ints] at h2
    rw [cells_fos] at h3
    rw [cells_exs] at h4
    obtain ⟨s, hs⟩ := wt_str h0
    obtain ⟨dc, l, h1, hc⟩ := wt_cos h1
    obtain ⟨dk, ks, h2, hk⟩ := wt_ints h2
    obtain ⟨df, fs, h3, hf⟩ := wt_fos h3
    obtain ⟨dx, xs, h4, hx⟩ := wt_exs h4
    simp at hs h1 h2 h3 h4
    exact ⟨⟨s, l, ks, fs, xs⟩, dc, dk, df, dx, by rw [hs, h1, h2, h3, h4], hc, hk, hf, hx⟩
theorem av_tb (n dc dk df dx : D) : avOf Try.prog T.tb [n, dc, dk, df, dx] = .agg [.d n, .d dc, .d dk, .d df, .d dx] := by unfold avOf; rw [Try.underlying27]; rfl
theorem av_str (d : D) : avOf Try.prog T.str [d] = .d d := by unfold avOf; rw [Try.underlying9]
theorem cos_bulk {d : D} {l : List Co} (h : SlD d (eCs l)) : l.length ≤ bulkL [d] ∧ ∀ v ∈ l, v.nm.length ≤ bulkL [d] := by
  have h1 := sld_bulk h
  have h2 : (eCs l).length ≤ bulkLL (eCs l) := bulkLL_len fun x hx => by
    obtain ⟨k, _, rfl⟩ := List.mem_map.1 hx
    simp only [Co.ds, bulkL, bulkD]; omega
  rw [eCs_len] at h2
  refine ⟨by omega, fun v hv => ?_⟩
  have h3 : bulkL v.ds ≤ bulkLL (eCs l) := bulkLL_mem (List.mem_map.2 ⟨v, hv, rfl⟩)
  have h4 : v.nm.length ≤ bulkL v.ds := by simp only [Co.ds, bulkL, bulkD]; omega
  omega
theorem fos_bulk {d : D} {l : List Fo} (h : SlD d (eFs l)) : l.length ≤ bulkL [d] ∧ ∀ f ∈ l, f.cs.length ≤ bulkL [d] ∧ f.tb.length ≤ bulkL [d] := by
  have h1 := sld_bulk h
  have h2 : (eFs l).length ≤ bulkLL (eFs l) := bulkLL_len fun x hx => by
    obtain ⟨k, _, rfl⟩ := List.mem_map.1 hx
    simp only [Fo.ds, bulkL, bulkD]; omega
  rw [eFs_len] at h2
  refine ⟨by omega, fun v hv => ?_⟩
  have h3 : bulkL v.ds ≤ bulkLL (eFs l) := bulkLL_mem (List.mem_map.2 ⟨v, hv, rfl⟩)
  have h4 : v.tb.length ≤ bulkL v.ds := by simp only [Fo.ds, bulkL, bulkD]; omega
  have h5 : v.cs.length ≤ bulkL [v.d] := ints_bulk v.sld
  have h6 : bulkL [v.d] ≤ bulkL v.ds := by simp only [Fo.ds, bulkL]; omega
  omega
theorem exs_bulk {d : D} {l : List Ex} (h : SlD d (xL l)) : l.length ≤ bulkL [d] ∧ ∀ e ∈ l, e.bk ≤ bulkL [d] := by
  have h1 := sld_bulk h
  have h2 := xL_bulk_len l
  refine ⟨by omega, fun v hv => ?_⟩
  have h3 : bulkL v.ds ≤ bulkLL (xL l) := bulkLL_mem (List.mem_map.2 ⟨v, hv, rfl⟩)
  unfold Ex.bk
  omega
theorem tb_tok {t : Tb} {dc dk df dx : D} (hb : bulkL [.str t.nm, dc, dk, df, dx] ≤ 1048576) (hc : SlD dc (eCs t.cs)) (hk : SlD dk (eIs t.ks)) (hf : SlD df (eFs t.fs)) (hx : SlD dx (xL t.xs)) : Tok t dc dk df dx := by
  have h1 := cos_bulk hc
  have h2 := ints_bulk hk
  have h3 := fos_bulk hf
  have h4 := exs_bulk hx
  have e : bulkL [.str t.nm, dc, dk, df, dx] = t.nm.length + 1 + (bulkL [dc] + (bulkL [dk] + (bulkL [df] + bulkL [dx]))) := by simp only [bulkL, bulkD]; omega
  rw [e] at hb
  exact { hn := by omega, hl := by omega, hls := fun c hc => Nat.le_trans (h1.2 c hc) (by omega), hk := by omega, hfl := by omega, hfc := fun f hf => ⟨Nat.le_trans (h3.2 f hf).1 (by omega), Nat.le_trans (h3.2 f hf).2 (by omega)⟩, hxs := by omega, hxb := fun e he => Nat.le_trans (h4.2 e he) (by omega), dc := hc, dk := hk, df := hf, dx := hx }
end Go.Proofs
end
section
/- The laws and what they are handed. No condition. -/
end
