/- EvolveIndices, where what it reads is of bulk at most 1048576: the law returns true, and its arguments read as they did. -/
import Derived.Test.YtjngjdgimlnnjaaGreatQ8
import Derived.Test.YtjngjdgimlnnjaaGreatRows
import Derived.JoinedCond
set_option linter.unusedVariables false
set_option linter.unusedSimpArgs false
set_option maxRecDepth 20000
namespace Go.Proofs.YtjngjdgimlnnjaaGreat.evolveIndices
open Go.Bi Go.Proofs
theorem own : ownKnob Tryz.prog.godebug = none := by kernel_rfl
theorem law (dss : List (List D)) (h : WTs Tryz.prog [27, 33, 3] dss) (hb : bulkLL dss ≤ 1048576) : Pure Tryz.prog 5 (avs Tryz.prog [27, 33, 3] dss) (.d (.bool true)) := by
  match dss, h with
  | [d, e, f], ⟨_, h1, _, h2, _, h3, _⟩ =>
    obtain ⟨x, rfl, hx⟩ := wt_td h1
    obtain ⟨c, rfl⟩ := wt_ch h2
    obtain ⟨n, rfl⟩ := wt_int h3
    have hd : bulkL c.ds ≤ 1048576 := by simp only [bulkLL] at hb; omega
    have ht : bulkL x.ds ≤ 1048576 := by simp only [bulkLL] at hb; omega
    have e : avs Tryz.prog [27, 33, 3] [x.ds, c.ds, [eI n]] = [x.av, c.av, .d (eI n)] := by simp only [avs]; rw [av_ch, av_tb, av_int]
    rw [e]
    exact L.EvolveIndices x (td_ok ht hx) c (ch_cok hd) n C.law14_awake
set_option maxRecDepth 100000 in
theorem lifted (os : Os) (started : os.Started) (H : Type) (enc : TypeId × Value → H) (F : Stop.Interp) :
    ReturnsInHanded {} Tryz.checked os 5 .any ((Rows.OpenSpec.upto Rows.evolveIndicesSpec).pre6 enc Tryz.prog Tryz.f5 Rows.evolveIndicesUptoRow.domain false) (((Rows.OpenSpec.upto Rows.evolveIndicesSpec).at F).post enc Tryz.prog Tryz.f5 false true false false) := by
  refine returnsInHanded_of_cond (C := Tryz.checked) (s := Rows.OpenSpec.upto Rows.evolveIndicesSpec) (k := Rows.uptoSmall) rfl own started (by kernel_rfl) Tryz.func5
    (OpenSpec.witness (enc := enc) (C := Tryz.checked) (s := Rows.OpenSpec.upto Rows.evolveIndicesSpec) (k := Rows.uptoSmall) rfl false ⟨#[], #[.agg #[.string .empty, .slice none 0 0, .slice none 0 0, .slice none 0 0, .slice none 0 0], .agg #[.int .i64 0, .string .empty, .string .empty, .string .empty, .int .i64 0, .bool false, .int .i64 0, .int .i64 0, .string .empty], .int .i64 0], []⟩ 8 (by kernel_rfl) (by kernel_rfl) (by kernel_rfl)
      (x := ([.agg [.lit (.string []), .nil, .nil, .nil, .nil], .agg [.lit (.int .i64 0), .lit (.string []), .lit (.string []), .agg [.lit (.string []), .lit (.int .i64 0), .lit (.bool false)], .agg [.lit (.int .i64 0), .lit (.int .i64 0), .lit (.string [])]], .lit (.int .i64 0)], [], [])) (by kernel_rfl) rfl (by kernel_rfl)) ?_
  intro W base args ds gs before hval hW _ hk _
  have hp : Tryz.f5.params = #[27, 33, 3] := Tryz.params5
  have hb : Rows.uptoBulkAll ds ≤ 1048576 := by
    have hW2 := hW
    obtain ⟨p, q, hA, hV, rfl, hfz, hnd⟩ := hW2
    obtain ⟨rfl, rfl⟩ := Go.ChangeShapes.trodVars_none hV
    have h := of_decide_eq_true hk
    simpa using h
  have hr : ([27, 33, 3] : List TypeId).all (fun t => Tryz.prog.readableRec t && decide (t < Tryz.prog.types.size)) = true := by kernel_rfl
  refine law_contract (S := [27, 9, 22, 29, 3, 4, 23, 24, 56, 25, 67, 31, 33]) (bt := 4) (bulkR H) (by kernel_rfl) (by rw [hp]; intro t ht; revert t; decide) (by rw [hp]; intro t ht; have := List.all_eq_true.1 hr t ht; simpa using this) (by kernel_rfl) rfl (by kernel_rfl) Tryz.underlying4 (fun hl => ?_) hval hW (fun dss h hu => ?_)
  · rw [hp] at hl
    match ds, hl with
    | [d0, d1, d2], _ => rfl
  · rw [hp] at h ⊢
    exact law dss h (Nat.le_trans hu hb)
theorem over : Rows.evolveIndicesUptoRow.holds Tryz.pinned (Rows.OpenSpec.upto Rows.evolveIndicesSpec) :=
  OpenClaim.holds_of_cond 5 Tryz.f5 rfl rfl rfl rfl rfl rfl rfl ⟨rfl, rfl, rfl, rfl, rfl⟩ rfl rfl rfl rfl rfl (by kernel_rfl) Tryz.func5 (by kernel_rfl)
    (of_decide_eq_true (by kernel_rfl)) (by unfold Func.isWrapper; first | (rw [if_pos (by decide +kernel)]; kernel_rfl) | (rw [if_neg (by decide +kernel)]; exact ⟨rfl, rfl⟩))
    (fun os started H enc _ F => lifted os started H enc F)
theorem proved : Rows.EvolveIndicesUptoSaid := over
end Go.Proofs.YtjngjdgimlnnjaaGreat.evolveIndices
