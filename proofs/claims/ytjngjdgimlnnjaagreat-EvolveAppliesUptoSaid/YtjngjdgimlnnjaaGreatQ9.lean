/- Texts of this claim, joined. No condition. -/
import Derived.Test.YtjngjdgimlnnjaaGreatQ8
set_option linter.unusedSimpArgs false
set_option linter.unusedVariables false
set_option maxRecDepth 10000
set_option maxHeartbeats 4000000
section
namespace Go.Proofs
open Go.Bi
abbrev TD.ds (x : TD) : List D := [.str x.t.nm, x.dc, x.dk, x.df, x.dx]
theorem wt_td {ds : List D} (h : WT Tryz.prog T.tb ds) : ∃ x : TD, ds = x.ds ∧ SlD x.dc (eCs x.t.cs) ∧ SlD x.dk (eIs x.t.ks) ∧ SlD x.df (eFs x.t.fs) ∧ SlD x.dx (xL x.t.xs) ∧ x.t.Rg := by
 obtain ⟨hl, hf⟩ := h.st' Tryz.underlying27
 rw [cells_tb] at hl
 match ds, hl with
 | [d0, d1, d2, d3, d4], _ =>
  have h0 := hf _ (List.mem_cons_self ..)
  have h1 := hf _ (List.mem_cons_of_mem _ (List.mem_cons_self ..))
  have h2 := hf _ (List.mem_cons_of_mem _ (List.mem_cons_of_mem _ (List.mem_cons_self ..)))
  have h3 := hf _ (List.mem_cons_of_mem _ (List.mem_cons_of_mem _ (List.mem_cons_of_mem _ (List.mem_cons_self ..))))
  have h4 := hf _ (List.mem_cons_of_mem _ (List.mem_cons_of_mem _ (List.mem_cons_of_mem _ (List.mem_cons_of_mem _ (List.mem_cons_self ..)))))
  dsimp only at h0 h1 h2 h3 h4
  rw [cells_str] at h0
  rw [cells_cos] at h1
  rw [cells_ints] at h2
  rw [cells_fos] at h3
  rw [cells_exs] at h4
  obtain ⟨s, hs⟩ := wt_str h0
  obtain ⟨dc, l, h1, hc⟩ := wt_cos h1
  obtain ⟨dk, ks, h2, hk⟩ := wt_ints h2
  obtain ⟨df, fs, h3, hf⟩ := wt_fos h3
  obtain ⟨nl, xs, h4, hx⟩ := wt_exsr h4
  simp at hs h1 h2 h3 h4
  exact ⟨⟨⟨s, l, ks, fs, xs⟩, dc, dk, df, ng nl (xL xs)⟩, by rw [hs, h1, h2, h3, h4], hc, hk, hf, sld_ng, hx⟩
theorem td_ok {x : TD} (hb : bulkL x.ds ≤ 1048576) (h : SlD x.dc (eCs x.t.cs) ∧ SlD x.dk (eIs x.t.ks) ∧ SlD x.df (eFs x.t.fs) ∧ SlD x.dx (xL x.t.xs) ∧ x.t.Rg) : x.ok :=
 ⟨tb_tok hb h.1 h.2.1 h.2.2.1 h.2.2.2.1, h.2.2.2.2⟩
end Go.Proofs
end
