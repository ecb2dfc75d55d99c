/- Texts of this claim, joined. No condition. -/
import Derived.Test.YtjngjdgimlnnjaaGreatQ8
set_option linter.unusedSimpArgs false
set_option linter.unusedVariables false
set_option maxRecDepth 10000
set_option maxHeartbeats 4000000
section
namespace Go.Proofs
open Go.Bi
abbrev T.ch : TypeId := 33
theorem cells_ch : Tryz.prog.cellsOf T.ch = 9 := by kernel_rfl
abbrev Ch.ds (c : Ch) : List D := [eI c.k, .str c.nm, .str c.to, .str c.co.nm, eI c.co.k, .bool c.co.nl, eI c.df.k, eI c.df.n, .str c.df.s]
theorem wt_ch {ds : List D} (h : WT Tryz.prog T.ch ds) : ∃ c : Ch, ds = c.ds := by
 obtain ⟨hl, hf⟩ := h.st' Tryz.underlying33
 rw [cells_ch] at hl
 match ds, hl with
 | [d0, d1, d2, d3, d4, d5, d6, d7, d8], _ =>
  have h0 := hf _ (List.mem_cons_self ..)
  have h1 := hf _ (List.mem_cons_of_mem _ (List.mem_cons_self ..))
  have h2 := hf _ (List.mem_cons_of_mem _ (List.mem_cons_of_mem _ (List.mem_cons_self ..)))
  have h3 := hf _ (List.mem_cons_of_mem _ (List.mem_cons_of_mem _ (List.mem_cons_of_mem _ (List.mem_cons_self ..))))
  have h4 := hf _ (List.mem_cons_of_mem _ (List.mem_cons_of_mem _ (List.mem_cons_of_mem _ (List.mem_cons_of_mem _ (List.mem_cons_self ..)))))
  dsimp only at h0 h1 h2 h3 h4
  rw [cells_int] at h0
  rw [cells_str] at h1 h2
  rw [cells_co] at h3
  rw [cells_val] at h4
  obtain ⟨k, h0⟩ := wt_int h0
  obtain ⟨nm, h1⟩ := wt_str h1
  obtain ⟨to, h2⟩ := wt_str h2
  obtain ⟨co, h3⟩ := wt_co h3
  obtain ⟨df, h4⟩ := wt_val h4
  simp at h0 h1 h2 h3 h4
  obtain ⟨e3, e4, e5⟩ := h3
  obtain ⟨e6, e7, e8⟩ := h4
  exact ⟨⟨k, nm, to, co, df⟩, by rw [h0, h1, h2, e3, e4, e5, e6, e7, e8]⟩
theorem ch_cok {c : Ch} (hb : bulkL c.ds ≤ 1048576) : Cok c := by
 simp only [Ch.ds, bulkL, bulkD] at hb
 exact ⟨by omega, by omega, by omega, by omega⟩
end Go.Proofs
end
section
namespace Go.Proofs
open Go.Bi
abbrev TD.ds (x : TD) : List D := [.str x.t.nm, x.dc, x.dk, x.df, x.dx]
theorem wt_td {ds : List D} (h : WT Tryz.prog T.tb ds) : ∃ x : TD, ds = x.ds ∧ SlD x.dc (eCs x.t.cs) ∧ SlD x.dk (eIs x.t.ks) ∧ SlD x.df (eFs x.t.fs) ∧ SlD x.dx (xL x.t.xs) ∧ x.t.Rg := by
 obtain ⟨hl, hf⟩ := h.st' Tryz.underlying27
 rw [cells_tb] at hl
 match ds, hl with
 | [d0, d1, d2, d3, d4], _ =>
  have h0 := hf _ (List.mem_cons_self ..)
  have h1 := hf _ (List.mem_cons_of_mem _ (List.mem_cons_self ..))
  have h2 := hf _ (List.mem_cons_of_mem _ (List.mem_cons_of_mem _ (List.mem_cons_self ..)))
  have h3 := hf _ (List.mem_cons_of_mem _ (List.mem_cons_of_mem _ (List.mem_cons_of_mem _ (List.mem_cons_self ..))))
  have h4 := hf _ (List.mem_cons_of_mem _ (List.mem_cons_of_mem _ (List.mem_cons_of_mem _ (List.mem_cons_of_mem _ (List.mem_cons_self ..)))))
  dsimp only at h0 h1 h2 h3 h4
  rw [cells_str] at h0
  rw [cells_cos] at h1
  rw [cells_ints] at h2
  rw [cells_fos] at h3
  rw [cells_exs] at h4
  obtain ⟨s, hs⟩ := wt_str h0
  obtain ⟨dc, l, h1, hc⟩ := wt_cos h1
  obtain ⟨dk, ks, h2, hk⟩ := wt_ints h2
  obtain ⟨df, fs, h3, hf⟩ := wt_fos h3
  obtain ⟨nl, xs, h4, hx⟩ := wt_exsr h4
  simp at hs h1 h2 h3 h4
  exact ⟨⟨⟨s, l, ks, fs, xs⟩, dc, dk, df, ng nl (xL xs)⟩, by rw [hs, h1, h2, h3, h4], hc, hk, hf, sld_ng, hx⟩
theorem td_ok {x : TD} (hb : bulkL x.ds ≤ 1048576) (h : SlD x.dc (eCs x.t.cs) ∧ SlD x.dk (eIs x.t.ks) ∧ SlD x.df (eFs x.t.fs) ∧ SlD x.dx (xL x.t.xs) ∧ x.t.Rg) : x.ok :=
 ⟨tb_tok hb h.1 h.2.1 h.2.2.1 h.2.2.2.1, h.2.2.2.2⟩
abbrev T.chs : TypeId := 40
theorem wt_chs {ds : List D} (h : WT Tryz.prog T.chs ds) : ∃ d l, ds = [d] ∧ SlD d (eChs l) := by
 obtain ⟨d, es, h1, h2, h4, h3⟩ := h.sl' Tryz.underlying40
 have : ∃ l, es = eChs l := by
  clear h1 h2 h4
  induction es with
  | nil => exact ⟨[], rfl⟩
  | cons x es ih =>
   obtain ⟨n, hn⟩ := wt_ch (h3 x (by simp))
   obtain ⟨ks, hk⟩ := ih fun y hy => h3 y (by simp [hy])
   exact ⟨n :: ks, by rw [hn, hk]; rfl⟩
 obtain ⟨ks, rfl⟩ := this
 exact ⟨d, ks, h1, h2⟩
theorem av_chs (d : D) : avOf Tryz.prog T.chs [d] = .d d := by unfold avOf; rw [Tryz.underlying40]
theorem chs_bulk {d : D} {l : List Ch} (h : SlD d (eChs l)) (hb : bulkL [d] ≤ 1048576) : l.length ≤ 1048576 ∧ ∀ c ∈ l, Cok c := by
 have h1 := sld_bulk h
 have h2 : (eChs l).length ≤ bulkLL (eChs l) := bulkLL_len fun x hx => by
  obtain ⟨k, _, rfl⟩ := List.mem_map.1 hx
  simp only [chds, bulkL, bulkD]; omega
 rw [eChs_len] at h2
 refine ⟨by omega, fun v hv => ?_⟩
 have h3 : bulkL (chds v) ≤ bulkLL (eChs l) := bulkLL_mem (List.mem_map.2 ⟨v, hv, rfl⟩)
 exact ch_cok (c := v) (by show bulkL (chds v) ≤ _; omega)
end Go.Proofs
end
