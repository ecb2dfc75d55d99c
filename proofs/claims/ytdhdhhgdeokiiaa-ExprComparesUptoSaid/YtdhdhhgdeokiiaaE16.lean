/- What the laws are handed: values, rows, kinds, expressions, and their bulk. No condition. -/
import Derived.Test.YtdhdhhgdeokiiaaE15
import Derived.Test.YtdhdhhgdeokiiaaE14
import Derived.Test.YtdhdhhgdeokiiaaE9
import Derived.Test.YtdhdhhgdeokiiaaRows
set_option linter.unusedSimpArgs false
set_option linter.unusedVariables false
set_option maxRecDepth 10000
set_option maxHeartbeats 4000000
namespace Go.Proofs
open Go.Bi

abbrev T.int : TypeId := 3
abbrev T.str : TypeId := 9
abbrev T.val : TypeId := 23
abbrev T.exs : TypeId := 24
abbrev T.ex : TypeId := 26
abbrev T.ints : TypeId := 27
abbrev T.vals : TypeId := 33
theorem cells_int : Try.prog.cellsOf T.int = 1 := by kernel_rfl
theorem cells_str : Try.prog.cellsOf T.str = 1 := by kernel_rfl
theorem cells_val : Try.prog.cellsOf T.val = 3 := by kernel_rfl
theorem cells_exs : Try.prog.cellsOf T.exs = 1 := by kernel_rfl
theorem cells_ex : Try.prog.cellsOf T.ex = 7 := by kernel_rfl
theorem wt_int {ds : List D} (h : WT Try.prog T.int ds) : ∃ n, ds = [eI n] := by
  obtain ⟨a, ha, _, _⟩ := h.int' Try.underlying3
  exact ⟨a, ha⟩
theorem wt_str {ds : List D} (h : WT Try.prog T.str ds) : ∃ s, ds = [.str s] := by
  obtain ⟨a, ha, _⟩ := h.str' Try.underlying9
  exact ⟨a, ha⟩
theorem wt_val {ds : List D} (h : WT Try.prog T.val ds) : ∃ v : Vl, ds = v.ds := by
  obtain ⟨hl, hf⟩ := h.st' Try.underlying23
  rw [cells_val] at hl
  match ds, hl with
  | [x, y, z], _ =>
    have h0 := hf _ (List.mem_cons_self ..)
    have h1 := hf _ (List.mem_cons_of_mem _ (List.mem_cons_self ..))
    have h2 := hf _ (List.mem_cons_of_mem _ (List.mem_cons_of_mem _ (List.mem_cons_self ..)))
    dsimp only at h0 h1 h2
    rw [cells_int] at h0 h1
    rw [cells_str] at h2
    obtain ⟨a, ha⟩ := wt_int h0
    obtain ⟨b, hb⟩ := wt_int h1
    obtain ⟨s, hs⟩ := wt_str h2
    simp at ha hb hs
    exact ⟨⟨a, b, s⟩, by rw [ha, hb, hs]⟩
theorem wt_ints {ds : List D} (h : WT Try.prog T.ints ds) : ∃ d ks, ds = [d] ∧ SlD d (eIs ks) := by
  obtain ⟨d, es, h1, h2, h4, h3⟩ := h.sl' Try.underlying27
  have : ∃ ks, es = eIs ks := by
    clear h1 h2 h4
    induction es with
    | nil => exact ⟨[], rfl⟩
    | cons x es ih =>
      obtain ⟨n, hn⟩ := wt_int (h3 x (by simp))
      obtain ⟨ks, hk⟩ := ih fun y hy => h3 y (by simp [hy])
      exact ⟨n :: ks, by rw [hn, hk]; rfl⟩
  obtain ⟨ks, rfl⟩ := this
  exact ⟨d, ks, h1, h2⟩
theorem wt_vals {ds : List D} (h : WT Try.prog T.vals ds) : ∃ d row, ds = [d] ∧ SlD d (eVs row) := by
  obtain ⟨d, es, h1, h2, h4, h3⟩ := h.sl' Try.underlying33
  have : ∃ row, es = eVs row := by
    clear h1 h2 h4
    induction es with
    | nil => exact ⟨[], rfl⟩
    | cons x es ih =>
      obtain ⟨n, hn⟩ := wt_val (h3 x (by simp))
      obtain ⟨ks, hk⟩ := ih fun y hy => h3 y (by simp [hy])
      exact ⟨n :: ks, by rw [hn, hk]; rfl⟩
  obtain ⟨ks, rfl⟩ := this
  exact ⟨d, ks, h1, h2⟩
theorem wt_ex' {t : TypeId} {ds : List D} (h : WT Try.prog t ds) : (t = T.ex → ∃ e : Ex, ds = e.ds) ∧ (t = T.exs → ∃ nl args, ds = [ng nl (xL args)]) := by
  induction h with
  | int h => exact ⟨fun e => (by subst e; rw [Try.underlying26] at h; cases h), fun e => (by subst e; rw [Try.underlying24] at h; cases h)⟩
  | bool h => exact ⟨fun e => (by subst e; rw [Try.underlying26] at h; cases h), fun e => (by subst e; rw [Try.underlying24] at h; cases h)⟩
  | str h => exact ⟨fun e => (by subst e; rw [Try.underlying26] at h; cases h), fun e => (by subst e; rw [Try.underlying24] at h; cases h)⟩
  | nil h => exact ⟨fun e => (by subst e; rw [Try.underlying26] at h; cases h), fun e => ⟨true, [], rfl⟩⟩
  | @sl t e es h hl hs he ih =>
    refine ⟨fun e => (by subst e; rw [Try.underlying26] at h; cases h), fun e' => ?_⟩
    subst e'
    rw [Try.underlying24] at h
    cases h
    have : ∃ l, es = xL l := by
      clear he hs hl
      induction es with
      | nil => exact ⟨[], rfl⟩
      | cons x es ihh =>
        obtain ⟨n, hn⟩ := (ih x (by simp)).1 rfl
        obtain ⟨ks, hk⟩ := ihh fun y hy => ih y (by simp [hy])
        exact ⟨n :: ks, by rw [hn, hk]; rfl⟩
    obtain ⟨l, rfl⟩ := this
    exact ⟨false, l, rfl⟩
  | @st t fs ds h hl hf ih =>
    refine ⟨fun e => ?_, fun e => (by subst e; rw [Try.underlying24] at h; cases h)⟩
    subst e
    rw [Try.underlying26] at h
    cases h
    rw [cells_ex] at hl
    match ds, hl with
    | [d0, d1, d2, d3, d4, d5, d6], _ =>
      have h0 := hf _ (List.mem_cons_self ..)
      have h1 := hf _ (List.mem_cons_of_mem _ (List.mem_cons_self ..))
      have h2 := hf _ (List.mem_cons_of_mem _ (List.mem_cons_of_mem _ (List.mem_cons_self ..)))
      have h3 := hf _ (List.mem_cons_of_mem _ (List.mem_cons_of_mem _ (List.mem_cons_of_mem _ (List.mem_cons_self ..))))
      have h4 := (ih _ (List.mem_cons_of_mem _ (List.mem_cons_of_mem _ (List.mem_cons_of_mem _ (List.mem_cons_of_mem _ (List.mem_cons_self ..)))))).2 rfl
      dsimp only at h0 h1 h2 h3 h4
      rw [cells_int] at h0 h1
      rw [cells_val] at h2
      rw [cells_str] at h3
      rw [cells_exs] at h4
      obtain ⟨a, ha⟩ := wt_int h0
      obtain ⟨b, hb⟩ := wt_int h1
      obtain ⟨v, hv⟩ := wt_val h2
      obtain ⟨s, hs⟩ := wt_str h3
      obtain ⟨nl, args, hx⟩ := h4
      simp at ha hb hs hx
      refine ⟨.mk a b v s nl args, ?_⟩
      rw [Ex.ds_mk, ha, hb, hs, hx]
      have hv : [d2, d3, d4] = [eI v.k, eI v.n, .str v.s] := hv
      simp only [List.cons.injEq, and_true] at hv
      rw [hv.1, hv.2.1, hv.2.2]
theorem wt_ex {ds : List D} (h : WT Try.prog T.ex ds) : ∃ e : Ex, ds = e.ds := (wt_ex' h).1 rfl
theorem av_ex (e : Ex) : avOf Try.prog T.ex e.ds = e.av := by unfold avOf; rw [Try.underlying26]; rfl
theorem av_ints (d : D) : avOf Try.prog T.ints [d] = .d d := by unfold avOf; rw [Try.underlying27]
theorem av_vals (d : D) : avOf Try.prog T.vals [d] = .d d := by unfold avOf; rw [Try.underlying33]
theorem av_int (d : D) : avOf Try.prog T.int [d] = .d d := by unfold avOf; rw [Try.underlying3]
theorem sld_bulk {d : D} {es : List (List D)} (h : SlD d es) : bulkLL es ≤ bulkL [d] := by
  rcases h with ⟨rfl, rfl⟩ | rfl
  · simp [bulkLL]
  · simp only [bulkL, bulkD]; omega
theorem ints_bulk {d : D} {ks : List Int} (h : SlD d (eIs ks)) : ks.length ≤ bulkL [d] := by
  have h1 := sld_bulk h
  have h2 : (eIs ks).length ≤ bulkLL (eIs ks) := bulkLL_len fun x hx => by
    obtain ⟨k, _, rfl⟩ := List.mem_map.1 hx
    simp [bulkL, bulkD]
  rw [eIs_len] at h2
  omega
theorem vals_bulk {d : D} {row : List Vl} (h : SlD d (eVs row)) : row.length ≤ bulkL [d] ∧ ∀ v ∈ row, v.s.length ≤ bulkL [d] := by
  have h1 := sld_bulk h
  have h2 : (eVs row).length ≤ bulkLL (eVs row) := bulkLL_len fun x hx => by
    obtain ⟨k, _, rfl⟩ := List.mem_map.1 hx
    simp only [Vl.ds, bulkL, bulkD]; omega
  rw [eVs_len] at h2
  refine ⟨by omega, fun v hv => ?_⟩
  have h3 : bulkL v.ds ≤ bulkLL (eVs row) := bulkLL_mem (List.mem_map.2 ⟨v, hv, rfl⟩)
  have h4 : v.s.length ≤ bulkL v.ds := by simp only [Vl.ds, bulkL, bulkD]; omega
  omega
theorem bulkR (H : Type) : Bulk (H := H) Go.Proofs.Ytdhdhhgdeokiiaa.Rows.uptoBulk Go.Proofs.Ytdhdhhgdeokiiaa.Rows.uptoBulkAll where
  lit l := by unfold Go.Proofs.Ytdhdhhgdeokiiaa.Rows.uptoBulk; split <;> simp_all
  str b := by simp [Go.Proofs.Ytdhdhhgdeokiiaa.Rows.uptoBulk]
  nil := by simp [Go.Proofs.Ytdhdhhgdeokiiaa.Rows.uptoBulk]
  sl es sp := by simp [Go.Proofs.Ytdhdhhgdeokiiaa.Rows.uptoBulk]
  agg ps := by simp [Go.Proofs.Ytdhdhhgdeokiiaa.Rows.uptoBulk]
  cons x l := by simp [Go.Proofs.Ytdhdhhgdeokiiaa.Rows.uptoBulkAll]
end Go.Proofs
