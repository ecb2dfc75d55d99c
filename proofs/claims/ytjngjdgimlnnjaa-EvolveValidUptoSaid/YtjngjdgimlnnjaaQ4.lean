/- Texts of this claim, joined. No condition. -/
import Derived.Test.YtjngjdgimlnnjaaQ3
import Derived.WalkKit
import Derived.Deep.RegionLaw
import Derived.Lib.SliceRun
import Derived.Lib.ReflectliteSwap
import Derived.Test.YtjngjdgimlnnjaaRows
set_option linter.unusedSimpArgs false
set_option linter.unusedVariables false
set_option maxRecDepth 10000
set_option maxHeartbeats 4000000
section
namespace Go.Proofs
open Go.RowKit Go.Lib
theorem tz_co : Bi.tz Try.prog 29 = some [.str [], .int .i64 0, .bool false] := by kernel_rfl
theorem under_cos : Try.prog.underlying 22 = some (.slice 29) := by kernel_rfl
theorem info_co : (Try.prog.info? 29).map (fun i => i.size) = some 3 := by kernel_rfl
theorem zeroCells_one (z : Array Value) (h : 0 < z.size) : (Builtin.zeroCells z 1).toList = z.toList := by
 apply List.ext_getElem?
 intro i
 simp only [Builtin.zeroCells, Nat.one_mul, Array.getElem?_toList, Array.getElem?_map, Array.getElem?_range]
 by_cases hi : i < z.size
 ·simp [hi, Nat.mod_eq_of_lt hi]
 ·simp [hi]
theorem run_clear_co (w : World) (ty : TypeId) (z : Value) (hv : ∀ w, (zeroValue 29).run Try.prog w = .ok z w) (hz : z.cells.size = 3) (h1 : ∀ u ∈ z.cells.toList, u.oneCell' = true) (b o c : Nat) (hc : ∀ j, j < 3 → (w.cell? ⟨b, o + j, none⟩).isSome = true) (hf : ∀ j, j < 3 → w.frozen? ⟨b, o + j, none⟩ = false) :
  (Builtin.clear_ #[22] ty #[.slice (some ⟨b, o, none⟩) 1 c]).run Try.prog w = .ok (.tuple #[]) (w.setCells b o z.cells.toList) := by
 have hzc := zeroCells_one z.cells (by omega)
 have hst := run_storeCells_cells (P := Try.prog) b o z.cells.toList 0 w (by simpa [hz] using hc) (by simpa [hz] using hf) h1
 simp only [Nat.add_zero] at hst
 simp [Builtin.clear_, run_underlying under_cos, hv, hzc, hst]
set_option maxHeartbeats 4000000 in
set_option maxRecDepth 1000000 in
theorem del_co (z : Value) (hv : ∀ w, (zeroValue 29).run Try.prog w = .ok z w) (hz : z.cells.size = 3) (hz1 : ∀ u ∈ z.cells.toList, u.oneCell' = true) (blk n cap i : Nat) (ca : Array Value) (w : World) (hi : i < n) (hl : n ≤ cap) (hm : cap ≤ 9223372036854775807) (hsz : ca.size = cap * 3)
  (hc : ∀ k, w.cell? ⟨blk, k, none⟩ = ca[k]?) (hf : ∀ k, k < ca.size → w.frozen? ⟨blk, k, none⟩ = false) (hone : ∀ k u, k < n * 3 → ca[k]? = some u → u.oneCell' = true) :
  Calls Try.prog 55 #[.slice (some ⟨blk, 0, none⟩) n cap, .int .i64 i, .int .i64 ((i : Int) + 1)] w fun e w' => e = .returned (.slice (some ⟨blk, 0, none⟩) (n - 1) cap) ∧
   w' = (w.drew.setCells blk (0 + i * 3) ((ca.toList.drop ((i + 1) * 3)).take ((n - (i + 1)) * 3))).setCells blk ((i + (n - (i + 1))) * 3) z.cells.toList := by
 obtain ⟨i0, hi0, hz1'⟩ := Option.map_eq_some_iff.1 info_co
 obtain ⟨news, hnews⟩ : ∃ news, news = (ca.toList.drop ((i + 1) * 3)).take ((n - (i + 1)) * 3) := ⟨_, rfl⟩
 have hlen : news.length = (n - (i + 1)) * 3 := by rw [hnews]; simp; omega
 have hget : ∀ t, t < (n - (i + 1)) * 3 → news[t]? = ca[(i + 1) * 3 + t]? := by
  intro t ht
  rw [hnews, List.getElem?_take, if_pos ht, List.getElem?_drop, Array.getElem?_toList]
 obtain ⟨A, hA, hsrc⟩ : ∃ A : Addr, (if cap = i + 1 then some (⟨blk, 0, none⟩ : Addr) else some ⟨blk, (i + 1) * 3, none⟩) = some A ∧ Hid (∀ t u, news[t]? = some u → w.drew.cell? (A.add t) = some u) := by
  by_cases h : cap = i + 1
  ·refine ⟨⟨blk, 0, none⟩, by simp [h], fun t u hu => ?_⟩
   have h0 : news.length = 0 := by rw [hlen]; omega
   rw [List.length_eq_zero_iff.1 h0] at hu
   simp at hu
  ·refine ⟨⟨blk, (i + 1) * 3, none⟩, by simp [h], fun t u hu => ?_⟩
   have ht : t < (n - (i + 1)) * 3 := by
    have := (List.getElem?_eq_some_iff.1 hu).1
    rwa [hlen] at this
   rw [hget t ht] at hu
   rw [Addr.add_lit]
   exact (hc _).trans hu
 have s1 : Hid (news.length = (n - (i + 1)) * 3) := hlen
 have s2 : Hid (∀ u ∈ news, u.oneCell' = true) := by
  intro u hu
  obtain ⟨t, ht⟩ := List.mem_iff_getElem?.1 hu
  have htl : t < (n - (i + 1)) * 3 := by
   have := (List.getElem?_eq_some_iff.1 ht).1
   rwa [hlen] at this
  rw [hget t htl] at ht
  exact hone _ u (by omega) ht
 have s3 : Hid (∀ t, t < news.length → (w.drew.cell? ⟨blk, 0 + i * 3 + t, none⟩).isSome = true ∧ w.drew.frozen? ⟨blk, 0 + i * 3 + t, none⟩ = false) := by
  intro t ht
  rw [hlen] at ht
  have hk : 0 + i * 3 + t < ca.size := by omega
  refine ⟨?_, hf _ hk⟩
  show (w.cell? _).isSome = true
  rw [hc, Array.getElem?_eq_getElem hk]; rfl
 obtain ⟨W1, hW1⟩ : ∃ W1, W1 = w.drew.setCells blk (0 + i * 3) news := ⟨_, rfl⟩
 have hcl : ∀ ty, (Builtin.clear_ #[22] ty #[.slice (some ⟨blk, (i + (n - (i + 1))) * 3, none⟩) (n - (i + (n - (i + 1)))) (cap - (i + (n - (i + 1))))]).run Try.prog W1 = .ok (.tuple #[]) (W1.setCells blk ((i + (n - (i + 1))) * 3) z.cells.toList) := fun ty => by
  rw [show n - (i + (n - (i + 1))) = 1 by omega]
  refine run_clear_co W1 ty z hv hz hz1 blk _ _ (fun j hj => ?_) (fun j hj => ?_)
  ·rw [hW1]
   have hk : (i + (n - (i + 1))) * 3 + j < ca.size := by omega
   refine isSome_setCells blk _ _ _ _ ?_
   show (w.cell? _).isSome = true
   rw [hc, Array.getElem?_eq_getElem hk]; rfl
  ·rw [hW1, World.frozen?_setCells]
   exact hf _ (by omega)
 rw [← hnews]
 obtain ⟨zs, hzs⟩ : ∃ zs, zs = z.cells.toList := ⟨_, rfl⟩
 rw [← hzs] at hcl ⊢
 clear hzs hz1 hz hv
 have hW : Hid (W1 = w.drew.setCells blk (0 + i * 3) news) := hW1
 have hic : i ≤ cap := by omega
 have hjc : i + 1 ≤ cap := by omega
 have hp0 : (0 : Int) ≤ (i : Int) + 1 := by omega
 have hp1 : (i : Int) + 1 ≤ (n : Int) := by omega
 have hp2 : ((i : Int) + 1).toNat = i + 1 := by omega
 have hne : ¬ ((i : Int) = (i : Int) + 1) := by omega
 clear hW1 hc hf hget hnews hlen hone
 go_enter Try.func55, Try.ntmps55
 go_wp2_with fail
 go_region_law (refine step_append_room rfl (.tmp 22) (.tmp 25) 22 rfl 29 i0 3 under_cos hi0 hz1' blk 0 i cap (by simp [Act.eval, Act.put]) A (n - (i + 1)) (cap - (i + 1)) news (by simp [Act.eval, Act.put]) s1.out hsrc.out s2.out (by omega) s3.out ?_; rw [← hW.out])
 go_wp2
 go_ret
 exact ⟨by rw [show n - 1 = i + (n - (i + 1)) by omega]; rfl, by rw [hW.out]⟩
end Go.Proofs
end
section
namespace Go.Bi
open Go
theorem heap_setCells (b : Nat) : ∀ (vs : List Value) (o : Nat) (w : World) (ca : Array Value) (t : TypeId), w.heap[b]? = some (.cells ca t (0, 0)) →
  ∃ ca', (w.setCells b o vs).heap[b]? = some (.cells ca' t (0, 0)) ∧ ca'.size = ca.size ∧ (∀ k, ca'[k]? = if o ≤ k ∧ k < o + vs.length ∧ k < ca.size then vs[k - o]? else ca[k]?) ∧
   (∀ b', b' ≠ b → (w.setCells b o vs).heap[b']? = w.heap[b']?) ∧ (w.setCells b o vs).os = w.os ∧ (w.setCells b o vs).tape = w.tape ∧ (w.setCells b o vs).output = w.output ∧ (w.setCells b o vs).heap.size = w.heap.size
 | [], o, w, ca, t, h => ⟨ca, h, rfl, fun k => by rw [if_neg (by simp; omega)], fun _ _ => rfl, rfl, rfl, rfl, rfl⟩
 | v :: vs, o, w, ca, t, h => by
  have h1 : (w.setCell ⟨b, o, none⟩ v).heap[b]? = some (.cells (ca.setIfInBounds o v) t (0, 0)) := by
   simp [World.setCell, Array.getElem?_modify, h]
  obtain ⟨ca', a1, a2, a3, a4, a5, a6, a7, a8⟩ := heap_setCells b vs (o + 1) (w.setCell ⟨b, o, none⟩ v) _ t h1
  refine ⟨ca', a1, by rw [a2]; simp, fun k => ?_, fun b' hb => ?_, a5, a6, a7, by rw [World.setCells, a8]; simp [World.setCell]⟩
  ·rw [a3 k]
   simp only [Array.size_setIfInBounds, List.length_cons]
   by_cases hk : k = o
   ·subst hk
    rw [if_neg (by omega)]
    by_cases hs : k < ca.size
    ·rw [if_pos (by omega), Nat.sub_self, Array.getElem?_setIfInBounds_self_of_lt hs]; rfl
    ·rw [if_neg (by omega), Array.getElem?_eq_none (by simp; omega), Array.getElem?_eq_none (by omega)]
   ·rw [Array.getElem?_setIfInBounds_ne (fun e => hk e.symm)]
    by_cases hc : o + 1 ≤ k ∧ k < o + 1 + vs.length ∧ k < ca.size
    ·rw [if_pos hc, if_pos (by omega), show k - o = (k - (o + 1)) + 1 by omega, List.getElem?_cons_succ]
    ·rw [if_neg hc, if_neg (by omega)]
  ·rw [World.setCells, a4 b' hb]
   simp [World.setCell, Array.getElem?_modify, Ne.symm hb]
section
variable {P : Program} {M : Mem} {G : Gh} {os : List AO} {w w' : World}
theorem rows_env (he : Env M G os w) {id sz : Nat} {es es' : List (List D)} (ho : os[id]? = some (.arr es sz 0 false)) (hlen : es'.length = es.length) (hsz : ∀ e ∈ es', e.length = sz) (hos : w'.os = w.os) (htp : w'.tape = w.tape) (hout : w'.output = w.output) (hs : w'.heap.size = w.heap.size)
  (hoth : ∀ b, b ≠ G.blk id → w'.heap[b]? = w.heap[b]?) (hca : ∀ ca t, w.heap[G.blk id]? = some (.cells ca t (0, 0)) → ∃ ca', w'.heap[G.blk id]? = some (.cells ca' t (0, 0)) ∧ ca'.size = ca.size ∧ ∀ (i j : Nat) e x, es'[i]? = some e → e[j]? = some x → ∃ u, ca'[i * sz + j]? = some u ∧ Rd M x u) :
  Env M G (os.set id (.arr es' sz 0 false)) w' ∧ Since M G os w M G (os.set id (.arr es' sz 0 false)) w' := by
 obtain ⟨h1, h2, h3, h4, h5⟩ := he.obj id _ ho
 obtain ⟨ca, t, h6, h7, h8, h9, h10, h11⟩ := h5 rfl
 obtain ⟨ca', k1, k2, k3⟩ := hca ca t h6
 have hlt := (List.getElem?_eq_some_iff.1 ho).1
 have hno : ∀ a v, M a = some v → a.block = G.blk id → False := fun a v ha hb => by
  obtain ⟨es', sz', frz', nl', h12, h13⟩ := he.sep id a v (Live.arr ho) ha hb
  rw [ho] at h12
  cases h12
  omega
 have hk : Keeps G G id (os.set id (.arr es' sz 0 false)) (.arr es sz 0 false) := ⟨es', 0, false, by simp [hlt], by omega, fun _ => ⟨rfl, rfl, rfl⟩⟩
 have hsu := since_upd he (w' := w') (M' := M) ho rfl hos htp hout hs hoth (fun _ _ h => h) (fun _ _ h => .inl h) hk
 refine ⟨env_upd he ho rfl hos htp hout hs hoth (fun _ _ h => h) (fun _ _ h => .inl h) hk (fun _ _ => rfl) (fun a v ha hb => (hno a v ha hb).elim) (fun a v ha hb => (hno a v ha hb).elim) ?_, hsu⟩
 exact ⟨h1, hsz, Nat.zero_le _, fun h => (by cases h), fun _ => ⟨ca', t, k1, by rw [k2]; exact h7, by omega, h9, k3, fun o ho => by omega⟩⟩
end
end Go.Bi
end
section
namespace Go.Proofs
open Go.Bi
def zRow : List D := [.str [], .int .i64 0, .bool false]
theorem erase_get {α : Type} (l : List α) (i : Nat) (hi : i < l.length) (r : Nat) : (l.eraseIdx i)[r]? = if r < i then l[r]? else l[r + 1]? := by
 rw [List.getElem?_eraseIdx]
theorem C.slices_Delete (es : List (List D)) (hm : ∀ e ∈ es, e.length = 3) (i : Nat) (hi : i < es.length) {os : List AO} {id : Nat} (ho : os[id]? = some (.arr es 3 0 false)) :
  CallSpec Try.prog N.slices_Delete__api_Column_api_Column [.arr id es.length, .d (eI i), .d (eI ((i : Int) + 1))] os (fun r os' => r = .d (.sl (es.eraseIdx i)) ∧ os' = os.set id (.arr (es.eraseIdx i ++ [zRow]) 3 (es.length - 1) false)) := by
 refine ⟨⟨_, Try.func55, rfl, by decide⟩, fun M G w vs hE hl hv => ?_⟩
 obtain ⟨v0, v1, v2, rfl⟩ : ∃ v0 v1 v2, vs = #[v0, v1, v2] := by
  obtain ⟨l⟩ := vs
  match l, hl with
  | [x, y, z], _ => exact ⟨x, y, z, rfl⟩
 have hv0 := hv 0 _ v0 rfl rfl
 have hv1 : Rd M (eI i) v1 := hv 1 _ v1 rfl rfl
 have hv2 : Rd M (eI ((i : Int) + 1)) v2 := hv 2 _ v2 rfl rfl
 cases hv1
 cases hv2
 obtain ⟨h0, es0, sz0, frz0, nl0, h1, h2, h3⟩ := hv0
 rw [ho] at h1
 cases h1
 have hv := h3 rfl
 subst hv
 unfold Gh.slv
 rw [if_neg (by decide)]
 obtain ⟨z, hz1, hz2, hz3⟩ := tz_zero (M := M) tz_co
 have hzs : z.cells.size = 3 := hz2
 have hzone : ∀ u ∈ z.cells.toList, u.oneCell' = true := by
  intro u hu
  obtain ⟨j, hj⟩ := List.mem_iff_getElem?.1 hu
  have hjl : j < 3 := by have := (List.getElem?_eq_some_iff.1 hj).1; simpa [hzs] using this
  have hr := hz3 j ([D.str [], .int .i64 0, .bool false][j]) u (List.getElem?_eq_getElem (by simpa using hjl)) (by simpa using hj)
  exact Rd.oneCell hr
 obtain ⟨k1, k2, k3, k4, k5⟩ := hE.obj id _ ho
 obtain ⟨ca, t, h6, h7, h8, h9, h10, h11⟩ := k5 rfl
 have hcell : ∀ k, w.cell? ⟨G.blk id, k, none⟩ = ca[k]? := fun k => by simp [World.cell?, h6]
 have hfr : ∀ k, k < ca.size → w.frozen? ⟨G.blk id, k, none⟩ = false := fun k _ => by simp [World.frozen?, h6]
 have hone : ∀ k u, k < es.length * 3 → ca[k]? = some u → u.oneCell' = true := by
  intro k u hk hu
  have hr : k / 3 < es.length := by omega
  have he : es[k / 3]? = some es[k / 3] := List.getElem?_eq_getElem hr
  have hlen := hm _ (List.mem_of_getElem? he)
  have hx : es[k / 3][k % 3]? = some es[k / 3][k % 3] := List.getElem?_eq_getElem (by omega)
  obtain ⟨u', hu', hrd⟩ := h10 _ _ _ _ he hx
  rw [show k / 3 * 3 + k % 3 = k by omega, hu] at hu'
  cases hu'
  exact Rd.oneCell hrd
 refine (del_co z hz1 hzs hzone (G.blk id) es.length (G.cap id) i ca w hi h8 (by unfold maxLen at h9; omega) h7 hcell hfr hone).mono ?_
 rintro e w' ⟨rfl, rfl⟩
 obtain ⟨news, hnews⟩ : ∃ news, news = (ca.toList.drop ((i + 1) * 3)).take ((es.length - (i + 1)) * 3) := ⟨_, rfl⟩
 have hnl : news.length = (es.length - (i + 1)) * 3 := by rw [hnews]; simp; omega
 have hget : ∀ t, t < (es.length - (i + 1)) * 3 → news[t]? = ca[(i + 1) * 3 + t]? := by
  intro t ht
  rw [hnews, List.getElem?_take, if_pos ht, List.getElem?_drop, Array.getElem?_toList]
 rw [← hnews]
 have hd : w.drew.heap[G.blk id]? = some (.cells ca t (0, 0)) := h6
 obtain ⟨ca1, a1, a2, a3, a4, a5, a6, a7, a8⟩ := heap_setCells (G.blk id) news (0 + i * 3) w.drew ca t hd
 obtain ⟨ca2, b1, b2, b3, b4, b5, b6, b7, b8⟩ := heap_setCells (G.blk id) z.cells.toList ((i + (es.length - (i + 1))) * 3) _ ca1 t a1
 have hel : (es.eraseIdx i).length = es.length - 1 := by rw [List.length_eraseIdx, if_pos hi]
 obtain ⟨e1, s1⟩ := rows_env (w' := (w.drew.setCells (G.blk id) (0 + i * 3) news).setCells (G.blk id) ((i + (es.length - (i + 1))) * 3) z.cells.toList) hE.drew (id := id) (sz := 3) (es' := es.eraseIdx i ++ [zRow]) ho (by rw [List.length_append, hel, List.length_singleton]; omega) (fun e he => by
   rcases List.mem_append.1 he with he | he
   ·exact hm e (List.mem_of_mem_eraseIdx he)
   ·cases List.mem_singleton.1 he; rfl) (by rw [b5, a5]) (by rw [b6, a6]) (by rw [b7, a7]) (by rw [b8, a8]) (fun b hb => by rw [b4 b hb, a4 b hb]) (fun ca0 t0 hh => by
   rw [hd] at hh
   cases hh
   refine ⟨ca2, b1, by rw [b2, a2], fun r j e x hr hj => ?_⟩
   have hrl := (List.getElem?_eq_some_iff.1 hr).1
   rw [List.length_append, hel, List.length_singleton] at hrl
   have hjl : j < 3 := by
    have h := (List.getElem?_eq_some_iff.1 hj).1
    rcases List.mem_append.1 (List.mem_of_getElem? hr) with he | he
    ·rwa [hm e (List.mem_of_mem_eraseIdx he)] at h
    ·cases List.mem_singleton.1 he; exact h
   rw [b3, a2]
   have hzl : z.cells.toList.length = 3 := by simpa using hzs
   rw [hzl]
   by_cases hlast : r = es.length - 1
   ·rw [if_pos (by omega)]
    rw [List.getElem?_append_right (by omega), hel, show r - (es.length - 1) = 0 by omega] at hr
    cases hr
    rw [show r * 3 + j - (i + (es.length - (i + 1))) * 3 = j by omega]
    have hju : z.cells[j]? = some z.cells[j] := Array.getElem?_eq_getElem (by omega)
    exact ⟨z.cells[j], by rw [Array.getElem?_toList]; exact hju, hz3 j x _ hj hju⟩
   ·rw [if_neg (by omega), a3, hnl]
    rw [List.getElem?_append_left (by omega), erase_get es i hi] at hr
    by_cases hri : r < i
    ·rw [if_pos hri] at hr
     rw [if_neg (by omega)]
     exact h10 r j e x hr hj
    ·rw [if_neg hri] at hr
     rw [if_pos (by omega), hget _ (by omega), show (i + 1) * 3 + (r * 3 + j - (0 + i * 3)) = (r + 1) * 3 + j by omega]
     exact h10 (r + 1) j e x hr hj)
 have ho2 : (os.set id (.arr (es.eraseIdx i ++ [zRow]) 3 0 false))[id]? = some (.arr (es.eraseIdx i ++ [zRow]) 3 0 false) := set_self ho
 obtain ⟨e2, s2, r2⟩ := freeze_pre e1 (id := id) (m := es.length - 1) ho2 (by rw [List.length_append, hel]; omega)
 rw [List.set_set] at e2 s2
 refine ⟨_, rfl, _, G, .d (.sl (es.eraseIdx i)), _, e2, ((since_drew ..).trans s1).trans s2, ?_, rfl, rfl⟩
 have ht : (es.eraseIdx i ++ [zRow]).take (es.length - 1) = es.eraseIdx i := by rw [← hel, List.take_left]
 rw [ht] at r2
 exact r2
end Go.Proofs
end
section
namespace Go.Bi
open Go
theorem x_selm {P : Program} {n nb : Nat} {cd : IC} {N : Sl → List AO → Prop} {E0 : Nat → Sl → List AO → Prop} {R : Sl → List AO → Prop} {L : Sl} {os : List AO} (ts : List Nat) (vs : List AV) (σ : List Nat) (os2 : List AO) (h1 : valsOf L ts = vs.map (mA (sg σ))) (hlv : vs.length = ts.length) (hn : σ.Nodup)
  (hσ : σ.take nb = List.range nb) (ho : σ.map (fun s => os[s]?) = os2.map (fun o => some (mO (sg σ) o))) (hid : (os2.take nb).map (mO (sg σ)) = os2.take nb)
  (hb : vs.all (fun v => v.bndB os2.length) = true) (hb3 : os2.all (fun o => o.bndB os2.length) = true) (k : LoopX P n nb cd N E0 R (zipS ts vs) os2) : LoopX P n nb cd N E0 R L os := by
 have hw := weak_selm (n := n) (nb := nb) (ks := []) (ws := []) σ h1 rfl hlv hn hσ ho hid hb rfl hb3
 rw [show zipS ts vs ++ zipS [] [] = zipS ts vs by show zipS ts vs ++ [] = _; rw [List.append_nil]] at hw
 refine ⟨fun code hc c M G w a hR => ?_⟩
 obtain ⟨M', G', hR'⟩ := hw c M G w a hR
 exact k.h code hc c M' G' w a hR'
end Go.Bi
namespace Go.Proofs
open Go.Bi
def isN : D → Bool
 | .nil => true
 | _ => false
theorem C.cloneI (l : List (List D)) (hl : l.length ≤ 1048577) (hm : ∀ e ∈ l, e.length = 1) (d : D) (hd : SlD d l) : CallSpec Try.prog N.slices_Clone__int_int [.d d] [] (fun r os => r = .arr 0 l.length ∧ os = [.arr l 1 0 (isN d)]) := by
 rcases hd with ⟨rfl, rfl⟩ | rfl
 ·refine CallSpec.own_nil 1 (by decide) ?_
  refine F.slices_Clone__int_int.go mixed rfl ?_
  repeat' first|refine st ?_|((with_reducible apply go_i);conv=>whnf)|with_reducible apply k_d<;>intro _|with_reducible apply k_b<;>intro _
 ·refine F.slices_Clone__int_int.goO mixed rfl ?_
  have h0 : ([] : List (List D)).length = 0 := rfl
  have h00 : (([] : List (List D)) ++ l).length = l.length := rfl
  have hb : (([] : List (List D)).length + l.length) * 8 ≤ 140737488355328 ∧ ([] : List (List D)).length + l.length ≤ 9223372036854775807 := by rw [h0]; omega
  repeat' first|refine st ?_|((with_reducible apply go_i);conv=>whnf)|with_reducible apply k_d<;>intro _|with_reducible apply k_b<;>intro _
  all_goals (refine ⟨rfl, ?_⟩; cases l <;> rfl)
theorem C.cloneC (l : List (List D)) (hl : l.length ≤ 1048577) (hm : ∀ e ∈ l, e.length = 3) (d : D) (hd : SlD d l) : CallSpec Try.prog N.slices_Clone__api_Column_api_Column [.d d] [] (fun r os => r = .arr 0 l.length ∧ os = [.arr l 3 0 (isN d)]) := by
 rcases hd with ⟨rfl, rfl⟩ | rfl
 ·refine CallSpec.own_nil 3 (by decide) ?_
  refine F.slices_Clone__api_Column_api_Column.go mixed rfl ?_
  repeat' first|refine st ?_|((with_reducible apply go_i);conv=>whnf)|with_reducible apply k_d<;>intro _|with_reducible apply k_b<;>intro _
 ·refine F.slices_Clone__api_Column_api_Column.goO mixed rfl ?_
  have h0 : ([] : List (List D)).length = 0 := rfl
  have h00 : (([] : List (List D)) ++ l).length = l.length := rfl
  have hb : (([] : List (List D)).length + l.length) * 32 ≤ 140737488355328 ∧ ([] : List (List D)).length + l.length ≤ 9223372036854775807 := by rw [h0]; omega
  repeat' first|refine st ?_|((with_reducible apply go_i);conv=>whnf)|with_reducible apply k_d<;>intro _|with_reducible apply k_b<;>intro _
  all_goals (refine ⟨rfl, ?_⟩; cases l <;> rfl)
structure Fi where
 d : D
 es : List (List D)
 nl : Bool
 tb : List UInt8
def Fi.ok (f : Fi) : Prop := CallSpec Try.prog N.slices_Clone__int_int [.d f.d] [] (fun r os => r = .arr 0 f.es.length ∧ os = [.arr f.es 1 0 f.nl])
def eFi (l : List Fi) : List (List D) := l.map fun f => [f.d, .str f.tb]
def rowsF : Nat → List Fi → List (List AV)
 | _, [] => []
 | k, f :: fs => [.arr k f.es.length, .d (.str f.tb)] :: rowsF (k + 1) fs
def innF (fs : List Fi) : List AO := fs.map fun f => .arr f.es 1 0 f.nl
def oB (nm : List UInt8) (lc lk lf lx : Nat) : List AV := [.d (.str nm), .arr 2 lc, .arr 3 lk, .rs 5 lf, .arr 6 lx]
def clB (tab out : List AV) (nm : List UInt8) (C K : List (List D)) (cn kn : Bool) (fs : List Fi) (A : List (List D)) (an : Bool) : List AO :=
 [.cells tab, .cells out, .arr C 3 0 cn, .arr K 1 0 kn, .cells (oB nm C.length K.length fs.length A.length), .rarr (rowsF 7 fs) 2 fs.isEmpty, .arr A 7 0 an] ++ innF fs
end Go.Proofs
end
section
namespace Go.Proofs
open Go.Bi
theorem C.clone3 (nm : List UInt8) (dc dk df dx : D) (Cs Ks : List (List D)) (cn kn : Bool) (hC : CallSpec Try.prog N.slices_Clone__api_Column_api_Column [.d dc] [] (fun r os => r = .arr 0 Cs.length ∧ os = [.arr Cs 3 0 cn])) (hK : CallSpec Try.prog N.slices_Clone__int_int [.d dk] [] (fun r os => r = .arr 0 Ks.length ∧ os = [.arr Ks 1 0 kn]))
  (f0 f1 f2 : Fi) (hf0 : f0.ok) (hf1 : f1.ok) (hf2 : f2.ok) (hd : df = .sl (eFi [f0, f1, f2])) (l : List Ex) (hb : ∀ x ∈ l, x.bk ≤ 1048576) (hl : l.length ≤ 1048576) (hdx : SlD dx (xL l)) :
  CallSpec Try.prog N.schema_Clone [eT nm dc dk df dx] [] (fun r os => r = .agg (oB nm Cs.length Ks.length 3 (xL (l.map (shf 0))).length) ∧ os = clB [.d (.str nm), .d dc, .d dk, .d df, .d dx] (oB nm Cs.length Ks.length 3 (xL (l.map (shf 0))).length) nm Cs Ks cn kn [f0, f1, f2] (xL (l.map (shf 0))) (xL (l.map (shf 0))).isEmpty) := by
 have h1 := xL_len l
 have hm := xL_mem l
 have hg0 := xL_get'' (args := l)
 obtain ⟨R, hR⟩ : ∃ R, R = xL (l.map (shf 0)) := ⟨_, rfl⟩
 rw [← hR]
 obtain ⟨es, hes⟩ : ∃ es, es = xL l := ⟨_, rfl⟩
 rw [← hes] at h1 hm hdx hg0
 subst hd
 obtain ⟨fd0, fe0, fn0, ft0⟩ := f0
 have hf0 : CallSpec Try.prog N.slices_Clone__int_int [.d fd0] [] (fun r os => r = .arr 0 fe0.length ∧ os = [.arr fe0 1 0 fn0]) := hf0
 obtain ⟨fd1, fe1, fn1, ft1⟩ := f1
 have hf1 : CallSpec Try.prog N.slices_Clone__int_int [.d fd1] [] (fun r os => r = .arr 0 fe1.length ∧ os = [.arr fe1 1 0 fn1]) := hf1
 obtain ⟨fd2, fe2, fn2, ft2⟩ := f2
 have hf2 : CallSpec Try.prog N.slices_Clone__int_int [.d fd2] [] (fun r os => r = .arr 0 fe2.length ∧ os = [.arr fe2 1 0 fn2]) := hf2
 rw [show eFi [⟨fd0, fe0, fn0, ft0⟩, ⟨fd1, fe1, fn1, ft1⟩, ⟨fd2, fe2, fn2, ft2⟩] = [[fd0, .str ft0], [fd1, .str ft1], [fd2, .str ft2]] from rfl]
 refine F.schema_Clone.goO mixed rfl ?_
 repeat' first|refine st ?_|((with_reducible apply go_i);conv=>whnf)|((with_reducible apply k_ow);(·first|exact hC|exact hK|exact hf0|exact hf1|exact hf2))|with_reducible apply k_d<;>intro _|with_reducible apply k_b<;>intro _
 refine x_nilrc 4 3 2 rfl rfl rfl ?_
 refine x_nilcc 4 4 7 rfl rfl rfl ?_
 refine x_rounds 4 ?_
 refine x_round mixed ?_
 repeat' first|refine st ?_|((with_reducible apply go_i);conv=>whnf)|((with_reducible apply k_ow);(·first|exact hC|exact hK|exact hf0|exact hf1|exact hf2))|with_reducible apply k_d<;>intro _|with_reducible apply k_b<;>intro _
 refine x_round mixed ?_
 repeat' first|refine st ?_|((with_reducible apply go_i);conv=>whnf)|((with_reducible apply k_ow);(·first|exact hC|exact hK|exact hf0|exact hf1|exact hf2))|with_reducible apply k_d<;>intro _|with_reducible apply k_b<;>intro _
 refine x_round mixed ?_
 repeat' first|refine st ?_|((with_reducible apply go_i);conv=>whnf)|((with_reducible apply k_ow);(·first|exact hC|exact hK|exact hf0|exact hf1|exact hf2))|with_reducible apply k_d<;>intro _|with_reducible apply k_b<;>intro _
 refine x_round mixed ?_
 repeat' first|refine st ?_|((with_reducible apply go_i);conv=>whnf)|((with_reducible apply k_ow);(·first|exact hC|exact hK|exact hf0|exact hf1|exact hf2))|with_reducible apply k_d<;>intro _|with_reducible apply k_b<;>intro _
 refine x_selm [2, 3, 37, 38, 39] [.ptr 1 0, .ptr 4 0, .d dx, .d (.int .i64 es.length), .d (eI 0)] [0, 1, 2, 3, 4, 5, 6, 8, 11, 14] (clB [.d (.str nm), .d dc, .d dk, .d (.sl [[fd0, .str ft0], [fd1, .str ft1], [fd2, .str ft2]]), .d dx] [.d (.str []), .d .nil, .d .nil, .d .nil, .d .nil] nm Cs Ks cn kn [⟨fd0, fe0, fn0, ft0⟩, ⟨fd1, fe1, fn1, ft1⟩, ⟨fd2, fe2, fn2, ft2⟩] [] true) rfl rfl (by decide) rfl rfl rfl rfl rfl ?_
 refine x_loop2 mixed Lt.schema_Clone_l1 Lk.schema_Clone_l1 (fun (i : Nat) (w : List (List D) × Bool) => [.d (eI i)]) (fun i w => clB [.d (.str nm), .d dc, .d dk, .d (.sl [[fd0, .str ft0], [fd1, .str ft1], [fd2, .str ft2]]), .d dx] [.d (.str []), .d .nil, .d .nil, .d .nil, .d .nil] nm Cs Ks cn kn [⟨fd0, fe0, fn0, ft0⟩, ⟨fd1, fe1, fn1, ft1⟩, ⟨fd2, fe2, fn2, ft2⟩] w.1 w.2) (fun i w => i ≤ l.length ∧ w.1 = Mt (shf 0) l i ∧ w.2 = w.1.isEmpty) (fun i w => l.length - i) 0 ([], true) rfl rfl rfl rfl (fun _ _ _ => ⟨rfl, rfl⟩) rfl ⟨by omega, rfl, rfl⟩ ?_
 repeat' first|refine st ?_|((with_reducible apply go_i);conv=>whnf)|with_reducible apply k_d<;>intro _|with_reducible apply k_b<;>intro _
 intro i w ⟨h4, h5, h6⟩
 obtain ⟨A, b⟩ := w
 dsimp only at h5 h6 ⊢
 have hAl : A.length = i := by rw [h5]; exact Mt_len _ l i (by omega)
 have hAm : ∀ e ∈ A, e.length = 7 := by rw [h5]; exact Mt_mem _ _ _
 cases hx : l[i]? with
 | some x =>
  have hlt := (List.getElem?_eq_some_iff.1 hx).1
  have hs := Mt_succ (φ := shf 0) hx
  have hS := C.expr_Shift x (hb x (List.mem_of_getElem? hx)) 0
  rw [← h5] at hs
  obtain ⟨z, hz⟩ : ∃ z, z = shf 0 x := ⟨_, rfl⟩
  rw [← hz] at hs hS
  obtain ⟨o1, n1, v1, m1, l1, a1⟩ := x
  obtain ⟨o2, n2, v2, m2, l2, a2⟩ := z
  have hg := hg0 _ _ _ _ _ _ _ hx
  rw [Ex.ds_mk] at hs
  rw [Ex.av_mk, Ex.av_mk] at hS
  repeat' first|refine st ?_|((with_reducible apply go_i);conv=>whnf)|((with_reducible first|apply k_pn|apply k_pc);(·exact hS))|with_reducible apply k_d<;>intro _|with_reducible apply k_b<;>intro _
  exact ⟨i + 1, (A ++ [xds o2 n2 v2 m2 (ng l2 (xL a2))], false), rfl, rfl, rfl, by omega, by omega, hs, by simp⟩
 | none =>
  have hge := List.getElem?_eq_none_iff.1 hx
  rw [Mt_end hge, ← hR] at h5
  subst h5
  subst h6
  repeat' first|refine st ?_|((with_reducible apply go_i);conv=>whnf)|with_reducible apply k_d<;>intro _|with_reducible apply k_b<;>intro _
  all_goals exact ⟨rfl, rfl⟩
theorem C.clone4 (nm : List UInt8) (dc dk df dx : D) (Cs Ks : List (List D)) (cn kn : Bool) (hC : CallSpec Try.prog N.slices_Clone__api_Column_api_Column [.d dc] [] (fun r os => r = .arr 0 Cs.length ∧ os = [.arr Cs 3 0 cn])) (hK : CallSpec Try.prog N.slices_Clone__int_int [.d dk] [] (fun r os => r = .arr 0 Ks.length ∧ os = [.arr Ks 1 0 kn]))
  (f0 f1 f2 f3 : Fi) (hf0 : f0.ok) (hf1 : f1.ok) (hf2 : f2.ok) (hf3 : f3.ok) (hd : df = .sl (eFi [f0, f1, f2, f3])) (l : List Ex) (hb : ∀ x ∈ l, x.bk ≤ 1048576) (hl : l.length ≤ 1048576) (hdx : SlD dx (xL l)) :
  CallSpec Try.prog N.schema_Clone [eT nm dc dk df dx] [] (fun r os => r = .agg (oB nm Cs.length Ks.length 4 (xL (l.map (shf 0))).length) ∧ os = clB [.d (.str nm), .d dc, .d dk, .d df, .d dx] (oB nm Cs.length Ks.length 4 (xL (l.map (shf 0))).length) nm Cs Ks cn kn [f0, f1, f2, f3] (xL (l.map (shf 0))) (xL (l.map (shf 0))).isEmpty) := by
 have h1 := xL_len l
 have hm := xL_mem l
 have hg0 := xL_get'' (args := l)
 obtain ⟨R, hR⟩ : ∃ R, R = xL (l.map (shf 0)) := ⟨_, rfl⟩
 rw [← hR]
 obtain ⟨es, hes⟩ : ∃ es, es = xL l := ⟨_, rfl⟩
 rw [← hes] at h1 hm hdx hg0
 subst hd
 obtain ⟨fd0, fe0, fn0, ft0⟩ := f0
 have hf0 : CallSpec Try.prog N.slices_Clone__int_int [.d fd0] [] (fun r os => r = .arr 0 fe0.length ∧ os = [.arr fe0 1 0 fn0]) := hf0
 obtain ⟨fd1, fe1, fn1, ft1⟩ := f1
 have hf1 : CallSpec Try.prog N.slices_Clone__int_int [.d fd1] [] (fun r os => r = .arr 0 fe1.length ∧ os = [.arr fe1 1 0 fn1]) := hf1
 obtain ⟨fd2, fe2, fn2, ft2⟩ := f2
 have hf2 : CallSpec Try.prog N.slices_Clone__int_int [.d fd2] [] (fun r os => r = .arr 0 fe2.length ∧ os = [.arr fe2 1 0 fn2]) := hf2
 obtain ⟨fd3, fe3, fn3, ft3⟩ := f3
 have hf3 : CallSpec Try.prog N.slices_Clone__int_int [.d fd3] [] (fun r os => r = .arr 0 fe3.length ∧ os = [.arr fe3 1 0 fn3]) := hf3
 rw [show eFi [⟨fd0, fe0, fn0, ft0⟩, ⟨fd1, fe1, fn1, ft1⟩, ⟨fd2, fe2, fn2, ft2⟩, ⟨fd3, fe3, fn3, ft3⟩] = [[fd0, .str ft0], [fd1, .str ft1], [fd2, .str ft2], [fd3, .str ft3]] from rfl]
 refine F.schema_Clone.goO mixed rfl ?_
 repeat' first|refine st ?_|((with_reducible apply go_i);conv=>whnf)|((with_reducible apply k_ow);(·first|exact hC|exact hK|exact hf0|exact hf1|exact hf2|exact hf3))|with_reducible apply k_d<;>intro _|with_reducible apply k_b<;>intro _
 refine x_nilrc 4 3 2 rfl rfl rfl ?_
 refine x_nilcc 4 4 7 rfl rfl rfl ?_
 refine x_rounds 5 ?_
 refine x_round mixed ?_
 repeat' first|refine st ?_|((with_reducible apply go_i);conv=>whnf)|((with_reducible apply k_ow);(·first|exact hC|exact hK|exact hf0|exact hf1|exact hf2|exact hf3))|with_reducible apply k_d<;>intro _|with_reducible apply k_b<;>intro _
 refine x_round mixed ?_
 repeat' first|refine st ?_|((with_reducible apply go_i);conv=>whnf)|((with_reducible apply k_ow);(·first|exact hC|exact hK|exact hf0|exact hf1|exact hf2|exact hf3))|with_reducible apply k_d<;>intro _|with_reducible apply k_b<;>intro _
 refine x_round mixed ?_
 repeat' first|refine st ?_|((with_reducible apply go_i);conv=>whnf)|((with_reducible apply k_ow);(·first|exact hC|exact hK|exact hf0|exact hf1|exact hf2|exact hf3))|with_reducible apply k_d<;>intro _|with_reducible apply k_b<;>intro _
 refine x_round mixed ?_
 repeat' first|refine st ?_|((with_reducible apply go_i);conv=>whnf)|((with_reducible apply k_ow);(·first|exact hC|exact hK|exact hf0|exact hf1|exact hf2|exact hf3))|with_reducible apply k_d<;>intro _|with_reducible apply k_b<;>intro _
 refine x_round mixed ?_
 repeat' first|refine st ?_|((with_reducible apply go_i);conv=>whnf)|((with_reducible apply k_ow);(·first|exact hC|exact hK|exact hf0|exact hf1|exact hf2|exact hf3))|with_reducible apply k_d<;>intro _|with_reducible apply k_b<;>intro _
 refine x_selm [2, 3, 37, 38, 39] [.ptr 1 0, .ptr 4 0, .d dx, .d (.int .i64 es.length), .d (eI 0)] [0, 1, 2, 3, 4, 5, 6, 8, 11, 14, 17] (clB [.d (.str nm), .d dc, .d dk, .d (.sl [[fd0, .str ft0], [fd1, .str ft1], [fd2, .str ft2], [fd3, .str ft3]]), .d dx] [.d (.str []), .d .nil, .d .nil, .d .nil, .d .nil] nm Cs Ks cn kn [⟨fd0, fe0, fn0, ft0⟩, ⟨fd1, fe1, fn1, ft1⟩, ⟨fd2, fe2, fn2, ft2⟩, ⟨fd3, fe3, fn3, ft3⟩] [] true) rfl rfl (by decide) rfl rfl rfl rfl rfl ?_
 refine x_loop2 mixed Lt.schema_Clone_l1 Lk.schema_Clone_l1 (fun (i : Nat) (w : List (List D) × Bool) => [.d (eI i)]) (fun i w => clB [.d (.str nm), .d dc, .d dk, .d (.sl [[fd0, .str ft0], [fd1, .str ft1], [fd2, .str ft2], [fd3, .str ft3]]), .d dx] [.d (.str []), .d .nil, .d .nil, .d .nil, .d .nil] nm Cs Ks cn kn [⟨fd0, fe0, fn0, ft0⟩, ⟨fd1, fe1, fn1, ft1⟩, ⟨fd2, fe2, fn2, ft2⟩, ⟨fd3, fe3, fn3, ft3⟩] w.1 w.2) (fun i w => i ≤ l.length ∧ w.1 = Mt (shf 0) l i ∧ w.2 = w.1.isEmpty) (fun i w => l.length - i) 0 ([], true) rfl rfl rfl rfl (fun _ _ _ => ⟨rfl, rfl⟩) rfl ⟨by omega, rfl, rfl⟩ ?_
 repeat' first|refine st ?_|((with_reducible apply go_i);conv=>whnf)|with_reducible apply k_d<;>intro _|with_reducible apply k_b<;>intro _
 intro i w ⟨h4, h5, h6⟩
 obtain ⟨A, b⟩ := w
 dsimp only at h5 h6 ⊢
 have hAl : A.length = i := by rw [h5]; exact Mt_len _ l i (by omega)
 have hAm : ∀ e ∈ A, e.length = 7 := by rw [h5]; exact Mt_mem _ _ _
 cases hx : l[i]? with
 | some x =>
  have hlt := (List.getElem?_eq_some_iff.1 hx).1
  have hs := Mt_succ (φ := shf 0) hx
  have hS := C.expr_Shift x (hb x (List.mem_of_getElem? hx)) 0
  rw [← h5] at hs
  obtain ⟨z, hz⟩ : ∃ z, z = shf 0 x := ⟨_, rfl⟩
  rw [← hz] at hs hS
  obtain ⟨o1, n1, v1, m1, l1, a1⟩ := x
  obtain ⟨o2, n2, v2, m2, l2, a2⟩ := z
  have hg := hg0 _ _ _ _ _ _ _ hx
  rw [Ex.ds_mk] at hs
  rw [Ex.av_mk, Ex.av_mk] at hS
  repeat' first|refine st ?_|((with_reducible apply go_i);conv=>whnf)|((with_reducible first|apply k_pn|apply k_pc);(·exact hS))|with_reducible apply k_d<;>intro _|with_reducible apply k_b<;>intro _
  exact ⟨i + 1, (A ++ [xds o2 n2 v2 m2 (ng l2 (xL a2))], false), rfl, rfl, rfl, by omega, by omega, hs, by simp⟩
 | none =>
  have hge := List.getElem?_eq_none_iff.1 hx
  rw [Mt_end hge, ← hR] at h5
  subst h5
  subst h6
  repeat' first|refine st ?_|((with_reducible apply go_i);conv=>whnf)|with_reducible apply k_d<;>intro _|with_reducible apply k_b<;>intro _
  all_goals exact ⟨rfl, rfl⟩
end Go.Proofs
end
section
namespace Go.Proofs
open Go.Bi
abbrev T.int : TypeId := 3
abbrev T.bool : TypeId := 4
abbrev T.str : TypeId := 9
abbrev T.val : TypeId := 31
abbrev T.ints : TypeId := 23
theorem cells_int : Try.prog.cellsOf T.int = 1 := by kernel_rfl
theorem cells_str : Try.prog.cellsOf T.str = 1 := by kernel_rfl
theorem cells_val : Try.prog.cellsOf T.val = 3 := by kernel_rfl
theorem cells_bool : Try.prog.cellsOf T.bool = 1 := by kernel_rfl
theorem wt_bool {ds : List D} (h : WT Try.prog T.bool ds) : ∃ b, ds = [.bool b] := h.bool' Try.underlying4
theorem wt_int {ds : List D} (h : WT Try.prog T.int ds) : ∃ n, ds = [eI n] := by
 obtain ⟨a, ha, _, _⟩ := h.int' Try.underlying3
 exact ⟨a, ha⟩
theorem wt_str {ds : List D} (h : WT Try.prog T.str ds) : ∃ s, ds = [.str s] := by
 obtain ⟨a, ha, _⟩ := h.str' Try.underlying9
 exact ⟨a, ha⟩
theorem wt_val {ds : List D} (h : WT Try.prog T.val ds) : ∃ v : Vl, ds = v.ds := by
 obtain ⟨hl, hf⟩ := h.st' Try.underlying31
 rw [cells_val] at hl
 match ds, hl with
 | [x, y, z], _ =>
  have h0 := hf _ (List.mem_cons_self ..)
  have h1 := hf _ (List.mem_cons_of_mem _ (List.mem_cons_self ..))
  have h2 := hf _ (List.mem_cons_of_mem _ (List.mem_cons_of_mem _ (List.mem_cons_self ..)))
  dsimp only at h0 h1 h2
  rw [cells_int] at h0 h1
  rw [cells_str] at h2
  obtain ⟨a, ha⟩ := wt_int h0
  obtain ⟨b, hb⟩ := wt_int h1
  obtain ⟨s, hs⟩ := wt_str h2
  simp at ha hb hs
  exact ⟨⟨a, b, s⟩, by rw [ha, hb, hs]⟩
theorem wt_ints {ds : List D} (h : WT Try.prog T.ints ds) : ∃ d ks, ds = [d] ∧ SlD d (eIs ks) := by
 obtain ⟨d, es, h1, h2, h4, h3⟩ := h.sl' Try.underlying23
 have : ∃ ks, es = eIs ks := by
  clear h1 h2 h4
  induction es with
  | nil => exact ⟨[], rfl⟩
  | cons x es ih =>
   obtain ⟨n, hn⟩ := wt_int (h3 x (by simp))
   obtain ⟨ks, hk⟩ := ih fun y hy => h3 y (by simp [hy])
   exact ⟨n :: ks, by rw [hn, hk]; rfl⟩
 obtain ⟨ks, rfl⟩ := this
 exact ⟨d, ks, h1, h2⟩
theorem sld_bulk {d : D} {es : List (List D)} (h : SlD d es) : bulkLL es ≤ bulkL [d] := by
 rcases h with ⟨rfl, rfl⟩ | rfl
 ·simp [bulkLL]
 ·simp only [bulkL, bulkD]; omega
theorem ints_bulk {d : D} {ks : List Int} (h : SlD d (eIs ks)) : ks.length ≤ bulkL [d] := by
 have h1 := sld_bulk h
 have h2 : (eIs ks).length ≤ bulkLL (eIs ks) := bulkLL_len fun x hx => by
  obtain ⟨k, _, rfl⟩ := List.mem_map.1 hx
  simp [bulkL, bulkD]
 rw [eIs_len] at h2
 omega
theorem bulkR (H : Type) : Bulk (H := H) Go.Proofs.Ytjngjdgimlnnjaa.Rows.uptoBulk Go.Proofs.Ytjngjdgimlnnjaa.Rows.uptoBulkAll where
 lit l := by unfold Go.Proofs.Ytjngjdgimlnnjaa.Rows.uptoBulk; split <;> simp_all
 str b := by simp [Go.Proofs.Ytjngjdgimlnnjaa.Rows.uptoBulk]
 nil := by simp [Go.Proofs.Ytjngjdgimlnnjaa.Rows.uptoBulk]
 sl es sp := by simp [Go.Proofs.Ytjngjdgimlnnjaa.Rows.uptoBulk]
 agg ps := by simp [Go.Proofs.Ytjngjdgimlnnjaa.Rows.uptoBulk]
 cons x l := by simp [Go.Proofs.Ytjngjdgimlnnjaa.Rows.uptoBulkAll]
end Go.Proofs
end
section
namespace Go.Proofs
open Go.Bi
abbrev T.exs : TypeId := 25
abbrev T.ex : TypeId := 70
theorem cells_exs : Try.prog.cellsOf T.exs = 1 := by kernel_rfl
theorem cells_ex : Try.prog.cellsOf T.ex = 7 := by kernel_rfl
end Go.Proofs
end
section
namespace Go.Proofs
open Go.Bi
mutual
def smE : Ex → Ex → Bool
 | .mk op n v name nl args, .mk op' n' v' name' nl' args' => decide (op = op') && decide (n = n') && decide (v = v') && decide (name = name') && smL args args'
def smL : List Ex → List Ex → Bool
 | [], [] => true
 | a :: l, b :: m => smE a b && smL l m
 | [], _ :: _ => false
 | _ :: _, [] => false
end
theorem smL_eq : ∀ l m, smL l m = (decide (l.length = m.length) && (l.zip m).all fun p => smE p.1 p.2)
 | [], [] => by simp [smL]
 | a :: l, b :: m => by
  rw [smL, smL_eq l m]
  simp only [List.length_cons, List.zip_cons_cons, List.all_cons]
  cases smE a b <;> simp
 | [], _ :: _ => by simp [smL]
 | _ :: _, [] => by simp [smL]
theorem smE_mk (op n : Int) (v : Vl) (name : List UInt8) (nl : Bool) (args : List Ex) (op' n' : Int) (v' : Vl) (name' : List UInt8) (nl' : Bool) (args' : List Ex) : smE (.mk op n v name nl args) (.mk op' n' v' name' nl' args') = (decide (op = op') && decide (n = n') && decide (v = v') && decide (name = name') && smL args args') := by rw [smE]
theorem all_take_succ3 {α : Type} {p : α → Bool} {l : List α} {i : Nat} {x : α} (h : l[i]? = some x) : (l.take (i + 1)).all p = ((l.take i).all p && p x) := by
 rw [List.take_add_one, h]; simp
theorem all_none3 {α : Type} {p : α → Bool} {l : List α} {i : Nat} {x : α} (h : l[i]? = some x) (hx : p x = false) : l.all p = false := by
 rw [Bool.eq_false_iff]
 intro e
 have := List.all_eq_true.1 e x (List.mem_of_getElem? h)
 rw [hx] at this; cases this
theorem xL_get' {args : List Ex} (i : Nat) (op' n' : Int) (v' : Vl) (name' : List UInt8) (nl' : Bool) (args' : List Ex) (h : args[i]? = some (.mk op' n' v' name' nl' args')) : (xL args)[i]? = some (xds op' n' v' name' (ng nl' (xL args'))) := by
 rw [← Ex.ds_mk]; exact xL_get h
end Go.Proofs
end
section
namespace Go.Proofs
open Go.Bi
inductive Ex.Rg : Ex → Prop
 | mk {op n : Int} {v : Vl} {nm : List UInt8} {nl : Bool} {args : List Ex} (h1 : IntKind.i64.min ≤ n) (h2 : n ≤ IntKind.i64.max) (h : ∀ a ∈ args, Ex.Rg a) : Ex.Rg (.mk op n v nm nl args)
theorem wt_exr' {t : TypeId} {ds : List D} (h : WT Try.prog t ds) : (t = T.ex → ∃ e : Ex, ds = e.ds ∧ e.Rg) ∧ (t = T.exs → ∃ nl args, ds = [ng nl (xL args)] ∧ ∀ a ∈ args, Ex.Rg a) := by
 induction h with
 | int h => exact ⟨fun e => (by subst e; rw [Try.underlying70] at h; cases h), fun e => (by subst e; rw [Try.underlying25] at h; cases h)⟩
 | bool h => exact ⟨fun e => (by subst e; rw [Try.underlying70] at h; cases h), fun e => (by subst e; rw [Try.underlying25] at h; cases h)⟩
 | str h => exact ⟨fun e => (by subst e; rw [Try.underlying70] at h; cases h), fun e => (by subst e; rw [Try.underlying25] at h; cases h)⟩
 | nil h => exact ⟨fun e => (by subst e; rw [Try.underlying70] at h; cases h), fun e => ⟨true, [], rfl, by simp⟩⟩
 | @sl t e es h hl hs he ih =>
  refine ⟨fun e => (by subst e; rw [Try.underlying70] at h; cases h), fun e' => ?_⟩
  subst e'
  rw [Try.underlying25] at h
  cases h
  have hq : ∃ l, es = xL l ∧ ∀ a ∈ l, Ex.Rg a := by
   clear he hs hl
   induction es with
   | nil => exact ⟨[], rfl, by simp⟩
   | cons x es ihh =>
    obtain ⟨n, hn, hr⟩ := (ih x (by simp)).1 rfl
    obtain ⟨ks, hk, hrs⟩ := ihh fun y hy => ih y (by simp [hy])
    refine ⟨n :: ks, by rw [hn, hk]; rfl, fun a ha => ?_⟩
    rcases List.mem_cons.1 ha with rfl | ha
    ·exact hr
    ·exact hrs a ha
  obtain ⟨l, rfl, hlr⟩ := hq
  exact ⟨false, l, rfl, hlr⟩
 | @st t fs ds h hl hf ih =>
  refine ⟨fun e => ?_, fun e => (by subst e; rw [Try.underlying25] at h; cases h)⟩
  subst e
  rw [Try.underlying70] at h
  cases h
  rw [cells_ex] at hl
  match ds, hl with
  | [d0, d1, d2, d3, d4, d5, d6], _ =>
   have h0 := hf _ (List.mem_cons_self ..)
   have h1 := hf _ (List.mem_cons_of_mem _ (List.mem_cons_self ..))
   have h2 := hf _ (List.mem_cons_of_mem _ (List.mem_cons_of_mem _ (List.mem_cons_self ..)))
   have h3 := hf _ (List.mem_cons_of_mem _ (List.mem_cons_of_mem _ (List.mem_cons_of_mem _ (List.mem_cons_self ..))))
   have h4 := (ih _ (List.mem_cons_of_mem _ (List.mem_cons_of_mem _ (List.mem_cons_of_mem _ (List.mem_cons_of_mem _ (List.mem_cons_self ..)))))).2 rfl
   dsimp only at h0 h1 h2 h3 h4
   rw [cells_int] at h0 h1
   rw [cells_val] at h2
   rw [cells_str] at h3
   rw [cells_exs] at h4
   obtain ⟨a, ha⟩ := wt_int h0
   obtain ⟨b, hb, hb1, hb2⟩ := h1.int' Try.underlying3
   obtain ⟨v, hv⟩ := wt_val h2
   obtain ⟨s, hs⟩ := wt_str h3
   obtain ⟨nl, args, hx, hr⟩ := h4
   simp at ha hb hs hx
   refine ⟨.mk a b v s nl args, ?_, .mk hb1 hb2 hr⟩
   rw [Ex.ds_mk, ha, hb, hs, hx]
   have hv : [d2, d3, d4] = [eI v.k, eI v.n, .str v.s] := hv
   simp only [List.cons.injEq, and_true] at hv
   rw [hv.1, hv.2.1, hv.2.2]
theorem wt_exsr {ds : List D} (h : WT Try.prog T.exs ds) : ∃ nl args, ds = [ng nl (xL args)] ∧ ∀ a ∈ args, Ex.Rg a := (wt_exr' h).2 rfl
theorem bulk_ng (nl : Bool) (l : List (List D)) : bulkD (ng nl l) = bulkLL l + 1 := by
 unfold ng
 split
 ·rename_i h
  simp only [Bool.and_eq_true, List.isEmpty_iff] at h
  rw [h.2]; rfl
 ·rfl
theorem bulk_map (f : Ex → Ex) (l : List Ex) (h : ∀ a ∈ l, (f a).bk ≤ a.bk) : bulkLL (xL (l.map f)) ≤ bulkLL (xL l) := by
 induction l with
 | nil => exact Nat.le_refl _
 | cons a l ih =>
  have h1 := h a (by simp)
  have h2 := ih fun x hx => h x (by simp [hx])
  unfold Ex.bk at h1
  simp only [List.map_cons, xL, bulkLL] at h2 ⊢
  omega
theorem C.r11_List (l m : List Ex) (hlen : l.length = m.length) (hl : l.length ≤ 1048576) (h : ∀ (i : Nat) (x y : Ex), l[i]? = some x → m[i]? = some y → Pure Try.prog N.bt_ref11_Same [x.av, y.av] (.d (.bool true))) (d d' : D) (hd : SlD d (xL l)) (hd' : SlD d' (xL m)) : Pure Try.prog N.bt_ref11_List [.d d, .d d'] (.d (.bool true)) := by
 have h1 := xL_len l
 have hm := xL_mem l
 have h1' := xL_len m
 have hm' := xL_mem m
 have hg0 := xL_get' (args := l)
 have hg1 := xL_get' (args := m)
 obtain ⟨es, hes⟩ : ∃ es, es = xL l := ⟨_, rfl⟩
 obtain ⟨es', hes'⟩ : ∃ es, es = xL m := ⟨_, rfl⟩
 rw [← hes] at h1 hm hd hg0
 rw [← hes'] at h1' hm' hd' hg1
 have hee : (es.length : Int) = es'.length := by omega
 refine F.bt_ref11_List.go mixed rfl ?_
 repeat' first|refine st ?_|((with_reducible apply go_i);conv=>whnf)|with_reducible apply k_d<;>intro _|with_reducible apply k_b<;>intro _
 refine x_loop1 mixed Lt.bt_ref11_List_l0 Lk.bt_ref11_List_l0 (fun (i : Nat) => [.d (eI i)]) (fun i => []) (fun i => i ≤ l.length) (fun i => l.length - i) 0 rfl rfl rfl rfl (fun _ _ => ⟨rfl, rfl⟩) rfl (by omega) ?_
 repeat' first|refine st ?_|((with_reducible apply go_i);conv=>whnf)|with_reducible apply k_d<;>intro _|with_reducible apply k_b<;>intro _
 intro i h4
 cases hx : l[i]? with
 | some x =>
  have hlt := (List.getElem?_eq_some_iff.1 hx).1
  obtain ⟨y, hy⟩ : ∃ y, m[i]? = some y := ⟨_, List.getElem?_eq_getElem (by omega)⟩
  have hS := h i x y hx hy
  obtain ⟨o1, n1, v1, m1, l1, a1⟩ := x
  obtain ⟨o2, n2, v2, m2, l2, a2⟩ := y
  rw [Ex.av_mk, Ex.av_mk] at hS
  have hg := hg0 _ _ _ _ _ _ _ hx
  have hg' : es'[((i : Nat) : Int).toNat]? = _ := hg1 i _ _ _ _ _ _ hy
  have hlt' : (i : Int) < es'.length := by omega
  repeat' first|refine st ?_|((with_reducible apply go_i);conv=>whnf)|((with_reducible first|apply k_pn|apply k_pc);(·exact hS))|with_reducible apply k_d<;>intro _|with_reducible apply k_b<;>intro _
  exact ⟨i + 1, rfl, rfl, rfl, by omega, by omega⟩
 | none =>
  have hge := List.getElem?_eq_none_iff.1 hx
  repeat' first|refine st ?_|((with_reducible apply go_i);conv=>whnf)|with_reducible apply k_d<;>intro _|with_reducible apply k_b<;>intro _
  all_goals rfl
end Go.Proofs
end
