/- Texts of this claim, joined. No condition. -/
import Derived.Test.YtejfiijaomodnaaBi
import Derived.Shelf.Sort.Plain
import Derived.Shelf.Slices.In.SortNone
import Derived.Shelf.Slices.CompactI
import Derived.Ground.Names2Prog
import Derived.Test.YtejfiijaomodnaaProg
import Derived.Test.YtejfiijaomodnaaIc0
import Derived.Test.YtejfiijaomodnaaIc1
import Derived.Lib.Strings
import Derived.Lib.Slices
import Derived.Lib.Walk
import Derived.Lib.Bytealg
section
/- slices.Sort and slices.Compact at []int, as contracts over arrays of one's own. No condition. -/
set_option linter.unusedVariables false
namespace Go.Bi
open Go Go.Proofs Go.Sort Go.Shelf

section
variable {P : Program} {M : Mem} {G : Gh} {os : List AO} {w w' : World}

theorem OR.live_lt (he : Env M G os w) {id : Nat} {o : AO} (ho : os[id]? = some o) (hl : o.live = true) : G.blk id < w.heap.size := he.lt ⟨o, ho, hl⟩
theorem since_ext (hsys : w'.os = w.os) (htape : w'.tape = w.tape) (hout : w'.output = w.output) (hsz : w.heap.size ≤ w'.heap.size) (hh : ∀ b, b < w.heap.size → w'.heap[b]? = w.heap[b]?) : Since M G os w M G os w' where
  sys := hsys
  tape := htape
  output := hout
  size := hsz
  frame := fun b hb _ => hh b hb
  grow := fun _ _ h => h
  fresh := fun _ _ h => .inl h
  own := fun i h => .inr ⟨i, h, rfl⟩
  keep := fun i o h => (Since.refl M G os w).keep i o h
theorem env_ext (he : Env M G os w) (hsys : w'.os = w.os) (htape : w'.tape = w.tape) (hout : w'.output = w.output) (hsz : w.heap.size ≤ w'.heap.size) (hh : ∀ b, b < w.heap.size → w'.heap[b]? = w.heap[b]?) : Env M G os w' where
  mem := fun a v h => by
    have h1 := he.mem a v h
    have hlt : a.block < w.heap.size := by
      unfold World.cell? at h1
      cases hb : w.heap[a.block]? with
      | none => rw [hb] at h1; cases h1
      | some o => exact (Array.getElem?_eq_some_iff.1 hb).1
    rw [World.cell?_of_block (w := w) (hh _ hlt)]
    exact h1
  obj := fun i x hx => by
    have hold := he.obj i x hx
    by_cases hlv : x.live = true
    · exact OR.since (since_ext hsys htape hout hsz hh) hold rfl rfl (hh _ (OR.live_lt he hx hlv)) (fun _ _ => rfl)
    · cases x with
      | cells cs => exact absurd rfl hlv
      | iter s p => exact absurd rfl hlv
      | hole => trivial
      | map kvs => exact absurd rfl hlv
      | mit m n s => exact absurd rfl hlv
      | arr es sz frz nl =>
        cases nl with
        | false => exact absurd rfl hlv
        | true => exact ⟨hold.1, hold.2.1, hold.2.2.1, hold.2.2.2.1, fun h => by cases h⟩
  inj := he.inj
  sep := he.sep
def ints (zs : List Int) : List (List D) := zs.map fun z => [.int .i64 z]
theorem ints_len (zs : List Int) : (ints zs).length = zs.length := by simp [ints]
theorem ints_sz (zs : List Int) : ∀ e ∈ ints zs, e.length = 1 := by
  intro e he
  obtain ⟨z, _, rfl⟩ := List.mem_map.1 he
  rfl
theorem mapBlock_other (blk : Nat) (f : Array Value → Array Value) (b : Nat) (h : b ≠ blk) : (mapBlock w blk f).heap[b]? = w.heap[b]? := by
  unfold mapBlock
  simp only [Array.getElem?_modify]
  rw [if_neg (Ne.symm h)]
/-- The row of an array of one's own holds other numbers. -/
theorem row_env (he : Env M G os w) {id : Nat} {zs ys : List Int} (ho : os[id]? = some (.arr (ints zs) 1 0 false)) (hlen : ys.length = zs.length) (n : Nat) :
    Env M G (os.set id (.arr (ints ys) 1 0 false)) (putRow (Value.int .i64) (Sort.ahead w n) (G.blk id) 0 ys.toArray) ∧ Since M G os w M G (os.set id (.arr (ints ys) 1 0 false)) (putRow (Value.int .i64) (Sort.ahead w n) (G.blk id) 0 ys.toArray) := by
  obtain ⟨h1, h2, h3, h4, h5⟩ := he.obj id _ ho
  obtain ⟨ca, t, h6, h7, h8, h9, h10, h11⟩ := h5 rfl
  have hlt := (List.getElem?_eq_some_iff.1 ho).1
  have hno : ∀ a v, M a = some v → a.block = G.blk id → False := fun a v ha hb => by
    obtain ⟨es', sz', frz', nl', h12, h13⟩ := he.sep id a v (Live.arr ho) ha hb
    rw [ho] at h12
    cases h12
    omega
  have hk : Keeps G G id (os.set id (.arr (ints ys) 1 0 false)) (.arr (ints zs) 1 0 false) := ⟨ints ys, 0, false, by simp [hlt], by rw [ints_len, ints_len]; omega, fun _ => ⟨rfl, rfl, rfl⟩⟩
  have hoth : ∀ b, b ≠ G.blk id → (putRow (Value.int .i64) (Sort.ahead w n) (G.blk id) 0 ys.toArray).heap[b]? = w.heap[b]? := fun b hb => mapBlock_other _ _ b hb
  have hs := since_upd he (w' := putRow (Value.int .i64) (Sort.ahead w n) (G.blk id) 0 ys.toArray) (M' := M) ho rfl rfl rfl rfl (by simp) hoth (fun _ _ h => h) (fun _ _ h => .inl h) hk
  refine ⟨env_upd he ho rfl rfl rfl rfl (by simp) hoth (fun _ _ h => h) (fun _ _ h => .inl h) hk (fun _ _ => rfl) (fun a v ha hb => (hno a v ha hb).elim) (fun a v ha hb => (hno a v ha hb).elim) ?_, hs⟩
  rw [ints_len] at h8
  refine ⟨h1, ints_sz ys, Nat.zero_le _, fun h => (by cases h), fun _ => ⟨putCells (Value.int .i64) 0 ys.toArray ca, t, ?_, ?_, ?_, h9, fun i j e x hi hj => ?_, fun o ho => (by omega)⟩⟩
  · show (mapBlock (Sort.ahead w n) (G.blk id) _).heap[G.blk id]? = _
    unfold mapBlock
    simp only [Array.getElem?_modify, if_true]
    show Option.map _ w.heap[G.blk id]? = _
    rw [h6]; rfl
  · unfold putCells
    rw [Array.size_mapIdx, h7]
  · rw [ints_len]; omega
  · obtain ⟨z, hz, rfl⟩ : ∃ z, ys[i]? = some z ∧ e = [.int .i64 z] := by
      unfold ints at hi
      rw [List.getElem?_map] at hi
      cases hy : ys[i]? with
      | none => rw [hy] at hi; cases hi
      | some z => rw [hy] at hi; cases hi; exact ⟨z, rfl, rfl⟩
    have hil := (List.getElem?_eq_some_iff.1 hz).1
    cases j with
    | succ j => cases hj
    | zero =>
      cases hj
      refine ⟨.int .i64 z, ?_, .int _ _⟩
      unfold putCells
      have hic : i * 1 + 0 < ca.size := by rw [h7]; omega
      rw [Array.getElem?_mapIdx, Array.getElem?_eq_getElem hic, Option.map_some, if_pos (by simp; omega)]
      have : ys.toArray[i * 1 + 0 - 0]! = z := by
        have e : i * 1 + 0 - 0 = i := by omega
        rw [e, getElem!_pos _ i (by simpa using hil)]
        simpa using (List.getElem?_eq_some_iff.1 hz).2
      rw [this]
theorem row_holds (he : Env M G os w) {id : Nat} {zs : List Int} (ho : os[id]? = some (.arr (ints zs) 1 0 false)) : Holds (Value.int .i64) w (G.blk id) 0 zs.toArray := by
  obtain ⟨h1, h2, h3, h4, h5⟩ := he.obj id _ ho
  obtain ⟨ca, t, h6, h7, h8, h9, h10, h11⟩ := h5 rfl
  intro j hj
  have hj' : j < zs.length := by simpa using hj
  have hz : (ints zs)[j]? = some [.int .i64 zs[j]] := by unfold ints; rw [List.getElem?_map, List.getElem?_eq_getElem hj']; rfl
  obtain ⟨u, hu, hr⟩ := h10 j 0 _ _ hz rfl
  cases hr
  rw [Nat.mul_one, Nat.add_zero] at hu
  refine ⟨?_, ?_⟩
  · have : zs.toArray[j]! = zs[j] := by rw [getElem!_pos _ j hj]; simp
    rw [this, Nat.zero_add]
    unfold World.cell?
    rw [h6]
    simpa using hu
  · unfold World.frozen?
    rw [h6]
    simp
/-- The first elements of an array are read alone from now on. -/
theorem freeze_pre (he : Env M G os w) {id m : Nat} {es : List (List D)} {sz : Nat} (ho : os[id]? = some (.arr es sz 0 false)) (hm : m ≤ es.length) :
    Env (Mem.with M w (G.blk id) (m * sz)) G (os.set id (.arr es sz m false)) w ∧
    Since M G os w (Mem.with M w (G.blk id) (m * sz)) G (os.set id (.arr es sz m false)) w ∧
    Rd (Mem.with M w (G.blk id) (m * sz)) (.sl (es.take m)) (.slice (some ⟨G.blk id, 0, none⟩) m (G.cap id)) := by
  obtain ⟨h1, h2, h3, h4, h5⟩ := he.obj id _ ho
  obtain ⟨ca, t, h6, h7, h8, h9, h10, h11⟩ := h5 rfl
  have hlt := (List.getElem?_eq_some_iff.1 ho).1
  have hgrow : ∀ x v, M x = some v → Mem.with M w (G.blk id) (m * sz) x = some v := fun x v hx => by
    unfold Mem.with
    split
    · exact he.mem x v hx
    · exact hx
  have hnew : ∀ x v, Mem.with M w (G.blk id) (m * sz) x = some v → M x = some v ∨ x.block = G.blk id := fun x v hx => by
    unfold Mem.with at hx
    split at hx
    · rename_i hc; exact .inr hc.1
    · exact .inl hx
  have hk : Keeps G G id (os.set id (.arr es sz m false)) (.arr es sz 0 false) := ⟨es, m, false, by simp [hlt], Nat.le_refl _, fun _ => ⟨rfl, rfl, rfl⟩⟩
  have hs := since_upd he (w' := w) ho rfl rfl rfl rfl rfl (fun _ _ => rfl) hgrow hnew hk
  have hcl : ∀ o, o < m * sz → Mem.with M w (G.blk id) (m * sz) ⟨G.blk id, o, none⟩ = ca[o]? := fun o ho => by
    unfold Mem.with
    rw [if_pos ⟨rfl, rfl, ho⟩]
    simp [World.cell?, h6]
  refine ⟨env_upd he ho rfl rfl rfl rfl rfl (fun _ _ => rfl) hgrow hnew hk (fun x hx => ?_) (fun x v hx hb => ?_) (fun x v hx hb => ?_) ?_, hs, ?_⟩
  · unfold Mem.with
    rw [if_neg (fun hc => hx hc.1)]
  · unfold Mem.with at hx
    split at hx
    · exact hx
    · exact he.mem x v hx
  · refine ⟨_, _, _, _, rfl, ?_⟩
    unfold Mem.with at hx
    split at hx
    · rename_i hc; exact hc.2.2
    · obtain ⟨es', sz', frz', nl', h12, h13⟩ := he.sep id x v (Live.arr ho) hx hb
      rw [ho] at h12
      cases h12
      omega
  · refine ⟨h1, h2, hm, fun h => (by cases h), fun _ => ⟨ca, t, h6, h7, h8, h9, fun i j e x hi hj => ?_, hcl⟩⟩
    obtain ⟨u, hu, hr⟩ := h10 i j e x hi hj
    exact ⟨u, hu, hr.mono hgrow⟩
  · have hlen : (es.take m).length = m := by rw [List.length_take]; omega
    have key : Rd (Mem.with M w (G.blk id) (m * sz)) (.sl (es.take m)) (.slice (some ⟨G.blk id, 0, none⟩) (es.take m).length (G.cap id)) := by
      refine Rd.sl (es.take m) (G.blk id) 0 (G.cap id) sz (fun i j => (ca[i * sz + j]?).getD undef) (by omega) (fun e hx => h2 e (List.mem_of_mem_take hx)) (fun i j hi hj => ?_) (fun i j e d hi hj => ?_)
      · rw [hlen] at hi
        rw [Nat.zero_add, hcl _ (idx_lt hi hj)]
        have hsz : i * sz + j < ca.size := by
          rw [h7]
          exact Nat.lt_of_lt_of_le (idx_lt hi hj) (Nat.mul_le_mul_right _ (by omega))
        simp [hsz]
      · have hil := (List.getElem?_eq_some_iff.1 hi).1
        rw [List.getElem?_take, if_pos (by omega)] at hi
        obtain ⟨u, hu, hr⟩ := h10 i j e d hi hj
        simp only [hu, Option.getD_some]
        exact hr.mono hgrow
    rwa [hlen] at key
theorem sort_own {ρ : Ren} (L : Lays.n189 P ρ) (he : Enters P (ρ.f 189)) (zs : List Int) (nl : Bool) (hz : zs.length < 4611686018427387904) :
    CallSpec P (ρ.f 189) [.arr 0 (ints zs).length] [.arr (ints zs) 1 0 nl] (fun r os' => r = .tup [] ∧ os' = [.arr (ints (zs.mergeSort fun x y => decide (x ≤ y))) 1 0 nl]) := by
  refine ⟨he, fun M G w vs hE hl hv => ?_⟩
  obtain ⟨v, rfl⟩ : ∃ v, vs = #[v] := by
    obtain ⟨l⟩ := vs
    match l, hl with
    | [x], _ => exact ⟨x, rfl⟩
  have hval := hv 0 _ v rfl rfl
  obtain ⟨h0, es, sz, frz, nl', h1, h2, h3⟩ := hval
  cases h1
  have hv := h3 rfl
  subst hv
  unfold Gh.slv
  cases nl with
  | true =>
    have hnil : ints zs = [] := (hE.obj 0 _ rfl).2.2.2.1 rfl
    have hzs : zs = [] := by unfold ints at hnil; simpa using hnil
    subst hzs
    rw [if_pos rfl]
    refine (Any.slices_Sort_int_none L none 0 w).mono ?_
    rintro e w' ⟨rfl, rfl⟩
    exact ⟨_, rfl, M, G, .tup [], _, hE, Since.refl .., ⟨#[], rfl, rfl, by simp⟩, rfl, by simp⟩
  | false =>
    rw [if_neg (by decide), ints_len]
    have hlt := OR.live_lt hE (id := 0) rfl rfl
    refine (Any.slices_Sort_int L (G.blk 0) 0 (G.cap 0) zs w (row_holds hE (id := 0) rfl) hlt hz).mono ?_
    rintro e w' ⟨rfl, n, xs, rfl⟩
    obtain ⟨e1, s1⟩ := row_env hE (id := 0) (ys := zs.mergeSort fun x y => decide (x ≤ y)) rfl (by simp) n
    have hh : ∀ b, b < (putRow (Value.int .i64) (Sort.ahead w n) (G.blk 0) 0 (zs.mergeSort fun x y => decide (x ≤ y)).toArray).heap.size → (grow (putRow (Value.int .i64) (Sort.ahead w n) (G.blk 0) 0 (zs.mergeSort fun x y => decide (x ≤ y)).toArray) xs).heap[b]? = (putRow (Value.int .i64) (Sort.ahead w n) (G.blk 0) 0 (zs.mergeSort fun x y => decide (x ≤ y)).toArray).heap[b]? := fun b hb => by
      unfold grow
      exact Array.getElem?_append_left hb
    refine ⟨_, rfl, M, G, .tup [], _, env_ext e1 rfl rfl rfl (by simp [grow]) hh, s1.trans (since_ext rfl rfl rfl (by simp [grow]) hh), ⟨#[], rfl, rfl, by simp⟩, rfl, rfl⟩
theorem compact_len (zs : List Int) : (Lib.compact zs).length ≤ zs.length := by
  unfold Lib.compact Lib.compactUpTo
  rw [List.length_map]
  exact Nat.le_trans (List.length_filter_le _ _) (by simp)
theorem compact_own {ρ : Ren} (L : Lays2.n20 P ρ) (he : Enters P (ρ.f 20)) (zs : List Int) (nl : Bool) (hz : zs.length ≤ 9223372036854775807) :
    CallSpec P (ρ.f 20) [.arr 0 (ints zs).length] [.arr (ints zs) 1 0 nl] (fun r os' => r = .d (if nl then .nil else .sl (ints (Lib.compact zs))) ∧ os' = [.arr (ints (Lib.compact zs ++ List.replicate (zs.length - (Lib.compact zs).length) 0)) 1 (if nl then 0 else (Lib.compact zs).length) nl]) := by
  refine ⟨he, fun M G w vs hE hl hv => ?_⟩
  obtain ⟨v, rfl⟩ : ∃ v, vs = #[v] := by
    obtain ⟨l⟩ := vs
    match l, hl with
    | [x], _ => exact ⟨x, rfl⟩
  have hval := hv 0 _ v rfl rfl
  obtain ⟨h0, es, sz, frz, nl', h1, h2, h3⟩ := hval
  cases h1
  have hv := h3 rfl
  subst hv
  unfold Gh.slv
  cases nl with
  | true =>
    have hnil : ints zs = [] := (hE.obj 0 _ rfl).2.2.2.1 rfl
    have hzs : zs = [] := by unfold ints at hnil; simpa using hnil
    subst hzs
    rw [if_pos rfl]
    refine (Any.slices_Compact_int_empty L none 0 w).mono ?_
    rintro e w' ⟨rfl, rfl⟩
    exact ⟨_, rfl, M, G, .d .nil, _, hE, Since.refl .., Rd.nil, rfl, rfl⟩
  | false =>
    rw [if_neg (by decide), ints_len]
    obtain ⟨h1, h2, h3, h4, h5⟩ := hE.obj 0 _ rfl
    obtain ⟨ca, t, h6, h7, h8, h9, h10, h11⟩ := h5 rfl
    rw [ints_len] at h8
    refine (Any.slices_Compact_int L (G.blk 0) 0 (G.cap 0) zs w (row_holds hE (id := 0) rfl) hz h8).mono ?_
    rintro e w' ⟨rfl, n, rfl⟩
    have hcl := compact_len zs
    have hlen : (Lib.compact zs ++ List.replicate (zs.length - (Lib.compact zs).length) 0).length = zs.length := by simp; omega
    obtain ⟨e1, s1⟩ := row_env hE (id := 0) (ys := Lib.compact zs ++ List.replicate (zs.length - (Lib.compact zs).length) 0) rfl hlen n
    obtain ⟨e2, s2, r2⟩ := freeze_pre e1 (id := 0) (m := (Lib.compact zs).length) rfl (by rw [ints_len, hlen]; exact hcl)
    refine ⟨_, rfl, _, G, .d (.sl (ints (Lib.compact zs))), _, e2, s1.trans s2, ?_, rfl, rfl⟩
    have ht : (ints (Lib.compact zs ++ List.replicate (zs.length - (Lib.compact zs).length) 0)).take (Lib.compact zs).length = ints (Lib.compact zs) := by
      unfold ints
      rw [← List.map_take, List.take_left]
    rw [ht] at r2
    exact r2
end
/-- An array of one's own in a slot is read alone from now on, ahead of a loop. -/
theorem weak_frz {n nb : Nat} {ρ : Rho} {os : List AO} (t : Nat) {id len sz frz : Nat} {nl : Bool} {es : List (List D)} (ht : ρ t = .arr id len) (ho : os[id]? = some (.arr es sz frz nl)) (hl : len = es.length) :
    Weak n nb ρ os (upd t (.d (if nl then .nil else .sl es)) ρ) (os.set id (.arr es sz es.length nl)) := by
  intro c M G w a hR
  have hv := hR.tmps t
  rw [ht] at hv
  obtain ⟨M1, h1, h2, h3⟩ := frzC_ok hR.env (c := .arr id len) (x := if nl then .nil else .sl es) (os1 := os.set id (.arr es sz es.length nl)) (by unfold frzC; dsimp only; rw [ho]; dsimp only; rw [if_pos hl]) hv
  exact ⟨M1, G, {
    env := h1, since := hR.since.trans h2, size := hR.size, defers := hR.defers, base := hR.base
    tmps := fun s => by
      have hs := (hR.tmps s).since h2
      unfold upd
      split
      · rename_i h
        subst h
        exact h3
      · exact hs }⟩
theorem x_frz {P : Program} {n nb : Nat} {cd : IC} {N : Sl → List AO → Prop} {E0 : Nat → Sl → List AO → Prop} {R : Sl → List AO → Prop} {L : Sl} {os : List AO} (t : Nat) {id len sz frz : Nat} {nl : Bool} {es : List (List D)} (ht : ofL L t = .arr id len) (ho : os[id]? = some (.arr es sz frz nl)) (hl : len = es.length)
    (k : Go (LoopX P n nb cd N E0 R ((t, .d (if nl then .nil else .sl es)) :: L) (os.set id (.arr es sz es.length nl)))) : LoopX P n nb cd N E0 R L os := by
  have hw := weak_frz (n := n) (nb := nb) (ρ := ofL L) (os := os) t ht ho hl
  rw [ofL_cons] at hw
  refine ⟨fun code hc c M G w a hR => ?_⟩
  obtain ⟨M', G', hR'⟩ := hw c M G w a hR
  exact k.h code hc c M' G' w a hR'
end Go.Bi
end
section
/- The records of the two library functions at this program. No condition. -/
namespace Go.Proofs
open Go.Shelf
def Try.lays189_ren : Go.Shelf.Ren := ⟨fun | 189 => 23 | 125 => 53 | 257 => 52 | 128 => 90 | 129 => 91 | 294 => 81 | 295 => 82 | 296 => 83 | 297 => 84 | 298 => 85 | 299 => 86 | 216 => 87 | 300 => 88 | 301 => 89 | 328 => 104 | 329 => 105 | 330 => 106 | 331 => 107 | 332 => 108 | 215 => 109 | 343 => 116 | n => n, fun | 28 => 28 | 3 => 3 | 46 => 75 | 0 => 0 | 51 => 108 | 53 => 110 | 4 => 4 | 183 => 101 | 182 => 100 | 131 => 84 | 5 => 5 | 9 => 9 | 218 => 119 | 222 => 123 | 228 => 132 | 229 => 90 | n => n, fun | n => n⟩
theorem Try.lays189 : Go.Proofs.Lays.n189 Try.prog Try.lays189_ren := {
  mixed := by kernel_rfl
  f125 := Try.func53.trans (congrArg some (by kernel_rfl))
  f128 := Try.func90.trans (congrArg some (by kernel_rfl))
  f129 := Try.func91.trans (congrArg some (by kernel_rfl))
  f189 := Try.func23.trans (congrArg some (by kernel_rfl))
  f215 := Try.func109.trans (congrArg some (by kernel_rfl))
  f216 := Try.func87.trans (congrArg some (by kernel_rfl))
  f257 := Try.func52.trans (congrArg some (by kernel_rfl))
  f294 := Try.func81.trans (congrArg some (by kernel_rfl))
  f295 := Try.func82.trans (congrArg some (by kernel_rfl))
  f296 := Try.func83.trans (congrArg some (by kernel_rfl))
  f297 := Try.func84.trans (congrArg some (by kernel_rfl))
  f298 := Try.func85.trans (congrArg some (by kernel_rfl))
  f299 := Try.func86.trans (congrArg some (by kernel_rfl))
  f300 := Try.func88.trans (congrArg some (by kernel_rfl))
  f301 := Try.func89.trans (congrArg some (by kernel_rfl))
  f328 := Try.func104.trans (congrArg some (by kernel_rfl))
  f329 := Try.func105.trans (congrArg some (by kernel_rfl))
  f330 := Try.func106.trans (congrArg some (by kernel_rfl))
  f331 := Try.func107.trans (congrArg some (by kernel_rfl))
  f332 := Try.func108.trans (congrArg some (by kernel_rfl))
  f343 := Try.func116.trans (congrArg some (by kernel_rfl))
  t0 := Try.underlying0
  a0 := Try.isAgg0
  z0 := Try.sizeOf0
  v0 := Try.zeroValue0
  t3 := Try.underlying3
  a3 := Try.isAgg3
  z3 := Try.sizeOf3
  v3 := Try.zeroValue3
  t4 := Try.underlying4
  a4 := Try.isAgg4
  z4 := Try.sizeOf4
  v4 := Try.zeroValue4
  t5 := Try.underlying5
  a5 := Try.isAgg5
  z5 := Try.sizeOf5
  v5 := Try.zeroValue5
  t9 := Try.underlying9
  a9 := Try.isAgg9
  z9 := Try.sizeOf9
  v9 := Try.zeroValue9
  t28 := Try.underlying28
  a28 := Try.isAgg28
  z28 := Try.sizeOf28
  v28 := Try.zeroValue28
  t46 := Try.underlying75
  a46 := Try.isAgg75
  z46 := Try.sizeOf75
  v46 := Try.zeroValue75
  t51 := Try.underlying108
  a51 := Try.isAgg108
  z51 := Try.sizeOf108
  v51 := Try.zeroValue108
  t53 := Try.underlying110
  a53 := Try.isAgg110
  z53 := Try.sizeOf110
  v53 := Try.zeroValue110
  t131 := Try.underlying84
  a131 := Try.isAgg84
  z131 := Try.sizeOf84
  v131 := Try.zeroValue84
  t182 := Try.underlying100
  a182 := Try.isAgg100
  z182 := Try.sizeOf100
  v182 := Try.zeroValue100
  t183 := Try.underlying101
  a183 := Try.isAgg101
  z183 := Try.sizeOf101
  v183 := Try.zeroValue101
  t218 := Try.underlying119
  a218 := Try.isAgg119
  z218 := Try.sizeOf119
  v218 := Try.zeroValue119
  t222 := Try.underlying123
  a222 := Try.isAgg123
  z222 := Try.sizeOf123
  v222 := Try.zeroValue123
  t228 := Try.underlying132
  a228 := Try.isAgg132
  z228 := Try.sizeOf132
  v228 := Try.zeroValue132
  t229 := Try.underlying90
  a229 := Try.isAgg90
  z229 := Try.sizeOf90
  v229 := Try.zeroValue90 }
def Try.laysNm220_ren : Go.Shelf.Ren := ⟨fun | 20 => 24 | n => n, fun | 22 => 28 | 3 => 3 | 4 => 4 | 0 => 0 | n => n, fun | n => n⟩
theorem Try.laysNm220 : Go.Proofs.Lays2.n20 Try.prog Try.laysNm220_ren := {
  mixed := by kernel_rfl
  f20 := Try.func24.trans (congrArg some (by kernel_rfl))
  t0 := Try.underlying0
  a0 := Try.isAgg0
  z0 := Try.sizeOf0
  v0 := Try.zeroValue0
  t3 := Try.underlying3
  a3 := Try.isAgg3
  z3 := Try.sizeOf3
  v3 := Try.zeroValue3
  t4 := Try.underlying4
  a4 := Try.isAgg4
  z4 := Try.sizeOf4
  v4 := Try.zeroValue4
  t22 := Try.underlying28
  a22 := Try.isAgg28
  z22 := Try.sizeOf28
  v22 := Try.zeroValue28
  i3 := by kernel_rfl }
end Go.Proofs
end
section
/- A function that hands back an array of its own: the array stays an object. No condition. -/
set_option linter.unusedVariables false
namespace Go.Bi
open Go

section
variable {P : Program} {n nb : Nat} {M : Mem} {G : Gh} {os : List AO} {w : World} {ρ : Rho} {a : Act}
def retOI (Q : AV → List AO → Prop) (rs : List RV) (ρ : Rho) (os : List AO) : Prop := resI ρ os rs fun l => match l with
  | [v] => Q v os
  | _ => False
def retO (Q : AV → List AO → Prop) (rs : List RV) (L : Sl) (os : List AO) : Prop := xRes L os rs fun l => match l with
  | [v] => Q v os
  | _ => False
theorem retO_ok {Q : AV → List AO → Prop} {rs : List RV} {L : Sl} {os : List AO} (h : retO Q rs L os) : retOI Q rs (ofL L) os := xRes_ok h
theorem own_ok {c : Ctx} (hR : Rel n nb c M G os w ρ a) {fn : Func} {rs : List RV} (hrs : fn.results.toList.mapM (cRV P) = some rs) {Q : AV → List AO → Prop} (h : retOI Q rs ρ os) :
    ∃ v, (results fn a.tmps).run P w = .ok v w ∧ ∃ M' G' r os', Env M' G' os' w ∧ Since c.M c.G c.os c.w M' G' os' w ∧ VA M' G' os' r v ∧ Q r os' := by
  obtain ⟨l, vs, h1, h2, h3, h4⟩ := resI_run hR.env hR.tmps _ rs hrs _ h
  match l, h1, h3, h4 with
  | [x], h1, h3, h4 =>
    simp only [List.length_cons, List.length_nil] at h3
    refine ⟨_, run_results h2, M, G, x, os, hR.env, hR.since, ?_, h1⟩
    rw [dif_pos (by omega)]
    exact h4 0 x vs[0] rfl (List.getElem?_eq_getElem (by omega))
theorem fn_own (hm : P.follows .mixedOrders = true) {f : FuncId} {fn : Func} {code : Code} {ic : IC} {rs : List RV} (hf : P.funcs[f]? = some fn) (hname : fn.name ≠ "runtime.NumGoroutine") (hb : fn.body = some code) (hc : cC P fn.ntmps code = some ic)
    (hrs : fn.results.toList.mapM (cRV P) = some rs) {args : List AV} {bs : List AO} (hargs : args.length ≤ fn.ntmps) {Q : AV → List AO → Prop}
    (h : wpI P fn.ntmps bs.length ic { norm := retOI Q rs, exit := fun _ _ _ => False, ret := retOI Q rs } (argsRho args) bs) : CallSpec P f args bs Q := by
  refine ⟨⟨fn, hf, by rw [hb]; rfl, hname⟩, fun M G w vs he hl hv => ?_⟩
  refine calls_of_wp hf hb (wp_mono (wpI_tri hm code ic hc _ _ _ h ⟨M, G, bs, w⟩ M G w { tmps := vs ++ Array.replicate (fn.ntmps - vs.size) undef, defers := [] } ?_) fun e a' w' hp => ?_)
  · exact {
      env := he, since := Since.refl .., size := by simp; omega, defers := rfl, base := rfl
      tmps := fun t => by
        unfold argsRho
        by_cases ht : t < args.length
        · have h1 : (vs ++ Array.replicate (fn.ntmps - vs.size) undef).getD t undef = vs[t] := by
            simp [Array.getElem?_append_left (show t < vs.size by omega), show t < vs.size by omega]
          have h2 : args.getD t .junk = args[t] := by simp [ht]
          show VA M G bs (args.getD t .junk) ((vs ++ Array.replicate (fn.ntmps - vs.size) undef).getD t undef)
          rw [h1, h2]
          have := hv t args[t] vs[t] (List.getElem?_eq_getElem ht) (Array.getElem?_eq_getElem (by omega))
          generalize args[t] = c at this
          cases c with
          | tup cs => exact this.elim
          | junk => trivial
          | _ => exact this
        · have : args.getD t .junk = .junk := by simp [List.getD_eq_getElem?_getD, List.getElem?_eq_none (Nat.le_of_not_lt ht)]
          rw [this]
          trivial }
  · have fin : Fits fn.ntmps bs.length ⟨M, G, bs, w⟩ (retOI Q rs) a' w' → a'.defers = [] ∧ ∃ v, (results fn a'.tmps).run P w' = .ok v w' ∧ ∃ v', Ending.returned v = .returned v' ∧ ∃ M' G' r os', Env M' G' os' w' ∧ Since M G bs w M' G' os' w' ∧ VA M' G' os' r v' ∧ Q r os' := by
      rintro ⟨M', G', os', ρ', hR, hk⟩
      obtain ⟨v, h1, h2⟩ := own_ok hR hrs hk
      exact ⟨hR.defers, v, h1, v, rfl, h2⟩
    cases e with
    | normal => exact fin hp
    | ret => exact fin hp
    | exit id => obtain ⟨_, _, _, _, _, hk⟩ := hp; exact hk.elim
    | _ => exact hp.elim
end

theorem IsFn.goO {P : Program} (hm : P.follows .mixedOrders = true) {f n : Nat} {ic : IC} {rs : List RV} (h : IsFn P f n ic rs) {args : List AV} {bs : List AO} (hargs : Nat.ble args.length n = true) {Q : AV → List AO → Prop}
    (hw : Go (xI P n bs.length ic (retO Q rs) (fun _ _ _ => False) (retO Q rs) (argsL 0 args) bs)) : CallSpec P f args bs Q := by
  obtain ⟨fn, h1, h2, h3, h4, h5⟩ := h
  obtain ⟨code, hb, hc⟩ := Option.bind_eq_some_iff.1 h4
  subst h2
  refine fn_own hm h1 (by simpa using h3) hb hc h5 (Nat.le_of_ble_eq_true hargs) ?_
  rw [ofL_args]
  exact xI_ok (K := ⟨retO Q rs, fun _ _ _ => False, retO Q rs⟩) ⟨fun L os h => retO_ok h, fun _ _ _ h => h, fun L os h => retO_ok h⟩ hw
/-- A contract of a function that is handed data, among any objects. -/
theorem CallSpec.alone {P : Program} {g : FuncId} {args : List AV} {Q : AV → List AO → Prop} (h : CallSpec P g args [] Q) (hd : ∀ a ∈ args, ∃ x, a = .d x) (os : List AO) :
    CallSpec P g args os (fun r os' => ∃ r0 os0, Q r0 os0 ∧ r = mA (rn [] os.length) r0 ∧ os' = os ++ os0.map (mO (rn [] os.length))) := by
  have := CallSpec.frame (K := fun r os' => ∃ r0 os0, Q r0 os0 ∧ r = mA (rn [] os.length) r0 ∧ os' = os ++ os0.map (mO (rn [] os.length))) h [] os rfl (by simp) (fun i x hx => by simp at hx)
    (fun a ha => by obtain ⟨x, rfl⟩ := hd a ha; trivial) (fun x hx => by simp at hx) (fun r bs' hq => ⟨r, bs', hq, rfl, rfl⟩)
  have e : args.map (mG (rn [] os.length)) = args := by
    rw [List.map_congr_left (g := id) (fun a ha => by obtain ⟨x, rfl⟩ := hd a ha; rfl), List.map_id]
  rwa [e] at this
end Go.Bi
end
section
/- Periods and their relations. No condition. -/
set_option linter.unusedSimpArgs false
set_option linter.unusedVariables false
set_option maxRecDepth 10000
set_option maxHeartbeats 4000000
namespace Go.Proofs
open Go.Bi

abbrev eI (n : Int) : D := .int .i64 n
abbrev eP (a b : Int) : AV := .agg [.d (eI a), .d (eI b)]
def eIs (l : List Int) : List (List D) := l.map fun r => [eI r]
theorem eIs_get {l : List Int} {i : Nat} {r : Int} (h : l[i]? = some r) : (eIs l)[i]? = some [eI r] := by simp [eIs, h]
theorem eIs_len (l : List Int) : (eIs l).length = l.length := by simp [eIs]
theorem eIs_mem (l : List Int) : ∀ e ∈ eIs l, e.length = 1 := by
  intro e he
  obtain ⟨x, _, rfl⟩ := List.mem_map.1 he
  rfl
theorem nsl_cnd {es : List (List D)} {nl : Bool} (h : nl = es.isEmpty) : CnD nl .nil (.sl es) = nsl es := by
  subst h
  cases es <;> rfl
theorem all_take_succ {α : Type} {f : α → Bool} {l : List α} {i : Nat} {x : α} (h : l[i]? = some x) : (l.take (i + 1)).all f = ((l.take i).all f && f x) := by
  simp only [List.take_add_one, h, List.all_append, Option.toList, List.all_cons, List.all_nil, Bool.and_true]
theorem all_none {α : Type} {f : α → Bool} {l : List α} {i : Nat} {x : α} (h : l[i]? = some x) (hx : f x = false) : l.all f = false := by
  rw [Bool.eq_false_iff]
  intro ha
  rw [List.all_eq_true.1 ha x (List.mem_of_getElem? h)] at hx
  cases hx
def valid (a b : Int) : Bool := decide (0 ≤ a ∧ a < b ∧ b ≤ 1099511627776)
theorem C.period_Valid (a b : Int) : Pure Try.prog N.period_Valid [eP a b] (.d (.bool (valid a b))) := by
  refine F.period_Valid.go mixed rfl ?_
  repeat' first
    | refine st ?_
    | ((with_reducible apply go_i); (conv => whnf))
    | (with_reducible apply k_d <;> intro _)
    | (with_reducible apply k_b <;> intro _)
  all_goals (simp_all [valid] <;> omega)
def rel (a b c d : Int) : Int × Bool :=
  if valid a b && valid c d then
    (if b < c then 0 else if b = c then 1 else if d < a then 12 else if d = a then 11 else if a = c ∧ b = d then 6
    else if a = c ∧ b < d then 3 else if a = c then 9 else if b = d ∧ a > c then 5 else if b = d then 7 else if a < c ∧ d < b then 8 else if c < a ∧ b < d then 4 else if a < c then 2 else 10, true)
  else (0, false)
theorem C.allen_Relation (a b c d : Int) : Pure Try.prog N.allen_Relation [eP a b, eP c d] (.tup [.d (.int .i64 (rel a b c d).1), .d (.bool (rel a b c d).2)]) := by
  refine F.allen_Relation.go mixed rfl ?_
  repeat' first
    | refine st ?_
    | ((with_reducible apply go_i); (conv => whnf))
    | ((with_reducible apply k_pn); (· exact C.period_Valid _ _))
    | ((with_reducible apply k_pc); (· exact C.period_Valid _ _))
    | (with_reducible apply k_d <;> intro _)
    | (with_reducible apply k_b <;> intro _)
  all_goals simp_all [rel]
  all_goals (repeat' split) <;> omega
theorem rel_range (a b c d : Int) : 0 ≤ (rel a b c d).1 ∧ (rel a b c d).1 < 13 := by
  by_cases h : (valid a b && valid c d) = true
  · rw [rel, if_pos h]
    dsimp only
    repeat' split
    all_goals omega
  · rw [rel, if_neg h]
    exact ⟨by decide, by decide⟩
def isR (r a b c d : Int) : Bool :=
  if r = 0 then decide (b < c) else if r = 1 then decide (b = c) else if r = 2 then decide (a < c ∧ c < b ∧ b < d) else if r = 3 then decide (a = c ∧ b < d) else if r = 4 then decide (c < a ∧ b < d)
  else if r = 5 then decide (b = d ∧ c < a) else if r = 6 then decide (a = c ∧ b = d) else if r = 7 then decide (b = d ∧ a < c) else if r = 8 then decide (a < c ∧ d < b) else if r = 9 then decide (a = c ∧ d < b)
  else if r = 10 then decide (c < a ∧ a < d ∧ d < b) else if r = 11 then decide (d = a) else if r = 12 then decide (d < a) else false
theorem isR_at (a b c d : Int) (h1 : valid a b = true) (h2 : valid c d = true) : isR (rel a b c d).1 a b c d = true := by
  simp only [valid, decide_eq_true_eq] at h1 h2
  have h : (valid a b && valid c d) = true := by simp [valid, h1, h2]
  rw [rel, if_pos h]
  dsimp only
  repeat' split
  all_goals (simp [isR]; try omega)
theorem isR_of (r a b c d : Int) (h1 : valid a b = true) (h2 : valid c d = true) (h3 : isR r a b c d = true) : (rel a b c d).1 = r := by
  simp only [valid, decide_eq_true_eq] at h1 h2
  have h : (valid a b && valid c d) = true := by simp [valid, h1, h2]
  have hr : 0 ≤ r ∧ r < 13 := by
    by_cases hr : 0 ≤ r ∧ r < 13
    · exact hr
    · unfold isR at h3
      rw [if_neg (by omega), if_neg (by omega), if_neg (by omega), if_neg (by omega), if_neg (by omega), if_neg (by omega), if_neg (by omega), if_neg (by omega), if_neg (by omega), if_neg (by omega), if_neg (by omega), if_neg (by omega), if_neg (by omega)] at h3
      cases h3
  rw [rel, if_pos h]
  dsimp only
  rcases (show r = 0 ∨ r = 1 ∨ r = 2 ∨ r = 3 ∨ r = 4 ∨ r = 5 ∨ r = 6 ∨ r = 7 ∨ r = 8 ∨ r = 9 ∨ r = 10 ∨ r = 11 ∨ r = 12 by omega) with rfl | rfl | rfl | rfl | rfl | rfl | rfl | rfl | rfl | rfl | rfl | rfl | rfl
  · have hh := h3; simp only [isR, decide_eq_true_eq] at hh; simp at hh
    rw [if_pos (by omega)]
  · have hh := h3; simp only [isR, decide_eq_true_eq] at hh; simp at hh
    rw [if_neg (by omega), if_pos (by omega)]
  · have hh := h3; simp only [isR, decide_eq_true_eq] at hh; simp at hh
    rw [if_neg (by omega), if_neg (by omega), if_neg (by omega), if_neg (by omega), if_neg (by omega), if_neg (by omega), if_neg (by omega), if_neg (by omega), if_neg (by omega), if_neg (by omega), if_neg (by omega), if_pos (by omega)]
  · have hh := h3; simp only [isR, decide_eq_true_eq] at hh; simp at hh
    rw [if_neg (by omega), if_neg (by omega), if_neg (by omega), if_neg (by omega), if_neg (by omega), if_pos (by omega)]
  · have hh := h3; simp only [isR, decide_eq_true_eq] at hh; simp at hh
    rw [if_neg (by omega), if_neg (by omega), if_neg (by omega), if_neg (by omega), if_neg (by omega), if_neg (by omega), if_neg (by omega), if_neg (by omega), if_neg (by omega), if_neg (by omega), if_pos (by omega)]
  · have hh := h3; simp only [isR, decide_eq_true_eq] at hh; simp at hh
    rw [if_neg (by omega), if_neg (by omega), if_neg (by omega), if_neg (by omega), if_neg (by omega), if_neg (by omega), if_neg (by omega), if_pos (by omega)]
  · have hh := h3; simp only [isR, decide_eq_true_eq] at hh; simp at hh
    rw [if_neg (by omega), if_neg (by omega), if_neg (by omega), if_neg (by omega), if_pos (by omega)]
  · have hh := h3; simp only [isR, decide_eq_true_eq] at hh; simp at hh
    rw [if_neg (by omega), if_neg (by omega), if_neg (by omega), if_neg (by omega), if_neg (by omega), if_neg (by omega), if_neg (by omega), if_neg (by omega), if_pos (by omega)]
  · have hh := h3; simp only [isR, decide_eq_true_eq] at hh; simp at hh
    rw [if_neg (by omega), if_neg (by omega), if_neg (by omega), if_neg (by omega), if_neg (by omega), if_neg (by omega), if_neg (by omega), if_neg (by omega), if_neg (by omega), if_pos (by omega)]
  · have hh := h3; simp only [isR, decide_eq_true_eq] at hh; simp at hh
    rw [if_neg (by omega), if_neg (by omega), if_neg (by omega), if_neg (by omega), if_neg (by omega), if_neg (by omega), if_pos (by omega)]
  · have hh := h3; simp only [isR, decide_eq_true_eq] at hh; simp at hh
    rw [if_neg (by omega), if_neg (by omega), if_neg (by omega), if_neg (by omega), if_neg (by omega), if_neg (by omega), if_neg (by omega), if_neg (by omega), if_neg (by omega), if_neg (by omega), if_neg (by omega), if_neg (by omega)]
  · have hh := h3; simp only [isR, decide_eq_true_eq] at hh; simp at hh
    rw [if_neg (by omega), if_neg (by omega), if_neg (by omega), if_pos (by omega)]
  · have hh := h3; simp only [isR, decide_eq_true_eq] at hh; simp at hh
    rw [if_neg (by omega), if_neg (by omega), if_pos (by omega)]
theorem isR_eq (r a b c d : Int) (h1 : valid a b = true) (h2 : valid c d = true) : isR r a b c d = decide ((rel a b c d).1 = r) := by
  rw [Bool.eq_iff_iff, decide_eq_true_eq]
  exact ⟨isR_of r a b c d h1 h2, fun e => by rw [← e]; exact isR_at a b c d h1 h2⟩
theorem rel_is (a b c d : Int) : (rel a b c d).2 = (valid a b && valid c d) := by
  by_cases h : (valid a b && valid c d) = true
  · rw [rel, if_pos h, h]
  · rw [rel, if_neg h, Bool.eq_false_iff.2 h]
theorem rel_no {a b c d : Int} (h : (valid a b && valid c d) = false) : rel a b c d = (0, false) := by
  unfold rel; rw [h]; rfl
end Go.Proofs
end
section
/- Values, truth values, and their contracts: the program's and the reference's alike. No condition. -/
set_option linter.unusedSimpArgs false
set_option linter.unusedVariables false
set_option maxRecDepth 10000
set_option maxHeartbeats 4000000
namespace Go.Proofs
open Go.Bi

theorem enters_fn {P : Program} {f n : Nat} {ic : IC} {rs : List RV} (h : IsFn P f n ic rs) : Bi.Enters P f := by
  obtain ⟨fn, h1, h2, h3, h4, h5⟩ := h
  obtain ⟨code, hb, hc⟩ := Option.bind_eq_some_iff.1 h4
  exact ⟨fn, h1, by rw [hb]; rfl, by simpa using h3⟩

set_option maxRecDepth 100000 in
theorem calls_CompareString (a b : ByteArray) (w : World) :
    Calls Try.prog 117 #[.string a, .string b] w fun e w' => e = .returned (.int .i64 (Lib.compareBytes a.data.toList b.data.toList)) ∧ w' = w := by
  go_enter Try.func117, Try.ntmps117
  go_wp2
  rw [run_callFunc_extern Try.func119 (by kernel_rfl) (by kernel_rfl) (by kernel_rfl) (e := Extern.BytealgCompare.compare) (by kernel_rfl), Lib.run_compareString]
  simp only [Result.andThen]
  rw [Oper.upon_value]
  go_wp2
  go_ret
  exact ⟨rfl, rfl⟩

abbrev cmpB (a b : List UInt8) : Int := Lib.compareBytes a b
theorem C.CompareString (a b : List UInt8) : Pure Try.prog N.internal_bytealg_CompareString [.d (.str a), .d (.str b)] (.d (eI (cmpB a b))) := by
  refine ⟨enters_fn F.internal_bytealg_CompareString, fun M G w vs he hl hv => ?_⟩
  have h1 : vs = #[.string ⟨⟨a⟩⟩, .string ⟨⟨b⟩⟩] := by
    match vs, hl with
    | ⟨[x, y]⟩, _ =>
      have e1 := va_str (M := M) (G := G) (os := []) (hv 0 _ x rfl rfl)
      have e2 := va_str (M := M) (G := G) (os := []) (hv 1 _ y rfl rfl)
      rw [e1, e2]
  subst h1
  refine (calls_CompareString ⟨⟨a⟩⟩ ⟨⟨b⟩⟩ w).mono ?_
  rintro e w' ⟨rfl, rfl⟩
  exact ⟨_, rfl, M, G, _, [], he, Since.refl .., Rd.int' .., rfl, rfl⟩
theorem C.strings_Compare (a b : List UInt8) : Pure Try.prog N.strings_Compare [.d (.str a), .d (.str b)] (.d (eI (cmpB a b))) := by
  refine F.strings_Compare.go mixed rfl ?_
  repeat' first
    | refine st ?_
    | ((with_reducible apply go_i); (conv => whnf))
    | ((with_reducible apply k_pn); (· exact C.CompareString _ _))
    | ((with_reducible apply k_pc); (· exact C.CompareString _ _))
    | (with_reducible apply k_d <;> intro _)
    | (with_reducible apply k_b <;> intro _)
def cmpI (a b : Int) : Int := if a < b then -1 else if b < a then 1 else 0
theorem C.cmp_isNaN (a : Int) : Pure Try.prog N.cmp_isNaN_int [.d (eI a)] (.d (.bool false)) := by
  refine F.cmp_isNaN_int.go mixed rfl ?_
  repeat' first
    | refine st ?_
    | ((with_reducible apply go_i); (conv => whnf))
    | (with_reducible apply k_d <;> intro _)
    | (with_reducible apply k_b <;> intro _)
  all_goals simp
theorem C.cmp_Compare (a b : Int) : Pure Try.prog N.cmp_Compare_int [.d (eI a), .d (eI b)] (.d (eI (cmpI a b))) := by
  refine F.cmp_Compare_int.go mixed rfl ?_
  repeat' first
    | refine st ?_
    | ((with_reducible apply go_i); (conv => whnf))
    | ((with_reducible apply k_pn); (· exact C.cmp_isNaN _))
    | ((with_reducible apply k_pc); (· exact C.cmp_isNaN _))
    | (with_reducible apply k_d <;> intro _)
    | (with_reducible apply k_b <;> intro _)
  · rename_i h; rw [cmpI, if_pos h]
  · rename_i h h2; rw [cmpI, if_neg h, if_pos h2]
  · rename_i h h2; rw [cmpI, if_neg h, if_neg h2]
def or3 (a b c : Int) : Int := if a ≠ 0 then a else if b ≠ 0 then b else c
theorem C.cmp_Or (a b c : Int) : Pure Try.prog N.cmp_Or_int [.d (.sl [[eI a], [eI b], [eI c]])] (.d (eI (or3 a b c))) := by
  refine F.cmp_Or_int.go mixed rfl ?_
  repeat' first
    | refine st ?_
    | ((with_reducible apply go_i); (conv => whnf))
    | (with_reducible apply k_d <;> intro _)
    | (with_reducible apply k_b <;> intro _)
  refine x_loop1 mixed Lt.cmp_Or_int_l0 Lk.cmp_Or_int_l0 (fun (i : Nat) => [.d (eI i)]) (fun i => []) (fun i => i ≤ 3 ∧ (0 < i → a = 0) ∧ (1 < i → b = 0) ∧ (2 < i → c = 0)) (fun i => 3 - i) 0 rfl rfl rfl rfl (fun _ _ => ⟨rfl, rfl⟩) rfl ⟨by omega, by omega, by omega, by omega⟩ ?_
  repeat' first
    | refine st ?_
    | ((with_reducible apply go_i); (conv => whnf))
    | (with_reducible apply k_d <;> intro _)
    | (with_reducible apply k_b <;> intro _)
  intro i ⟨h1, h2, h3, h4⟩
  have hl3 : ([[eI a], [eI b], [eI c]] : List (List D)).length = 3 := rfl
  have hm : ∀ e ∈ ([[eI a], [eI b], [eI c]] : List (List D)), e.length = 1 := by intro e he; simp at he; rcases he with rfl | rfl | rfl <;> rfl
  rcases (show i = 0 ∨ i = 1 ∨ i = 2 ∨ i = 3 by omega) with rfl | rfl | rfl | rfl
  · have hg : ([[eI a], [eI b], [eI c]] : List (List D))[((0 : Nat) : Int).toNat]? = some [eI a] := rfl
    repeat' first
      | refine st ?_
      | ((with_reducible apply go_i); (conv => whnf))
      | (with_reducible apply k_d <;> intro _)
      | (with_reducible apply k_b <;> intro _)
    rotate_left
    · rename_i h; rw [or3, if_pos h]
    · rename_i h; exact ⟨1, rfl, rfl, rfl, by omega, by omega, by omega, by omega, by omega⟩
  · have hg : ([[eI a], [eI b], [eI c]] : List (List D))[((1 : Nat) : Int).toNat]? = some [eI b] := rfl
    have e1 := h2 (by omega)
    repeat' first
      | refine st ?_
      | ((with_reducible apply go_i); (conv => whnf))
      | (with_reducible apply k_d <;> intro _)
      | (with_reducible apply k_b <;> intro _)
    rotate_left
    · rename_i h; rw [or3, if_neg (by omega), if_pos h]
    · rename_i h; exact ⟨2, rfl, rfl, rfl, by omega, by omega, by omega, by omega, by omega⟩
  · have hg : ([[eI a], [eI b], [eI c]] : List (List D))[((2 : Nat) : Int).toNat]? = some [eI c] := rfl
    have e1 := h2 (by omega)
    have e2 := h3 (by omega)
    repeat' first
      | refine st ?_
      | ((with_reducible apply go_i); (conv => whnf))
      | (with_reducible apply k_d <;> intro _)
      | (with_reducible apply k_b <;> intro _)
    rotate_left
    · rename_i h; rw [or3, if_neg (by omega), if_neg (by omega)]
    · rename_i h; exact ⟨3, rfl, rfl, rfl, by omega, by omega, by omega, by omega, by omega⟩
  · have e1 := h2 (by omega)
    have e2 := h3 (by omega)
    have e3 := h4 (by omega)
    repeat' first
      | refine st ?_
      | ((with_reducible apply go_i); (conv => whnf))
      | (with_reducible apply k_d <;> intro _)
      | (with_reducible apply k_b <;> intro _)
    rw [or3, if_neg (by omega), if_neg (by omega), e3]

/-! ### Values -/
structure Vl where
  k : Int
  n : Int
  s : List UInt8
  deriving DecidableEq
abbrev Vl.ds (v : Vl) : List D := [eI v.k, eI v.n, .str v.s]
abbrev eV (v : Vl) : AV := .agg [.d (eI v.k), .d (eI v.n), .d (.str v.s)]
def vNull : Vl := ⟨0, 0, []⟩
def prC (c : UInt8) : Bool := decide (32 ≤ c.toNat ∧ c.toNat ≤ 126)
def prB (s : List UInt8) : Bool := s.all prC
def vValid (v : Vl) : Bool :=
  if v.k = 0 then decide (v.n = 0 ∧ v.s = [])
  else if v.k = 1 then decide (v.s = [] ∧ -1125899906842624 ≤ v.n ∧ v.n ≤ 1125899906842624)
  else if v.k = 2 then decide (v.n = 0 ∧ v.s.length ≤ 200) && prB v.s
  else if v.k = 3 then decide (v.s = [] ∧ (v.n = 0 ∨ v.n = 1)) else false
theorem C.value_printable (s : List UInt8) (hs : s.length ≤ 4611686018427387904) : Pure Try.prog N.value_printable [.d (.str s)] (.d (.bool (prB s))) := by
  refine F.value_printable.go mixed rfl ?_
  repeat' first
    | refine st ?_
    | ((with_reducible apply go_i); (conv => whnf))
    | (with_reducible apply k_d <;> intro _)
    | (with_reducible apply k_b <;> intro _)
  refine x_loop1 mixed Lt.value_printable_l0 Lk.value_printable_l0 (fun (i : Nat) => [.d (eI i)]) (fun i => []) (fun i => i ≤ s.length ∧ (s.take i).all prC = true) (fun i => s.length - i) 0 rfl rfl rfl rfl (fun _ _ => ⟨rfl, rfl⟩) rfl ⟨by omega, rfl⟩ ?_
  repeat' first
    | refine st ?_
    | ((with_reducible apply go_i); (conv => whnf))
    | (with_reducible apply k_d <;> intro _)
    | (with_reducible apply k_b <;> intro _)
  intro i ⟨h1, h2⟩
  cases hx : s[i]? with
  | some c =>
    have hlt := (List.getElem?_eq_some_iff.1 hx).1
    have hg : s.getD ((i : Int)).toNat 0 = c := by simp [List.getD_eq_getElem?_getD, hx]
    repeat' first
      | refine st ?_
      | ((with_reducible apply go_i); (conv => whnf))
      | (with_reducible apply k_d <;> intro _)
      | (with_reducible apply k_b <;> intro _)
    · rename_i h
      rw [hg] at h
      rw [prB, all_none hx (decide_eq_false (by omega))]
    · rename_i h h'
      rw [hg] at h h'
      rw [prB, all_none hx (decide_eq_false (by omega))]
    · rename_i h h'
      rw [hg] at h h'
      refine ⟨i + 1, rfl, rfl, rfl, by omega, by omega, ?_⟩
      rw [all_take_succ hx, h2, prC, decide_eq_true (by omega)]; rfl
  | none =>
    have hge := List.getElem?_eq_none_iff.1 hx
    rw [List.take_of_length_le hge] at h2
    repeat' first
      | refine st ?_
      | ((with_reducible apply go_i); (conv => whnf))
      | (with_reducible apply k_d <;> intro _)
      | (with_reducible apply k_b <;> intro _)
    rw [prB, h2]
theorem C.r7_Printable (s : List UInt8) (hs : s.length ≤ 4611686018427387904) : Pure Try.prog N.bt_ref07_Printable [.d (.str s)] (.d (.bool (prB s))) := by
  refine F.bt_ref07_Printable.go mixed rfl ?_
  repeat' first
    | refine st ?_
    | ((with_reducible apply go_i); (conv => whnf))
    | (with_reducible apply k_d <;> intro _)
    | (with_reducible apply k_b <;> intro _)
  refine x_loop1 mixed Lt.bt_ref07_Printable_l0 Lk.bt_ref07_Printable_l0 (fun (i : Nat) => [.d (eI i)]) (fun i => []) (fun i => i ≤ s.length ∧ (s.take i).all prC = true) (fun i => s.length - i) 0 rfl rfl rfl rfl (fun _ _ => ⟨rfl, rfl⟩) rfl ⟨by omega, rfl⟩ ?_
  repeat' first
    | refine st ?_
    | ((with_reducible apply go_i); (conv => whnf))
    | (with_reducible apply k_d <;> intro _)
    | (with_reducible apply k_b <;> intro _)
  intro i ⟨h1, h2⟩
  cases hx : s[i]? with
  | some c =>
    have hlt := (List.getElem?_eq_some_iff.1 hx).1
    have hg : s.getD ((i : Int)).toNat 0 = c := by simp [List.getD_eq_getElem?_getD, hx]
    repeat' first
      | refine st ?_
      | ((with_reducible apply go_i); (conv => whnf))
      | (with_reducible apply k_d <;> intro _)
      | (with_reducible apply k_b <;> intro _)
    · rename_i h
      rw [hg] at h
      rw [prB, all_none hx (decide_eq_false (by omega))]
    · rename_i h h'
      rw [hg] at h h'
      rw [prB, all_none hx (decide_eq_false (by omega))]
    · rename_i h h'
      rw [hg] at h h'
      refine ⟨i + 1, rfl, rfl, rfl, by omega, by omega, ?_⟩
      rw [all_take_succ hx, h2, prC, decide_eq_true (by omega)]; rfl
  | none =>
    have hge := List.getElem?_eq_none_iff.1 hx
    rw [List.take_of_length_le hge] at h2
    repeat' first
      | refine st ?_
      | ((with_reducible apply go_i); (conv => whnf))
      | (with_reducible apply k_d <;> intro _)
      | (with_reducible apply k_b <;> intro _)
    rw [prB, h2]
theorem C.value_Valid (v : Vl) (hs : v.s.length ≤ 4611686018427387904) : Pure Try.prog N.value_Valid [eV v] (.d (.bool (vValid v))) := by
  refine F.value_Valid.go mixed rfl ?_
  have hP := C.value_printable v.s hs
  repeat' first
    | refine st ?_
    | ((with_reducible apply go_i); (conv => whnf))
    | ((with_reducible apply k_pn); (· exact hP))
    | ((with_reducible apply k_pc); (· exact hP))
    | (with_reducible apply k_d <;> intro _)
    | (with_reducible apply k_b <;> intro _)
  all_goals (simp_all [vValid] <;> omega)
theorem C.r7_Valid (v : Vl) (hs : v.s.length ≤ 4611686018427387904) : Pure Try.prog N.bt_ref07_Valid [eV v] (.d (.bool (vValid v))) := by
  refine F.bt_ref07_Valid.go mixed rfl ?_
  have hP := C.r7_Printable v.s hs
  repeat' first
    | refine st ?_
    | ((with_reducible apply go_i); (conv => whnf))
    | ((with_reducible apply k_pn); (· exact hP))
    | ((with_reducible apply k_pc); (· exact hP))
    | (with_reducible apply k_d <;> intro _)
    | (with_reducible apply k_b <;> intro _)
  all_goals (simp_all [vValid] <;> omega)
theorem C.value_Null : Pure Try.prog N.value_Null [] (eV vNull) := by
  refine F.value_Null.go mixed rfl ?_
  repeat' first
    | refine st ?_
    | ((with_reducible apply go_i); (conv => whnf))
    | (with_reducible apply k_d <;> intro _)
    | (with_reducible apply k_b <;> intro _)
  all_goals rfl
theorem C.r7_Null : Pure Try.prog N.bt_ref07_Null [] (eV vNull) := by
  refine F.bt_ref07_Null.go mixed rfl ?_
  repeat' first
    | refine st ?_
    | ((with_reducible apply go_i); (conv => whnf))
    | (with_reducible apply k_d <;> intro _)
    | (with_reducible apply k_b <;> intro _)
  all_goals rfl
def vBool (b : Bool) : Vl := ⟨3, if b then 1 else 0, []⟩
theorem C.value_Bool (b : Bool) : Pure Try.prog N.value_Bool [.d (.bool b)] (eV (vBool b)) := by
  refine F.value_Bool.go mixed rfl ?_
  repeat' first
    | refine st ?_
    | ((with_reducible apply go_i); (conv => whnf))
    | (with_reducible apply k_d <;> intro _)
    | (with_reducible apply k_b <;> intro _)
  all_goals simp_all [vBool]
def vOrN (v : Vl) : Vl := if vValid v then v else vNull
theorem C.value_orNull (v : Vl) (hs : v.s.length ≤ 4611686018427387904) : Pure Try.prog N.value_orNull [eV v] (eV (vOrN v)) := by
  refine F.value_orNull.go mixed rfl ?_
  have hV := C.value_Valid v hs
  repeat' first
    | refine st ?_
    | ((with_reducible apply go_i); (conv => whnf))
    | ((with_reducible apply k_pn); (· first | exact hV | exact C.value_Null))
    | ((with_reducible apply k_pc); (· first | exact hV | exact C.value_Null))
    | (with_reducible apply k_d <;> intro _)
    | (with_reducible apply k_b <;> intro _)
  all_goals simp_all [vOrN]
def vInt (n : Int) : Vl := vOrN ⟨1, n, []⟩
def vText (s : List UInt8) : Vl := vOrN ⟨2, 0, s⟩
theorem C.value_Int (n : Int) : Pure Try.prog N.value_Int [.d (eI n)] (eV (vInt n)) := by
  refine F.value_Int.go mixed rfl ?_
  have hV := C.value_orNull ⟨1, n, []⟩ (by simp)
  repeat' first
    | refine st ?_
    | ((with_reducible apply go_i); (conv => whnf))
    | ((with_reducible apply k_pn); (· exact hV))
    | ((with_reducible apply k_pc); (· exact hV))
    | (with_reducible apply k_d <;> intro _)
    | (with_reducible apply k_b <;> intro _)
  all_goals rfl
theorem C.value_Text (s : List UInt8) (hs : s.length ≤ 4611686018427387904) : Pure Try.prog N.value_Text [.d (.str s)] (eV (vText s)) := by
  refine F.value_Text.go mixed rfl ?_
  have hV := C.value_orNull ⟨2, 0, s⟩ hs
  repeat' first
    | refine st ?_
    | ((with_reducible apply go_i); (conv => whnf))
    | ((with_reducible apply k_pn); (· exact hV))
    | ((with_reducible apply k_pc); (· exact hV))
    | (with_reducible apply k_d <;> intro _)
    | (with_reducible apply k_b <;> intro _)
  all_goals rfl
end Go.Proofs
end
section
/- Comparisons of values and truth values: the program's and the reference's alike. No condition. -/
set_option linter.unusedSimpArgs false
set_option linter.unusedVariables false
set_option maxRecDepth 10000
set_option maxHeartbeats 4000000
namespace Go.Proofs
open Go.Bi

theorem cmpI_eq {a b : Int} : cmpI a b = 0 ↔ a = b := by unfold cmpI; split <;> (try split) <;> omega
theorem cmpB_less : ∀ (a b : List UInt8), Op.bytesLess a b = decide (cmpB a b < 0) ∧ Op.bytesLess b a = decide (0 < cmpB a b) ∧ (cmpB a b = 0 ↔ a = b) ∧ (cmpB a b = -1 ∨ cmpB a b = 0 ∨ cmpB a b = 1)
  | [], [] => by simp [Op.bytesLess, cmpB, Lib.compareBytes]
  | [], _ :: _ => by simp [Op.bytesLess, cmpB, Lib.compareBytes]
  | _ :: _, [] => by simp [Op.bytesLess, cmpB, Lib.compareBytes]
  | x :: a, y :: b => by
    obtain ⟨h1, h2, h3, h4⟩ := cmpB_less a b
    simp only [Op.bytesLess, cmpB, Lib.compareBytes] at *
    by_cases hxy : x < y
    · have h5 : ¬ y < x := by intro h; exact absurd (UInt8.lt_trans hxy h) (UInt8.lt_irrefl x)
      have h6 : x ≠ y := by intro h; rw [h] at hxy; exact UInt8.lt_irrefl y hxy
      simp [hxy, h5, h6, Ne.symm h6]
    · by_cases hyx : y < x
      · have h6 : x ≠ y := by intro h; rw [h] at hyx; exact UInt8.lt_irrefl y hyx
        simp [hxy, hyx, h6, Ne.symm h6]
      · have h6 : x = y := UInt8.le_antisymm (UInt8.not_lt.1 hyx) (UInt8.not_lt.1 hxy)
        subst h6
        simp only [UInt8.lt_irrefl, decide_false, Bool.false_or, beq_self_eq_true, Bool.true_and, if_false, h1, h2, List.cons.injEq, true_and]
        exact ⟨h3, h4⟩
def vCmp (a b : Vl) : Int := or3 (cmpI a.k b.k) (cmpI a.n b.n) (cmpB a.s b.s)
theorem C.value_Compare (a b : Vl) : Pure Try.prog N.value_Compare [eV a, eV b] (.d (eI (vCmp a b))) := by
  refine F.value_Compare.go mixed rfl ?_
  repeat' first
    | refine st ?_
    | ((with_reducible apply go_i); (conv => whnf))
    | ((with_reducible apply k_pn); (· first | exact C.cmp_Compare _ _ | exact C.strings_Compare _ _ | exact C.cmp_Or _ _ _))
    | ((with_reducible apply k_pc); (· first | exact C.cmp_Compare _ _ | exact C.strings_Compare _ _ | exact C.cmp_Or _ _ _))
    | (with_reducible apply k_d <;> intro _)
    | (with_reducible apply k_b <;> intro _)
  all_goals rfl
def sgn (l g : Bool) : Int := if l then -1 else if g then 1 else 0
def vDec (a b : Vl) (is : Bool) : Int := if a.k = 0 ∨ a.k ≠ b.k then 1 else if is then 2 else 0
theorem C.value_decide (a b : Vl) (is : Bool) : Pure Try.prog N.value_decide [eV a, eV b, .d (.bool is)] (.d (eI (vDec a b is))) := by
  refine F.value_decide.go mixed rfl ?_
  repeat' first
    | refine st ?_
    | ((with_reducible apply go_i); (conv => whnf))
    | (with_reducible apply k_d <;> intro _)
    | (with_reducible apply k_b <;> intro _)
  all_goals simp_all [vDec]
def vEq (a b : Vl) : Int := vDec a b (decide (vCmp a b = 0))
def vLess (a b : Vl) : Int := vDec a b (decide (vCmp a b < 0))
theorem C.value_Equal (a b : Vl) : Pure Try.prog N.value_Equal [eV a, eV b] (.d (eI (vEq a b))) := by
  refine F.value_Equal.go mixed rfl ?_
  repeat' first
    | refine st ?_
    | ((with_reducible apply go_i); (conv => whnf))
    | ((with_reducible apply k_pn); (· first | exact C.value_Compare _ _ | exact C.value_decide _ _ _))
    | ((with_reducible apply k_pc); (· first | exact C.value_Compare _ _ | exact C.value_decide _ _ _))
    | (with_reducible apply k_d <;> intro _)
    | (with_reducible apply k_b <;> intro _)
  all_goals rfl
theorem C.value_Less (a b : Vl) : Pure Try.prog N.value_Less [eV a, eV b] (.d (eI (vLess a b))) := by
  refine F.value_Less.go mixed rfl ?_
  repeat' first
    | refine st ?_
    | ((with_reducible apply go_i); (conv => whnf))
    | ((with_reducible apply k_pn); (· first | exact C.value_Compare _ _ | exact C.value_decide _ _ _))
    | ((with_reducible apply k_pc); (· first | exact C.value_Compare _ _ | exact C.value_decide _ _ _))
    | (with_reducible apply k_d <;> intro _)
    | (with_reducible apply k_b <;> intro _)
  all_goals rfl
/-! ### Truth values -/
def tNorm (t : Int) : Int := if t = 0 ∨ t = 2 then t else 1
theorem tNorm_is (t : Int) : tNorm t = 0 ∨ tNorm t = 1 ∨ tNorm t = 2 := by unfold tNorm; split <;> omega
theorem C.value_normal (t : Int) : Pure Try.prog N.value_normal [.d (eI t)] (.d (eI (tNorm t))) := by
  refine F.value_normal.go mixed rfl ?_
  repeat' first
    | refine st ?_
    | ((with_reducible apply go_i); (conv => whnf))
    | (with_reducible apply k_d <;> intro _)
    | (with_reducible apply k_b <;> intro _)
  all_goals simp_all [tNorm]
def tNot (t : Int) : Int := 2 - tNorm t
theorem C.value_Not (t : Int) : Pure Try.prog N.value_Not [.d (eI t)] (.d (eI (tNot t))) := by
  refine F.value_Not.go mixed rfl ?_
  have := tNorm_is t
  repeat' first
    | refine st ?_
    | ((with_reducible apply go_i); (conv => whnf))
    | ((with_reducible apply k_pn); (· exact C.value_normal _))
    | ((with_reducible apply k_pc); (· exact C.value_normal _))
    | (with_reducible apply k_d <;> intro _)
    | (with_reducible apply k_b <;> intro _)
  all_goals rfl
def tAnd (a b : Int) : Int := min (min 2 (tNorm a)) (tNorm b)
def tOr (a b : Int) : Int := tNot (tAnd (tNot a) (tNot b))
theorem C.value_least (a b : Int) : Pure Try.prog N.value_least [.d (.sl [[eI a], [eI b]])] (.d (eI (tAnd a b))) := by
  refine F.value_least.go mixed rfl ?_
  repeat' first
    | refine st ?_
    | ((with_reducible apply go_i); (conv => whnf))
    | (with_reducible apply k_d <;> intro _)
    | (with_reducible apply k_b <;> intro _)
  refine x_loop2 mixed Lt.value_least_l0 Lk.value_least_l0 (fun (i : Nat) (t : Int) => [.d (eI t), .d (eI i)]) (fun i t => []) (fun i t => (i = 0 ∧ t = 2) ∨ (i = 1 ∧ t = min 2 (tNorm a)) ∨ (i = 2 ∧ t = tAnd a b)) (fun i _ => 2 - i) 0 2 rfl rfl rfl rfl (fun _ _ _ => ⟨rfl, rfl⟩) rfl (.inl ⟨rfl, rfl⟩) ?_
  repeat' first
    | refine st ?_
    | ((with_reducible apply go_i); (conv => whnf))
    | (with_reducible apply k_d <;> intro _)
    | (with_reducible apply k_b <;> intro _)
  intro i t h1
  have hl3 : ([[eI a], [eI b]] : List (List D)).length = 2 := rfl
  have hm : ∀ e ∈ ([[eI a], [eI b]] : List (List D)), e.length = 1 := by intro e he; simp at he; rcases he with rfl | rfl <;> rfl
  rcases h1 with ⟨rfl, rfl⟩ | ⟨rfl, rfl⟩ | ⟨rfl, rfl⟩
  · have hg : ([[eI a], [eI b]] : List (List D))[((0 : Nat) : Int).toNat]? = some [eI a] := rfl
    repeat' first
      | refine st ?_
      | ((with_reducible apply go_i); (conv => whnf))
      | ((with_reducible apply k_pn); (· exact C.value_normal _))
      | ((with_reducible apply k_pc); (· exact C.value_normal _))
      | (with_reducible apply k_d <;> intro _)
      | (with_reducible apply k_b <;> intro _)
    exact ⟨1, _, rfl, rfl, rfl, by omega, .inr (.inl ⟨rfl, rfl⟩)⟩
  · have hg : ([[eI a], [eI b]] : List (List D))[((1 : Nat) : Int).toNat]? = some [eI b] := rfl
    repeat' first
      | refine st ?_
      | ((with_reducible apply go_i); (conv => whnf))
      | ((with_reducible apply k_pn); (· exact C.value_normal _))
      | ((with_reducible apply k_pc); (· exact C.value_normal _))
      | (with_reducible apply k_d <;> intro _)
      | (with_reducible apply k_b <;> intro _)
    exact ⟨2, _, rfl, rfl, rfl, by omega, .inr (.inr ⟨rfl, rfl⟩)⟩
  · repeat' first
      | refine st ?_
      | ((with_reducible apply go_i); (conv => whnf))
      | (with_reducible apply k_d <;> intro _)
      | (with_reducible apply k_b <;> intro _)
theorem C.value_And (a b : Int) : Pure Try.prog N.value_And [.d (eI a), .d (eI b)] (.d (eI (tAnd a b))) := by
  refine F.value_And.go mixed rfl ?_
  repeat' first
    | refine st ?_
    | ((with_reducible apply go_i); (conv => whnf))
    | ((with_reducible apply k_pn); (· exact C.value_least _ _))
    | ((with_reducible apply k_pc); (· exact C.value_least _ _))
    | (with_reducible apply k_d <;> intro _)
    | (with_reducible apply k_b <;> intro _)
theorem C.value_Or (a b : Int) : Pure Try.prog N.value_Or [.d (eI a), .d (eI b)] (.d (eI (tOr a b))) := by
  refine F.value_Or.go mixed rfl ?_
  repeat' first
    | refine st ?_
    | ((with_reducible apply go_i); (conv => whnf))
    | ((with_reducible apply k_pn); (· first | exact C.value_Not _ | exact C.value_least _ _))
    | ((with_reducible apply k_pc); (· first | exact C.value_Not _ | exact C.value_least _ _))
    | (with_reducible apply k_d <;> intro _)
    | (with_reducible apply k_b <;> intro _)
  all_goals rfl
def vTruth (v : Vl) : Int := if v = vBool true then 2 else if v = vBool false then 0 else 1
theorem vl_eq {v w : Vl} : v = w ↔ (v.k = w.k ∧ v.n = w.n ∧ v.s = w.s) := by cases v; cases w; simp
theorem vTruth_is (v : Vl) : vTruth v = if v.k = 3 ∧ v.n = 1 ∧ v.s = [] then 2 else if v.k = 3 ∧ v.n = 0 ∧ v.s = [] then 0 else 1 := by
  simp only [vTruth, vl_eq, vBool, if_true, Bool.false_eq_true, if_false]
theorem C.value_Truth (v : Vl) : Pure Try.prog N.value_Truth [eV v] (.d (eI (vTruth v))) := by
  refine F.value_Truth.go mixed rfl ?_
  rw [vTruth_is]
  repeat' first
    | refine st ?_
    | ((with_reducible apply go_i); (conv => whnf))
    | ((with_reducible apply k_pn); (· exact C.value_Bool _))
    | ((with_reducible apply k_pc); (· exact C.value_Bool _))
    | (with_reducible apply k_d <;> intro _)
    | (with_reducible apply k_b <;> intro _)
  all_goals (simp_all [vBool])
def vOf (t : Int) : Vl := if t = 2 then vBool true else if t = 0 then vBool false else vNull
theorem C.value_Of (t : Int) : Pure Try.prog N.value_Of [.d (eI t)] (eV (vOf t)) := by
  refine F.value_Of.go mixed rfl ?_
  repeat' first
    | refine st ?_
    | ((with_reducible apply go_i); (conv => whnf))
    | ((with_reducible apply k_pn); (· first | exact C.value_normal _ | exact C.value_Null | exact C.value_Bool _))
    | ((with_reducible apply k_pc); (· first | exact C.value_normal _ | exact C.value_Null | exact C.value_Bool _))
    | (with_reducible apply k_d <;> intro _)
    | (with_reducible apply k_b <;> intro _)
  all_goals (by_cases h0 : t = 0 <;> by_cases h2 : t = 2 <;> simp_all [tNorm, vOf, vNull, vBool])
/-! ### Rows -/
def eVs (l : List Vl) : List (List D) := l.map Vl.ds
theorem eVs_len (l : List Vl) : (eVs l).length = l.length := by simp [eVs]
theorem eVs_get {l : List Vl} {i : Nat} {v : Vl} (h : l[i]? = some v) : (eVs l)[i]? = some v.ds := by simp [eVs, h]
theorem eVs_mem (l : List Vl) : ∀ e ∈ eVs l, e.length = 3 := by
  intro e he
  obtain ⟨x, _, rfl⟩ := List.mem_map.1 he
  rfl
def vAt (l : List Vl) (i : Int) : Vl := if i < 0 ∨ (l.length : Int) ≤ i then vNull else l.getD i.toNat vNull
theorem vAt_get {l : List Vl} {i : Int} (h : ¬ i < 0) (h2 : ¬ (l.length : Int) ≤ i) : l[i.toNat]? = some (vAt l i) := by
  rw [vAt, if_neg (by omega), List.getD_eq_getElem?_getD, List.getElem?_eq_getElem (by omega)]; rfl
theorem C.tuple_at (l : List Vl) (hl : l.length ≤ 4611686018427387904) (d : D) (hd : SlD d (eVs l)) (i : Int) : Pure Try.prog N.tuple_at [.d d, .d (eI i)] (eV (vAt l i)) := by
  refine F.tuple_at.go mixed rfl ?_
  have h1 := eVs_len l
  have hm := eVs_mem l
  by_cases hi : i < 0
  · have e : vAt l i = vNull := if_pos (.inl hi)
    rw [e]
    repeat' first
      | refine st ?_
      | ((with_reducible apply go_i); (conv => whnf))
      | ((with_reducible apply k_pn); (· exact C.value_Null))
      | ((with_reducible apply k_pc); (· exact C.value_Null))
      | (with_reducible apply k_d <;> intro _)
      | (with_reducible apply k_b <;> intro _)
  · by_cases hi2 : (l.length : Int) ≤ i
    · have e : vAt l i = vNull := if_pos (.inr hi2)
      rw [e]
      repeat' first
        | refine st ?_
        | ((with_reducible apply go_i); (conv => whnf))
        | ((with_reducible apply k_pn); (· exact C.value_Null))
        | ((with_reducible apply k_pc); (· exact C.value_Null))
        | (with_reducible apply k_d <;> intro _)
        | (with_reducible apply k_b <;> intro _)
    · have hg := eVs_get (vAt_get hi hi2)
      repeat' first
        | refine st ?_
        | ((with_reducible apply go_i); (conv => whnf))
        | (with_reducible apply k_d <;> intro _)
        | (with_reducible apply k_b <;> intro _)
theorem C.tuple_Pick1 (l : List Vl) (hl : l.length ≤ 4611686018427387904) (d : D) (hd : SlD d (eVs l)) (i : Int) : Pure Try.prog N.tuple_Pick [.d d, .d (.sl [[eI i]])] (.d (.sl [(vAt l i).ds])) := by
  refine F.tuple_Pick.go mixed rfl ?_
  have hA := C.tuple_at l hl d hd i
  repeat' first
    | refine st ?_
    | ((with_reducible apply go_i); (conv => whnf))
    | (with_reducible apply k_d <;> intro _)
    | (with_reducible apply k_b <;> intro _)
  refine x_loop2 mixed Lt.tuple_Pick_l0 Lk.tuple_Pick_l0 (fun (i : Nat) (es : List (List D)) => [.arr 0 es.length, .d (eI i)]) (fun i es => [.arr es 3 0 false]) (fun k es => (k = 0 ∧ es = []) ∨ (k = 1 ∧ es = [(vAt l i).ds])) (fun i _ => 1 - i) 0 [] rfl rfl rfl rfl (fun _ _ _ => ⟨rfl, rfl⟩) rfl (.inl ⟨rfl, rfl⟩) ?_
  repeat' first
    | refine st ?_
    | ((with_reducible apply go_i); (conv => whnf))
    | (with_reducible apply k_d <;> intro _)
    | (with_reducible apply k_b <;> intro _)
  intro k es h1
  have hl3 : ([[eI i]] : List (List D)).length = 1 := rfl
  have hm : ∀ e ∈ ([[eI i]] : List (List D)), e.length = 1 := by intro e he; simp at he; rcases he with rfl; rfl
  rcases h1 with ⟨rfl, rfl⟩ | ⟨rfl, rfl⟩
  · have hg : ([[eI i]] : List (List D))[((0 : Nat) : Int).toNat]? = some [eI i] := rfl
    repeat' first
      | refine st ?_
      | ((with_reducible apply go_i); (conv => whnf))
      | ((with_reducible apply k_pn); (· exact hA))
      | ((with_reducible apply k_pc); (· exact hA))
      | (with_reducible apply k_d <;> intro _)
      | (with_reducible apply k_b <;> intro _)
    exact ⟨1, _, rfl, rfl, rfl, by omega, .inr ⟨rfl, rfl⟩⟩
  · repeat' first
      | refine st ?_
      | ((with_reducible apply go_i); (conv => whnf))
      | (with_reducible apply k_d <;> intro _)
      | (with_reducible apply k_b <;> intro _)
    rfl
end Go.Proofs
end
section
/- Expressions; what is well-formed: the program's and the reference's alike. No condition. -/
set_option linter.unusedSimpArgs false
set_option linter.unusedVariables false
set_option maxRecDepth 10000
set_option maxHeartbeats 4000000
namespace Go.Proofs
open Go.Bi

/-- An expression; `nl`: an empty list of arguments is nil. -/
inductive Ex where
  | mk (op n : Int) (v : Vl) (name : List UInt8) (nl : Bool) (args : List Ex)
theorem Ex.ind {p : Ex → Prop} (h : ∀ op n v name nl args, (∀ a ∈ args, p a) → p (.mk op n v name nl args)) : ∀ e, p e
  | .mk op n v name nl args => h _ _ _ _ _ _ fun a ha => Ex.ind h a
termination_by e => SizeOf.sizeOf e
decreasing_by
  have := List.sizeOf_lt_of_mem ha
  simp only [Ex.mk.sizeOf_spec]
  omega
def ng (nl : Bool) (l : List (List D)) : D := if nl && l.isEmpty then .nil else .sl l
theorem sld_ng {nl : Bool} {l : List (List D)} : SlD (ng nl l) l := by
  unfold ng
  split
  · rename_i h
    simp only [Bool.and_eq_true, List.isEmpty_iff] at h
    exact .inl ⟨rfl, h.2⟩
  · exact .inr rfl
abbrev xds (op n : Int) (v : Vl) (name : List UInt8) (d : D) : List D := [eI op, eI n, eI v.k, eI v.n, .str v.s, .str name, d]
abbrev eX (op n : Int) (v : Vl) (name : List UInt8) (d : D) : AV := .agg [.d (eI op), .d (eI n), .d (eI v.k), .d (eI v.n), .d (.str v.s), .d (.str name), .d d]
mutual
def Ex.ds : Ex → List D
  | .mk op n v name nl args => xds op n v name (ng nl (Ex.dss args))
def Ex.dss : List Ex → List (List D)
  | [] => []
  | e :: es => e.ds :: Ex.dss es
end
theorem Ex.dss_eq : ∀ l, Ex.dss l = l.map Ex.ds
  | [] => by simp [Ex.dss]
  | e :: es => by simp [Ex.dss, Ex.dss_eq es]
def xL (l : List Ex) : List (List D) := l.map Ex.ds
theorem Ex.ds_mk (op n : Int) (v : Vl) (name : List UInt8) (nl : Bool) (args : List Ex) : (Ex.mk op n v name nl args).ds = xds op n v name (ng nl (xL args)) := by
  rw [Ex.ds, Ex.dss_eq]; rfl
def Ex.av (e : Ex) : AV := .agg (e.ds.map .d)
theorem Ex.av_mk (op n : Int) (v : Vl) (name : List UInt8) (nl : Bool) (args : List Ex) : (Ex.mk op n v name nl args).av = eX op n v name (ng nl (xL args)) := by
  rw [Ex.av, Ex.ds_mk]; rfl
theorem xL_len (l : List Ex) : (xL l).length = l.length := by simp [xL]
theorem xL_mem (l : List Ex) : ∀ e ∈ xL l, e.length = 7 := by
  intro e he
  obtain ⟨⟨op, n, v, name, nl, args⟩, _, rfl⟩ := List.mem_map.1 he
  rw [Ex.ds_mk]; rfl
theorem xL_get {l : List Ex} {i : Nat} {e : Ex} (h : l[i]? = some e) : (xL l)[i]? = some e.ds := by simp [xL, h]
/-- How much an expression holds. -/
def Ex.bk (e : Ex) : Nat := bulkL e.ds
theorem bulkLL_mem {l : List (List D)} {x : List D} (h : x ∈ l) : bulkL x ≤ bulkLL l := by
  induction l with
  | nil => cases h
  | cons y l ih =>
    simp only [bulkLL]
    rcases List.mem_cons.1 h with rfl | h
    · omega
    · have := ih h; omega
theorem bulkLL_len {l : List (List D)} (h : ∀ x ∈ l, 1 ≤ bulkL x) : l.length ≤ bulkLL l := by
  induction l with
  | nil => exact Nat.zero_le _
  | cons y l ih =>
    have h1 := h y (by simp)
    have h2 := ih fun x hx => h x (by simp [hx])
    simp only [bulkLL, List.length_cons]
    omega
theorem Ex.bk_mk (op n : Int) (v : Vl) (name : List UInt8) (nl : Bool) (args : List Ex) : bulkLL (xL args) + v.s.length + name.length + 6 ≤ (Ex.mk op n v name nl args).bk := by
  rw [Ex.bk, Ex.ds_mk]
  simp only [bulkL, bulkD]
  unfold ng
  split
  · rename_i h
    simp only [Bool.and_eq_true, List.isEmpty_iff] at h
    rw [h.2]
    simp only [bulkD, bulkLL]
    omega
  · simp only [bulkD]; omega
theorem Ex.bk_pos (e : Ex) : 6 ≤ e.bk := by
  obtain ⟨op, n, v, name, nl, args⟩ := e
  have := Ex.bk_mk op n v name nl args
  omega
theorem xL_bulk_len (l : List Ex) : l.length ≤ bulkLL (xL l) := by
  rw [← xL_len l]
  refine bulkLL_len fun x hx => ?_
  obtain ⟨e, _, rfl⟩ := List.mem_map.1 hx
  have := e.bk_pos
  unfold Ex.bk at this
  omega
theorem Ex.bk_arg {op n : Int} {v : Vl} {name : List UInt8} {nl : Bool} {args : List Ex} {a : Ex} (h : a ∈ args) : a.bk < (Ex.mk op n v name nl args).bk := by
  have h1 := Ex.bk_mk op n v name nl args
  have h2 : bulkL a.ds ≤ bulkLL (xL args) := bulkLL_mem (List.mem_map.2 ⟨a, h, rfl⟩)
  unfold Ex.bk at *
  omega
theorem Ex.bk_bounds {op n : Int} {v : Vl} {name : List UInt8} {nl : Bool} {args : List Ex} {B : Nat} (h : (Ex.mk op n v name nl args).bk ≤ B) : args.length ≤ B ∧ v.s.length ≤ B ∧ name.length ≤ B ∧ ∀ a ∈ args, a.bk ≤ B := by
  have h1 := Ex.bk_mk op n v name nl args
  have h2 := xL_bulk_len args
  exact ⟨by omega, by omega, by omega, fun a ha => by have := Ex.bk_arg (op := op) (n := n) (v := v) (name := name) (nl := nl) ha; omega⟩

end Go.Proofs
end
section
/- The operators and their numbers of arguments. No condition. -/
set_option linter.unusedSimpArgs false
set_option linter.unusedVariables false
set_option maxRecDepth 10000
set_option maxHeartbeats 4000000
namespace Go.Proofs
open Go.Bi

/-! ### Operators -/
def cnt (op n : Int) : Bool × Bool :=
  if op = 1 ∨ op = 2 then (decide (n = 0), true)
  else if op = 4 ∨ op = 18 ∨ op = 20 ∨ op = 21 then (decide (n = 1), true)
  else if op = 7 ∨ op = 8 ∨ op = 9 ∨ op = 10 ∨ op = 11 ∨ op = 12 ∨ op = 13 ∨ op = 14 ∨ op = 15 ∨ op = 16 ∨ op = 17 ∨ op = 19 then (decide (n = 2), true)
  else if op = 5 ∨ op = 6 then (decide (2 ≤ n), true)
  else if op = 22 then (decide (n = 3), true)
  else if op = 23 then (decide (1 ≤ n), true)
  else if op = 24 then (decide (n = 4), true) else (false, false)
theorem C.expr_counts (op n : Int) : Pure Try.prog N.expr_counts [.d (eI op), .d (eI n)] (.tup [.d (.bool (cnt op n).1), .d (.bool (cnt op n).2)]) := by
  refine F.expr_counts.go mixed rfl ?_
  repeat' first
    | refine st ?_
    | ((with_reducible apply go_i); (conv => whnf))
    | (with_reducible apply k_d <;> intro _)
    | (with_reducible apply k_b <;> intro _)
  all_goals first
    | (subst_vars; rfl)
    | (simp only [cnt]; rw [if_neg (by omega), if_neg (by omega), if_neg (by omega), if_neg (by omega), if_neg (by omega), if_neg (by omega), if_neg (by omega)])
def ary (op : Int) : Int × Int :=
  if op = 1 ∨ op = 2 then (0, 0)
  else if op = 4 ∨ op = 18 ∨ op = 20 ∨ op = 21 then (1, 1)
  else if op = 7 ∨ op = 8 ∨ op = 9 ∨ op = 10 ∨ op = 11 ∨ op = 12 ∨ op = 13 ∨ op = 14 ∨ op = 15 ∨ op = 16 ∨ op = 17 ∨ op = 19 then (2, 2)
  else if op = 5 ∨ op = 6 then (2, 1099511627776)
  else if op = 22 then (3, 3)
  else if op = 23 then (1, 1099511627776)
  else if op = 24 then (4, 4) else (-1, 0)
theorem C.r11_Arity (op : Int) : Pure Try.prog N.bt_ref11_Arity [.d (eI op)] (.tup [.d (eI (ary op).1), .d (eI (ary op).2)]) := by
  refine F.bt_ref11_Arity.go mixed rfl ?_
  repeat' first
    | refine st ?_
    | ((with_reducible apply go_i); (conv => whnf))
    | (with_reducible apply k_d <;> intro _)
    | (with_reducible apply k_b <;> intro _)
  all_goals first
    | (subst_vars; rfl)
    | (simp only [ary]; rw [if_neg (by omega), if_neg (by omega), if_neg (by omega), if_neg (by omega), if_neg (by omega), if_neg (by omega), if_neg (by omega)])
theorem ary_cnt (op : Int) (k : Nat) (hk : k ≤ 1048576) : (cnt op k).1 = decide (¬ ((ary op).1 < 0 ∨ (k : Int) < (ary op).1 ∨ (ary op).2 < (k : Int))) ∧ (cnt op k).2 = decide (¬ (ary op).1 < 0) := by
  unfold cnt ary
  repeat' split
  all_goals (constructor <;> (rw [Bool.eq_iff_iff]; simp; try omega))
end Go.Proofs
end
section
/- What is well-formed. No condition. -/
set_option linter.unusedSimpArgs false
set_option linter.unusedVariables false
set_option maxRecDepth 10000
set_option maxHeartbeats 4000000
namespace Go.Proofs
open Go.Bi

def fmd (op n : Int) (v : Vl) (name : List UInt8) (k : Nat) : Bool :=
  (cnt op k).1 && decide (name = []) && (if op = 1 then decide (n = 0) && vValid v else if op = 24 then decide (0 ≤ n ∧ n < 13) && decide (v = vNull) else if op = 2 then decide (v = vNull) else decide (n = 0) && decide (v = vNull))
theorem vNull_is (v : Vl) : decide (v = vNull) = (decide (v.k = 0) && (decide (v.n = 0) && decide (v.s = []))) := by
  rw [Bool.eq_iff_iff]
  simp only [decide_eq_true_eq, Bool.and_eq_true, vl_eq]
  exact Iff.rfl
theorem fmd_1 (n : Int) (v : Vl) (k : Nat) (h : (cnt 1 k).1 = true) : fmd 1 n v [] k = (decide (n = 0) && vValid v) := by unfold fmd; rw [h]; rfl
theorem fmd_24 (n : Int) (v : Vl) (k : Nat) (h : (cnt 24 k).1 = true) : fmd 24 n v [] k = (decide (0 ≤ n ∧ n < 13) && decide (v = vNull)) := by unfold fmd; rw [h]; rfl
theorem fmd_2 (n : Int) (v : Vl) (k : Nat) (h : (cnt 2 k).1 = true) : fmd 2 n v [] k = decide (v = vNull) := by unfold fmd; rw [h]; rfl
theorem fmd_o (op n : Int) (v : Vl) (k : Nat) (h : (cnt op k).1 = true) (h1 : op ≠ 1) (h2 : op ≠ 24) (h3 : op ≠ 2) : fmd op n v [] k = (decide (n = 0) && decide (v = vNull)) := by unfold fmd; rw [h, if_neg h1, if_neg h2, if_neg h3]; rfl
theorem C.expr_formed (op n : Int) (v : Vl) (name : List UInt8) (d : D) (es : List (List D)) (hd : SlD d es) (hs : v.s.length ≤ 1048576) (hl : es.length ≤ 1048576) : Pure Try.prog N.expr_formed [eX op n v name d] (.d (.bool (fmd op n v name es.length))) := by
  refine F.expr_formed.go mixed rfl ?_
  have hV := C.value_Valid v (by omega)
  have hC := C.expr_counts op es.length
  cases hc : (cnt op es.length).1 with
  | false =>
    have hr : fmd op n v name es.length = false := by unfold fmd; rw [hc]; rfl
    rw [hr]
    rw [hc] at hC
    repeat' first
      | refine st ?_
      | ((with_reducible apply go_i); (conv => whnf))
      | ((with_reducible apply k_pn); (· exact hC))
      | ((with_reducible apply k_pc); (· exact hC))
      | (with_reducible apply k_d <;> intro _)
      | (with_reducible apply k_b <;> intro _)
  | true =>
  rw [hc] at hC
  by_cases hn : name = []
  rotate_left
  · have hr : fmd op n v name es.length = false := by unfold fmd; rw [decide_eq_false hn, Bool.and_false]; rfl
    rw [hr]
    repeat' first
      | refine st ?_
      | ((with_reducible apply go_i); (conv => whnf))
      | ((with_reducible apply k_pn); (· exact hC))
      | ((with_reducible apply k_pc); (· exact hC))
      | (with_reducible apply k_d <;> intro _)
      | (with_reducible apply k_b <;> intro _)
    all_goals rfl
  subst hn
  by_cases h1 : op = 1
  · subst h1
    obtain ⟨r, hr⟩ : ∃ r, r = fmd 1 n v [] es.length := ⟨_, rfl⟩
    rw [← hr]
    rw [fmd_1 _ _ _ hc] at hr
    by_cases hn : n = 0
    · rw [decide_eq_true hn] at hr
      repeat' first
        | refine st ?_
        | ((with_reducible apply go_i); (conv => whnf))
        | ((with_reducible apply k_pn); (· first | exact hC | exact hV))
        | ((with_reducible apply k_pc); (· first | exact hC | exact hV))
        | (with_reducible apply k_d <;> intro _)
        | (with_reducible apply k_b <;> intro _)
      all_goals (rw [hr]; try rfl)
    · rw [decide_eq_false hn] at hr
      repeat' first
        | refine st ?_
        | ((with_reducible apply go_i); (conv => whnf))
        | ((with_reducible apply k_pn); (· first | exact hC | exact hV))
        | ((with_reducible apply k_pc); (· first | exact hC | exact hV))
        | (with_reducible apply k_d <;> intro _)
        | (with_reducible apply k_b <;> intro _)
      all_goals (rw [hr]; try rfl)
  by_cases h2 : op = 24
  · subst h2
    obtain ⟨r, hr⟩ : ∃ r, r = fmd 24 n v [] es.length := ⟨_, rfl⟩
    rw [← hr]
    rw [fmd_24 _ _ _ hc, vNull_is] at hr
    by_cases hn : 0 ≤ n ∧ n < 13
    · rw [decide_eq_true hn] at hr
      obtain ⟨n1, n2⟩ := hn
      have n3 : ¬ n < 0 := by omega
      have n4 : ¬ 13 ≤ n := by omega
      repeat' first
        | refine st ?_
        | ((with_reducible apply go_i); (conv => whnf))
        | ((with_reducible apply k_pn); (· first | exact hC | exact hV))
        | ((with_reducible apply k_pc); (· first | exact hC | exact hV))
        | (with_reducible apply k_d <;> intro _)
        | (with_reducible apply k_b <;> intro _)
      all_goals (rw [hr]; try (clear hr; simp_all [vNull]; try omega))
    · rw [decide_eq_false hn] at hr
      repeat' first
        | refine st ?_
        | ((with_reducible apply go_i); (conv => whnf))
        | ((with_reducible apply k_pn); (· first | exact hC | exact hV))
        | ((with_reducible apply k_pc); (· first | exact hC | exact hV))
        | (with_reducible apply k_d <;> intro _)
        | (with_reducible apply k_b <;> intro _)
      all_goals (rw [hr]; try (clear hr; simp_all [vNull]; try omega))
  by_cases h3 : op = 2
  · subst h3
    obtain ⟨r, hr⟩ : ∃ r, r = fmd 2 n v [] es.length := ⟨_, rfl⟩
    rw [← hr]
    rw [fmd_2 _ _ _ hc, vNull_is] at hr
    repeat' first
      | refine st ?_
      | ((with_reducible apply go_i); (conv => whnf))
      | ((with_reducible apply k_pn); (· first | exact hC | exact hV))
      | ((with_reducible apply k_pc); (· first | exact hC | exact hV))
      | (with_reducible apply k_d <;> intro _)
      | (with_reducible apply k_b <;> intro _)
    all_goals (rw [hr]; try rfl)
  obtain ⟨r, hr⟩ : ∃ r, r = fmd op n v [] es.length := ⟨_, rfl⟩
  rw [← hr]
  rw [fmd_o _ _ _ _ hc h1 h2 h3, vNull_is] at hr
  by_cases hn : n = 0
  · rw [decide_eq_true hn] at hr
    repeat' first
      | refine st ?_
      | ((with_reducible apply go_i); (conv => whnf))
      | ((with_reducible apply k_pn); (· first | exact hC | exact hV))
      | ((with_reducible apply k_pc); (· first | exact hC | exact hV))
      | (with_reducible apply k_d <;> intro _)
      | (with_reducible apply k_b <;> intro _)
    all_goals (rw [hr]; try rfl)
  · rw [decide_eq_false hn] at hr
    repeat' first
      | refine st ?_
      | ((with_reducible apply go_i); (conv => whnf))
      | ((with_reducible apply k_pn); (· first | exact hC | exact hV))
      | ((with_reducible apply k_pc); (· first | exact hC | exact hV))
      | (with_reducible apply k_d <;> intro _)
      | (with_reducible apply k_b <;> intro _)
    all_goals (rw [hr]; try rfl)
theorem C.r11_Formed (op n : Int) (v : Vl) (name : List UInt8) (d : D) (es : List (List D)) (hd : SlD d es) (hs : v.s.length ≤ 1048576) (hl : es.length ≤ 1048576) : Pure Try.prog N.bt_ref11_Formed [eX op n v name d] (.d (.bool (fmd op n v name es.length))) := by
  refine F.bt_ref11_Formed.go mixed rfl ?_
  have hV := C.r7_Valid v (by omega)
  have hC := C.r11_Arity op
  have hac := (ary_cnt op es.length hl).1
  cases hc : (cnt op es.length).1 with
  | false =>
    have hr : fmd op n v name es.length = false := by unfold fmd; rw [hc]; rfl
    rw [hr]
    rw [hc] at hac
    have hac : (ary op).1 < 0 ∨ (es.length : Int) < (ary op).1 ∨ (ary op).2 < (es.length : Int) := by
      have := of_decide_eq_false hac.symm
      omega
    repeat' first
      | refine st ?_
      | ((with_reducible apply go_i); (conv => whnf))
      | ((with_reducible apply k_pn); (· exact hC))
      | ((with_reducible apply k_pc); (· exact hC))
      | (with_reducible apply k_d <;> intro _)
      | (with_reducible apply k_b <;> intro _)
    all_goals first | rfl | (exfalso; omega)
  | true =>
  rw [hc] at hac
  have hac := of_decide_eq_true hac.symm
  have a1 : ¬ (ary op).1 < 0 := by omega
  have a2 : ¬ (es.length : Int) < (ary op).1 := by omega
  have a3 : ¬ (ary op).2 < (es.length : Int) := by omega
  clear hac
  by_cases hn : name = []
  rotate_left
  · have hr : fmd op n v name es.length = false := by unfold fmd; rw [decide_eq_false hn, Bool.and_false]; rfl
    rw [hr]
    repeat' first
      | refine st ?_
      | ((with_reducible apply go_i); (conv => whnf))
      | ((with_reducible apply k_pn); (· exact hC))
      | ((with_reducible apply k_pc); (· exact hC))
      | (with_reducible apply k_d <;> intro _)
      | (with_reducible apply k_b <;> intro _)
    all_goals rfl
  subst hn
  by_cases h1 : op = 1
  · subst h1
    obtain ⟨r, hr⟩ : ∃ r, r = fmd 1 n v [] es.length := ⟨_, rfl⟩
    rw [← hr]
    rw [fmd_1 _ _ _ hc] at hr
    by_cases hn : n = 0
    · rw [decide_eq_true hn] at hr
      repeat' first
        | refine st ?_
        | ((with_reducible apply go_i); (conv => whnf))
        | ((with_reducible apply k_pn); (· first | exact hC | exact hV | exact C.r7_Null))
        | ((with_reducible apply k_pc); (· first | exact hC | exact hV | exact C.r7_Null))
        | (with_reducible apply k_d <;> intro _)
        | (with_reducible apply k_b <;> intro _)
      all_goals (rw [hr]; try rfl)
    · rw [decide_eq_false hn] at hr
      repeat' first
        | refine st ?_
        | ((with_reducible apply go_i); (conv => whnf))
        | ((with_reducible apply k_pn); (· first | exact hC | exact hV | exact C.r7_Null))
        | ((with_reducible apply k_pc); (· first | exact hC | exact hV | exact C.r7_Null))
        | (with_reducible apply k_d <;> intro _)
        | (with_reducible apply k_b <;> intro _)
      all_goals (rw [hr]; try rfl)
  by_cases h2 : op = 24
  · subst h2
    obtain ⟨r, hr⟩ : ∃ r, r = fmd 24 n v [] es.length := ⟨_, rfl⟩
    rw [← hr]
    rw [fmd_24 _ _ _ hc, vNull_is] at hr
    by_cases hn : 0 ≤ n ∧ n < 13
    · rw [decide_eq_true hn] at hr
      obtain ⟨n1, n2⟩ := hn
      have n3 : ¬ n < 0 := by omega
      have n4 : ¬ 13 ≤ n := by omega
      repeat' first
        | refine st ?_
        | ((with_reducible apply go_i); (conv => whnf))
        | ((with_reducible apply k_pn); (· first | exact hC | exact hV | exact C.r7_Null))
        | ((with_reducible apply k_pc); (· first | exact hC | exact hV | exact C.r7_Null))
        | (with_reducible apply k_d <;> intro _)
        | (with_reducible apply k_b <;> intro _)
      all_goals (rw [hr]; try (clear hr; simp_all [vNull]; try omega))
    · rw [decide_eq_false hn] at hr
      repeat' first
        | refine st ?_
        | ((with_reducible apply go_i); (conv => whnf))
        | ((with_reducible apply k_pn); (· first | exact hC | exact hV | exact C.r7_Null))
        | ((with_reducible apply k_pc); (· first | exact hC | exact hV | exact C.r7_Null))
        | (with_reducible apply k_d <;> intro _)
        | (with_reducible apply k_b <;> intro _)
      all_goals (rw [hr]; try (clear hr; simp_all [vNull]; try omega))
  by_cases h3 : op = 2
  · subst h3
    obtain ⟨r, hr⟩ : ∃ r, r = fmd 2 n v [] es.length := ⟨_, rfl⟩
    rw [← hr]
    rw [fmd_2 _ _ _ hc, vNull_is] at hr
    repeat' first
      | refine st ?_
      | ((with_reducible apply go_i); (conv => whnf))
      | ((with_reducible apply k_pn); (· first | exact hC | exact hV | exact C.r7_Null))
      | ((with_reducible apply k_pc); (· first | exact hC | exact hV | exact C.r7_Null))
      | (with_reducible apply k_d <;> intro _)
      | (with_reducible apply k_b <;> intro _)
    all_goals (rw [hr]; try rfl)
  obtain ⟨r, hr⟩ : ∃ r, r = fmd op n v [] es.length := ⟨_, rfl⟩
  rw [← hr]
  rw [fmd_o _ _ _ _ hc h1 h2 h3, vNull_is] at hr
  by_cases hn : n = 0
  · rw [decide_eq_true hn] at hr
    repeat' first
      | refine st ?_
      | ((with_reducible apply go_i); (conv => whnf))
      | ((with_reducible apply k_pn); (· first | exact hC | exact hV | exact C.r7_Null))
      | ((with_reducible apply k_pc); (· first | exact hC | exact hV | exact C.r7_Null))
      | (with_reducible apply k_d <;> intro _)
      | (with_reducible apply k_b <;> intro _)
    all_goals (rw [hr]; try rfl)
  · rw [decide_eq_false hn] at hr
    repeat' first
      | refine st ?_
      | ((with_reducible apply go_i); (conv => whnf))
      | ((with_reducible apply k_pn); (· first | exact hC | exact hV | exact C.r7_Null))
      | ((with_reducible apply k_pc); (· first | exact hC | exact hV | exact C.r7_Null))
      | (with_reducible apply k_d <;> intro _)
      | (with_reducible apply k_b <;> intro _)
    all_goals (rw [hr]; try rfl)
end Go.Proofs
end
section
/- Operators on values: the program's and the reference's alike. No condition. -/
set_option linter.unusedSimpArgs false
set_option linter.unusedVariables false
set_option maxRecDepth 10000
set_option maxHeartbeats 4000000
namespace Go.Proofs
open Go.Bi

def w64 (n : Int) : Int := IntKind.i64.wrap n
def nSm (n : Int) : Prop := -1125899906842624 ≤ n ∧ n ≤ 1125899906842624
theorem valid_n {v : Vl} (h : vValid v = true) : nSm v.n := by
  unfold vValid at h
  unfold nSm
  repeat' split at h
  all_goals simp at h
  all_goals omega
theorem valid_s {v : Vl} (h : vValid v = true) : v.s.length ≤ 200 := by
  unfold vValid at h
  repeat' split at h
  all_goals simp at h
  · rw [h.2]; simp
  · rw [h.1]; simp
  · exact h.1.2
  · rw [h.1]; simp
def vCol (l : List Vl) (i : Int) : Vl := vOrN (vAt l i)
theorem C.expr_column (l : List Vl) (hl : l.length ≤ 1048576) (hs : ∀ v ∈ l, v.s.length ≤ 1048576) (d : D) (hd : SlD d (eVs l)) (i : Int) : Pure Try.prog N.expr_column [.d d, .d (eI i)] (eV (vCol l i)) := by
  refine F.expr_column.go mixed rfl ?_
  have hP := C.tuple_Pick1 l (by omega) d hd i
  have hV := C.value_Valid (vAt l i) (by
    unfold vAt
    split
    · simp [vNull]
    · rw [List.getD_eq_getElem?_getD]
      cases h : l[i.toNat]? with
      | none => simp [vNull]
      | some v => have := hs v (List.mem_of_getElem? h); simp; omega)
  unfold vCol vOrN
  have hg : ([(vAt l i).ds] : List (List D))[(0 : Nat)]? = some (vAt l i).ds := rfl
  cases hv : vValid (vAt l i) with
  | true =>
    rw [hv] at hV
    repeat' first
      | refine st ?_
      | ((with_reducible apply go_i); (conv => whnf))
      | ((with_reducible apply k_pn); (· first | exact hP | exact hV))
      | ((with_reducible apply k_pc); (· first | exact hP | exact hV))
      | (with_reducible apply k_d <;> intro _)
      | (with_reducible apply k_b <;> intro _)
    all_goals rfl
  | false =>
    rw [hv] at hV
    repeat' first
      | refine st ?_
      | ((with_reducible apply go_i); (conv => whnf))
      | ((with_reducible apply k_pn); (· first | exact hP | exact hV | exact C.value_Null))
      | ((with_reducible apply k_pc); (· first | exact hP | exact hV | exact C.value_Null))
      | (with_reducible apply k_d <;> intro _)
      | (with_reducible apply k_b <;> intro _)
    all_goals rfl
theorem vAt_s {l : List Vl} (hs : ∀ v ∈ l, v.s.length ≤ 1048576) (i : Int) : (vAt l i).s.length ≤ 1048576 := by
  unfold vAt
  split
  · simp [vNull]
  · rw [List.getD_eq_getElem?_getD]
    cases h : l[i.toNat]? with
    | none => simp [vNull]
    | some v => exact hs v (List.mem_of_getElem? h)
def vLf (op n : Int) (v : Vl) (l : List Vl) : Vl := vOrN (if op = 2 then vAt l n else v)
def vCp (op : Int) (a b : Vl) : Int := if op = 7 then vEq a b else if op = 8 then tNot (vEq a b) else if op = 9 then vLess a b else if op = 11 then vLess b a else if op = 10 then tNot (vLess b a) else tNot (vLess a b)
theorem C.expr_comparison (op : Int) (a b : Vl) : Pure Try.prog N.expr_comparison [.d (eI op), eV a, eV b] (.d (eI (vCp op a b))) := by
  refine F.expr_comparison.go mixed rfl ?_
  repeat' first
    | refine st ?_
    | ((with_reducible apply go_i); (conv => whnf))
    | ((with_reducible apply k_pn); (· first | exact C.value_Equal _ _ | exact C.value_Not _ | exact C.value_Less _ _))
    | ((with_reducible apply k_pc); (· first | exact C.value_Equal _ _ | exact C.value_Not _ | exact C.value_Less _ _))
    | (with_reducible apply k_d <;> intro _)
    | (with_reducible apply k_b <;> intro _)
  all_goals simp [vCp, *]
def isK (l : List Vl) (k : Int) : Bool := l.all fun v => decide (v.k = k)
def vPr (a b : Int) : Vl := if a ≠ 0 ∧ w64 (Int.tdiv 1125899906842624 (max a (0 - a))) < max b (0 - b) then vNull else vInt (w64 (a * b))
theorem C.expr_product (a b : Int) (ha : nSm a) (hb : nSm b) : Pure Try.prog N.expr_product [.d (eI a), .d (eI b)] (eV (vPr a b)) := by
  refine F.expr_product.go mixed rfl ?_
  obtain ⟨a1, a2⟩ := ha
  obtain ⟨b1, b2⟩ := hb
  unfold vPr
  by_cases h0 : a = 0
  · rw [if_neg (by omega)]
    repeat' first
      | refine st ?_
      | ((with_reducible apply go_i); (conv => whnf))
      | ((with_reducible apply k_pn); (· first | exact C.value_Null | exact C.value_Int _))
      | ((with_reducible apply k_pc); (· first | exact C.value_Null | exact C.value_Int _))
      | (with_reducible apply k_d <;> intro _)
      | (with_reducible apply k_b <;> intro _)
    all_goals rfl
  · have hne : max a (0 - a) ≠ 0 := by omega
    by_cases h1 : w64 (Int.tdiv 1125899906842624 (max a (0 - a))) < max b (0 - b)
    · rw [if_pos ⟨h0, h1⟩]
      repeat' first
        | refine st ?_
        | ((with_reducible apply go_i); (conv => whnf))
        | ((with_reducible apply k_pn); (· first | exact C.value_Null | exact C.value_Int _))
        | ((with_reducible apply k_pc); (· first | exact C.value_Null | exact C.value_Int _))
        | (with_reducible apply k_d <;> intro _)
        | (with_reducible apply k_b <;> intro _)
      all_goals rfl
    · rw [if_neg (fun h => h1 h.2)]
      repeat' first
        | refine st ?_
        | ((with_reducible apply go_i); (conv => whnf))
        | ((with_reducible apply k_pn); (· first | exact C.value_Null | exact C.value_Int _))
        | ((with_reducible apply k_pc); (· first | exact C.value_Null | exact C.value_Int _))
        | (with_reducible apply k_d <;> intro _)
        | (with_reducible apply k_b <;> intro _)
      all_goals rfl
def vBin (op a b : Int) : Vl := if op = 13 then vInt (a + b) else if op = 14 then vInt (a - b) else if op = 15 then vPr a b else if b = 0 then vNull else if op = 16 then vInt (w64 (a.tdiv b)) else vInt (a.tmod b)
end Go.Proofs
end
section
/- Operators on lists of values. No condition. -/
set_option linter.unusedSimpArgs false
set_option linter.unusedVariables false
set_option maxRecDepth 10000
set_option maxHeartbeats 4000000
namespace Go.Proofs
open Go.Bi

/-! ### Conjunctions and disjunctions -/
def lgS (op t : Int) (v : Vl) : Int := if op = 5 then tAnd t (vTruth v) else tOr t (vTruth v)
def lgF (op : Int) (a : Vl) (r : List Vl) : Int := r.foldl (lgS op) (vTruth a)
theorem foldl_take_succ {α β : Type} (f : β → α → β) (b : β) (l : List α) (i : Nat) (x : α) (h : l[i]? = some x) : (l.take (i + 1)).foldl f b = f ((l.take i).foldl f b) x := by
  rw [List.take_add_one, h]; simp
theorem C.expr_logic4 (a : Vl) (r : List Vl) (hl : r.length ≤ 1048576) : Pure Try.prog N.expr_logic [.d (eI 4), .d (.sl (eVs (a :: r)))] (eV (vOf (tNot (vTruth a)))) := by
  refine F.expr_logic.go mixed rfl ?_
  have h1 : (eVs (a :: r)).length = r.length + 1 := by rw [eVs_len]; rfl
  have hm := eVs_mem (a :: r)
  have hg0 : (eVs (a :: r))[(0 : Nat)]? = some a.ds := rfl
  obtain ⟨es, hes⟩ : ∃ es, es = eVs (a :: r) := ⟨_, rfl⟩
  rw [← hes] at h1 hm hg0 ⊢
  repeat' first
    | refine st ?_
    | ((with_reducible apply go_i); (conv => whnf))
    | ((with_reducible apply k_pn); (· first | exact C.value_Truth _ | exact C.value_Not _ | exact C.value_Of _))
    | ((with_reducible apply k_pc); (· first | exact C.value_Truth _ | exact C.value_Not _ | exact C.value_Of _))
    | (with_reducible apply k_d <;> intro _)
    | (with_reducible apply k_b <;> intro _)
theorem C.expr_logic (op : Int) (h56 : op = 5 ∨ op = 6) (a : Vl) (r : List Vl) (hl : r.length ≤ 1048576) : Pure Try.prog N.expr_logic [.d (eI op), .d (.sl (eVs (a :: r)))] (eV (vOf (lgF op a r))) := by
  refine F.expr_logic.go mixed rfl ?_
  have h1 : (eVs (a :: r)).length = r.length + 1 := by rw [eVs_len]; rfl
  have hm := eVs_mem (a :: r)
  have hg0 : (eVs (a :: r))[(0 : Nat)]? = some a.ds := rfl
  have hcut : ((eVs (a :: r)).drop (1 : Int).toNat).take (((eVs (a :: r)).length : Int).toNat - (1 : Int).toNat) = eVs r := by
    rw [h1, show (1 : Int).toNat = 1 from rfl, show (((r.length + 1 : Nat) : Int)).toNat - 1 = r.length by omega]
    show ((eVs (a :: r)).drop 1).take r.length = _
    have : (eVs (a :: r)).drop 1 = eVs r := rfl
    rw [this, List.take_of_length_le (by rw [eVs_len]; omega)]
  obtain ⟨es, hes⟩ : ∃ es, es = eVs (a :: r) := ⟨_, rfl⟩
  rw [← hes] at h1 hm hg0 hcut ⊢
  obtain ⟨es2, hes2⟩ : ∃ es2, es2 = (es.drop (1 : Int).toNat).take ((es.length : Int).toNat - (1 : Int).toNat) := ⟨_, rfl⟩
  rw [← hes2] at hcut
  have h12 : es2.length = r.length := by rw [hcut, eVs_len]
  have hm2 : ∀ e ∈ es2, e.length = 3 := by rw [hcut]; exact eVs_mem r
  rcases h56 with rfl | rfl
  · repeat' first
      | refine st ?_
      | ((with_reducible apply go_i); (conv => whnf))
      | ((with_reducible apply k_pn); (· exact C.value_Truth _))
      | ((with_reducible apply k_pc); (· exact C.value_Truth _))
      | (with_reducible apply k_d <;> intro _)
      | (with_reducible apply k_b <;> intro _)
    all_goals (rw [← hes2])
    repeat' first
      | refine st ?_
      | ((with_reducible apply go_i); (conv => whnf))
      | ((with_reducible apply k_pn); (· exact C.value_Truth _))
      | ((with_reducible apply k_pc); (· exact C.value_Truth _))
      | (with_reducible apply k_d <;> intro _)
      | (with_reducible apply k_b <;> intro _)
    refine x_loop2 mixed Lt.expr_logic_l0 Lk.expr_logic_l0 (fun (i : Nat) (t : Int) => [.d (eI t), .d (eI i)]) (fun i t => [.cells [.d (eI 0), .d (eI 0), .d (.str [])]]) (fun i t => i ≤ r.length ∧ t = (r.take i).foldl (lgS 5) (vTruth a)) (fun i _ => r.length - i) 0 (vTruth a) rfl rfl rfl rfl (fun _ _ _ => ⟨rfl, rfl⟩) rfl ⟨by omega, rfl⟩ ?_
    repeat' first
      | refine st ?_
      | ((with_reducible apply go_i); (conv => whnf))
      | (with_reducible apply k_d <;> intro _)
      | (with_reducible apply k_b <;> intro _)
    intro i t ⟨h2, h3⟩
    cases hx : r[i]? with
    | some v =>
      have hlt := (List.getElem?_eq_some_iff.1 hx).1
      have hg : es2[(i : Int).toNat]? = some v.ds := by rw [hcut]; exact eVs_get (l := r) hx
      repeat' first
        | refine st ?_
        | ((with_reducible apply go_i); (conv => whnf))
        | ((with_reducible apply k_pn); (· first | exact C.value_Truth _ | exact C.value_And _ _))
        | ((with_reducible apply k_pc); (· first | exact C.value_Truth _ | exact C.value_And _ _))
        | (with_reducible apply k_d <;> intro _)
        | (with_reducible apply k_b <;> intro _)
      refine ⟨i + 1, _, rfl, rfl, rfl, by omega, by omega, ?_⟩
      rw [foldl_take_succ _ _ _ _ _ hx, ← h3]; rfl
    | none =>
      have hge := List.getElem?_eq_none_iff.1 hx
      rw [List.take_of_length_le hge] at h3
      subst h3
      repeat' first
        | refine st ?_
        | ((with_reducible apply go_i); (conv => whnf))
        | ((with_reducible apply k_pn); (· exact C.value_Of _))
        | ((with_reducible apply k_pc); (· exact C.value_Of _))
        | (with_reducible apply k_d <;> intro _)
        | (with_reducible apply k_b <;> intro _)
      rfl
  · repeat' first
      | refine st ?_
      | ((with_reducible apply go_i); (conv => whnf))
      | ((with_reducible apply k_pn); (· exact C.value_Truth _))
      | ((with_reducible apply k_pc); (· exact C.value_Truth _))
      | (with_reducible apply k_d <;> intro _)
      | (with_reducible apply k_b <;> intro _)
    all_goals (rw [← hes2])
    repeat' first
      | refine st ?_
      | ((with_reducible apply go_i); (conv => whnf))
      | ((with_reducible apply k_pn); (· exact C.value_Truth _))
      | ((with_reducible apply k_pc); (· exact C.value_Truth _))
      | (with_reducible apply k_d <;> intro _)
      | (with_reducible apply k_b <;> intro _)
    refine x_loop2 mixed Lt.expr_logic_l1 Lk.expr_logic_l1 (fun (i : Nat) (t : Int) => [.d (eI t), .d (eI i)]) (fun i t => [.cells [.d (eI 0), .d (eI 0), .d (.str [])]]) (fun i t => i ≤ r.length ∧ t = (r.take i).foldl (lgS 6) (vTruth a)) (fun i _ => r.length - i) 0 (vTruth a) rfl rfl rfl rfl (fun _ _ _ => ⟨rfl, rfl⟩) rfl ⟨by omega, rfl⟩ ?_
    repeat' first
      | refine st ?_
      | ((with_reducible apply go_i); (conv => whnf))
      | (with_reducible apply k_d <;> intro _)
      | (with_reducible apply k_b <;> intro _)
    intro i t ⟨h2, h3⟩
    cases hx : r[i]? with
    | some v =>
      have hlt := (List.getElem?_eq_some_iff.1 hx).1
      have hg : es2[(i : Int).toNat]? = some v.ds := by rw [hcut]; exact eVs_get (l := r) hx
      repeat' first
        | refine st ?_
        | ((with_reducible apply go_i); (conv => whnf))
        | ((with_reducible apply k_pn); (· first | exact C.value_Truth _ | exact C.value_Or _ _))
        | ((with_reducible apply k_pc); (· first | exact C.value_Truth _ | exact C.value_Or _ _))
        | (with_reducible apply k_d <;> intro _)
        | (with_reducible apply k_b <;> intro _)
      refine ⟨i + 1, _, rfl, rfl, rfl, by omega, by omega, ?_⟩
      rw [foldl_take_succ _ _ _ _ _ hx, ← h3]; rfl
    | none =>
      have hge := List.getElem?_eq_none_iff.1 hx
      rw [List.take_of_length_le hge] at h3
      subst h3
      repeat' first
        | refine st ?_
        | ((with_reducible apply go_i); (conv => whnf))
        | ((with_reducible apply k_pn); (· exact C.value_Of _))
        | ((with_reducible apply k_pc); (· exact C.value_Of _))
        | (with_reducible apply k_d <;> intro _)
        | (with_reducible apply k_b <;> intro _)
      rfl
end Go.Proofs
end
