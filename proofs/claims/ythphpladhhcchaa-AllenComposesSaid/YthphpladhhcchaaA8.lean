/- Sets of relations as bits; the table of compositions by its members. No condition. -/
import Derived.Test.YthphpladhhcchaaA7
set_option linter.unusedSimpArgs false
set_option linter.unusedVariables false
set_option maxRecDepth 100000
set_option maxHeartbeats 4000000
namespace Go.Proofs
open Go.Bi

theorem sOr_nat (m n : Nat) (hm : m < 65536) (hn : n < 65536) : sOr (m : Int) n = ((m ||| n : Nat) : Int) := by
  show IntKind.u16.wrap ((BitVec.ofInt 16 m ||| BitVec.ofInt 16 n).toNat : Nat) = _
  rw [BitVec.toNat_or, ofInt16 ⟨by omega, by omega⟩, ofInt16 ⟨by omega, by omega⟩]
  exact wrap16 (Nat.or_lt_two_pow (n := 16) hm hn)
theorem sAnd_nat (m n : Nat) (hm : m < 65536) (hn : n < 65536) : sAnd (m : Int) n = ((m &&& n : Nat) : Int) := by
  rw [sAnd_eq, ofInt16 ⟨by omega, by omega⟩, ofInt16 ⟨by omega, by omega⟩]; rfl
theorem wrap64u {n : Nat} (h : n < 16) : IntKind.u64.wrap (n : Int) = n := by
  simp only [IntKind.wrap, IntKind.signed, IntKind.bits, Bool.false_and, Bool.false_eq_true, if_false]
  omega
theorem sOne_nat (c : Nat) (h : c < 16) : sOne (c : Int) = ((2 ^ c : Nat) : Int) := by
  unfold sOne
  rw [wrap64u h]
  have : min (c : Int).toNat IntKind.u16.bits = c := by simp [IntKind.bits]; omega
  rw [this, Int.one_mul]
  have h2 : 2 ^ c < 65536 := Nat.pow_lt_pow_right (by omega) (show c < 16 by omega)
  have := wrap16 h2
  rw [← this]
  congr 1
theorem sHas_nat (n c : Nat) (hn : n < 65536) (hc : c < 16) : sHas (n : Int) c = n.testBit c := by
  unfold sHas
  rw [wrap64u hc]
  have : min (c : Int).toNat IntKind.u16.bits = c := by simp [IntKind.bits]; omega
  rw [this]
  have h1 : ((n : Int).fdiv (2 ^ c)) = ((n / 2 ^ c : Nat) : Int) := by
    rw [Int.fdiv_eq_ediv_of_nonneg _ (by exact Int.le_of_lt (Int.pow_pos (by decide)))]
    simp
  rw [h1]
  have h2 : n / 2 ^ c < 65536 := Nat.lt_of_le_of_lt (Nat.div_le_self _ _) hn
  have h3 := sAnd_nat (n / 2 ^ c) 1 h2 (by omega)
  rw [show ((1 : Nat) : Int) = 1 from rfl] at h3
  rw [h3, Nat.and_one_is_mod, Nat.testBit_eq_decide_div_mod_eq]
  rw [Bool.eq_iff_iff, decide_eq_true_eq, decide_eq_true_eq]
  omega

/-! ### The table -/
def relN (a b c d : Nat) : Nat :=
  bif Nat.blt b c then 0 else bif Nat.beq b c then 1 else bif Nat.blt d a then 12 else bif Nat.beq d a then 11 else bif Nat.beq a c then (bif Nat.beq b d then 6 else bif Nat.blt b d then 3 else 9)
  else bif Nat.beq b d then (bif Nat.blt c a then 5 else 7) else bif Nat.blt a c then (bif Nat.blt d b then 8 else 2) else (bif Nat.blt b d then 4 else 10)
theorem beq_dec (a b : Nat) : Nat.beq a b = decide (a = b) := by
  rw [Bool.eq_iff_iff, decide_eq_true_eq]
  exact ⟨Nat.eq_of_beq_eq_true, fun h => by subst h; exact Nat.beq_refl a⟩
theorem blt_dec (a b : Nat) : Nat.blt a b = decide (a < b) := by
  rw [Bool.eq_iff_iff, decide_eq_true_eq]
  exact ⟨Nat.le_of_ble_eq_true, Nat.ble_eq_true_of_le⟩
theorem relN_eq (a b c d : Nat) (h1 : valid a b = true) (h2 : valid c d = true) : (rel a b c d).1 = (relN a b c d : Int) := by
  refine isR_of _ _ _ _ _ h1 h2 ?_
  simp only [valid, decide_eq_true_eq] at h1 h2
  unfold relN
  simp only [beq_dec, blt_dec, Bool.cond_decide]
  repeat' split
  all_goals (simp [isR]; try omega)
abbrev PN := List (Nat × Nat)
def persN (n m : Nat) : PN := (List.range n).flatMap fun i => (List.range (m - i)).map fun k => (i, i + 1 + k)
def toP (p : Nat × Nat) : Int × Int := (p.1, p.2)
theorem pers_eq (n m : Nat) : pers n m = (persN n m).map toP := by
  unfold pers persN
  rw [List.map_flatMap]
  congr 1
  funext i
  simp only [perPart, List.map_map]
  rw [show m + 1 - i - 1 = m - i by omega]
  rfl
def rN (p q : Nat × Nat) : Nat := relN p.1 p.2 q.1 q.2
def okP (p : Nat × Nat) : Prop := p.1 < p.2 ∧ p.2 ≤ 1099511627776
theorem relQ_eq {p q : Nat × Nat} (hp : okP p) (hq : okP q) : relQ (toP p) (toP q) = (rN p q : Int) := by
  refine relN_eq p.1 p.2 q.1 q.2 ?_ ?_
  · obtain ⟨h1, h2⟩ := hp; simp only [valid, decide_eq_true_eq]; omega
  · obtain ⟨h1, h2⟩ := hq; simp only [valid, decide_eq_true_eq]; omega
theorem persN_ok {n m : Nat} (h : n + m ≤ 1000) : ∀ p ∈ persN n m, okP p ∧ p.1 < n ∧ p.2 ≤ m := by
  intro p hp
  obtain ⟨i, hi, h2⟩ := List.mem_flatMap.1 hp
  obtain ⟨k, hk, rfl⟩ := List.mem_map.1 h2
  have := List.mem_range.1 hi
  have := List.mem_range.1 hk
  exact ⟨⟨by show i < i + 1 + k; omega, by show i + 1 + k ≤ _; omega⟩, by show i < n; omega, by show i + 1 + k ≤ m; omega⟩
theorem persN_mem {n m i j : Nat} (h1 : i < n) (h2 : i < j) (h3 : j ≤ m) : (i, j) ∈ persN n m :=
  List.mem_flatMap.2 ⟨i, List.mem_range.2 h1, List.mem_map.2 ⟨j - i - 1, List.mem_range.2 (by omega), by congr 1; omega⟩⟩
theorem rN_lt (p q : Nat × Nat) : rN p q < 13 := by
  unfold rN relN
  simp only [beq_dec, blt_dec, Bool.cond_decide]
  repeat' split
  all_goals omega

def lorAll {α : Type} (f : α → Nat) : List α → Nat
  | [] => 0
  | x :: l => Nat.lor (f x) (lorAll f l)
theorem lorAll_bit {α : Type} {f : α → Nat} {n : Nat} : ∀ {l : List α}, (lorAll f l).testBit n = true ↔ ∃ x ∈ l, (f x).testBit n = true
  | [] => by simp [lorAll]
  | x :: l => by
    show (f x ||| lorAll f l).testBit n = true ↔ _
    rw [Nat.testBit_or, Bool.or_eq_true, lorAll_bit (l := l)]
    simp
def maskN (L : PN) : Nat := lorAll (fun p => lorAll (fun q => lorAll (fun r => Nat.shiftLeft 1 (169 * rN p q + 13 * rN q r + rN p r)) L) L) L
theorem shl_bit (k n : Nat) : (Nat.shiftLeft 1 k).testBit n = true ↔ k = n := by
  show (1 <<< k).testBit n = true ↔ _
  rw [Nat.one_shiftLeft, Nat.testBit_two_pow]
  simp
theorem maskN_bit (L : PN) (a b c : Nat) (ha : a < 13) (hb : b < 13) (hc : c < 13) : (maskN L).testBit (169 * a + 13 * b + c) = true ↔ ∃ p ∈ L, ∃ q ∈ L, ∃ r ∈ L, rN p q = a ∧ rN q r = b ∧ rN p r = c := by
  unfold maskN
  simp only [lorAll_bit, shl_bit]
  constructor
  · rintro ⟨p, hp, q, hq, r, hr, h⟩
    have h1 := rN_lt p q
    have h2 := rN_lt q r
    have h3 := rN_lt p r
    exact ⟨p, hp, q, hq, r, hr, by omega, by omega, by omega⟩
  · rintro ⟨p, hp, q, hq, r, hr, h1, h2, h3⟩
    exact ⟨p, hp, q, hq, r, hr, by omega⟩

theorem mask_val : maskN (persN 6 6) = maskN (persN 6 5) := by kernel_rfl

end Go.Proofs
