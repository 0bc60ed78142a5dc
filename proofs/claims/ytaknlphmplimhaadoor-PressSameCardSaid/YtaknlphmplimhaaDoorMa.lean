/- Plain arithmetic of addresses and prefixes (masks, bits, containment) over natural numbers; no program in sight; bounds as each lemma names them. -/
import Derived.Laws.BitsAllLaws
import Derived.Below
set_option linter.unusedVariables false
set_option linter.unusedSimpArgs false
namespace Go.Proofs.YtaknlphmplimhaaDoor
open Go.RowKit

/-- The number of addresses of a prefix of b bits. -/
def sz (b : Int) : Nat := 2 ^ (32 - b).toNat
theorem sz_pos (b : Int) : 0 < sz b := Nat.pow_pos (by decide)
theorem sz_le (b : Int) (h : 0 ≤ b) : sz b ≤ 4294967296 := by
  unfold sz
  have : 2 ^ (32 - b).toNat ≤ 2 ^ 32 := Nat.pow_le_pow_right (by decide) (by omega)
  omega
/-- What Check gives. -/
def chkE (a : Nat) (b : Int) : Int := if b < 0 ∨ 32 < b then 10 else if a % sz b = 0 then 0 else 3
theorem chkE_zero {a : Nat} {b : Int} : chkE a b = 0 ↔ 0 ≤ b ∧ b ≤ 32 ∧ a % sz b = 0 := by
  unfold chkE
  by_cases h : b < 0 ∨ 32 < b
  · rw [if_pos h]; omega
  · rw [if_neg h]
    by_cases g : a % sz b = 0
    · rw [if_pos g]; omega
    · rw [if_neg g]; omega
/-- What Mask gives. -/
def maskOf (b : Int) : Int := 4294967296 - (sz b : Int)
theorem mask_eq (b : Int) (h0 : 0 ≤ b) : 4294967295 * 2 ^ (32 - b).toNat % 4294967296 = maskOf b := by
  unfold maskOf
  have hp := sz_pos b
  have hl := sz_le b h0
  have e : ((2 : Int) ^ (32 - b).toNat) = (sz b : Int) := by unfold sz; rw [Int.natCast_pow]; rfl
  rw [e]
  generalize sz b = s at *
  have : (4294967295 : Int) * (s : Int) = (4294967296 - (s : Int)) + 4294967296 * ((s : Int) - 1) := by omega
  rw [this, Int.add_mul_emod_self_left, Int.emod_eq_of_lt (by omega) (by omega)]

theorem and_hi (a k : Nat) (h : a < 2 ^ 32) (hk : k ≤ 32) : a &&& (2 ^ 32 - 2 ^ k) = a / 2 ^ k * 2 ^ k := by
  have e : 2 ^ 32 - 2 ^ k = 2 ^ 32 - ((2 ^ k - 1) + 1) := by have := Nat.pow_pos (n := k) (show 0 < 2 by decide); omega
  have hlt : 2 ^ k - 1 < 2 ^ 32 := by
    have h1 : 2 ^ k ≤ 2 ^ 32 := Nat.pow_le_pow_right (by decide) hk
    have := Nat.pow_pos (n := k) (show 0 < 2 by decide)
    omega
  apply Nat.eq_of_testBit_eq
  intro i
  rw [e, Nat.testBit_and, Nat.testBit_two_pow_sub_succ hlt, Nat.testBit_two_pow_sub_one, ← Nat.shiftRight_eq_div_pow, ← Nat.shiftLeft_eq, Nat.testBit_shiftLeft, Nat.testBit_shiftRight]
  by_cases hi : k ≤ i
  · have e2 : k + (i - k) = i := by omega
    rw [e2]
    by_cases h32 : i < 32
    · simp [hi, h32]
    · have : a.testBit i = false := Nat.testBit_lt_two_pow (Nat.lt_of_lt_of_le h (Nat.pow_le_pow_right (by decide) (by omega)))
      simp [this]
  · simp [hi]; omega

theorem andNot_mask (a : Nat) (b : Int) (h : a < 4294967296) (h0 : 0 ≤ b) : bits .andNot .u32 (a : Int) (maskOf b) = ((a % sz b : Nat) : Int) := by
  have hl := sz_le b h0
  have hp := sz_pos b
  have e : maskOf b = ((4294967296 - sz b : Nat) : Int) := by unfold maskOf; omega
  rw [e, u32_andNot_nat a _ h (by omega)]
  have e2 : 4294967295 - (4294967296 - sz b) = sz b - 1 := by omega
  rw [e2]
  congr 1
  unfold sz
  exact Nat.and_two_pow_sub_one_eq_mod a _
theorem and_mask (a : Nat) (b : Int) (h : a < 4294967296) (h0 : 0 ≤ b) : bits .and .u32 (a : Int) (maskOf b) = ((a / sz b * sz b : Nat) : Int) := by
  have hl := sz_le b h0
  have hp := sz_pos b
  have e : maskOf b = ((4294967296 - sz b : Nat) : Int) := by unfold maskOf; omega
  rw [e, u32_and_nat a _ h (by omega)]
  congr 1
  unfold sz
  exact and_hi a _ (by omega) (by omega)

/-- The i-th bit from the left. -/
def bitN (a i : Nat) : Nat := a / 2 ^ (31 - i) % 2
theorem bitN_lt (a i : Nat) : bitN a i < 2 := Nat.mod_lt _ (by decide)
theorem bit_eq (a i : Nat) (h : a < 4294967296) (_hi : i ≤ 31) : wrap64 (bits .and .u32 ((a : Int) / 2 ^ (31 - i)) 1) = (bitN a i : Int) := by
  have e : ((a : Int) / 2 ^ (31 - i)) = ((a / 2 ^ (31 - i) : Nat) : Int) := by
    rw [Int.natCast_ediv, Int.natCast_pow]; rfl
  have hd : a / 2 ^ (31 - i) < 4294967296 := Nat.lt_of_le_of_lt (Nat.div_le_self _ _) h
  have h2 := u32_and_nat (a / 2 ^ (31 - i)) 1 hd (by decide)
  rw [nat_mask1] at h2
  rw [e, show (1 : Int) = ((1 : Nat) : Int) from rfl, h2]
  unfold bitN wrap64
  omega

/-- What Has gives. -/
def hasB (a : Nat) (b : Int) (x : Nat) : Bool := decide (chkE a b = 0 ∧ x / sz b * sz b = a)
/-- What Within gives: (a, b) is a subset of (c, d). -/
def withinB (a : Nat) (b : Int) (c : Nat) (d : Int) : Bool := decide (chkE a b = 0 ∧ d ≤ b) && hasB c d a
/-- What cmp.Compare and Compare give. -/
def cmpI (x y : Int) : Int := if x < y then -1 else if x > y then 1 else 0
def orI (x y : Int) : Int := if x ≠ 0 then x else y
def cmpP (a : Nat) (b : Int) (c : Nat) (d : Int) : Int := orI (cmpI a c) (cmpI b d)
end Go.Proofs.YtaknlphmplimhaaDoor
