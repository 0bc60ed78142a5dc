/- Plain laws of numerals: number's answer at decDigits, and back. -/
import Derived.Test.YtaknlphmplimhaaDoorNu
import Derived.Lib.ItoaNum
set_option linter.unusedVariables false
set_option linter.unusedSimpArgs false
namespace Go.Proofs.YtaknlphmplimhaaDoor
open Go.RowKit Go.Proofs
theorem u8n {n : Nat} (h : n < 256) : (UInt8.ofNat n).toNat = n := by simp; omega
theorem u8b (b : UInt8) (n : Nat) (h : b.toNat = n) : UInt8.ofNat n = b := by subst h; simp
theorem dec_three {i : Nat} (h1 : ¬ i < 100) (h2 : i < 1000) : Lib.decDigits i = [UInt8.ofNat (48 + i / 100), UInt8.ofNat (48 + i / 10 % 10), UInt8.ofNat (48 + i % 10)] := by
  rw [Lib.decDigits, dif_neg (by omega), Lib.decDigits_two (by omega) (by omega), Nat.div_div_eq_div_mul]
  rfl
theorem numB_l2 (b : UInt8) : numB [48, b] = false := rfl
theorem numB_l3 (b c : UInt8) : numB [48, b, c] = false := rfl
theorem num_dec {n : Nat} (h : n < 1000) : numB (Lib.decDigits n) = true ∧ valD (Lib.decDigits n) = n := by
  by_cases h1 : n < 10
  · rw [Lib.decDigits_one h1]
    have e : (UInt8.ofNat (48 + n)).toNat = 48 + n := u8n (by omega)
    exact ⟨isD_iff.2 (by omega), by show _ - 48 = n; omega⟩
  by_cases h2 : n < 100
  · rw [Lib.decDigits_two h1 h2]
    have e : (UInt8.ofNat (48 + n / 10)).toNat = 48 + n / 10 := u8n (by omega)
    have e2 : (UInt8.ofNat (48 + n % 10)).toNat = 48 + n % 10 := u8n (by omega)
    refine ⟨?_, by show 10 * (_ - 48) + (_ - 48) = n; omega⟩
    rw [numB_two _ _ (by intro q; rw [q] at e; simp at e; omega), isD_iff.2 (by omega), isD_iff.2 (by omega)]; rfl
  · rw [dec_three h2 h]
    have e : (UInt8.ofNat (48 + n / 100)).toNat = 48 + n / 100 := u8n (by omega)
    have e1 : (UInt8.ofNat (48 + n / 10 % 10)).toNat = 48 + n / 10 % 10 := u8n (by omega)
    have e2 : (UInt8.ofNat (48 + n % 10)).toNat = 48 + n % 10 := u8n (by omega)
    refine ⟨?_, by show 10 * (10 * (_ - 48) + (_ - 48)) + (_ - 48) = n; omega⟩
    rw [numB_three _ _ _ (by intro q; rw [q] at e; simp at e; omega), isD_iff.2 (by omega), isD_iff.2 (by omega), isD_iff.2 (by omega)]; rfl
theorem dec_num {l : List UInt8} (h : numB l = true) : Lib.decDigits (valD l) = l ∧ valD l < 1000 := by
  match l, h with
  | [a], h =>
    obtain ⟨h1, h2⟩ := isD_iff.1 h
    show Lib.decDigits (a.toNat - 48) = [a] ∧ a.toNat - 48 < 1000
    rw [Lib.decDigits_one (by omega), u8b a _ (by omega)]
    exact ⟨rfl, by omega⟩
  | [a, b], h =>
    have hz : a ≠ 48 := by rintro rfl; rw [numB_l2] at h; cases h
    rw [numB_two a b hz, Bool.and_eq_true, isD_iff, isD_iff] at h
    have hz2 : a.toNat ≠ 48 := fun q => hz (UInt8.toNat_inj.1 q)
    show Lib.decDigits (10 * (a.toNat - 48) + (b.toNat - 48)) = [a, b] ∧ 10 * (a.toNat - 48) + (b.toNat - 48) < 1000
    rw [Lib.decDigits_two (by omega) (by omega), u8b a _ (by omega), u8b b _ (by omega)]
    exact ⟨rfl, by omega⟩
  | [a, b, c], h =>
    have hz : a ≠ 48 := by rintro rfl; rw [numB_l3] at h; cases h
    rw [numB_three a b c hz, Bool.and_eq_true, Bool.and_eq_true, isD_iff, isD_iff, isD_iff] at h
    have hz2 : a.toNat ≠ 48 := fun q => hz (UInt8.toNat_inj.1 q)
    show Lib.decDigits (10 * (10 * (a.toNat - 48) + (b.toNat - 48)) + (c.toNat - 48)) = [a, b, c] ∧ 10 * (10 * (a.toNat - 48) + (b.toNat - 48)) + (c.toNat - 48) < 1000
    rw [dec_three (by omega) (by omega), u8b a _ (by omega), u8b b _ (by omega), u8b c _ (by omega)]
    exact ⟨rfl, by omega⟩
theorem dec_isD {n : Nat} (h : n < 1000) : ∀ c, c ∈ Lib.decDigits n → isD c = true := by
  have := (num_dec h).1
  match hl : Lib.decDigits n, this with
  | [a], q => intro c hc; simp at hc; subst hc; exact q
  | [a, b], q => 
    have hz : a ≠ 48 := by rintro rfl; rw [numB_l2] at q; cases q
    rw [numB_two a b hz, Bool.and_eq_true] at q
    intro c hc; simp at hc; rcases hc with rfl | rfl
    · exact q.1
    · exact q.2
  | [a, b, d], q => 
    have hz : a ≠ 48 := by rintro rfl; rw [numB_l3] at q; cases q
    rw [numB_three a b d hz, Bool.and_eq_true, Bool.and_eq_true] at q
    intro c hc; simp at hc; rcases hc with rfl | rfl | rfl
    · exact q.1
    · exact q.2.1
    · exact q.2.2
theorem dec_len {n : Nat} (h : n < 1000) : 1 ≤ (Lib.decDigits n).length ∧ (Lib.decDigits n).length ≤ 3 := by
  have := (num_dec h).1
  match hl : Lib.decDigits n, this with
  | [a], q => simp
  | [a, b], q => simp
  | [a, b, d], q => simp
theorem dec_no {n : Nat} (h : n < 1000) (c : UInt8) (hc : isD c = false) : c ∉ Lib.decDigits n := fun hm => by rw [dec_isD h c hm] at hc; cases hc
/-! ### Parse's answer -/
def accN (ps : List (List UInt8)) : Nat → Nat
  | 0 => 0
  | k + 1 => (accN ps k * 256 + numV (ps.getD k []) % 256) % 4294967296
def bigB (ps : List (List UInt8)) : Nat → Bool
  | 0 => false
  | k + 1 => bigB ps k || decide (255 < numV (ps.getD k []))
def parR (s : List UInt8) : Nat × Nat :=
  if (sp 46 s).length = 4 ∧ (sp 46 s).all numB = true then (if bigB (sp 46 s) 4 then (0, 10) else (accN (sp 46 s) 4, 0)) else (0, 11)
theorem accN_lt (ps : List (List UInt8)) (k : Nat) : accN ps k < 4294967296 := by
  cases k with
  | zero => exact (by decide : 0 < 4294967296)
  | succ k => exact Nat.mod_lt _ (by decide)
end Go.Proofs.YtaknlphmplimhaaDoor
