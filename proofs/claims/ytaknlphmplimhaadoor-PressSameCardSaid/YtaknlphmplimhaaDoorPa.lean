/- Plain laws of prefixes: containment as ranges, halves, nesting, order; no program in sight; addresses of 32 bits. -/
import Derived.Test.YtaknlphmplimhaaDoorMa
set_option linter.unusedVariables false
set_option linter.unusedSimpArgs false
namespace Go.Proofs.YtaknlphmplimhaaDoor
open Go.RowKit

theorem div_iff {s a x : Nat} (hs : 0 < s) (h : a % s = 0) : x / s * s = a ↔ a ≤ x ∧ x < a + s := by
  obtain ⟨m, rfl⟩ := Nat.dvd_of_mod_eq_zero h
  constructor
  · intro e
    have h1 := Nat.div_add_mod x s
    have h2 := Nat.mod_lt x hs
    rw [Nat.mul_comm] at e
    omega
  · rintro ⟨h1, h2⟩
    have : x / s = m := by
      rw [Nat.div_eq_iff hs]
      rw [Nat.mul_comm] at h1 h2
      omega
    rw [this, Nat.mul_comm]
theorem has_iff {a : Nat} {b : Int} {x : Nat} : hasB a b x = true ↔ chkE a b = 0 ∧ a ≤ x ∧ x < a + sz b := by
  unfold hasB
  rw [decide_eq_true_iff]
  constructor
  · rintro ⟨h, e⟩; exact ⟨h, (div_iff (sz_pos b) (chkE_zero.1 h).2.2).1 e⟩
  · rintro ⟨h, e⟩; exact ⟨h, (div_iff (sz_pos b) (chkE_zero.1 h).2.2).2 e⟩
theorem within_iff {a c : Nat} {b d : Int} : withinB a b c d = true ↔ chkE a b = 0 ∧ d ≤ b ∧ hasB c d a = true := by
  unfold withinB
  rw [Bool.and_eq_true, decide_eq_true_iff]
  constructor
  · rintro ⟨⟨h1, h2⟩, h3⟩; exact ⟨h1, h2, h3⟩
  · rintro ⟨h1, h2, h3⟩; exact ⟨⟨h1, h2⟩, h3⟩
theorem sz_dvd {b d : Int} (h : d ≤ b) : sz b ∣ sz d := by
  unfold sz
  exact Nat.pow_dvd_pow 2 (by omega)
theorem sz_half {b : Int} (h : b < 32) : sz b = 2 * sz (b + 1) := by
  unfold sz
  rw [show (32 - b).toNat = (32 - (b + 1)).toNat + 1 by omega, Nat.pow_succ]; omega
theorem chk_left {a : Nat} {b : Int} (h : chkE a b = 0) (hb : b < 32) : chkE a (b + 1) = 0 := by
  obtain ⟨h0, h1, h2⟩ := chkE_zero.1 h
  refine chkE_zero.2 ⟨by omega, by omega, ?_⟩
  exact Nat.mod_eq_zero_of_dvd (Nat.dvd_trans (sz_dvd (by omega)) (Nat.dvd_of_mod_eq_zero h2))
theorem chk_right {a : Nat} {b : Int} (h : chkE a b = 0) (hb : b < 32) : chkE (a + sz (b + 1)) (b + 1) = 0 := by
  obtain ⟨h0, h1, h2⟩ := chkE_zero.1 h
  refine chkE_zero.2 ⟨by omega, by omega, ?_⟩
  have e := (chkE_zero.1 (chk_left h hb)).2.2
  rw [Nat.add_mod_right]; exact e
theorem right_lt {a : Nat} {b : Int} (ha : a < 4294967296) (h : chkE a b = 0) (hb : b < 32) : a + sz b ≤ 4294967296 := by
  obtain ⟨h0, h1, h2⟩ := chkE_zero.1 h
  obtain ⟨m, rfl⟩ := Nat.dvd_of_mod_eq_zero h2
  have e : sz b ∣ 4294967296 := by
    unfold sz
    exact (Nat.pow_dvd_pow 2 (show (32 - b).toNat ≤ 32 by omega))
  obtain ⟨k, hk⟩ := e
  rw [hk] at ha ⊢
  have hm : m < k := Nat.lt_of_mul_lt_mul_left ha
  calc sz b * m + sz b = sz b * (m + 1) := by rw [Nat.mul_add, Nat.mul_one]
    _ ≤ sz b * k := Nat.mul_le_mul_left _ hm
/-- Go's or of a valid prefix's address and the first bit behind it is their sum. -/
theorem or_half {a : Nat} {b : Int} (ha : a < 4294967296) (h : chkE a b = 0) (hb : b < 32) : a ||| sz (b + 1) = a + sz (b + 1) := by
  obtain ⟨h0, h1, h2⟩ := chkE_zero.1 h
  obtain ⟨m, rfl⟩ := Nat.dvd_of_mod_eq_zero h2
  have e : sz b * m = 2 ^ (32 - b).toNat * m := rfl
  have e2 : sz (b + 1) = 2 ^ (32 - (b + 1)).toNat := rfl
  rw [e, e2]
  rw [Nat.two_pow_add_eq_or_of_lt (Nat.pow_lt_pow_right (by decide) (by omega)) m]

/-- The law of the halves. -/
theorem halves_plain {a : Nat} {b : Int} {x : Nat} (h : chkE a b = 0) (hb : b < 32) :
    (!(hasB a (b + 1) x && hasB (a + sz (b + 1)) (b + 1) x) && ((hasB a (b + 1) x || hasB (a + sz (b + 1)) (b + 1) x) == hasB a b x) && withinB a (b + 1) a b && withinB (a + sz (b + 1)) (b + 1) a b) = true := by
  have hl := chk_left h hb
  have hr := chk_right h hb
  have e := sz_half hb
  have p := sz_pos (b + 1)
  have w1 : withinB a (b + 1) a b = true := within_iff.2 ⟨hl, by omega, has_iff.2 ⟨h, by omega, by omega⟩⟩
  have w2 : withinB (a + sz (b + 1)) (b + 1) a b = true := within_iff.2 ⟨hr, by omega, has_iff.2 ⟨h, by omega, by omega⟩⟩
  rw [w1, w2]
  have i1 := has_iff (a := a) (b := b + 1) (x := x)
  have i2 := has_iff (a := a + sz (b + 1)) (b := b + 1) (x := x)
  have i3 := has_iff (a := a) (b := b) (x := x)
  simp only [hl, hr, h, true_and] at i1 i2 i3
  by_cases c1 : hasB a (b + 1) x = true
  · have n2 : hasB (a + sz (b + 1)) (b + 1) x = false := by
      rw [Bool.eq_false_iff]; intro c2
      have := i1.1 c1; have := i2.1 c2; omega
    have n3 : hasB a b x = true := i3.2 (by have := i1.1 c1; omega)
    rw [c1, n2, n3]; rfl
  · rw [Bool.not_eq_true] at c1
    by_cases c2 : hasB (a + sz (b + 1)) (b + 1) x = true
    · have n3 : hasB a b x = true := i3.2 (by have := i2.1 c2; omega)
      rw [c1, c2, n3]; rfl
    · rw [Bool.not_eq_true] at c2
      have n3 : hasB a b x = false := by
        rw [Bool.eq_false_iff]; intro c3
        have h3 := i3.1 c3
        have k1 : ¬ (a ≤ x ∧ x < a + sz (b + 1)) := fun k => by rw [i1.2 k] at c1; cases c1
        have k2 : ¬ (a + sz (b + 1) ≤ x ∧ x < a + sz (b + 1) + sz (b + 1)) := fun k => by rw [i2.2 k] at c2; cases c2
        omega
      rw [c1, c2, n3]; rfl

theorem nested_le {a c x : Nat} {b d : Int} (hp : hasB a b x = true) (hq : hasB c d x = true) (h : d ≤ b) : withinB a b c d = true := by
  obtain ⟨p0, p1, p2⟩ := has_iff.1 hp
  obtain ⟨q0, q1, q2⟩ := has_iff.1 hq
  refine within_iff.2 ⟨p0, h, has_iff.2 ⟨q0, ?_, by omega⟩⟩
  have e1 := (div_iff (sz_pos b) (chkE_zero.1 p0).2.2).2 ⟨p1, p2⟩
  have e2 : c % sz b = 0 := Nat.mod_eq_zero_of_dvd (Nat.dvd_trans (sz_dvd h) (Nat.dvd_of_mod_eq_zero (chkE_zero.1 q0).2.2))
  obtain ⟨m, rfl⟩ := Nat.dvd_of_mod_eq_zero e2
  have : m ≤ x / sz b := by
    rw [Nat.le_div_iff_mul_le (sz_pos b), Nat.mul_comm]; exact q1
  rw [← e1, Nat.mul_comm (x / sz b)]
  exact Nat.mul_le_mul_left _ this
theorem nested_both {a c x : Nat} {b d : Int} (hp : hasB a b x = true) (hq : hasB c d x = true) : (withinB a b c d || withinB c d a b) = true := by
  rw [Bool.or_eq_true]
  rcases Int.le_total d b with h | h
  · exact .inl (nested_le hp hq h)
  · exact .inr (nested_le hq hp h)
/-- The law of nesting, where no subset is found. -/
theorem nested_none {a c : Nat} {b d : Int} (h : (withinB a b c d || withinB c d a b) = false) : (!hasB c d a || (chkE a b != 0)) = true := by
  by_cases hp : chkE a b = 0
  · by_cases hq : hasB c d a = true
    · have hs : hasB a b a = true := has_iff.2 ⟨hp, Nat.le_refl _, by have := sz_pos b; omega⟩
      rw [nested_both hs hq] at h; cases h
    · rw [Bool.not_eq_true] at hq; rw [hq]; rfl
  · rw [bne_iff_ne.2 hp, Bool.or_true]
theorem nested_some {a c : Nat} {b d : Int} (h : (withinB a b c d || withinB c d a b) = true) : (hasB c d a || hasB a b c) = true := by
  rw [Bool.or_eq_true] at h ⊢
  rcases h with h | h
  · exact .inl (within_iff.1 h).2.2
  · exact .inr (within_iff.1 h).2.2

/-! ### order -/
theorem cmpP_cases (a : Nat) (b : Int) (c : Nat) (d : Int) :
    (cmpP a b c d = -1 ∧ (a < c ∨ a = c ∧ b < d)) ∨ (cmpP a b c d = 0 ∧ a = c ∧ b = d) ∨ (cmpP a b c d = 1 ∧ (c < a ∨ a = c ∧ d < b)) := by
  unfold cmpP orI cmpI
  by_cases h1 : (a : Int) < c
  · rw [if_pos h1, if_pos (by decide)]; omega
  · rw [if_neg h1]
    by_cases h2 : (a : Int) > c
    · rw [if_pos h2, if_pos (by decide)]; omega
    · rw [if_neg h2, if_neg (by decide)]
      by_cases h3 : b < d
      · rw [if_pos h3]; omega
      · rw [if_neg h3]
        by_cases h4 : b > d
        · rw [if_pos h4]; omega
        · rw [if_neg h4]; omega
theorem cmpP_neg (a : Nat) (b : Int) (c : Nat) (d : Int) : cmpP c d a b = - cmpP a b c d := by
  rcases cmpP_cases a b c d with h | h | h <;> rcases cmpP_cases c d a b with k | k | k <;> omega
theorem cmpP_zero {a : Nat} {b : Int} {c : Nat} {d : Int} : cmpP a b c d = 0 ↔ a = c ∧ b = d := by
  rcases cmpP_cases a b c d with h | h | h <;> omega
theorem cmpP_trans {a c e : Nat} {b d f : Int} (h1 : cmpP a b c d ≤ 0) (h2 : cmpP c d e f ≤ 0) : cmpP a b e f ≤ 0 := by
  rcases cmpP_cases a b c d with h | h | h <;> rcases cmpP_cases c d e f with k | k | k <;> rcases cmpP_cases a b e f with l | l | l <;> omega
theorem cmpP_within {a c : Nat} {b d : Int} (hw : withinB a b c d = true) (hne : ¬ (a = c ∧ b = d)) : 0 < cmpP a b c d := by
  obtain ⟨_, h1, h2⟩ := within_iff.1 hw
  obtain ⟨_, h3, h4⟩ := has_iff.1 h2
  rcases cmpP_cases a b c d with h | h | h <;> omega
end Go.Proofs.YtaknlphmplimhaaDoor
