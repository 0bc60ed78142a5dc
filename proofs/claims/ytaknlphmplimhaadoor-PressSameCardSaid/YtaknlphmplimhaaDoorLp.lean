/- Plain law of the longest entry: what Find finds against the listing; an address of 32 bits. -/
import Derived.Test.YtaknlphmplimhaaDoorEo
import Derived.Test.YtaknlphmplimhaaDoorSe
set_option linter.unusedVariables false
set_option linter.unusedSimpArgs false
namespace Go.Proofs.YtaknlphmplimhaaDoor
open Go.RowKit Go.Proofs AT
theorem sz_nat (k : Nat) : sz (k : Int) = 2 ^ (32 - k) := by unfold sz; rw [show (32 - (k : Int)).toNat = 32 - k by omega]
theorem path_masked (a k : Nat) (hk : k ≤ 32) : path (a / sz (k : Int) * sz (k : Int)) k = path a k := by
  unfold path
  refine List.map_congr_left fun i hi => ?_
  have hi := List.mem_range.1 hi
  unfold bitB bitN
  rw [sz_nat]
  have e1 : 2 ^ (31 - i) = 2 ^ (32 - k) * 2 ^ (k - 1 - i) := by rw [← Nat.pow_add, show 32 - k + (k - 1 - i) = 31 - i by omega]
  rw [e1, ← Nat.div_div_eq_div_mul, ← Nat.div_div_eq_div_mul, Nat.mul_div_cancel _ (Nat.pow_pos (by decide))]
theorem has_path {c a k : Nat} (hk : k ≤ 32) (h : hasB c (k : Int) a = true) : path a k = path c k := by
  unfold hasB at h
  rw [decide_eq_true_iff] at h
  rw [← h.2, path_masked a k hk]
theorem val_masked {a k : Nat} (ha : a < 4294967296) (hk : k ≤ 32) : Val (a / sz (k : Int) * sz (k : Int)) k := by
  refine ⟨Nat.lt_of_le_of_lt (Nat.div_mul_le_self _ _) ha, hk, ?_⟩
  rw [sz_nat]
  exact Nat.mul_mod_left _ _
theorem has_masked {a k : Nat} (ha : a < 4294967296) (hk : k ≤ 32) : hasB (a / sz (k : Int) * sz (k : Int)) (k : Int) a = true := by
  have hV := val_masked ha hk
  unfold hasB
  rw [decide_eq_true_iff]
  exact ⟨(Val_chk hV.1).1 hV, rfl⟩
theorem best_none {t : AT} {a : Nat} : ∀ {n : Nat}, best t a n = none → ∀ k, k < n → t.get (path a k) = none
  | 0, _, k, hk => absurd hk (by omega)
  | n + 1, h, k, hk => by
    rw [show best t a (n + 1) = match t.get (path a n) with | some v => some (n, v) | none => best t a n from rfl] at h
    cases hg : t.get (path a n) with
    | some v => rw [hg] at h; cases h
    | none =>
      rw [hg] at h
      rcases Nat.eq_or_lt_of_le (Nat.lt_succ_iff.1 hk) with rfl | hlt
      · exact hg
      · exact best_none h k hlt
theorem best_some {t : AT} {a : Nat} {d : Nat} {v : Int} : ∀ {n : Nat}, best t a n = some (d, v) → d < n ∧ t.get (path a d) = some v ∧ ∀ k, d < k → k < n → t.get (path a k) = none
  | 0, h => by cases h
  | n + 1, h => by
    rw [show best t a (n + 1) = match t.get (path a n) with | some v => some (n, v) | none => best t a n from rfl] at h
    cases hg : t.get (path a n) with
    | some u =>
      rw [hg] at h
      simp only [Option.some.injEq, Prod.mk.injEq] at h
      obtain ⟨rfl, rfl⟩ := h
      exact ⟨by omega, hg, fun k h1 h2 => by omega⟩
    | none =>
      rw [hg] at h
      obtain ⟨h1, h2, h3⟩ := best_some h
      refine ⟨by omega, h2, fun k k1 k2 => ?_⟩
      rcases Nat.eq_or_lt_of_le (Nat.lt_succ_iff.1 k2) with rfl | hlt
      · exact hg
      · exact h3 k k1 hlt
/-- An entry that contains the address lies on its path. -/
theorem ent_on_path {t : AT} {a : Nat} {y : En} (hy : y ∈ ents t 0 0) (hh : hasB y.a y.b a = true) : ∃ k : Nat, y.b = k ∧ k ≤ 32 ∧ t.get (path a k) = some y.v := by
  obtain ⟨k, h1, h2, h3⟩ := (mem_all t y).1 hy
  rw [h1] at hh
  exact ⟨k, h1, h2.2.1, by rw [has_path h2.2.1 hh]; exact h3⟩
theorem longest_none {t : AT} {a : Nat} (h : best t a 33 = none) : (ents t 0 0).any (fun y => hasB y.a y.b a) = false := by
  rw [List.any_eq_false]
  intro y hy hh
  obtain ⟨k, _, h2, h3⟩ := ent_on_path hy hh
  rw [best_none h k (by omega)] at h3
  cases h3
theorem longest_some {t : AT} {a : Nat} (ha : a < 4294967296) {d : Nat} {v : Int} (h : best t a 33 = some (d, v)) :
    d ≤ 32 ∧ (ents t 0 0).any (fun y => eqE ⟨a / sz (d : Int) * sz (d : Int), d, v⟩ y) = true ∧ hasB (a / sz (d : Int) * sz (d : Int)) (d : Int) a = true ∧
      (ents t 0 0).any (fun y => hasB y.a y.b a && decide ((d : Int) < y.b)) = false := by
  obtain ⟨h1, h2, h3⟩ := best_some h
  have hd : d ≤ 32 := by omega
  refine ⟨hd, ?_, has_masked ha hd, ?_⟩
  · rw [List.any_eq_true]
    refine ⟨⟨a / sz (d : Int) * sz (d : Int), d, v⟩, (mem_all t _).2 ⟨d, rfl, val_masked ha hd, ?_⟩, eqE_iff.2 rfl⟩
    simp only
    rw [path_masked a d hd]
    exact h2
  · rw [List.any_eq_false]
    intro y hy hh
    rw [Bool.and_eq_true, decide_eq_true_iff] at hh
    obtain ⟨k, k1, k2, k3⟩ := ent_on_path hy hh.1
    rw [h3 k (by have := hh.2; omega) (by omega)] at k3
    cases k3
end Go.Proofs.YtaknlphmplimhaaDoor
