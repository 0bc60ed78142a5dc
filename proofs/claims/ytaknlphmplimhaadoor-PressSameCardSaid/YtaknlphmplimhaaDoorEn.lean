/- The listing of a tree of entries: its paths, values and members, in plain Lean. -/
import Derived.Test.YtaknlphmplimhaaDoorTh
set_option linter.unusedVariables false
set_option linter.unusedSimpArgs false
namespace Go.Proofs.YtaknlphmplimhaaDoor
open Go.RowKit Go.Proofs AT

/-- A valid prefix of d bits. -/
def Val (a d : Nat) : Prop := a < 4294967296 ∧ d ≤ 32 ∧ a % 2 ^ (32 - d) = 0
theorem Val_chk {a d : Nat} (ha : a < 4294967296) : Val a d ↔ chkE a (d : Int) = 0 := by
  rw [chkE_zero]
  unfold Val sz
  rw [show (32 - (d : Int)).toNat = 32 - d by omega]
  constructor
  · rintro ⟨_, h2, h3⟩; exact ⟨by omega, by omega, h3⟩
  · rintro ⟨h1, h2, h3⟩; exact ⟨ha, by omega, h3⟩
theorem pow_step {d : Nat} (h : d < 32) : 2 ^ (32 - d) = 2 * 2 ^ (31 - d) := by
  rw [show 32 - d = (31 - d) + 1 by omega, Nat.pow_succ]; omega
theorem Val.left {a d : Nat} (h : Val a d) (hd : d < 32) : Val a (d + 1) := by
  obtain ⟨h1, h2, h3⟩ := h
  refine ⟨h1, by omega, ?_⟩
  rw [pow_step hd] at h3
  rw [show 32 - (d + 1) = 31 - d by omega]
  exact Nat.mod_eq_zero_of_dvd (Nat.dvd_trans ⟨2, by omega⟩ (Nat.dvd_of_mod_eq_zero h3))
theorem Val.mul {a d : Nat} (h : Val a d) : ∃ m, a = m * 2 ^ (32 - d) := by
  obtain ⟨h1, h2, h3⟩ := h
  obtain ⟨m, hm⟩ := Nat.dvd_of_mod_eq_zero h3
  exact ⟨m, by rw [hm, Nat.mul_comm]⟩
theorem Val.right {a d : Nat} (h : Val a d) (hd : d < 32) : Val (a + 2 ^ (31 - d)) (d + 1) := by
  obtain ⟨m, hm⟩ := h.mul
  obtain ⟨h1, h2, h3⟩ := h
  have hp := Nat.pow_pos (n := 31 - d) (show 0 < 2 by decide)
  have e32 : 4294967296 = 2 ^ d * 2 ^ (32 - d) := by rw [← Nat.pow_add, show d + (32 - d) = 32 by omega]
  have hm1 : m < 2 ^ d := by
    rw [hm, e32] at h1
    exact Nat.lt_of_mul_lt_mul_right h1
  refine ⟨?_, by omega, ?_⟩
  · have : (m + 1) * 2 ^ (32 - d) ≤ 2 ^ d * 2 ^ (32 - d) := Nat.mul_le_mul_right _ hm1
    rw [← e32, Nat.add_mul, Nat.one_mul, ← hm, pow_step hd] at this
    omega
  · rw [show 32 - (d + 1) = 31 - d by omega, hm, pow_step hd]
    apply Nat.mod_eq_zero_of_dvd
    exact ⟨2 * m + 1, by rw [Nat.mul_comm m, Nat.mul_assoc, Nat.mul_comm (2 ^ (31 - d)) (2 * m + 1), Nat.add_mul, Nat.one_mul]; rw [Nat.mul_comm (2 ^ (31 - d)) m, Nat.mul_assoc]⟩
theorem bit_left {a d : Nat} (h : Val a d) (hd : d < 32) : bitB a d = false := by
  obtain ⟨m, hm⟩ := h.mul
  unfold bitB bitN
  have : a / 2 ^ (31 - d) = 2 * m := by
    rw [hm, pow_step hd, ← Nat.mul_assoc, Nat.mul_div_cancel _ (Nat.pow_pos (by decide)), Nat.mul_comm]
  rw [this, Nat.mul_mod_right]; rfl
theorem bit_right {a d : Nat} (h : Val a d) (hd : d < 32) : bitB (a + 2 ^ (31 - d)) d = true := by
  obtain ⟨m, hm⟩ := h.mul
  unfold bitB bitN
  have : (a + 2 ^ (31 - d)) / 2 ^ (31 - d) = 2 * m + 1 := by
    rw [Nat.add_div_right _ (Nat.pow_pos (by decide)), hm, pow_step hd, ← Nat.mul_assoc, Nat.mul_div_cancel _ (Nat.pow_pos (by decide)), Nat.mul_comm]
  rw [this, show (2 * m + 1) % 2 = 1 by omega]; rfl
theorem bit_same {a d i : Nat} (h : Val a d) (hd : d < 32) (hi : i < d) : bitB (a + 2 ^ (31 - d)) i = bitB a i := by
  obtain ⟨m, hm⟩ := h.mul
  unfold bitB bitN
  have e1 : 2 ^ (31 - i) = 2 ^ (d - 1 - i) * 2 ^ (32 - d) := by rw [← Nat.pow_add, show d - 1 - i + (32 - d) = 31 - i by omega]
  have : (a + 2 ^ (31 - d)) / 2 ^ (31 - i) = a / 2 ^ (31 - i) := by
    rw [e1, Nat.mul_comm (2 ^ (d - 1 - i)), ← Nat.div_div_eq_div_mul, ← Nat.div_div_eq_div_mul]
    congr 1
    have hp := Nat.pow_pos (n := 31 - d) (show 0 < 2 by decide)
    rw [hm, Nat.mul_div_cancel _ (Nat.pow_pos (by decide)), Nat.add_comm, Nat.add_mul_div_right _ _ (Nat.pow_pos (by decide)), Nat.div_eq_of_lt (by rw [pow_step hd]; omega), Nat.zero_add]
  rw [this]
theorem path_left {a d : Nat} (h : Val a d) (hd : d < 32) : path a (d + 1) = path a d ++ [false] := by rw [path_succ, bit_left h hd]
theorem path_right {a d : Nat} (h : Val a d) (hd : d < 32) : path (a + 2 ^ (31 - d)) (d + 1) = path a d ++ [true] := by
  rw [path_succ, bit_right h hd]
  congr 1
  unfold path
  exact List.map_congr_left fun i hi => bit_same h hd (List.mem_range.1 hi)

/-- The entries of a subtrie whose prefix is given, in order. -/
def ents : AT → Nat → Nat → List En
  | .nil, _, _ => []
  | .node _ l r v h, a, d => (if h then [⟨a, d, v⟩] else []) ++ (if d = 32 then [] else ents l a (d + 1) ++ ents r (a + 2 ^ (31 - d)) (d + 1))

theorem mem_ents : ∀ (t : AT) (a d : Nat), Val a d → ∀ e : En, e ∈ ents t a d ↔ ∃ k : Nat, e.b = k ∧ d ≤ k ∧ Val e.a k ∧ path a d <+: path e.a k ∧ t.get ((path e.a k).drop d) = some e.v
  | .nil, a, d, _, e => by
    simp only [ents, List.not_mem_nil, false_iff]
    rintro ⟨k, _, _, _, _, h⟩
    rw [get_nil] at h; cases h
  | .node b l r v h, a, d, hV, e => by
    have hkid : ∀ (c : Bool) (q : List Bool), AT.get (.node b l r v h) (c :: q) = (if c then r else l).get q := by intro c q; cases c <;> rfl
    simp only [ents, List.mem_append]
    constructor
    · rintro (h1 | h1)
      · cases h with
        | false => simp at h1
        | true =>
          simp at h1
          subst h1
          refine ⟨d, rfl, Nat.le_refl _, hV, List.prefix_refl _, ?_⟩
          rw [List.drop_of_length_le (by rw [path_length]; exact Nat.le_refl _)]; rfl
      · by_cases h32 : d = 32
        · rw [if_pos h32] at h1; simp at h1
        · rw [if_neg h32, List.mem_append] at h1
          have hd : d < 32 := by have := hV.2.1; omega
          rcases h1 with h1 | h1
          · obtain ⟨k, e1, e2, e3, e4, e5⟩ := (mem_ents l a (d + 1) (hV.left hd) e).1 h1
            rw [path_left hV hd] at e4
            obtain ⟨q, hq⟩ := e4
            refine ⟨k, e1, by omega, e3, ⟨false :: q, by rw [← hq]; simp⟩, ?_⟩
            rw [← hq, List.append_assoc, List.drop_left' (path_length a d), List.singleton_append, hkid]
            rw [← hq, List.drop_left' (by simp [path_length])] at e5
            exact e5
          · obtain ⟨k, e1, e2, e3, e4, e5⟩ := (mem_ents r (a + 2 ^ (31 - d)) (d + 1) (hV.right hd) e).1 h1
            rw [path_right hV hd] at e4
            obtain ⟨q, hq⟩ := e4
            refine ⟨k, e1, by omega, e3, ⟨true :: q, by rw [← hq]; simp⟩, ?_⟩
            rw [← hq, List.append_assoc, List.drop_left' (path_length a d), List.singleton_append, hkid]
            rw [← hq, List.drop_left' (by simp [path_length])] at e5
            exact e5
    · rintro ⟨k, e1, e2, e3, ⟨q, hq⟩, e5⟩
      rw [← hq, List.drop_left' (path_length a d)] at e5
      cases q with
      | nil =>
        left
        rw [List.append_nil] at hq
        have hk : k = d := by have := congrArg List.length hq; rw [path_length, path_length] at this; omega
        subst hk
        have ha : e.a = a := path_inj e3.1 hV.1 hV.2.1 e3.2.2 hV.2.2 hq.symm
        cases h with
        | false => cases e5
        | true =>
          have hv : v = e.v := by injection e5
          simp only [if_true, List.mem_singleton]
          obtain ⟨ea, eb, ev⟩ := e
          simp only at ha e1 hv
          rw [ha, e1, ← hv]
      | cons c q =>
        right
        have hl := congrArg List.length hq
        simp only [List.length_append, path_length, List.length_cons] at hl
        have hd : d < 32 := by have := e3.2.1; omega
        rw [if_neg (by omega), List.mem_append]
        rw [hkid] at e5
        cases c with
        | false =>
          left
          refine (mem_ents l a (d + 1) (hV.left hd) e).2 ⟨k, e1, by omega, e3, ⟨q, by rw [path_left hV hd, ← hq]; simp⟩, ?_⟩
          rw [← hq, show path a d ++ false :: q = (path a d ++ [false]) ++ q by simp, List.drop_left' (by simp [path_length])]
          exact e5
        | true =>
          right
          refine (mem_ents r (a + 2 ^ (31 - d)) (d + 1) (hV.right hd) e).2 ⟨k, e1, by omega, e3, ⟨q, by rw [path_right hV hd, ← hq]; simp⟩, ?_⟩
          rw [← hq, show path a d ++ true :: q = (path a d ++ [true]) ++ q by simp, List.drop_left' (by simp [path_length])]
          exact e5
/-- The entries of a whole table. -/
theorem mem_all (t : AT) (e : En) : e ∈ ents t 0 0 ↔ ∃ k : Nat, e.b = k ∧ Val e.a k ∧ t.get (path e.a k) = some e.v := by
  rw [mem_ents t 0 0 ⟨by decide, by decide, by decide⟩ e]
  constructor
  · rintro ⟨k, h1, _, h2, _, h3⟩; exact ⟨k, h1, h2, h3⟩
  · rintro ⟨k, h1, h2, h3⟩; exact ⟨k, h1, by omega, h2, List.nil_prefix, h3⟩
end Go.Proofs.YtaknlphmplimhaaDoor
