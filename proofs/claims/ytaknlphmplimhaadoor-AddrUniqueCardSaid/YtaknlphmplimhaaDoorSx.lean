/- Plain laws of strings cut at one byte, of decimal numerals of at most three digits, and of dotted addresses; no program in sight. -/
import Derived.Lib.SplitLaws
import Derived.Lib.CutLaws
import Derived.Lib.Join
import Derived.Lib.ItoaNum
import Derived.Test.YtaknlphmplimhaaDoorMa
set_option linter.unusedVariables false
set_option linter.unusedSimpArgs false
namespace Go.Proofs.YtaknlphmplimhaaDoor
open Go.RowKit
/-- A string cut at every c. -/
def sp (c : UInt8) : List UInt8 → List (List UInt8)
  | [] => [[]]
  | x :: l => if x = c then [] :: sp c l else match sp c l with | h :: t => (x :: h) :: t | [] => [[x]]
theorem sp_ne (c : UInt8) : ∀ l, sp c l ≠ []
  | [] => by simp [sp]
  | x :: l => by
    rw [sp]
    split
    · simp
    · split <;> simp
theorem sp_none (c : UInt8) : ∀ l : List UInt8, c ∉ l → sp c l = [l]
  | [], _ => rfl
  | x :: l, h => by
    have hx : x ≠ c := fun e => h (by rw [e]; simp)
    rw [sp, if_neg hx, sp_none c l (fun k => h (by simp [k]))]
theorem sp_hit (c : UInt8) : ∀ (u v : List UInt8), c ∉ u → sp c (u ++ c :: v) = u :: sp c v
  | [], v, _ => by rw [List.nil_append, sp, if_pos rfl]
  | x :: u, v, h => by
    have hx : x ≠ c := fun e => h (by rw [e]; simp)
    rw [List.cons_append, sp, if_neg hx, sp_hit c u v (fun k => h (by simp [k]))]
theorem index_mem (c : UInt8) : ∀ l : List UInt8, c ∉ l → Lib.index l [c] = -1
  | [], _ => by simp [Lib.index]
  | x :: l, h => by
    have hx : x ≠ c := fun e => h (by rw [e]; simp)
    rw [Lib.index]
    simp [List.isPrefixOf, Ne.symm hx, index_mem c l (fun k => h (by simp [k]))]
theorem index_at (c : UInt8) : ∀ (u v : List UInt8), c ∉ u → Lib.index (u ++ c :: v) [c] = (u.length : Int)
  | [], v, _ => by rw [List.nil_append, Lib.index]; simp [List.isPrefixOf]
  | x :: u, v, h => by
    have hx : x ≠ c := fun e => h (by rw [e]; simp)
    have ih := index_at c u v (fun k => h (by simp [k]))
    rw [List.cons_append, Lib.index]
    simp only [List.isPrefixOf, beq_eq_false_iff_ne.2 (Ne.symm hx), Bool.false_and, Bool.false_eq_true, if_false, ih, List.length_cons]
    rw [if_neg (by rw [beq_iff_eq]; omega)]
    omega
theorem first_of (c : UInt8) : ∀ l : List UInt8, c ∈ l → ∃ u v, l = u ++ c :: v ∧ c ∉ u
  | [], h => by simp at h
  | x :: l, h => by
    by_cases hx : x = c
    · subst hx; exact ⟨[], l, rfl, by simp⟩
    · rcases List.mem_cons.1 h with e | e
      · exact absurd e.symm hx
      · obtain ⟨u, v, rfl, hu⟩ := first_of c l e
        exact ⟨x :: u, v, rfl, by simp [Ne.symm hx, hu]⟩
theorem splitK_sp (c : UInt8) : ∀ (n : Nat) (l : List UInt8), l.length ≤ n → Lib.splitK [c] 0 (l.count c) l = sp c l
  | n, l, hn => by
    by_cases h : c ∈ l
    · obtain ⟨u, v, rfl, hu⟩ := first_of c l h
      cases n with
      | zero => simp at hn
      | succ n =>
        have hc : (u ++ c :: v).count c = v.count c + 1 := by
          rw [List.count_append, List.count_eq_zero_of_not_mem hu, List.count_cons_self]; omega
        rw [hc, sp_hit c u v hu, Lib.splitK, index_at c u v hu]
        rw [if_neg (by rw [beq_iff_eq]; omega)]
        simp only [Int.toNat_natCast, Nat.add_zero, List.take_left', List.length_cons, List.length_nil]
        rw [show (u ++ c :: v).drop (u.length + (0 + 1)) = v by
          rw [Nat.zero_add, ← List.drop_drop, List.drop_left]; rfl]
        rw [splitK_sp c n v (by simp at hn; omega)]
    · rw [List.count_eq_zero_of_not_mem h, sp_none c l h]; rfl
theorem split_sp (c : UInt8) (l : List UInt8) : Lib.split l [c] = sp c l := by
  unfold Lib.split
  rw [Lib.count_one]
  exact splitK_sp c l.length l (Nat.le_refl _)
theorem splitB_sp (c : UInt8) (s : ByteArray) : (Lib.splitB ⟨#[c]⟩ 0 (Lib.countB s ⟨#[c]⟩) s).map (·.data.toList) = sp c s.data.toList := by
  rw [Lib.splitB_data, ← split_sp]; rfl
theorem sp_count (c : UInt8) (s : ByteArray) : Lib.countB s ⟨#[c]⟩ + 1 = (sp c s.data.toList).length := by
  rw [← splitB_sp, List.length_map, Lib.splitB_all _ (by simp [ByteArray.size]) 0 _ s rfl]
theorem join_sp (c : UInt8) : ∀ l : List UInt8, Lib.join (sp c l) [c] = l
  | [] => rfl
  | x :: l => by
    have ih := join_sp c l
    have hne := sp_ne c l
    rw [sp]
    by_cases hx : x = c
    · subst hx
      rw [if_pos rfl]
      cases hs : sp x l with
      | nil => exact absurd hs hne
      | cons h t =>
        rw [hs] at ih
        unfold Lib.join at ih ⊢
        rw [List.intercalate_cons_cons]
        simp [ih]
    · rw [if_neg hx]
      cases hs : sp c l with
      | nil => exact absurd hs hne
      | cons h t =>
        rw [hs] at ih
        simp only
        unfold Lib.join at ih ⊢
        cases t with
        | nil => simp at ih ⊢; exact ih
        | cons b t =>
          rw [List.intercalate_cons_cons] at ih ⊢
          simp at ih ⊢
          exact ih
theorem sp_join (c : UInt8) : ∀ (p : List UInt8) (ps : List (List UInt8)), (∀ q, q ∈ p :: ps → c ∉ q) → sp c (Lib.join (p :: ps) [c]) = p :: ps
  | p, [], h => by
    have : Lib.join [p] [c] = p := by simp [Lib.join]
    rw [this, sp_none c p (h p (by simp))]
  | p, q :: ps, h => by
    have : Lib.join (p :: q :: ps) [c] = p ++ c :: Lib.join (q :: ps) [c] := by unfold Lib.join; rw [List.intercalate_cons_cons]; simp
    rw [this, sp_hit c p _ (h p (by simp)), sp_join c q ps (fun r hr => h r (by simp [hr]))]
/-! ### Cut -/
theorem cut_none (c : UInt8) (l : List UInt8) (h : c ∉ l) : Lib.cut l [c] = (l, [], false) := by
  unfold Lib.cut
  rw [index_mem c l h]; simp
theorem cut_at (c : UInt8) (u v : List UInt8) (h : c ∉ u) : Lib.cut (u ++ c :: v) [c] = (u, v, true) := by
  unfold Lib.cut
  rw [index_at c u v h, if_pos (by omega)]
  simp only [Int.toNat_natCast, List.take_left', List.length_cons, List.length_nil]
  rw [show (u ++ c :: v).drop (u.length + (0 + 1)) = v by
    rw [Nat.zero_add, ← List.drop_drop, List.drop_left]; rfl]
end Go.Proofs.YtaknlphmplimhaaDoor
