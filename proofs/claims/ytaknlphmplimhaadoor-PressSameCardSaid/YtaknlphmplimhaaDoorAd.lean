/- The walks of package addr's functions of numbers (Mask, Check, Has, Within, Compare), of cmp.Compare and cmp.Or, and of trie.bit: what each computes; no condition beyond the bounds of a u32 and an int that each names. -/
import Derived.Test.YtaknlphmplimhaaDoorProg
import Derived.Test.YtaknlphmplimhaaDoorMa
import Derived.WalkKit
import Derived.Below
import Derived.OwnWalk
import Derived.Outline
import Derived.Lib.Hide
import Derived.StillTailTactics
set_option linter.unusedVariables false
set_option linter.unusedSimpArgs false
namespace Go.Proofs.YtaknlphmplimhaaDoor
open Go.RowKit Go.Proofs

theorem ret_int {k : IntKind} {a b : Int} (h : a = b) : Ending.returned (.int k a) = .returned (.int k b) := by rw [h]
theorem ret_bool {a b : Bool} (h : a = b) : Ending.returned (.bool a) = .returned (.bool b) := by rw [h]

theorem bthen {B : Nat} {w w1 w2 : World} (h : Below B w w1) (hB : B ≤ w1.heap.size) (k : Below w1.heap.size w1 w2) : Below B w w2 := h.trans (k.mono hB)

set_option maxHeartbeats 400000 in
theorem mask_bad (b : Int) (w : World) (h : b < 0 ∨ 32 < b) : Calls Tryd.prog 79 #[.int .i64 b] w fun e w' => e = .returned (.tuple #[.int .u32 0, .int .i64 10]) ∧ w = w' := by
  rcases h with h | h
  · go_enter Tryd.func79, Tryd.ntmps79
    go_wp2
    go_ret2
    exact ⟨rfl, rfl⟩
  · have h' : ¬ b < 0 := by omega
    go_enter Tryd.func79, Tryd.ntmps79
    go_wp2
    go_ret2
    exact ⟨rfl, rfl⟩
set_option maxHeartbeats 400000 in
theorem mask_good (b : Int) (w : World) (h0 : 0 ≤ b) (h1 : b ≤ 32) : Calls Tryd.prog 79 #[.int .i64 b] w fun e w' => e = .returned (.tuple #[.int .u32 (maskOf b), .int .i64 0]) ∧ w = w' := by
  have h' : ¬ b < 0 := by omega
  have h'' : ¬ 32 < b := by omega
  have hm := Lib.hid (mask_eq b h0)
  go_enter Tryd.func79, Tryd.ntmps79
  go_wp2
  go_ret2
  exact ⟨by rw [← hm.out]; rfl, rfl⟩
set_option maxHeartbeats 400000 in
theorem bit_any (a i : Nat) (w : World) (ha : a < 4294967296) (hi : i ≤ 31) : Calls Tryd.prog 80 #[.int .u32 a, .int .i64 i] w fun e w' => e = .returned (.int .i64 (bitN a i)) ∧ w = w' := by
  have hm := Lib.hid (bit_eq a i ha hi)
  go_enter Tryd.func80, Tryd.ntmps80
  go_wp2
  go_ret
  exact ⟨ret_int hm.out, rfl⟩
set_option maxHeartbeats 400000 in
theorem check_any (a : Nat) (b : Int) (w : World) (ha : a < 4294967296) : Calls Tryd.prog 23 #[.agg #[.int .u32 a, .int .i64 b]] w fun e w' => e = .returned (.int .i64 (chkE a b)) ∧ Below w.heap.size w w' := by
  by_cases hb : b < 0 ∨ 32 < b
  · have hc : chkE a b = 10 := by unfold chkE; rw [if_pos hb]
    have Hc := Lib.hid hc
    have Hb := Lib.hid hb
    clear hc hb
    go_enter Tryd.func23, Tryd.ntmps23
    go_wp2_with fail
    refine (mask_bad b _ Hb.out).mono ?_
    rintro e w' ⟨rfl, rfl⟩
    go_wp2_with fail
    go_ret
    exact ⟨ret_int Hc.out.symm, (Below.refl _ _).alloc (Nat.le_refl _) _⟩
  · have h0 : 0 ≤ b := by omega
    have h1 : b ≤ 32 := by omega
    have hn := Lib.hid (andNot_mask a b ha h0)
    have Hb := Lib.hid hb
    clear hb
    generalize hM : maskOf b = M at hn
    have HM := Lib.hid hM
    clear hM
    go_enter Tryd.func23, Tryd.ntmps23
    go_wp2_with fail
    refine (mask_good b _ h0 h1).mono ?_
    rintro e w' ⟨rfl, rfl⟩
    rw [HM.out]
    go_wp2_with fail
    all_goals
      have ht : _ = _ := ‹(bits .andNot .u32 (a : Int) M != 0) = _›
      go_ret
      refine ⟨ret_int ?_, (Below.refl _ _).alloc (Nat.le_refl _) _⟩
      unfold chkE
      rw [if_neg Hb.out]
      rw [hn.out] at ht
      by_cases g : a % sz b = 0
      · refine Eq.trans ?_ (if_pos g).symm
        first | rfl | (rw [g] at ht; simp at ht)
      · refine Eq.trans ?_ (if_neg g).symm
        first | rfl | (rw [bne_eq_false_iff_eq] at ht; omega)
set_option maxHeartbeats 400000 in
theorem has_any (a : Nat) (b : Int) (x : Nat) (w : World) (ha : a < 4294967296) (hx : x < 4294967296) : Calls Tryd.prog 30 #[.agg #[.int .u32 a, .int .i64 b], .int .u32 x] w fun e w' => e = .returned (.bool (hasB a b x)) ∧ Below w.heap.size w w' := by
  by_cases hc : chkE a b = 0
  · obtain ⟨h0, h1, hd⟩ := chkE_zero.1 hc
    have Hc := Lib.hid hc
    clear hc
    have Hd := Lib.hid hd
    clear hd
    have hn := Lib.hid (and_mask x b hx h0)
    generalize hM : maskOf b = M at hn
    have HM := Lib.hid hM
    clear hM
    go_enter Tryd.func30, Tryd.ntmps30
    go_wp2_with fail
    refine (check_any a b _ ha).mono ?_
    rw [Hc.out]
    rintro e w' ⟨rfl, hb⟩
    have hcl : ∀ o, w'.cell? ⟨w.heap.size, o, none⟩ = _ := fun o => hb.cell (p := ⟨w.heap.size, o, none⟩) (by simp)
    go_wp2_with fail
    refine (mask_good b _ h0 h1).mono ?_
    rintro e w' ⟨rfl, rfl⟩
    rw [HM.out]
    go_wp2_with fail
    go_ret
    refine ⟨ret_bool ?_, ((Below.refl _ _).alloc (Nat.le_refl _) _).trans (hb.mono (by simp))⟩
    unfold hasB
    rw [hn.out, Bool.eq_iff_iff, beq_iff_eq, decide_eq_true_iff]
    exact ⟨fun h => ⟨Hc.out, by omega⟩, fun h => by omega⟩
  · have Hc := Lib.hid hc
    have Hd : (chkE a b != 0) = true := by simpa using hc
    clear hc
    go_enter Tryd.func30, Tryd.ntmps30
    go_wp2_with fail
    refine (check_any a b _ ha).mono ?_
    rintro e w' ⟨rfl, hb⟩
    go_wp2_with fail
    go_ret
    exact ⟨ret_bool (by unfold hasB; simp [Hc.out]), ((Below.refl _ _).alloc (Nat.le_refl _) _).trans (hb.mono (by simp))⟩
set_option maxHeartbeats 400000 in
theorem within_any (a : Nat) (b : Int) (c : Nat) (d : Int) (w : World) (ha : a < 4294967296) (hc : c < 4294967296) : Calls Tryd.prog 55 #[.agg #[.int .u32 a, .int .i64 b], .agg #[.int .u32 c, .int .i64 d]] w fun e w' => e = .returned (.bool (withinB a b c d)) ∧ Below w.heap.size w w' := by
  by_cases hz : chkE a b = 0
  · have Hz := Lib.hid hz
    clear hz
    go_enter Tryd.func55, Tryd.ntmps55
    go_wp2_with fail
    refine (check_any a b _ ha).mono ?_
    rw [Hz.out]
    rintro e w' ⟨rfl, hb⟩
    have hcl : ∀ o, w'.cell? ⟨w.heap.size, o, none⟩ = _ := fun o => hb.cell (p := ⟨w.heap.size, o, none⟩) (by simp; omega)
    have hcl2 : ∀ o, w'.cell? ⟨w.heap.size + 1, o, none⟩ = _ := fun o => hb.cell (p := ⟨w.heap.size + 1, o, none⟩) (by simp)
    have hs : w.heap.size ≤ w'.heap.size := by have := hb.size; simp at this; omega
    by_cases hd : d ≤ b
    · go_wp2_with fail
      refine (has_any c d a _ hc ha).mono ?_
      rintro e w2 ⟨rfl, hb2⟩
      go_wp2_with fail
      go_ret
      refine ⟨ret_bool ?_, bthen (bthen (((Below.refl _ _).alloc (Nat.le_refl _) _).alloc (by simp) _) (by simp; omega) hb) hs hb2⟩
      unfold withinB
      rw [decide_eq_true ⟨Hz.out, hd⟩]; rfl
    · go_wp2_with fail
      go_ret
      refine ⟨ret_bool ?_, bthen (((Below.refl _ _).alloc (Nat.le_refl _) _).alloc (by simp) _) (by simp; omega) hb⟩
      unfold withinB
      rw [decide_eq_false (by omega)]; rfl
  · have Hz := Lib.hid hz
    have Hd : (chkE a b == 0) = false := by simpa using hz
    clear hz
    go_enter Tryd.func55, Tryd.ntmps55
    go_wp2_with fail
    refine (check_any a b _ ha).mono ?_
    rintro e w' ⟨rfl, hb⟩
    go_wp2_with fail
    go_ret
    refine ⟨ret_bool ?_, bthen (((Below.refl _ _).alloc (Nat.le_refl _) _).alloc (by simp) _) (by simp; omega) hb⟩
    unfold withinB
    rw [decide_eq_false (fun h => Hz.out h.1)]; rfl

set_option maxHeartbeats 400000 in
theorem cmpA (x y : Int) (w : World) : Calls Tryd.prog 87 #[.int .u32 x, .int .u32 y] w fun e w' => e = .returned (.int .i64 (cmpI x y)) ∧ w = w' := by
  unfold cmpI
  by_cases h1 : x < y
  · rw [if_pos h1]
    go_enter Tryd.func87, Tryd.ntmps87
    go_wp2
    go_ret
    exact ⟨rfl, rfl⟩
  · rw [if_neg h1]
    by_cases h2 : y < x
    · rw [if_pos h2]
      go_enter Tryd.func87, Tryd.ntmps87
      go_wp2
      go_ret
      exact ⟨rfl, rfl⟩
    · rw [if_neg h2]
      go_enter Tryd.func87, Tryd.ntmps87
      go_wp2
      go_ret
      exact ⟨rfl, rfl⟩
set_option maxHeartbeats 400000 in
theorem cmpB (x y : Int) (w : World) : Calls Tryd.prog 88 #[.int .i64 x, .int .i64 y] w fun e w' => e = .returned (.int .i64 (cmpI x y)) ∧ w = w' := by
  unfold cmpI
  by_cases h1 : x < y
  · rw [if_pos h1]
    go_enter Tryd.func88, Tryd.ntmps88
    go_wp2
    go_ret
    exact ⟨rfl, rfl⟩
  · rw [if_neg h1]
    by_cases h2 : y < x
    · rw [if_pos h2]
      go_enter Tryd.func88, Tryd.ntmps88
      go_wp2
      go_ret
      exact ⟨rfl, rfl⟩
    · rw [if_neg h2]
      go_enter Tryd.func88, Tryd.ntmps88
      go_wp2
      go_ret
      exact ⟨rfl, rfl⟩
set_option maxHeartbeats 400000 in
theorem or_two (x y : Int) (g : Nat) (w : World) (h0 : w.cell? ⟨g, 0, none⟩ = some (.int .i64 x)) (h1 : w.cell? ⟨g, 1, none⟩ = some (.int .i64 y)) :
    Calls Tryd.prog 86 #[.slice (some ⟨g, 0, none⟩) 2 2] w fun e w' => e = .returned (.int .i64 (orI x y)) ∧ w = w' := by
  unfold orI
  by_cases hx : x = 0
  · by_cases hy : y = 0
    · subst hx hy
      go_enter Tryd.func86, Tryd.ntmps86
      go_wp2
      refine wp_loop_rounds 3 ?_
      rw [rounds_succ]
      go_wp2
      rw [rounds_succ]
      go_wp2
      rw [rounds_succ]
      go_wp2
      go_ret
      exact ⟨rfl, rfl⟩
    · subst hx
      have hy' : (y != 0) = true := by simpa using hy
      clear hy
      go_enter Tryd.func86, Tryd.ntmps86
      go_wp2
      refine wp_loop_rounds 2 ?_
      rw [rounds_succ]
      go_wp2
      rw [rounds_succ]
      go_wp2
      go_ret
      exact ⟨rfl, rfl⟩
  · have hx' : (x != 0) = true := by simpa using hx
    rw [if_pos hx]
    clear hx
    go_enter Tryd.func86, Tryd.ntmps86
    go_wp2
    refine wp_loop_rounds 1 ?_
    rw [rounds_succ]
    go_wp2
    go_ret
    exact ⟨rfl, rfl⟩
theorem cmpA_q (x y : Int) (w : World) : Calls Tryd.prog 87 #[.int .u32 x, .int .u32 y] w fun e w' => e = .returned (.int .i64 (cmpI x y)) ∧ w' = w := (cmpA x y w).mono fun _ _ h => ⟨h.1, h.2.symm⟩
theorem cmpB_q (x y : Int) (w : World) : Calls Tryd.prog 88 #[.int .i64 x, .int .i64 y] w fun e w' => e = .returned (.int .i64 (cmpI x y)) ∧ w' = w := (cmpB x y w).mono fun _ _ h => ⟨h.1, h.2.symm⟩
/-- Reads and quiet calls ahead of a forced tail: the world of the tail under the walk's own name. -/
theorem still_tail {P : Program} {id : Nat} {Q : Exit → Act → World → Prop} {a : Act} {w : World} {l : List Oper} (n : Nat) (hm : P.follows .mixedOrders = true) (hB : Region.lexTailB .any l.toArray n = true)
    (h : wpStill P l.toArray w.drew (fun a' => wpList P l.toArray Q (l.drop n) a' w.drew) (l.take n) a) : (Code.region id l.toArray true).wp P Q a w := wp_region_still_tail n hm hB h
set_option maxHeartbeats 1000000 in
set_option maxRecDepth 100000 in
theorem compare_any (a : Nat) (b : Int) (c : Nat) (d : Int) (w : World) : Calls Tryd.prog 40 #[.agg #[.int .u32 a, .int .i64 b], .agg #[.int .u32 c, .int .i64 d]] w fun e w' => e = .returned (.int .i64 (cmpP a b c d)) ∧ Below w.heap.size w w' := by
  go_enter Tryd.func40, Tryd.ntmps40
  go_wp2_with fail
  refine still_tail 10 (by kernel_rfl) (by kernel_rfl) ?_
  simp only [List.take_succ_cons, List.take_zero, List.drop_succ_cons, List.drop_zero]
  still_step
  still_step
  still_step
  still_step
  still_call (cmpA_q _ _ _)
  still_step
  still_step
  still_step
  still_step
  still_call (cmpB_q _ _ _)
  refine wpStill_nil ?_
  go_wp2_with fail
  refine (or_two (cmpI a c) (cmpI b d) _ _ (by go_simp) (by go_simp)).mono ?_
  rintro e w' ⟨rfl, rfl⟩
  go_wp2_with fail
  go_ret
  exact ⟨rfl, ((((Below.refl _ _).alloc (Nat.le_refl _) _).alloc (by simp) _).alloc (by simp; omega) _).drew⟩
end Go.Proofs.YtaknlphmplimhaaDoor
