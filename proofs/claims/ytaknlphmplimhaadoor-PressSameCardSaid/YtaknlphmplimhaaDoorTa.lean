/- The walk of (*trie.Trie).at: the node at a path; a trie that the world holds, an address of 32 bits and at most 32 bits. -/
import Derived.Test.YtaknlphmplimhaaDoorAd
import Derived.Test.YtaknlphmplimhaaDoorTr
import Derived.Deep.QuietTactic
import Derived.BigQuiet
set_option linter.unusedVariables false
set_option linter.unusedSimpArgs false
namespace Go.Proofs.YtaknlphmplimhaaDoor
open Go.RowKit Go.Proofs

theorem bitB_cast (a i : Nat) : (bitN a i : Int) = if bitB a i then 1 else 0 := by
  have := bitN_lt a i
  unfold bitB
  by_cases h : bitN a i = 1
  · simp [h]
  · have h0 : bitN a i = 0 := by omega
    simp [h0]
set_option maxHeartbeats 400000 in
theorem bit_true (a i : Nat) (w : World) (ha : a < 4294967296) (hi : i ≤ 31) (h : bitB a i = true) : Calls Tryd.prog 80 #[.int .u32 a, .int .i64 i] w fun e w' => e = .returned (.int .i64 1) ∧ w' = w :=
  (bit_any a i w ha hi).mono fun _ _ hh => ⟨by rw [hh.1, bitB_cast, h]; rfl, hh.2.symm⟩
theorem bit_false (a i : Nat) (w : World) (ha : a < 4294967296) (hi : i ≤ 31) (h : bitB a i = false) : Calls Tryd.prog 80 #[.int .u32 a, .int .i64 i] w fun e w' => e = .returned (.int .i64 0) ∧ w' = w :=
  (bit_any a i w ha hi).mono fun _ _ hh => ⟨by rw [hh.1, bitB_cast, h]; rfl, hh.2.symm⟩
theorem cell_root {w : World} {tb : Nat} {z : Int} {p : Value} (h : KRep w tb z [] p) : w.cell? ⟨tb, 0, none⟩ = some p ∧ w.cell? ⟨tb, 1, none⟩ = some (.int .i64 z) := ⟨cell_of_row w tb 0 _ 109 (0, 0) h, cell_of_row w tb 1 _ 109 (0, 0) h⟩
theorem cell_node {w : World} {b : Nat} {l r : AT} {v : Int} {h : Bool} (hr : Rep w (.node b l r v h)) :
    w.cell? ⟨b, 0, none⟩ = some l.ptr ∧ w.cell? ⟨b, 1, none⟩ = some r.ptr ∧ w.cell? ⟨b, 2, none⟩ = some (.int .i64 v) ∧ w.cell? ⟨b, 3, none⟩ = some (.bool h) :=
  ⟨cell_of_row w b 0 _ 106 (0, 0) hr.1, cell_of_row w b 1 _ 106 (0, 0) hr.1, cell_of_row w b 2 _ 106 (0, 0) hr.1, cell_of_row w b 3 _ 106 (0, 0) hr.1⟩
theorem quiet_add_same {P : Program} {f : FuncId} {args : Array Value} {w : World} {a n : Nat} {v : Value}
    (h : Calls P f args (w.drewN (a + n)) fun e w' => e = .returned v ∧ w' = w.drewN (a + n)) :
    Calls P f args (w.drewN (a + n)) fun e w'' => e = .returned v ∧ ∃ m, w'' = w.drewN (a + m) :=
  h.mono fun _ _ ⟨he, hm⟩ => ⟨he, n, hm⟩
theorem below_drewN {B : Nat} {a w : World} (h : Below B a w) (n : Nat) : Below B a (w.drewN n) := ⟨h.os, h.tape, h.output, h.size, h.block⟩
theorem ret_val {a b : Value} (h : a = b) : Ending.returned a = .returned b := by rw [h]
theorem ptr_nil : AT.ptr .nil = .pointer none := rfl
theorem ptr_node (b : Nat) (l r : AT) (v : Int) (h : Bool) : AT.ptr (.node b l r v h) = .pointer (some ⟨b, 0, none⟩) := rfl
theorem path_sub_nil (t : AT) (a k b : Nat) (h : k ≤ b) (hz : t.sub (path a k) = .nil) : t.sub (path a b) = .nil := by
  rcases Nat.eq_or_lt_of_le h with rfl | h
  · exact hz
  · rw [path_split a k b h, sub_append, hz, sub_nil]
set_option maxHeartbeats 1000000 in
theorem at_any (tb : Nat) (t : AT) (z : Int) (a b : Nat) (w : World) (ha : a < 4294967296) (hb : b ≤ 32) (hk : KRep w tb z [] t.ptr) (hr : Rep w t) :
    Calls Tryd.prog 78 #[.pointer (some ⟨tb, 0, none⟩), .agg #[.int .u32 a, .int .i64 b]] w fun e w' => e = .returned ((t.sub (path a b)).ptr) ∧ Below w.heap.size w w' := by
  have hc0 := (cell_root hk).1
  have htb := World.block_lt_of_cell? w _ hc0
  simp only at htb
  go_enter Tryd.func78, Tryd.ntmps78
  go_wp2
  go_loopw [5, 6] (fun v i wr => ∃ k nq : Nat, k ≤ b ∧ i = .int .i64 k ∧ v = (t.sub (path a k)).ptr ∧ wr = (w.alloc (.cells #[.int .u32 a, .int .i64 b] 25)).drewN nq) (fun _ i _ => b - (intOf i).toNat)
  case atStart => exact ⟨0, 0, by omega, rfl, rfl, rfl⟩
  case round =>
    obtain ⟨k, nq, hkb, rfl, rfl, rfl⟩ := hrel
    have hs := hr.sub (path a k)
    have hsn := sub_snoc t (path a k) (bitB a k)
    rw [← path_succ] at hsn
    have HN := Lib.hid hsn
    clear hsn
    generalize hz : t.sub (path a k) = s at hs HN ⊢
    have HZ := Lib.hid hz
    clear hz
    cases s with
    | nil =>
      simp only [ptr_nil, ptr_node]
      go_wp2
      go_ret
      refine ⟨ret_val ?_, below_drewN ((Below.refl _ _).alloc (Nat.le_refl _) _) _⟩
      have hps := path_sub_nil t a k b hkb HZ.out
      rw [hps]; rfl
    | node g l r v h =>
      obtain ⟨c0, c1, c2, c3⟩ := cell_node hs
      have hg := World.block_lt_of_cell? w _ c0
      simp only at hg
      simp only [ptr_nil, ptr_node]
      by_cases hlt : k < b
      · cases hbit : bitB a k with
        | false =>
          rw [hbit] at HN
          have Hb := Lib.hid hbit
          clear hbit
          go_wp2_with fail
          go_quiet ((go_at_call 80; exact quiet_add_same (bit_false a k _ ha (by omega) Hb.out)))
          go_wp2_with fail
          go_roundw
          case rel => exact ⟨k + 1, _, by omega, by go_num, by rw [HN.out]; rfl, rfl⟩
          case measure => simp [intOf]; omega
        | true =>
          rw [hbit] at HN
          have Hb := Lib.hid hbit
          clear hbit
          go_wp2_with fail
          go_quiet ((go_at_call 80; exact quiet_add_same (bit_true a k _ ha (by omega) Hb.out)))
          go_wp2_with fail
          go_roundw
          case rel => exact ⟨k + 1, _, by omega, by go_num, by rw [HN.out]; rfl, rfl⟩
          case measure => simp [intOf]; omega
      · obtain rfl : k = b := by omega
        go_wp2_with fail
        go_ret
        exact ⟨ret_val (by rw [HZ.out]; rfl), below_drewN ((Below.refl _ _).alloc (Nat.le_refl _) _) _⟩
end Go.Proofs.YtaknlphmplimhaaDoor
