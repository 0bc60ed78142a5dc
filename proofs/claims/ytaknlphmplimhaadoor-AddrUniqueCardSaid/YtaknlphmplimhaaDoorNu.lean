/- The walk of number: a numeral of one to three digits without a leading zero. -/
import Derived.Test.YtaknlphmplimhaaDoorSx
import Derived.Test.YtaknlphmplimhaaDoorAd
import Derived.Lib.ConvBytes
import Derived.Test.YtaknlphmplimhaaDoorShA
set_option linter.unusedVariables false
set_option linter.unusedSimpArgs false
namespace Go.Proofs.YtaknlphmplimhaaDoor
open Go.RowKit Go.Proofs
def isD (b : UInt8) : Bool := decide (48 ≤ b.toNat) && decide (b.toNat ≤ 57)
def valD : List UInt8 → Nat
  | [] => 0
  | [a] => a.toNat - 48
  | [a, b] => 10 * (a.toNat - 48) + (b.toNat - 48)
  | a :: b :: c :: _ => 10 * (10 * (a.toNat - 48) + (b.toNat - 48)) + (c.toNat - 48)
def numB : List UInt8 → Bool
  | [] => false
  | [a] => isD a
  | [a, b] => a != 48 && (isD a && isD b)
  | [a, b, c] => a != 48 && (isD a && (isD b && isD c))
  | _ => false
theorem isD_lo {b : UInt8} (h : b.toNat < 48) : isD b = false := by unfold isD; rw [decide_eq_false (by omega : ¬ 48 ≤ b.toNat)]; rfl
theorem isD_hi {b : UInt8} (h : 57 < b.toNat) : isD b = false := by unfold isD; rw [decide_eq_false (by omega : ¬ b.toNat ≤ 57), Bool.and_false]
theorem isD_ok {b : UInt8} (h : 48 ≤ b.toNat) (h2 : b.toNat ≤ 57) : isD b = true := by unfold isD; rw [decide_eq_true h, decide_eq_true h2]; rfl
theorem isD_iff {b : UInt8} : isD b = true ↔ 48 ≤ b.toNat ∧ b.toNat ≤ 57 := by unfold isD; simp
theorem numB_two (a b : UInt8) (h : a ≠ 48) : numB [a, b] = (isD a && isD b) := by show (a != 48 && (isD a && isD b)) = _; rw [bne_iff_ne.2 h, Bool.true_and]
theorem numB_three (a b c : UInt8) (h : a ≠ 48) : numB [a, b, c] = (isD a && (isD b && isD c)) := by show (a != 48 && (isD a && (isD b && isD c))) = _; rw [bne_iff_ne.2 h, Bool.true_and]
def numV (l : List UInt8) : Nat := if numB l then valD l else 0
set_option maxHeartbeats 1000000 in
theorem number_0 (w : World) : Calls Tryd.prog 103 #[.string ⟨#[]⟩] w fun e w' => e = .returned (.tuple #[.int .i64 0, .bool false]) ∧ Below w.heap.size w w' := by
  go_enter Tryd.func103, Tryd.ntmps103
  go_wp2_with fail
  go_ret2
  exact ⟨rfl, Below.refl _ _⟩
set_option maxHeartbeats 1000000 in
theorem number_long (s : ByteArray) (w : World) (h : 3 < s.size) : Calls Tryd.prog 103 #[.string s] w fun e w' => e = .returned (.tuple #[.int .i64 0, .bool false]) ∧ Below w.heap.size w w' := by
  go_enter Tryd.func103, Tryd.ntmps103
  go_wp2_with fail
  rcases Bool.eq_false_or_eq_true s.toList.isEmpty with q | q
  all_goals (try rw [q])
  all_goals (try go_wp2_with fail)
  all_goals (go_ret2; exact ⟨rfl, Below.refl _ _⟩)
set_option maxHeartbeats 1000000 in
theorem number_lead2 (b : UInt8) (w : World) : Calls Tryd.prog 103 #[.string ⟨#[48, b]⟩] w fun e w' => e = .returned (.tuple #[.int .i64 0, .bool false]) ∧ Below w.heap.size w w' := by
  go_enter Tryd.func103, Tryd.ntmps103
  go_wp2_with fail
  go_ret2
  exact ⟨rfl, Below.refl _ _⟩
set_option maxHeartbeats 1000000 in
theorem number_lead3 (b c : UInt8) (w : World) : Calls Tryd.prog 103 #[.string ⟨#[48, b, c]⟩] w fun e w' => e = .returned (.tuple #[.int .i64 0, .bool false]) ∧ Below w.heap.size w w' := by
  go_enter Tryd.func103, Tryd.ntmps103
  go_wp2_with fail
  go_ret2
  exact ⟨rfl, Below.refl _ _⟩
set_option maxRecDepth 100000 in
set_option maxHeartbeats 2000000 in
theorem number_1 (a : UInt8) (w : World) : Calls Tryd.prog 103 #[.string ⟨#[a]⟩] w fun e w' => e = .returned (.tuple #[.int .i64 (numV [a] : Nat), .bool (numB [a])]) ∧ Below w.heap.size w w' := by
  have hcv := Lib.run_convert_string_bytes (P := Tryd.prog) w 9 156 5 ⟨#[a]⟩ (u := .string) Tryd.underlying9 Tryd.underlying156 Tryd.underlying5
  have hB : ∀ j, j < 1 → (Lib.bytesWorld w 5 ⟨#[a]⟩).cell? ⟨w.heap.size, j, none⟩ = some (.int .u8 (([a] : List UInt8).getD j 0).toNat) := fun j hj => Lib.bytesWorld_cell w 5 ⟨#[a]⟩ j hj
  have hbl : Below w.heap.size w (Lib.bytesWorld w 5 ⟨#[a]⟩) := ⟨rfl, rfl, rfl, by rw [Lib.bytesWorld_size]; omega, fun j hj => Lib.bytesWorld_at_old w 5 _ j hj⟩
  obtain ⟨W1, hW1⟩ : ∃ W1, W1 = Lib.bytesWorld w 5 ⟨#[a]⟩ := ⟨_, rfl⟩
  rw [← hW1] at hcv hB hbl
  have HBL := Lib.hid hbl
  clear hW1 hbl
  have c0 : W1.cell? ⟨w.heap.size, 0, none⟩ = some (.int .u8 (a.toNat : Int)) := hB 0 (by decide)
  clear hB
  have x0 : a.toNat < 256 := a.toNat_lt
  have hb : numB [a] = isD a := rfl
  have HNB := Lib.hid hb
  clear hb
  go_enter Tryd.func103, Tryd.ntmps103
  go_wp2_with fail
  go_loopw [4, 27] (fun nv i wr => wr = W1 ∧ ((i = .int .i64 0 ∧ nv = .int .i64 (0 : Nat)) ∨ (i = .int .i64 1 ∧ nv = .int .i64 (valD [a] : Nat) ∧ isD a = true))) (fun _ i _ => (1 - intOf i).toNat)
  case atStart => exact ⟨rfl, .inl ⟨rfl, rfl⟩⟩
  case round =>
    obtain ⟨rfl, hr⟩ := hrel
    rcases hr with ⟨rfl, rfl⟩ | ⟨rfl, rfl, e0⟩
    · rcases (show a.toNat < 48 ∨ 57 < a.toNat ∨ (48 ≤ a.toNat ∧ a.toNat ≤ 57) from by omega) with q | q | ⟨q1, q2⟩
      · have hf : numB [a] = false := (by simp [HNB.out, isD_lo q])
        have HF := Lib.hid (show numV [a] = 0 ∧ numB [a] = false from ⟨by unfold numV; rw [hf]; rfl, hf⟩)
        have r1 : (a.toNat : Int) < 48 := by omega
        clear hf
        go_wp2_with fail
        go_ret2
        rw [HF.out.1, HF.out.2]
        exact ⟨rfl, HBL.out⟩
      · have hf : numB [a] = false := (by simp [HNB.out, isD_hi q])
        have HF := Lib.hid (show numV [a] = 0 ∧ numB [a] = false from ⟨by unfold numV; rw [hf]; rfl, hf⟩)
        have r1 : ¬ ((a.toNat : Int) < 48) := by omega
        have r2 : (57 : Int) < (a.toNat : Int) := by omega
        clear hf
        go_wp2_with fail
        go_ret2
        rw [HF.out.1, HF.out.2]
        exact ⟨rfl, HBL.out⟩
      · have HD := Lib.hid (isD_ok q1 q2)
        have r1 : ¬ ((a.toNat : Int) < 48) := by omega
        have r2 : ¬ ((57 : Int) < (a.toNat : Int)) := by omega
        go_wp2_with fail
        go_roundw
        case rel => exact ⟨trivial, .inr (⟨rfl, congrArg (Value.int IntKind.i64) (by show _ = ((valD [a] : Nat) : Int); simp only [valD, wrap64]; omega), HD.out⟩)⟩
        case measure => simp [intOf]
    · have hf : numB [a] = true := by simp [HNB.out, e0]
      have HF := Lib.hid (show numV [a] = valD [a] ∧ numB [a] = true from ⟨by unfold numV; rw [hf]; rfl, hf⟩)
      clear hf
      go_wp2_with fail
      go_ret2
      rw [HF.out.1, HF.out.2]
      exact ⟨rfl, HBL.out⟩
set_option maxRecDepth 100000 in
set_option maxHeartbeats 2000000 in
theorem number_2 (a b : UInt8) (w : World) (hz : a ≠ 48) : Calls Tryd.prog 103 #[.string ⟨#[a, b]⟩] w fun e w' => e = .returned (.tuple #[.int .i64 (numV [a, b] : Nat), .bool (numB [a, b])]) ∧ Below w.heap.size w w' := by
  have hz2 : ((((⟨#[a, b]⟩ : ByteArray)[0]'(Nat.succ_pos _)).toNat : Int) == 48) = false := by
    show (((a.toNat : Int)) == 48) = false
    rw [beq_eq_false_iff_ne]; intro e; exact hz (UInt8.toNat_inj.1 (Int.ofNat_inj.1 e))
  have hcv := Lib.run_convert_string_bytes (P := Tryd.prog) w 9 156 5 ⟨#[a, b]⟩ (u := .string) Tryd.underlying9 Tryd.underlying156 Tryd.underlying5
  have hB : ∀ j, j < 2 → (Lib.bytesWorld w 5 ⟨#[a, b]⟩).cell? ⟨w.heap.size, j, none⟩ = some (.int .u8 (([a, b] : List UInt8).getD j 0).toNat) := fun j hj => Lib.bytesWorld_cell w 5 ⟨#[a, b]⟩ j hj
  have hbl : Below w.heap.size w (Lib.bytesWorld w 5 ⟨#[a, b]⟩) := ⟨rfl, rfl, rfl, by rw [Lib.bytesWorld_size]; omega, fun j hj => Lib.bytesWorld_at_old w 5 _ j hj⟩
  obtain ⟨W1, hW1⟩ : ∃ W1, W1 = Lib.bytesWorld w 5 ⟨#[a, b]⟩ := ⟨_, rfl⟩
  rw [← hW1] at hcv hB hbl
  have HBL := Lib.hid hbl
  clear hW1 hbl
  have c0 : W1.cell? ⟨w.heap.size, 0, none⟩ = some (.int .u8 (a.toNat : Int)) := hB 0 (by decide)
  have c1 : W1.cell? ⟨w.heap.size, 1, none⟩ = some (.int .u8 (b.toNat : Int)) := hB 1 (by decide)
  clear hB
  have x0 : a.toNat < 256 := a.toNat_lt
  have x1 : b.toNat < 256 := b.toNat_lt
  have hb : numB [a, b] = (isD a && isD b) := numB_two _ _ hz
  have HNB := Lib.hid hb
  clear hb
  go_enter Tryd.func103, Tryd.ntmps103
  go_wp2_with fail
  go_loopw [4, 27] (fun nv i wr => wr = W1 ∧ ((i = .int .i64 0 ∧ nv = .int .i64 (0 : Nat)) ∨ (i = .int .i64 1 ∧ nv = .int .i64 (valD [a] : Nat) ∧ isD a = true) ∨ (i = .int .i64 2 ∧ nv = .int .i64 (valD [a, b] : Nat) ∧ isD a = true ∧ isD b = true))) (fun _ i _ => (2 - intOf i).toNat)
  case atStart => exact ⟨rfl, .inl ⟨rfl, rfl⟩⟩
  case round =>
    obtain ⟨rfl, hr⟩ := hrel
    rcases hr with ⟨rfl, rfl⟩ | ⟨rfl, rfl, e0⟩ | ⟨rfl, rfl, e0, e1⟩
    · rcases (show a.toNat < 48 ∨ 57 < a.toNat ∨ (48 ≤ a.toNat ∧ a.toNat ≤ 57) from by omega) with q | q | ⟨q1, q2⟩
      · have hf : numB [a, b] = false := (by simp [HNB.out, isD_lo q])
        have HF := Lib.hid (show numV [a, b] = 0 ∧ numB [a, b] = false from ⟨by unfold numV; rw [hf]; rfl, hf⟩)
        have r1 : (a.toNat : Int) < 48 := by omega
        clear hf
        go_wp2_with fail
        go_ret2
        rw [HF.out.1, HF.out.2]
        exact ⟨rfl, HBL.out⟩
      · have hf : numB [a, b] = false := (by simp [HNB.out, isD_hi q])
        have HF := Lib.hid (show numV [a, b] = 0 ∧ numB [a, b] = false from ⟨by unfold numV; rw [hf]; rfl, hf⟩)
        have r1 : ¬ ((a.toNat : Int) < 48) := by omega
        have r2 : (57 : Int) < (a.toNat : Int) := by omega
        clear hf
        go_wp2_with fail
        go_ret2
        rw [HF.out.1, HF.out.2]
        exact ⟨rfl, HBL.out⟩
      · have HD := Lib.hid (isD_ok q1 q2)
        have r1 : ¬ ((a.toNat : Int) < 48) := by omega
        have r2 : ¬ ((57 : Int) < (a.toNat : Int)) := by omega
        go_wp2_with fail
        go_roundw
        case rel => exact ⟨trivial, .inr (.inl ⟨rfl, congrArg (Value.int IntKind.i64) (by show _ = ((valD [a] : Nat) : Int); simp only [valD, wrap64]; omega), HD.out⟩)⟩
        case measure => simp [intOf]
    · rcases (show b.toNat < 48 ∨ 57 < b.toNat ∨ (48 ≤ b.toNat ∧ b.toNat ≤ 57) from by omega) with q | q | ⟨q1, q2⟩
      · have hf : numB [a, b] = false := (by simp [HNB.out, e0, isD_lo q])
        have HF := Lib.hid (show numV [a, b] = 0 ∧ numB [a, b] = false from ⟨by unfold numV; rw [hf]; rfl, hf⟩)
        have r1 : (b.toNat : Int) < 48 := by omega
        clear hf
        go_wp2_with fail
        go_ret2
        rw [HF.out.1, HF.out.2]
        exact ⟨rfl, HBL.out⟩
      · have hf : numB [a, b] = false := (by simp [HNB.out, e0, isD_hi q])
        have HF := Lib.hid (show numV [a, b] = 0 ∧ numB [a, b] = false from ⟨by unfold numV; rw [hf]; rfl, hf⟩)
        have r1 : ¬ ((b.toNat : Int) < 48) := by omega
        have r2 : (57 : Int) < (b.toNat : Int) := by omega
        clear hf
        go_wp2_with fail
        go_ret2
        rw [HF.out.1, HF.out.2]
        exact ⟨rfl, HBL.out⟩
      · have HD := Lib.hid (isD_ok q1 q2)
        have r1 : ¬ ((b.toNat : Int) < 48) := by omega
        have r2 : ¬ ((57 : Int) < (b.toNat : Int)) := by omega
        go_wp2_with fail
        go_roundw
        case rel => exact ⟨trivial, .inr (.inr (⟨rfl, congrArg (Value.int IntKind.i64) (by show _ = ((valD [a, b] : Nat) : Int); simp only [valD, wrap64]; have := isD_iff.1 e0; omega), e0, HD.out⟩))⟩
        case measure => simp [intOf]
    · have hf : numB [a, b] = true := by simp [HNB.out, e0, e1]
      have HF := Lib.hid (show numV [a, b] = valD [a, b] ∧ numB [a, b] = true from ⟨by unfold numV; rw [hf]; rfl, hf⟩)
      clear hf
      go_wp2_with fail
      go_ret2
      rw [HF.out.1, HF.out.2]
      exact ⟨rfl, HBL.out⟩
set_option maxRecDepth 100000 in
set_option maxHeartbeats 2000000 in
theorem number_3 (a b c : UInt8) (w : World) (hz : a ≠ 48) : Calls Tryd.prog 103 #[.string ⟨#[a, b, c]⟩] w fun e w' => e = .returned (.tuple #[.int .i64 (numV [a, b, c] : Nat), .bool (numB [a, b, c])]) ∧ Below w.heap.size w w' := by
  have hz2 : ((((⟨#[a, b, c]⟩ : ByteArray)[0]'(Nat.succ_pos _)).toNat : Int) == 48) = false := by
    show (((a.toNat : Int)) == 48) = false
    rw [beq_eq_false_iff_ne]; intro e; exact hz (UInt8.toNat_inj.1 (Int.ofNat_inj.1 e))
  have hcv := Lib.run_convert_string_bytes (P := Tryd.prog) w 9 156 5 ⟨#[a, b, c]⟩ (u := .string) Tryd.underlying9 Tryd.underlying156 Tryd.underlying5
  have hB : ∀ j, j < 3 → (Lib.bytesWorld w 5 ⟨#[a, b, c]⟩).cell? ⟨w.heap.size, j, none⟩ = some (.int .u8 (([a, b, c] : List UInt8).getD j 0).toNat) := fun j hj => Lib.bytesWorld_cell w 5 ⟨#[a, b, c]⟩ j hj
  have hbl : Below w.heap.size w (Lib.bytesWorld w 5 ⟨#[a, b, c]⟩) := ⟨rfl, rfl, rfl, by rw [Lib.bytesWorld_size]; omega, fun j hj => Lib.bytesWorld_at_old w 5 _ j hj⟩
  obtain ⟨W1, hW1⟩ : ∃ W1, W1 = Lib.bytesWorld w 5 ⟨#[a, b, c]⟩ := ⟨_, rfl⟩
  rw [← hW1] at hcv hB hbl
  have HBL := Lib.hid hbl
  clear hW1 hbl
  have c0 : W1.cell? ⟨w.heap.size, 0, none⟩ = some (.int .u8 (a.toNat : Int)) := hB 0 (by decide)
  have c1 : W1.cell? ⟨w.heap.size, 1, none⟩ = some (.int .u8 (b.toNat : Int)) := hB 1 (by decide)
  have c2 : W1.cell? ⟨w.heap.size, 2, none⟩ = some (.int .u8 (c.toNat : Int)) := hB 2 (by decide)
  clear hB
  have x0 : a.toNat < 256 := a.toNat_lt
  have x1 : b.toNat < 256 := b.toNat_lt
  have x2 : c.toNat < 256 := c.toNat_lt
  have hb : numB [a, b, c] = (isD a && (isD b && isD c)) := numB_three _ _ _ hz
  have HNB := Lib.hid hb
  clear hb
  go_enter Tryd.func103, Tryd.ntmps103
  go_wp2_with fail
  go_loopw [4, 27] (fun nv i wr => wr = W1 ∧ ((i = .int .i64 0 ∧ nv = .int .i64 (0 : Nat)) ∨ (i = .int .i64 1 ∧ nv = .int .i64 (valD [a] : Nat) ∧ isD a = true) ∨ (i = .int .i64 2 ∧ nv = .int .i64 (valD [a, b] : Nat) ∧ isD a = true ∧ isD b = true) ∨ (i = .int .i64 3 ∧ nv = .int .i64 (valD [a, b, c] : Nat) ∧ isD a = true ∧ isD b = true ∧ isD c = true))) (fun _ i _ => (3 - intOf i).toNat)
  case atStart => exact ⟨rfl, .inl ⟨rfl, rfl⟩⟩
  case round =>
    obtain ⟨rfl, hr⟩ := hrel
    rcases hr with ⟨rfl, rfl⟩ | ⟨rfl, rfl, e0⟩ | ⟨rfl, rfl, e0, e1⟩ | ⟨rfl, rfl, e0, e1, e2⟩
    · rcases (show a.toNat < 48 ∨ 57 < a.toNat ∨ (48 ≤ a.toNat ∧ a.toNat ≤ 57) from by omega) with q | q | ⟨q1, q2⟩
      · have hf : numB [a, b, c] = false := (by simp [HNB.out, isD_lo q])
        have HF := Lib.hid (show numV [a, b, c] = 0 ∧ numB [a, b, c] = false from ⟨by unfold numV; rw [hf]; rfl, hf⟩)
        have r1 : (a.toNat : Int) < 48 := by omega
        clear hf
        go_wp2_with fail
        go_ret2
        rw [HF.out.1, HF.out.2]
        exact ⟨rfl, HBL.out⟩
      · have hf : numB [a, b, c] = false := (by simp [HNB.out, isD_hi q])
        have HF := Lib.hid (show numV [a, b, c] = 0 ∧ numB [a, b, c] = false from ⟨by unfold numV; rw [hf]; rfl, hf⟩)
        have r1 : ¬ ((a.toNat : Int) < 48) := by omega
        have r2 : (57 : Int) < (a.toNat : Int) := by omega
        clear hf
        go_wp2_with fail
        go_ret2
        rw [HF.out.1, HF.out.2]
        exact ⟨rfl, HBL.out⟩
      · have HD := Lib.hid (isD_ok q1 q2)
        have r1 : ¬ ((a.toNat : Int) < 48) := by omega
        have r2 : ¬ ((57 : Int) < (a.toNat : Int)) := by omega
        go_wp2_with fail
        go_roundw
        case rel => exact ⟨trivial, .inr (.inl ⟨rfl, congrArg (Value.int IntKind.i64) (by show _ = ((valD [a] : Nat) : Int); simp only [valD, wrap64]; omega), HD.out⟩)⟩
        case measure => simp [intOf]
    · rcases (show b.toNat < 48 ∨ 57 < b.toNat ∨ (48 ≤ b.toNat ∧ b.toNat ≤ 57) from by omega) with q | q | ⟨q1, q2⟩
      · have hf : numB [a, b, c] = false := (by simp [HNB.out, e0, isD_lo q])
        have HF := Lib.hid (show numV [a, b, c] = 0 ∧ numB [a, b, c] = false from ⟨by unfold numV; rw [hf]; rfl, hf⟩)
        have r1 : (b.toNat : Int) < 48 := by omega
        clear hf
        go_wp2_with fail
        go_ret2
        rw [HF.out.1, HF.out.2]
        exact ⟨rfl, HBL.out⟩
      · have hf : numB [a, b, c] = false := (by simp [HNB.out, e0, isD_hi q])
        have HF := Lib.hid (show numV [a, b, c] = 0 ∧ numB [a, b, c] = false from ⟨by unfold numV; rw [hf]; rfl, hf⟩)
        have r1 : ¬ ((b.toNat : Int) < 48) := by omega
        have r2 : (57 : Int) < (b.toNat : Int) := by omega
        clear hf
        go_wp2_with fail
        go_ret2
        rw [HF.out.1, HF.out.2]
        exact ⟨rfl, HBL.out⟩
      · have HD := Lib.hid (isD_ok q1 q2)
        have r1 : ¬ ((b.toNat : Int) < 48) := by omega
        have r2 : ¬ ((57 : Int) < (b.toNat : Int)) := by omega
        go_wp2_with fail
        go_roundw
        case rel => exact ⟨trivial, .inr (.inr (.inl ⟨rfl, congrArg (Value.int IntKind.i64) (by show _ = ((valD [a, b] : Nat) : Int); simp only [valD, wrap64]; have := isD_iff.1 e0; omega), e0, HD.out⟩))⟩
        case measure => simp [intOf]
    · rcases (show c.toNat < 48 ∨ 57 < c.toNat ∨ (48 ≤ c.toNat ∧ c.toNat ≤ 57) from by omega) with q | q | ⟨q1, q2⟩
      · have hf : numB [a, b, c] = false := (by simp [HNB.out, e0, e1, isD_lo q])
        have HF := Lib.hid (show numV [a, b, c] = 0 ∧ numB [a, b, c] = false from ⟨by unfold numV; rw [hf]; rfl, hf⟩)
        have r1 : (c.toNat : Int) < 48 := by omega
        clear hf
        go_wp2_with fail
        go_ret2
        rw [HF.out.1, HF.out.2]
        exact ⟨rfl, HBL.out⟩
      · have hf : numB [a, b, c] = false := (by simp [HNB.out, e0, e1, isD_hi q])
        have HF := Lib.hid (show numV [a, b, c] = 0 ∧ numB [a, b, c] = false from ⟨by unfold numV; rw [hf]; rfl, hf⟩)
        have r1 : ¬ ((c.toNat : Int) < 48) := by omega
        have r2 : (57 : Int) < (c.toNat : Int) := by omega
        clear hf
        go_wp2_with fail
        go_ret2
        rw [HF.out.1, HF.out.2]
        exact ⟨rfl, HBL.out⟩
      · have HD := Lib.hid (isD_ok q1 q2)
        have r1 : ¬ ((c.toNat : Int) < 48) := by omega
        have r2 : ¬ ((57 : Int) < (c.toNat : Int)) := by omega
        go_wp2_with fail
        go_roundw
        case rel => exact ⟨trivial, .inr (.inr (.inr (⟨rfl, congrArg (Value.int IntKind.i64) (by show _ = ((valD [a, b, c] : Nat) : Int); simp only [valD, wrap64]; have := isD_iff.1 e0; have := isD_iff.1 e1; omega), e0, e1, HD.out⟩)))⟩
        case measure => simp [intOf]
    · have hf : numB [a, b, c] = true := by simp [HNB.out, e0, e1, e2]
      have HF := Lib.hid (show numV [a, b, c] = valD [a, b, c] ∧ numB [a, b, c] = true from ⟨by unfold numV; rw [hf]; rfl, hf⟩)
      clear hf
      go_wp2_with fail
      go_ret2
      rw [HF.out.1, HF.out.2]
      exact ⟨rfl, HBL.out⟩
theorem number_any (s : ByteArray) (w : World) : Calls Tryd.prog 103 #[.string s] w fun e w' => e = .returned (.tuple #[.int .i64 (numV s.data.toList : Nat), .bool (numB s.data.toList)]) ∧ Below w.heap.size w w' := by
  obtain ⟨⟨l⟩⟩ := s
  match l with
  | [] => exact number_0 w
  | [a] => exact number_1 a w
  | [a, b] =>
    by_cases h : a = 48
    · subst h; exact number_lead2 b w
    · exact number_2 a b w h
  | [a, b, c] =>
    by_cases h : a = 48
    · subst h; exact number_lead3 b c w
    · exact number_3 a b c w h
  | a :: b :: c :: d :: l => exact number_long _ w (by simp [ByteArray.size])
end Go.Proofs.YtaknlphmplimhaaDoor
