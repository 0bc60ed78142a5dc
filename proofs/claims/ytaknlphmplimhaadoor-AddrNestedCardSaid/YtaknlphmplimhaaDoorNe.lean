/- The walk of AddrNested, which returns true; an address of 32 bits, two prefixes by value; the world holds the variable ten. -/
import Derived.Test.YtaknlphmplimhaaDoorHa
set_option linter.unusedVariables false
set_option linter.unusedSimpArgs false
namespace Go.Proofs.YtaknlphmplimhaaDoor
open Go.RowKit Go.Proofs
/-- Two boxes, and what is old, at a world of the law. -/
structure Two (w : World) (a : Nat) (b : Int) (c : Nat) (d : Int) (wi : World) : Prop where
  p : Box wi w.heap.size a b
  q : Box wi (w.heap.size + 1) c d
  below : Below w.heap.size w wi
theorem Two.call {w wi wj : World} {a c : Nat} {b d : Int} (h : Two w a b c d wi) (hb : Below wi.heap.size wi wj) : Two w a b c d wj :=
  ⟨h.p.grow hb, h.q.grow hb, bthen h.below h.below.size hb⟩
theorem Two.start {w w1 : World} {a c : Nat} {b d : Int} (hb : Below (w.heap.size + 2) ((w.alloc (.cells #[.int .u32 a, .int .i64 b] 25)).alloc (.cells #[.int .u32 c, .int .i64 d] 25)) w1) : Two w a b c d w1 := by
  refine ⟨?_, ?_, ?_⟩
  · exact (hb.block _ (by omega)).trans ((heap_alloc_old _ _ (by simp)).trans (heap_alloc_new w _))
  · have := heap_alloc_new (w.alloc (.cells #[.int .u32 a, .int .i64 b] 25)) (.cells #[.int .u32 c, .int .i64 d] 25)
    rw [show (w.alloc (.cells #[.int .u32 a, .int .i64 b] 25)).heap.size = w.heap.size + 1 by simp] at this
    exact (hb.block _ (by omega)).trans this
  · exact (((Below.refl _ _).alloc (Nat.le_refl _) _).alloc (by simp) _).trans (hb.mono (by omega))
theorem Two.cells {w wi : World} {a c : Nat} {b d : Int} (h : Two w a b c d wi) :
    (wi.cell? ⟨w.heap.size, 0, none⟩ = some (.int .u32 a) ∧ wi.cell? ⟨w.heap.size, 1, none⟩ = some (.int .i64 b)) ∧ (wi.cell? ⟨w.heap.size + 1, 0, none⟩ = some (.int .u32 c) ∧ wi.cell? ⟨w.heap.size + 1, 1, none⟩ = some (.int .i64 d)) := ⟨h.p.cells, h.q.cells⟩
set_option maxRecDepth 100000 in
set_option maxHeartbeats 2000000 in
theorem nested_fb (a : Nat) (b : Int) (c : Nat) (d : Int) (x : Nat) (w : World) (ha : a < 4294967296) (hc : c < 4294967296) (hx : x < 4294967296)
    (h0 : w.cell? ⟨0, 0, none⟩ = some (.int .u32 167772160)) (h1 : w.cell? ⟨0, 1, none⟩ = some (.int .i64 8)) (k1 : withinB a b c d = true) (k3 : hasB a b x = true) (k4 : hasB c d x = true) :
    Calls Tryd.prog 11 #[.agg #[.int .u32 a, .int .i64 b], .agg #[.int .u32 c, .int .i64 d], .int .u32 x] w fun e w' => e = .returned (.bool true) ∧ Below w.heap.size w w' := by
  have hl := World.block_lt_of_cell? w _ h0
  simp only at hl
  have K1 := Lib.hid k1
  have K3 := Lib.hid k3
  have K4 := Lib.hid k4
  clear k1 k3 k4
  go_enter Tryd.func11, Tryd.ntmps11
  go_wp2_with fail
  refine (addrLives_true _ (by go_simp) (by go_simp)).mono ?_
  rintro e w1 ⟨rfl, hb1⟩
  have T1 : Two w a b c d w1 := Two.start (by simpa using hb1)
  clear hb1
  obtain ⟨⟨p0, p1⟩, q0, q1⟩ := T1.cells
  go_wp2_with fail
  refine (within_is K1.out _ ha hc).mono ?_
  rintro e w2 ⟨rfl, hb2⟩
  have T2 := T1.call hb2
  clear p0 p1 q0 q1 hb2 T1
  obtain ⟨⟨p0, p1⟩, q0, q1⟩ := T2.cells
  go_wp2_with fail
  refine (has_is K3.out _ ha hx).mono ?_
  rintro e w3 ⟨rfl, hb3⟩
  have T3 := T2.call hb3
  clear p0 p1 q0 q1 hb3 T2
  obtain ⟨⟨p0, p1⟩, q0, q1⟩ := T3.cells
  go_wp2_with fail
  refine (has_is K4.out _ hc hx).mono ?_
  rintro e w4 ⟨rfl, hb4⟩
  have T4 := T3.call hb4
  clear p0 p1 q0 q1 hb4 T3
  obtain ⟨⟨p0, p1⟩, q0, q1⟩ := T4.cells
  go_wp2_with fail
  go_ret
  exact ⟨rfl, T4.below⟩
set_option maxRecDepth 100000 in
set_option maxHeartbeats 2000000 in
theorem nested_fp1 (a : Nat) (b : Int) (c : Nat) (d : Int) (x : Nat) (w : World) (ha : a < 4294967296) (hc : c < 4294967296) (hx : x < 4294967296)
    (h0 : w.cell? ⟨0, 0, none⟩ = some (.int .u32 167772160)) (h1 : w.cell? ⟨0, 1, none⟩ = some (.int .i64 8)) (k1 : withinB a b c d = true) (k3 : hasB a b x = true) (k4 : hasB c d x = false) (k5 : hasB c d a = true) :
    Calls Tryd.prog 11 #[.agg #[.int .u32 a, .int .i64 b], .agg #[.int .u32 c, .int .i64 d], .int .u32 x] w fun e w' => e = .returned (.bool true) ∧ Below w.heap.size w w' := by
  have hl := World.block_lt_of_cell? w _ h0
  simp only at hl
  have K1 := Lib.hid k1
  have K3 := Lib.hid k3
  have K4 := Lib.hid k4
  have K5 := Lib.hid k5
  clear k1 k3 k4 k5
  go_enter Tryd.func11, Tryd.ntmps11
  go_wp2_with fail
  refine (addrLives_true _ (by go_simp) (by go_simp)).mono ?_
  rintro e w1 ⟨rfl, hb1⟩
  have T1 : Two w a b c d w1 := Two.start (by simpa using hb1)
  clear hb1
  obtain ⟨⟨p0, p1⟩, q0, q1⟩ := T1.cells
  go_wp2_with fail
  refine (within_is K1.out _ ha hc).mono ?_
  rintro e w2 ⟨rfl, hb2⟩
  have T2 := T1.call hb2
  clear p0 p1 q0 q1 hb2 T1
  obtain ⟨⟨p0, p1⟩, q0, q1⟩ := T2.cells
  go_wp2_with fail
  refine (has_is K3.out _ ha hx).mono ?_
  rintro e w3 ⟨rfl, hb3⟩
  have T3 := T2.call hb3
  clear p0 p1 q0 q1 hb3 T2
  obtain ⟨⟨p0, p1⟩, q0, q1⟩ := T3.cells
  go_wp2_with fail
  refine (has_is K4.out _ hc hx).mono ?_
  rintro e w4 ⟨rfl, hb4⟩
  have T4 := T3.call hb4
  clear p0 p1 q0 q1 hb4 T3
  obtain ⟨⟨p0, p1⟩, q0, q1⟩ := T4.cells
  go_wp2_with fail
  refine (has_is K5.out _ hc ha).mono ?_
  rintro e w5 ⟨rfl, hb5⟩
  have T5 := T4.call hb5
  clear p0 p1 q0 q1 hb5 T4
  obtain ⟨⟨p0, p1⟩, q0, q1⟩ := T5.cells
  go_wp2_with fail
  go_ret
  exact ⟨rfl, T5.below⟩
set_option maxRecDepth 100000 in
set_option maxHeartbeats 2000000 in
theorem nested_fp0 (a : Nat) (b : Int) (c : Nat) (d : Int) (x : Nat) (w : World) (ha : a < 4294967296) (hc : c < 4294967296) (hx : x < 4294967296)
    (h0 : w.cell? ⟨0, 0, none⟩ = some (.int .u32 167772160)) (h1 : w.cell? ⟨0, 1, none⟩ = some (.int .i64 8)) (k1 : withinB a b c d = true) (k3 : hasB a b x = true) (k4 : hasB c d x = false) (k5 : hasB c d a = false) (k6 : hasB a b c = true) :
    Calls Tryd.prog 11 #[.agg #[.int .u32 a, .int .i64 b], .agg #[.int .u32 c, .int .i64 d], .int .u32 x] w fun e w' => e = .returned (.bool true) ∧ Below w.heap.size w w' := by
  have hl := World.block_lt_of_cell? w _ h0
  simp only at hl
  have K1 := Lib.hid k1
  have K3 := Lib.hid k3
  have K4 := Lib.hid k4
  have K5 := Lib.hid k5
  have K6 := Lib.hid k6
  clear k1 k3 k4 k5 k6
  go_enter Tryd.func11, Tryd.ntmps11
  go_wp2_with fail
  refine (addrLives_true _ (by go_simp) (by go_simp)).mono ?_
  rintro e w1 ⟨rfl, hb1⟩
  have T1 : Two w a b c d w1 := Two.start (by simpa using hb1)
  clear hb1
  obtain ⟨⟨p0, p1⟩, q0, q1⟩ := T1.cells
  go_wp2_with fail
  refine (within_is K1.out _ ha hc).mono ?_
  rintro e w2 ⟨rfl, hb2⟩
  have T2 := T1.call hb2
  clear p0 p1 q0 q1 hb2 T1
  obtain ⟨⟨p0, p1⟩, q0, q1⟩ := T2.cells
  go_wp2_with fail
  refine (has_is K3.out _ ha hx).mono ?_
  rintro e w3 ⟨rfl, hb3⟩
  have T3 := T2.call hb3
  clear p0 p1 q0 q1 hb3 T2
  obtain ⟨⟨p0, p1⟩, q0, q1⟩ := T3.cells
  go_wp2_with fail
  refine (has_is K4.out _ hc hx).mono ?_
  rintro e w4 ⟨rfl, hb4⟩
  have T4 := T3.call hb4
  clear p0 p1 q0 q1 hb4 T3
  obtain ⟨⟨p0, p1⟩, q0, q1⟩ := T4.cells
  go_wp2_with fail
  refine (has_is K5.out _ hc ha).mono ?_
  rintro e w5 ⟨rfl, hb5⟩
  have T5 := T4.call hb5
  clear p0 p1 q0 q1 hb5 T4
  obtain ⟨⟨p0, p1⟩, q0, q1⟩ := T5.cells
  go_wp2_with fail
  refine (has_is K6.out _ ha hc).mono ?_
  rintro e w6 ⟨rfl, hb6⟩
  have T6 := T5.call hb6
  clear p0 p1 q0 q1 hb6 T5
  obtain ⟨⟨p0, p1⟩, q0, q1⟩ := T6.cells
  go_wp2_with fail
  go_ret
  exact ⟨rfl, T6.below⟩
set_option maxRecDepth 100000 in
set_option maxHeartbeats 2000000 in
theorem nested_fq1 (a : Nat) (b : Int) (c : Nat) (d : Int) (x : Nat) (w : World) (ha : a < 4294967296) (hc : c < 4294967296) (hx : x < 4294967296)
    (h0 : w.cell? ⟨0, 0, none⟩ = some (.int .u32 167772160)) (h1 : w.cell? ⟨0, 1, none⟩ = some (.int .i64 8)) (k1 : withinB a b c d = true) (k3 : hasB a b x = false) (k5 : hasB c d a = true) :
    Calls Tryd.prog 11 #[.agg #[.int .u32 a, .int .i64 b], .agg #[.int .u32 c, .int .i64 d], .int .u32 x] w fun e w' => e = .returned (.bool true) ∧ Below w.heap.size w w' := by
  have hl := World.block_lt_of_cell? w _ h0
  simp only at hl
  have K1 := Lib.hid k1
  have K3 := Lib.hid k3
  have K5 := Lib.hid k5
  clear k1 k3 k5
  go_enter Tryd.func11, Tryd.ntmps11
  go_wp2_with fail
  refine (addrLives_true _ (by go_simp) (by go_simp)).mono ?_
  rintro e w1 ⟨rfl, hb1⟩
  have T1 : Two w a b c d w1 := Two.start (by simpa using hb1)
  clear hb1
  obtain ⟨⟨p0, p1⟩, q0, q1⟩ := T1.cells
  go_wp2_with fail
  refine (within_is K1.out _ ha hc).mono ?_
  rintro e w2 ⟨rfl, hb2⟩
  have T2 := T1.call hb2
  clear p0 p1 q0 q1 hb2 T1
  obtain ⟨⟨p0, p1⟩, q0, q1⟩ := T2.cells
  go_wp2_with fail
  refine (has_is K3.out _ ha hx).mono ?_
  rintro e w3 ⟨rfl, hb3⟩
  have T3 := T2.call hb3
  clear p0 p1 q0 q1 hb3 T2
  obtain ⟨⟨p0, p1⟩, q0, q1⟩ := T3.cells
  go_wp2_with fail
  refine (has_is K5.out _ hc ha).mono ?_
  rintro e w4 ⟨rfl, hb4⟩
  have T4 := T3.call hb4
  clear p0 p1 q0 q1 hb4 T3
  obtain ⟨⟨p0, p1⟩, q0, q1⟩ := T4.cells
  go_wp2_with fail
  go_ret
  exact ⟨rfl, T4.below⟩
set_option maxRecDepth 100000 in
set_option maxHeartbeats 2000000 in
theorem nested_fq0 (a : Nat) (b : Int) (c : Nat) (d : Int) (x : Nat) (w : World) (ha : a < 4294967296) (hc : c < 4294967296) (hx : x < 4294967296)
    (h0 : w.cell? ⟨0, 0, none⟩ = some (.int .u32 167772160)) (h1 : w.cell? ⟨0, 1, none⟩ = some (.int .i64 8)) (k1 : withinB a b c d = true) (k3 : hasB a b x = false) (k5 : hasB c d a = false) (k6 : hasB a b c = true) :
    Calls Tryd.prog 11 #[.agg #[.int .u32 a, .int .i64 b], .agg #[.int .u32 c, .int .i64 d], .int .u32 x] w fun e w' => e = .returned (.bool true) ∧ Below w.heap.size w w' := by
  have hl := World.block_lt_of_cell? w _ h0
  simp only at hl
  have K1 := Lib.hid k1
  have K3 := Lib.hid k3
  have K5 := Lib.hid k5
  have K6 := Lib.hid k6
  clear k1 k3 k5 k6
  go_enter Tryd.func11, Tryd.ntmps11
  go_wp2_with fail
  refine (addrLives_true _ (by go_simp) (by go_simp)).mono ?_
  rintro e w1 ⟨rfl, hb1⟩
  have T1 : Two w a b c d w1 := Two.start (by simpa using hb1)
  clear hb1
  obtain ⟨⟨p0, p1⟩, q0, q1⟩ := T1.cells
  go_wp2_with fail
  refine (within_is K1.out _ ha hc).mono ?_
  rintro e w2 ⟨rfl, hb2⟩
  have T2 := T1.call hb2
  clear p0 p1 q0 q1 hb2 T1
  obtain ⟨⟨p0, p1⟩, q0, q1⟩ := T2.cells
  go_wp2_with fail
  refine (has_is K3.out _ ha hx).mono ?_
  rintro e w3 ⟨rfl, hb3⟩
  have T3 := T2.call hb3
  clear p0 p1 q0 q1 hb3 T2
  obtain ⟨⟨p0, p1⟩, q0, q1⟩ := T3.cells
  go_wp2_with fail
  refine (has_is K5.out _ hc ha).mono ?_
  rintro e w4 ⟨rfl, hb4⟩
  have T4 := T3.call hb4
  clear p0 p1 q0 q1 hb4 T3
  obtain ⟨⟨p0, p1⟩, q0, q1⟩ := T4.cells
  go_wp2_with fail
  refine (has_is K6.out _ ha hc).mono ?_
  rintro e w5 ⟨rfl, hb5⟩
  have T5 := T4.call hb5
  clear p0 p1 q0 q1 hb5 T4
  obtain ⟨⟨p0, p1⟩, q0, q1⟩ := T5.cells
  go_wp2_with fail
  go_ret
  exact ⟨rfl, T5.below⟩
set_option maxRecDepth 100000 in
set_option maxHeartbeats 2000000 in
theorem nested_sb (a : Nat) (b : Int) (c : Nat) (d : Int) (x : Nat) (w : World) (ha : a < 4294967296) (hc : c < 4294967296) (hx : x < 4294967296)
    (h0 : w.cell? ⟨0, 0, none⟩ = some (.int .u32 167772160)) (h1 : w.cell? ⟨0, 1, none⟩ = some (.int .i64 8)) (k1 : withinB a b c d = false) (k2 : withinB c d a b = true) (k3 : hasB a b x = true) (k4 : hasB c d x = true) :
    Calls Tryd.prog 11 #[.agg #[.int .u32 a, .int .i64 b], .agg #[.int .u32 c, .int .i64 d], .int .u32 x] w fun e w' => e = .returned (.bool true) ∧ Below w.heap.size w w' := by
  have hl := World.block_lt_of_cell? w _ h0
  simp only at hl
  have K1 := Lib.hid k1
  have K2 := Lib.hid k2
  have K3 := Lib.hid k3
  have K4 := Lib.hid k4
  clear k1 k2 k3 k4
  go_enter Tryd.func11, Tryd.ntmps11
  go_wp2_with fail
  refine (addrLives_true _ (by go_simp) (by go_simp)).mono ?_
  rintro e w1 ⟨rfl, hb1⟩
  have T1 : Two w a b c d w1 := Two.start (by simpa using hb1)
  clear hb1
  obtain ⟨⟨p0, p1⟩, q0, q1⟩ := T1.cells
  go_wp2_with fail
  refine (within_is K1.out _ ha hc).mono ?_
  rintro e w2 ⟨rfl, hb2⟩
  have T2 := T1.call hb2
  clear p0 p1 q0 q1 hb2 T1
  obtain ⟨⟨p0, p1⟩, q0, q1⟩ := T2.cells
  go_wp2_with fail
  refine (within_is K2.out _ hc ha).mono ?_
  rintro e w3 ⟨rfl, hb3⟩
  have T3 := T2.call hb3
  clear p0 p1 q0 q1 hb3 T2
  obtain ⟨⟨p0, p1⟩, q0, q1⟩ := T3.cells
  go_wp2_with fail
  refine (has_is K3.out _ ha hx).mono ?_
  rintro e w4 ⟨rfl, hb4⟩
  have T4 := T3.call hb4
  clear p0 p1 q0 q1 hb4 T3
  obtain ⟨⟨p0, p1⟩, q0, q1⟩ := T4.cells
  go_wp2_with fail
  refine (has_is K4.out _ hc hx).mono ?_
  rintro e w5 ⟨rfl, hb5⟩
  have T5 := T4.call hb5
  clear p0 p1 q0 q1 hb5 T4
  obtain ⟨⟨p0, p1⟩, q0, q1⟩ := T5.cells
  go_wp2_with fail
  go_ret
  exact ⟨rfl, T5.below⟩
set_option maxRecDepth 100000 in
set_option maxHeartbeats 2000000 in
theorem nested_sp1 (a : Nat) (b : Int) (c : Nat) (d : Int) (x : Nat) (w : World) (ha : a < 4294967296) (hc : c < 4294967296) (hx : x < 4294967296)
    (h0 : w.cell? ⟨0, 0, none⟩ = some (.int .u32 167772160)) (h1 : w.cell? ⟨0, 1, none⟩ = some (.int .i64 8)) (k1 : withinB a b c d = false) (k2 : withinB c d a b = true) (k3 : hasB a b x = true) (k4 : hasB c d x = false) (k5 : hasB c d a = true) :
    Calls Tryd.prog 11 #[.agg #[.int .u32 a, .int .i64 b], .agg #[.int .u32 c, .int .i64 d], .int .u32 x] w fun e w' => e = .returned (.bool true) ∧ Below w.heap.size w w' := by
  have hl := World.block_lt_of_cell? w _ h0
  simp only at hl
  have K1 := Lib.hid k1
  have K2 := Lib.hid k2
  have K3 := Lib.hid k3
  have K4 := Lib.hid k4
  have K5 := Lib.hid k5
  clear k1 k2 k3 k4 k5
  go_enter Tryd.func11, Tryd.ntmps11
  go_wp2_with fail
  refine (addrLives_true _ (by go_simp) (by go_simp)).mono ?_
  rintro e w1 ⟨rfl, hb1⟩
  have T1 : Two w a b c d w1 := Two.start (by simpa using hb1)
  clear hb1
  obtain ⟨⟨p0, p1⟩, q0, q1⟩ := T1.cells
  go_wp2_with fail
  refine (within_is K1.out _ ha hc).mono ?_
  rintro e w2 ⟨rfl, hb2⟩
  have T2 := T1.call hb2
  clear p0 p1 q0 q1 hb2 T1
  obtain ⟨⟨p0, p1⟩, q0, q1⟩ := T2.cells
  go_wp2_with fail
  refine (within_is K2.out _ hc ha).mono ?_
  rintro e w3 ⟨rfl, hb3⟩
  have T3 := T2.call hb3
  clear p0 p1 q0 q1 hb3 T2
  obtain ⟨⟨p0, p1⟩, q0, q1⟩ := T3.cells
  go_wp2_with fail
  refine (has_is K3.out _ ha hx).mono ?_
  rintro e w4 ⟨rfl, hb4⟩
  have T4 := T3.call hb4
  clear p0 p1 q0 q1 hb4 T3
  obtain ⟨⟨p0, p1⟩, q0, q1⟩ := T4.cells
  go_wp2_with fail
  refine (has_is K4.out _ hc hx).mono ?_
  rintro e w5 ⟨rfl, hb5⟩
  have T5 := T4.call hb5
  clear p0 p1 q0 q1 hb5 T4
  obtain ⟨⟨p0, p1⟩, q0, q1⟩ := T5.cells
  go_wp2_with fail
  refine (has_is K5.out _ hc ha).mono ?_
  rintro e w6 ⟨rfl, hb6⟩
  have T6 := T5.call hb6
  clear p0 p1 q0 q1 hb6 T5
  obtain ⟨⟨p0, p1⟩, q0, q1⟩ := T6.cells
  go_wp2_with fail
  go_ret
  exact ⟨rfl, T6.below⟩
set_option maxRecDepth 100000 in
set_option maxHeartbeats 2000000 in
theorem nested_sp0 (a : Nat) (b : Int) (c : Nat) (d : Int) (x : Nat) (w : World) (ha : a < 4294967296) (hc : c < 4294967296) (hx : x < 4294967296)
    (h0 : w.cell? ⟨0, 0, none⟩ = some (.int .u32 167772160)) (h1 : w.cell? ⟨0, 1, none⟩ = some (.int .i64 8)) (k1 : withinB a b c d = false) (k2 : withinB c d a b = true) (k3 : hasB a b x = true) (k4 : hasB c d x = false) (k5 : hasB c d a = false) (k6 : hasB a b c = true) :
    Calls Tryd.prog 11 #[.agg #[.int .u32 a, .int .i64 b], .agg #[.int .u32 c, .int .i64 d], .int .u32 x] w fun e w' => e = .returned (.bool true) ∧ Below w.heap.size w w' := by
  have hl := World.block_lt_of_cell? w _ h0
  simp only at hl
  have K1 := Lib.hid k1
  have K2 := Lib.hid k2
  have K3 := Lib.hid k3
  have K4 := Lib.hid k4
  have K5 := Lib.hid k5
  have K6 := Lib.hid k6
  clear k1 k2 k3 k4 k5 k6
  go_enter Tryd.func11, Tryd.ntmps11
  go_wp2_with fail
  refine (addrLives_true _ (by go_simp) (by go_simp)).mono ?_
  rintro e w1 ⟨rfl, hb1⟩
  have T1 : Two w a b c d w1 := Two.start (by simpa using hb1)
  clear hb1
  obtain ⟨⟨p0, p1⟩, q0, q1⟩ := T1.cells
  go_wp2_with fail
  refine (within_is K1.out _ ha hc).mono ?_
  rintro e w2 ⟨rfl, hb2⟩
  have T2 := T1.call hb2
  clear p0 p1 q0 q1 hb2 T1
  obtain ⟨⟨p0, p1⟩, q0, q1⟩ := T2.cells
  go_wp2_with fail
  refine (within_is K2.out _ hc ha).mono ?_
  rintro e w3 ⟨rfl, hb3⟩
  have T3 := T2.call hb3
  clear p0 p1 q0 q1 hb3 T2
  obtain ⟨⟨p0, p1⟩, q0, q1⟩ := T3.cells
  go_wp2_with fail
  refine (has_is K3.out _ ha hx).mono ?_
  rintro e w4 ⟨rfl, hb4⟩
  have T4 := T3.call hb4
  clear p0 p1 q0 q1 hb4 T3
  obtain ⟨⟨p0, p1⟩, q0, q1⟩ := T4.cells
  go_wp2_with fail
  refine (has_is K4.out _ hc hx).mono ?_
  rintro e w5 ⟨rfl, hb5⟩
  have T5 := T4.call hb5
  clear p0 p1 q0 q1 hb5 T4
  obtain ⟨⟨p0, p1⟩, q0, q1⟩ := T5.cells
  go_wp2_with fail
  refine (has_is K5.out _ hc ha).mono ?_
  rintro e w6 ⟨rfl, hb6⟩
  have T6 := T5.call hb6
  clear p0 p1 q0 q1 hb6 T5
  obtain ⟨⟨p0, p1⟩, q0, q1⟩ := T6.cells
  go_wp2_with fail
  refine (has_is K6.out _ ha hc).mono ?_
  rintro e w7 ⟨rfl, hb7⟩
  have T7 := T6.call hb7
  clear p0 p1 q0 q1 hb7 T6
  obtain ⟨⟨p0, p1⟩, q0, q1⟩ := T7.cells
  go_wp2_with fail
  go_ret
  exact ⟨rfl, T7.below⟩
set_option maxRecDepth 100000 in
set_option maxHeartbeats 2000000 in
theorem nested_sq1 (a : Nat) (b : Int) (c : Nat) (d : Int) (x : Nat) (w : World) (ha : a < 4294967296) (hc : c < 4294967296) (hx : x < 4294967296)
    (h0 : w.cell? ⟨0, 0, none⟩ = some (.int .u32 167772160)) (h1 : w.cell? ⟨0, 1, none⟩ = some (.int .i64 8)) (k1 : withinB a b c d = false) (k2 : withinB c d a b = true) (k3 : hasB a b x = false) (k5 : hasB c d a = true) :
    Calls Tryd.prog 11 #[.agg #[.int .u32 a, .int .i64 b], .agg #[.int .u32 c, .int .i64 d], .int .u32 x] w fun e w' => e = .returned (.bool true) ∧ Below w.heap.size w w' := by
  have hl := World.block_lt_of_cell? w _ h0
  simp only at hl
  have K1 := Lib.hid k1
  have K2 := Lib.hid k2
  have K3 := Lib.hid k3
  have K5 := Lib.hid k5
  clear k1 k2 k3 k5
  go_enter Tryd.func11, Tryd.ntmps11
  go_wp2_with fail
  refine (addrLives_true _ (by go_simp) (by go_simp)).mono ?_
  rintro e w1 ⟨rfl, hb1⟩
  have T1 : Two w a b c d w1 := Two.start (by simpa using hb1)
  clear hb1
  obtain ⟨⟨p0, p1⟩, q0, q1⟩ := T1.cells
  go_wp2_with fail
  refine (within_is K1.out _ ha hc).mono ?_
  rintro e w2 ⟨rfl, hb2⟩
  have T2 := T1.call hb2
  clear p0 p1 q0 q1 hb2 T1
  obtain ⟨⟨p0, p1⟩, q0, q1⟩ := T2.cells
  go_wp2_with fail
  refine (within_is K2.out _ hc ha).mono ?_
  rintro e w3 ⟨rfl, hb3⟩
  have T3 := T2.call hb3
  clear p0 p1 q0 q1 hb3 T2
  obtain ⟨⟨p0, p1⟩, q0, q1⟩ := T3.cells
  go_wp2_with fail
  refine (has_is K3.out _ ha hx).mono ?_
  rintro e w4 ⟨rfl, hb4⟩
  have T4 := T3.call hb4
  clear p0 p1 q0 q1 hb4 T3
  obtain ⟨⟨p0, p1⟩, q0, q1⟩ := T4.cells
  go_wp2_with fail
  refine (has_is K5.out _ hc ha).mono ?_
  rintro e w5 ⟨rfl, hb5⟩
  have T5 := T4.call hb5
  clear p0 p1 q0 q1 hb5 T4
  obtain ⟨⟨p0, p1⟩, q0, q1⟩ := T5.cells
  go_wp2_with fail
  go_ret
  exact ⟨rfl, T5.below⟩
set_option maxRecDepth 100000 in
set_option maxHeartbeats 2000000 in
theorem nested_sq0 (a : Nat) (b : Int) (c : Nat) (d : Int) (x : Nat) (w : World) (ha : a < 4294967296) (hc : c < 4294967296) (hx : x < 4294967296)
    (h0 : w.cell? ⟨0, 0, none⟩ = some (.int .u32 167772160)) (h1 : w.cell? ⟨0, 1, none⟩ = some (.int .i64 8)) (k1 : withinB a b c d = false) (k2 : withinB c d a b = true) (k3 : hasB a b x = false) (k5 : hasB c d a = false) (k6 : hasB a b c = true) :
    Calls Tryd.prog 11 #[.agg #[.int .u32 a, .int .i64 b], .agg #[.int .u32 c, .int .i64 d], .int .u32 x] w fun e w' => e = .returned (.bool true) ∧ Below w.heap.size w w' := by
  have hl := World.block_lt_of_cell? w _ h0
  simp only at hl
  have K1 := Lib.hid k1
  have K2 := Lib.hid k2
  have K3 := Lib.hid k3
  have K5 := Lib.hid k5
  have K6 := Lib.hid k6
  clear k1 k2 k3 k5 k6
  go_enter Tryd.func11, Tryd.ntmps11
  go_wp2_with fail
  refine (addrLives_true _ (by go_simp) (by go_simp)).mono ?_
  rintro e w1 ⟨rfl, hb1⟩
  have T1 : Two w a b c d w1 := Two.start (by simpa using hb1)
  clear hb1
  obtain ⟨⟨p0, p1⟩, q0, q1⟩ := T1.cells
  go_wp2_with fail
  refine (within_is K1.out _ ha hc).mono ?_
  rintro e w2 ⟨rfl, hb2⟩
  have T2 := T1.call hb2
  clear p0 p1 q0 q1 hb2 T1
  obtain ⟨⟨p0, p1⟩, q0, q1⟩ := T2.cells
  go_wp2_with fail
  refine (within_is K2.out _ hc ha).mono ?_
  rintro e w3 ⟨rfl, hb3⟩
  have T3 := T2.call hb3
  clear p0 p1 q0 q1 hb3 T2
  obtain ⟨⟨p0, p1⟩, q0, q1⟩ := T3.cells
  go_wp2_with fail
  refine (has_is K3.out _ ha hx).mono ?_
  rintro e w4 ⟨rfl, hb4⟩
  have T4 := T3.call hb4
  clear p0 p1 q0 q1 hb4 T3
  obtain ⟨⟨p0, p1⟩, q0, q1⟩ := T4.cells
  go_wp2_with fail
  refine (has_is K5.out _ hc ha).mono ?_
  rintro e w5 ⟨rfl, hb5⟩
  have T5 := T4.call hb5
  clear p0 p1 q0 q1 hb5 T4
  obtain ⟨⟨p0, p1⟩, q0, q1⟩ := T5.cells
  go_wp2_with fail
  refine (has_is K6.out _ ha hc).mono ?_
  rintro e w6 ⟨rfl, hb6⟩
  have T6 := T5.call hb6
  clear p0 p1 q0 q1 hb6 T5
  obtain ⟨⟨p0, p1⟩, q0, q1⟩ := T6.cells
  go_wp2_with fail
  go_ret
  exact ⟨rfl, T6.below⟩
set_option maxRecDepth 100000 in
set_option maxHeartbeats 2000000 in
theorem nested_np0 (a : Nat) (b : Int) (c : Nat) (d : Int) (x : Nat) (w : World) (ha : a < 4294967296) (hc : c < 4294967296) (hx : x < 4294967296)
    (h0 : w.cell? ⟨0, 0, none⟩ = some (.int .u32 167772160)) (h1 : w.cell? ⟨0, 1, none⟩ = some (.int .i64 8)) (k1 : withinB a b c d = false) (k2 : withinB c d a b = false) (k3 : hasB a b x = true) (k4 : hasB c d x = false) (k5 : hasB c d a = false) :
    Calls Tryd.prog 11 #[.agg #[.int .u32 a, .int .i64 b], .agg #[.int .u32 c, .int .i64 d], .int .u32 x] w fun e w' => e = .returned (.bool true) ∧ Below w.heap.size w w' := by
  have hl := World.block_lt_of_cell? w _ h0
  simp only at hl
  have K1 := Lib.hid k1
  have K2 := Lib.hid k2
  have K3 := Lib.hid k3
  have K4 := Lib.hid k4
  have K5 := Lib.hid k5
  clear k1 k2 k3 k4 k5
  go_enter Tryd.func11, Tryd.ntmps11
  go_wp2_with fail
  refine (addrLives_true _ (by go_simp) (by go_simp)).mono ?_
  rintro e w1 ⟨rfl, hb1⟩
  have T1 : Two w a b c d w1 := Two.start (by simpa using hb1)
  clear hb1
  obtain ⟨⟨p0, p1⟩, q0, q1⟩ := T1.cells
  go_wp2_with fail
  refine (within_is K1.out _ ha hc).mono ?_
  rintro e w2 ⟨rfl, hb2⟩
  have T2 := T1.call hb2
  clear p0 p1 q0 q1 hb2 T1
  obtain ⟨⟨p0, p1⟩, q0, q1⟩ := T2.cells
  go_wp2_with fail
  refine (within_is K2.out _ hc ha).mono ?_
  rintro e w3 ⟨rfl, hb3⟩
  have T3 := T2.call hb3
  clear p0 p1 q0 q1 hb3 T2
  obtain ⟨⟨p0, p1⟩, q0, q1⟩ := T3.cells
  go_wp2_with fail
  refine (has_is K3.out _ ha hx).mono ?_
  rintro e w4 ⟨rfl, hb4⟩
  have T4 := T3.call hb4
  clear p0 p1 q0 q1 hb4 T3
  obtain ⟨⟨p0, p1⟩, q0, q1⟩ := T4.cells
  go_wp2_with fail
  refine (has_is K4.out _ hc hx).mono ?_
  rintro e w5 ⟨rfl, hb5⟩
  have T5 := T4.call hb5
  clear p0 p1 q0 q1 hb5 T4
  obtain ⟨⟨p0, p1⟩, q0, q1⟩ := T5.cells
  go_wp2_with fail
  refine (has_is K5.out _ hc ha).mono ?_
  rintro e w6 ⟨rfl, hb6⟩
  have T6 := T5.call hb6
  clear p0 p1 q0 q1 hb6 T5
  obtain ⟨⟨p0, p1⟩, q0, q1⟩ := T6.cells
  go_wp2_with fail
  go_ret
  exact ⟨rfl, T6.below⟩
set_option maxRecDepth 100000 in
set_option maxHeartbeats 2000000 in
theorem nested_np1 (a : Nat) (b : Int) (c : Nat) (d : Int) (x : Nat) (w : World) (ha : a < 4294967296) (hc : c < 4294967296) (hx : x < 4294967296)
    (h0 : w.cell? ⟨0, 0, none⟩ = some (.int .u32 167772160)) (h1 : w.cell? ⟨0, 1, none⟩ = some (.int .i64 8)) (k1 : withinB a b c d = false) (k2 : withinB c d a b = false) (k3 : hasB a b x = true) (k4 : hasB c d x = false) (k5 : hasB c d a = true) (k7 : (chkE a b != 0) = true) :
    Calls Tryd.prog 11 #[.agg #[.int .u32 a, .int .i64 b], .agg #[.int .u32 c, .int .i64 d], .int .u32 x] w fun e w' => e = .returned (.bool true) ∧ Below w.heap.size w w' := by
  have hl := World.block_lt_of_cell? w _ h0
  simp only at hl
  have K1 := Lib.hid k1
  have K2 := Lib.hid k2
  have K3 := Lib.hid k3
  have K4 := Lib.hid k4
  have K5 := Lib.hid k5
  clear k1 k2 k3 k4 k5
  go_enter Tryd.func11, Tryd.ntmps11
  go_wp2_with fail
  refine (addrLives_true _ (by go_simp) (by go_simp)).mono ?_
  rintro e w1 ⟨rfl, hb1⟩
  have T1 : Two w a b c d w1 := Two.start (by simpa using hb1)
  clear hb1
  obtain ⟨⟨p0, p1⟩, q0, q1⟩ := T1.cells
  go_wp2_with fail
  refine (within_is K1.out _ ha hc).mono ?_
  rintro e w2 ⟨rfl, hb2⟩
  have T2 := T1.call hb2
  clear p0 p1 q0 q1 hb2 T1
  obtain ⟨⟨p0, p1⟩, q0, q1⟩ := T2.cells
  go_wp2_with fail
  refine (within_is K2.out _ hc ha).mono ?_
  rintro e w3 ⟨rfl, hb3⟩
  have T3 := T2.call hb3
  clear p0 p1 q0 q1 hb3 T2
  obtain ⟨⟨p0, p1⟩, q0, q1⟩ := T3.cells
  go_wp2_with fail
  refine (has_is K3.out _ ha hx).mono ?_
  rintro e w4 ⟨rfl, hb4⟩
  have T4 := T3.call hb4
  clear p0 p1 q0 q1 hb4 T3
  obtain ⟨⟨p0, p1⟩, q0, q1⟩ := T4.cells
  go_wp2_with fail
  refine (has_is K4.out _ hc hx).mono ?_
  rintro e w5 ⟨rfl, hb5⟩
  have T5 := T4.call hb5
  clear p0 p1 q0 q1 hb5 T4
  obtain ⟨⟨p0, p1⟩, q0, q1⟩ := T5.cells
  go_wp2_with fail
  refine (has_is K5.out _ hc ha).mono ?_
  rintro e w6 ⟨rfl, hb6⟩
  have T6 := T5.call hb6
  clear p0 p1 q0 q1 hb6 T5
  obtain ⟨⟨p0, p1⟩, q0, q1⟩ := T6.cells
  go_wp2_with fail
  refine (check_any a b _ ha).mono ?_
  rintro e w7 ⟨rfl, hb7⟩
  have T7 := T6.call hb7
  clear p0 p1 q0 q1 hb7 T6
  obtain ⟨⟨p0, p1⟩, q0, q1⟩ := T7.cells
  go_wp2_with fail
  go_ret
  exact ⟨rfl, T7.below⟩
set_option maxRecDepth 100000 in
set_option maxHeartbeats 2000000 in
theorem nested_nq0 (a : Nat) (b : Int) (c : Nat) (d : Int) (x : Nat) (w : World) (ha : a < 4294967296) (hc : c < 4294967296) (hx : x < 4294967296)
    (h0 : w.cell? ⟨0, 0, none⟩ = some (.int .u32 167772160)) (h1 : w.cell? ⟨0, 1, none⟩ = some (.int .i64 8)) (k1 : withinB a b c d = false) (k2 : withinB c d a b = false) (k3 : hasB a b x = false) (k5 : hasB c d a = false) :
    Calls Tryd.prog 11 #[.agg #[.int .u32 a, .int .i64 b], .agg #[.int .u32 c, .int .i64 d], .int .u32 x] w fun e w' => e = .returned (.bool true) ∧ Below w.heap.size w w' := by
  have hl := World.block_lt_of_cell? w _ h0
  simp only at hl
  have K1 := Lib.hid k1
  have K2 := Lib.hid k2
  have K3 := Lib.hid k3
  have K5 := Lib.hid k5
  clear k1 k2 k3 k5
  go_enter Tryd.func11, Tryd.ntmps11
  go_wp2_with fail
  refine (addrLives_true _ (by go_simp) (by go_simp)).mono ?_
  rintro e w1 ⟨rfl, hb1⟩
  have T1 : Two w a b c d w1 := Two.start (by simpa using hb1)
  clear hb1
  obtain ⟨⟨p0, p1⟩, q0, q1⟩ := T1.cells
  go_wp2_with fail
  refine (within_is K1.out _ ha hc).mono ?_
  rintro e w2 ⟨rfl, hb2⟩
  have T2 := T1.call hb2
  clear p0 p1 q0 q1 hb2 T1
  obtain ⟨⟨p0, p1⟩, q0, q1⟩ := T2.cells
  go_wp2_with fail
  refine (within_is K2.out _ hc ha).mono ?_
  rintro e w3 ⟨rfl, hb3⟩
  have T3 := T2.call hb3
  clear p0 p1 q0 q1 hb3 T2
  obtain ⟨⟨p0, p1⟩, q0, q1⟩ := T3.cells
  go_wp2_with fail
  refine (has_is K3.out _ ha hx).mono ?_
  rintro e w4 ⟨rfl, hb4⟩
  have T4 := T3.call hb4
  clear p0 p1 q0 q1 hb4 T3
  obtain ⟨⟨p0, p1⟩, q0, q1⟩ := T4.cells
  go_wp2_with fail
  refine (has_is K5.out _ hc ha).mono ?_
  rintro e w5 ⟨rfl, hb5⟩
  have T5 := T4.call hb5
  clear p0 p1 q0 q1 hb5 T4
  obtain ⟨⟨p0, p1⟩, q0, q1⟩ := T5.cells
  go_wp2_with fail
  go_ret
  exact ⟨rfl, T5.below⟩
set_option maxRecDepth 100000 in
set_option maxHeartbeats 2000000 in
theorem nested_nq1 (a : Nat) (b : Int) (c : Nat) (d : Int) (x : Nat) (w : World) (ha : a < 4294967296) (hc : c < 4294967296) (hx : x < 4294967296)
    (h0 : w.cell? ⟨0, 0, none⟩ = some (.int .u32 167772160)) (h1 : w.cell? ⟨0, 1, none⟩ = some (.int .i64 8)) (k1 : withinB a b c d = false) (k2 : withinB c d a b = false) (k3 : hasB a b x = false) (k5 : hasB c d a = true) (k7 : (chkE a b != 0) = true) :
    Calls Tryd.prog 11 #[.agg #[.int .u32 a, .int .i64 b], .agg #[.int .u32 c, .int .i64 d], .int .u32 x] w fun e w' => e = .returned (.bool true) ∧ Below w.heap.size w w' := by
  have hl := World.block_lt_of_cell? w _ h0
  simp only at hl
  have K1 := Lib.hid k1
  have K2 := Lib.hid k2
  have K3 := Lib.hid k3
  have K5 := Lib.hid k5
  clear k1 k2 k3 k5
  go_enter Tryd.func11, Tryd.ntmps11
  go_wp2_with fail
  refine (addrLives_true _ (by go_simp) (by go_simp)).mono ?_
  rintro e w1 ⟨rfl, hb1⟩
  have T1 : Two w a b c d w1 := Two.start (by simpa using hb1)
  clear hb1
  obtain ⟨⟨p0, p1⟩, q0, q1⟩ := T1.cells
  go_wp2_with fail
  refine (within_is K1.out _ ha hc).mono ?_
  rintro e w2 ⟨rfl, hb2⟩
  have T2 := T1.call hb2
  clear p0 p1 q0 q1 hb2 T1
  obtain ⟨⟨p0, p1⟩, q0, q1⟩ := T2.cells
  go_wp2_with fail
  refine (within_is K2.out _ hc ha).mono ?_
  rintro e w3 ⟨rfl, hb3⟩
  have T3 := T2.call hb3
  clear p0 p1 q0 q1 hb3 T2
  obtain ⟨⟨p0, p1⟩, q0, q1⟩ := T3.cells
  go_wp2_with fail
  refine (has_is K3.out _ ha hx).mono ?_
  rintro e w4 ⟨rfl, hb4⟩
  have T4 := T3.call hb4
  clear p0 p1 q0 q1 hb4 T3
  obtain ⟨⟨p0, p1⟩, q0, q1⟩ := T4.cells
  go_wp2_with fail
  refine (has_is K5.out _ hc ha).mono ?_
  rintro e w5 ⟨rfl, hb5⟩
  have T5 := T4.call hb5
  clear p0 p1 q0 q1 hb5 T4
  obtain ⟨⟨p0, p1⟩, q0, q1⟩ := T5.cells
  go_wp2_with fail
  refine (check_any a b _ ha).mono ?_
  rintro e w6 ⟨rfl, hb6⟩
  have T6 := T5.call hb6
  clear p0 p1 q0 q1 hb6 T5
  obtain ⟨⟨p0, p1⟩, q0, q1⟩ := T6.cells
  go_wp2_with fail
  go_ret
  exact ⟨rfl, T6.below⟩
/-- The law's walk, whole. -/
theorem nested_any (a : Nat) (b : Int) (c : Nat) (d : Int) (x : Nat) (w : World) (ha : a < 4294967296) (hc : c < 4294967296) (hx : x < 4294967296)
    (h0 : w.cell? ⟨0, 0, none⟩ = some (.int .u32 167772160)) (h1 : w.cell? ⟨0, 1, none⟩ = some (.int .i64 8)) :
    Calls Tryd.prog 11 #[.agg #[.int .u32 a, .int .i64 b], .agg #[.int .u32 c, .int .i64 d], .int .u32 x] w fun e w' => e = .returned (.bool true) ∧ Below w.heap.size w w' := by
  have P1 : hasB a b x = true → hasB c d x = true → (withinB a b c d || withinB c d a b) = true := nested_both
  have P2 : (withinB a b c d || withinB c d a b) = false → (!hasB c d a || (chkE a b != 0)) = true := nested_none
  have P3 : (withinB a b c d || withinB c d a b) = true → (hasB c d a || hasB a b c) = true := nested_some
  generalize k1 : withinB a b c d = X1 at P1 P2 P3
  generalize k2 : withinB c d a b = X2 at P1 P2 P3
  generalize k3 : hasB a b x = X3 at P1
  generalize k4 : hasB c d x = X4 at P1
  generalize k5 : hasB c d a = X5 at P2 P3
  generalize k6 : hasB a b c = X6 at P3
  generalize k7 : (chkE a b != 0) = X7 at P2
  cases X1 <;> cases X2 <;> cases X3 <;> cases X4 <;> cases X5 <;> cases X6 <;> cases X7 <;> first
    | (exfalso; revert P1 P2 P3; decide)
    | exact nested_fb a b c d x w ha hc hx h0 h1 k1 k3 k4
    | exact nested_fp1 a b c d x w ha hc hx h0 h1 k1 k3 k4 k5
    | exact nested_fp0 a b c d x w ha hc hx h0 h1 k1 k3 k4 k5 k6
    | exact nested_fq1 a b c d x w ha hc hx h0 h1 k1 k3 k5
    | exact nested_fq0 a b c d x w ha hc hx h0 h1 k1 k3 k5 k6
    | exact nested_sb a b c d x w ha hc hx h0 h1 k1 k2 k3 k4
    | exact nested_sp1 a b c d x w ha hc hx h0 h1 k1 k2 k3 k4 k5
    | exact nested_sp0 a b c d x w ha hc hx h0 h1 k1 k2 k3 k4 k5 k6
    | exact nested_sq1 a b c d x w ha hc hx h0 h1 k1 k2 k3 k5
    | exact nested_sq0 a b c d x w ha hc hx h0 h1 k1 k2 k3 k5 k6
    | exact nested_np0 a b c d x w ha hc hx h0 h1 k1 k2 k3 k4 k5
    | exact nested_np1 a b c d x w ha hc hx h0 h1 k1 k2 k3 k4 k5 k7
    | exact nested_nq0 a b c d x w ha hc hx h0 h1 k1 k2 k3 k5
    | exact nested_nq1 a b c d x w ha hc hx h0 h1 k1 k2 k3 k5 k7
end Go.Proofs.YtaknlphmplimhaaDoor
