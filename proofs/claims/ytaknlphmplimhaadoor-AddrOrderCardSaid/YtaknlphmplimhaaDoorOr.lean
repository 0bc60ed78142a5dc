/- The walk of AddrOrder, which returns true; three prefixes by value; the world holds the variable ten. -/
import Derived.Test.YtaknlphmplimhaaDoorHa
set_option linter.unusedVariables false
set_option linter.unusedSimpArgs false
namespace Go.Proofs.YtaknlphmplimhaaDoor
open Go.RowKit Go.Proofs
/-- Three boxes, and what is old, at a world of the law. -/
structure Three (w : World) (a : Nat) (b : Int) (c : Nat) (d : Int) (g : Nat) (h : Int) (wi : World) : Prop where
  p : Box wi w.heap.size a b
  q : Box wi (w.heap.size + 1) c d
  r : Box wi (w.heap.size + 2) g h
  below : Below w.heap.size w wi
theorem Three.call {w wi wj : World} {a c g : Nat} {b d h : Int} (H : Three w a b c d g h wi) (hb : Below wi.heap.size wi wj) : Three w a b c d g h wj :=
  ⟨H.p.grow hb, H.q.grow hb, H.r.grow hb, bthen H.below H.below.size hb⟩
theorem Three.drew {w wi : World} {a c g : Nat} {b d h : Int} (H : Three w a b c d g h wi) : Three w a b c d g h wi.drew := ⟨H.p, H.q, H.r, H.below.drew⟩
theorem Three.start {w w1 : World} {a c g : Nat} {b d h : Int} (hb : Below (w.heap.size + 3) (((w.alloc (.cells #[.int .u32 a, .int .i64 b] 25)).alloc (.cells #[.int .u32 c, .int .i64 d] 25)).alloc (.cells #[.int .u32 g, .int .i64 h] 25)) w1) : Three w a b c d g h w1 := by
  have s1 : (w.alloc (.cells #[.int .u32 a, .int .i64 b] 25)).heap.size = w.heap.size + 1 := by simp
  have s2 : ((w.alloc (.cells #[.int .u32 a, .int .i64 b] 25)).alloc (.cells #[.int .u32 c, .int .i64 d] 25)).heap.size = w.heap.size + 2 := by simp
  have n1 := heap_alloc_new (w.alloc (.cells #[.int .u32 a, .int .i64 b] 25)) (.cells #[.int .u32 c, .int .i64 d] 25)
  have n2 := heap_alloc_new ((w.alloc (.cells #[.int .u32 a, .int .i64 b] 25)).alloc (.cells #[.int .u32 c, .int .i64 d] 25)) (.cells #[.int .u32 g, .int .i64 h] 25)
  rw [s1] at n1
  rw [s2] at n2
  refine ⟨?_, ?_, ?_, ?_⟩
  · exact (hb.block _ (by omega)).trans ((heap_alloc_old _ _ (by omega)).trans ((heap_alloc_old _ _ (by simp)).trans (heap_alloc_new w _)))
  · exact (hb.block _ (by omega)).trans ((heap_alloc_old _ _ (by omega)).trans n1)
  · exact (hb.block _ (by omega)).trans n2
  · exact ((((Below.refl _ _).alloc (Nat.le_refl _) _).alloc (by omega) _).alloc (by omega) _).trans (hb.mono (by omega))
theorem Three.cells {w wi : World} {a c g : Nat} {b d h : Int} (H : Three w a b c d g h wi) :
    (wi.cell? ⟨w.heap.size, 0, none⟩ = some (.int .u32 a) ∧ wi.cell? ⟨w.heap.size, 1, none⟩ = some (.int .i64 b)) ∧ (wi.cell? ⟨w.heap.size + 1, 0, none⟩ = some (.int .u32 c) ∧ wi.cell? ⟨w.heap.size + 1, 1, none⟩ = some (.int .i64 d)) ∧ (wi.cell? ⟨w.heap.size + 2, 0, none⟩ = some (.int .u32 g) ∧ wi.cell? ⟨w.heap.size + 2, 1, none⟩ = some (.int .i64 h)) := ⟨H.p.cells, H.q.cells, H.r.cells⟩
theorem cmp_is {a : Nat} {b : Int} {c : Nat} {d : Int} {x : Int} (h : cmpP a b c d = x) (w : World) :
    Calls Tryd.prog 40 #[.agg #[.int .u32 a, .int .i64 b], .agg #[.int .u32 c, .int .i64 d]] w fun e w' => e = .returned (.int .i64 x) ∧ Below w.heap.size w w' := h ▸ compare_any a b c d w
set_option maxRecDepth 100000 in
set_option maxHeartbeats 4000000 in
theorem order_z0 (a : Nat) (b : Int) (g : Nat) (h : Int) (y z : Int) (w : World) (ha : a < 4294967296) 
    (h0 : w.cell? ⟨0, 0, none⟩ = some (.int .u32 167772160)) (h1 : w.cell? ⟨0, 1, none⟩ = some (.int .i64 8)) (k1 : cmpP a b a b = 0) (k2 : cmpP a b g h = y) (k3 : cmpP a b g h = z) (k4 : cmpP a b a b = 0) (hy : y ≤ 0) (hz : ¬ 0 < z) :
    Calls Tryd.prog 12 #[.agg #[.int .u32 a, .int .i64 b], .agg #[.int .u32 a, .int .i64 b], .agg #[.int .u32 g, .int .i64 h]] w fun e w' => e = .returned (.bool true) ∧ Below w.heap.size w w' := by
  have hl := World.block_lt_of_cell? w _ h0
  simp only at hl
  have K1 := Lib.hid k1
  have K2 := Lib.hid k2
  have K3 := Lib.hid k3
  have K4 := Lib.hid k4
  clear k1 k2 k3 k4
  go_enter Tryd.func12, Tryd.ntmps12
  go_wp2_with fail
  refine (addrLives_true _ (by go_simp) (by go_simp)).mono ?_
  rintro e w1 ⟨rfl, hb1⟩
  have T : Three w a b a b g h w1.drew := (Three.start (by simpa using hb1)).drew
  have T1 : Three w a b a b g h w1 := (Three.start (by simpa using hb1))
  clear hb1
  obtain ⟨⟨p0, p1⟩, ⟨q0, q1⟩, r0, r1⟩ := T1.cells
  clear T1
  go_wp2_with fail
  go_region_held3 (fun w' => (w'.cell? ⟨w.heap.size, 0, none⟩ = some (.int .u32 a) ∧ w'.cell? ⟨w.heap.size, 1, none⟩ = some (.int .i64 b)) ∧ (w'.cell? ⟨w.heap.size + 1, 0, none⟩ = some (.int .u32 a) ∧ w'.cell? ⟨w.heap.size + 1, 1, none⟩ = some (.int .i64 b)) ∧ (w'.cell? ⟨w.heap.size + 2, 0, none⟩ = some (.int .u32 g) ∧ w'.cell? ⟨w.heap.size + 2, 1, none⟩ = some (.int .i64 h)))
    (first
      | go_keep
      | (go_split_ands; refine ⟨⟨?_, ?_⟩, ⟨?_, ?_⟩, ?_, ?_⟩ <;> assumption))
    (first
      | ((with_reducible refine (cmp_is K1.out _).mono ?_); rintro e wz ⟨rfl, hbz⟩; replace T := T.call hbz; clear hbz; clear p0 p1 q0 q1 r0 r1; obtain ⟨⟨p0, p1⟩, ⟨q0, q1⟩, r0, r1⟩ := T.cells)
      | ((with_reducible refine (cmp_is K2.out _).mono ?_); rintro e wz ⟨rfl, hbz⟩; replace T := T.call hbz; clear hbz; clear p0 p1 q0 q1 r0 r1; obtain ⟨⟨p0, p1⟩, ⟨q0, q1⟩, r0, r1⟩ := T.cells)
      | ((with_reducible refine (cmp_is K3.out _).mono ?_); rintro e wz ⟨rfl, hbz⟩; replace T := T.call hbz; clear hbz; clear p0 p1 q0 q1 r0 r1; obtain ⟨⟨p0, p1⟩, ⟨q0, q1⟩, r0, r1⟩ := T.cells))
  all_goals
    go_wp2_with fail
    refine (cmp_is K4.out _).mono ?_
    rintro e w5 ⟨rfl, hb5⟩
    replace T := T.call hb5
    clear p0 p1 q0 q1 r0 r1 hb5
    obtain ⟨⟨p0, p1⟩, ⟨q0, q1⟩, r0, r1⟩ := T.cells
    go_wp2_with fail
    go_ret
    exact ⟨rfl, T.below⟩
set_option maxRecDepth 100000 in
set_option maxHeartbeats 4000000 in
theorem order_z1 (a : Nat) (b : Int) (g : Nat) (h : Int) (y z : Int) (w : World) (ha : a < 4294967296) 
    (h0 : w.cell? ⟨0, 0, none⟩ = some (.int .u32 167772160)) (h1 : w.cell? ⟨0, 1, none⟩ = some (.int .i64 8)) (k1 : cmpP a b a b = 0) (k2 : cmpP a b g h = y) (k3 : cmpP a b g h = z) (k4 : cmpP a b a b = 0) (hy : ¬ y ≤ 0) :
    Calls Tryd.prog 12 #[.agg #[.int .u32 a, .int .i64 b], .agg #[.int .u32 a, .int .i64 b], .agg #[.int .u32 g, .int .i64 h]] w fun e w' => e = .returned (.bool true) ∧ Below w.heap.size w w' := by
  have hl := World.block_lt_of_cell? w _ h0
  simp only at hl
  have K1 := Lib.hid k1
  have K2 := Lib.hid k2
  have K3 := Lib.hid k3
  have K4 := Lib.hid k4
  clear k1 k2 k3 k4
  go_enter Tryd.func12, Tryd.ntmps12
  go_wp2_with fail
  refine (addrLives_true _ (by go_simp) (by go_simp)).mono ?_
  rintro e w1 ⟨rfl, hb1⟩
  have T : Three w a b a b g h w1.drew := (Three.start (by simpa using hb1)).drew
  have T1 : Three w a b a b g h w1 := (Three.start (by simpa using hb1))
  clear hb1
  obtain ⟨⟨p0, p1⟩, ⟨q0, q1⟩, r0, r1⟩ := T1.cells
  clear T1
  go_wp2_with fail
  go_region_held3 (fun w' => (w'.cell? ⟨w.heap.size, 0, none⟩ = some (.int .u32 a) ∧ w'.cell? ⟨w.heap.size, 1, none⟩ = some (.int .i64 b)) ∧ (w'.cell? ⟨w.heap.size + 1, 0, none⟩ = some (.int .u32 a) ∧ w'.cell? ⟨w.heap.size + 1, 1, none⟩ = some (.int .i64 b)) ∧ (w'.cell? ⟨w.heap.size + 2, 0, none⟩ = some (.int .u32 g) ∧ w'.cell? ⟨w.heap.size + 2, 1, none⟩ = some (.int .i64 h)))
    (first
      | go_keep
      | (go_split_ands; refine ⟨⟨?_, ?_⟩, ⟨?_, ?_⟩, ?_, ?_⟩ <;> assumption))
    (first
      | ((with_reducible refine (cmp_is K1.out _).mono ?_); rintro e wz ⟨rfl, hbz⟩; replace T := T.call hbz; clear hbz; clear p0 p1 q0 q1 r0 r1; obtain ⟨⟨p0, p1⟩, ⟨q0, q1⟩, r0, r1⟩ := T.cells)
      | ((with_reducible refine (cmp_is K2.out _).mono ?_); rintro e wz ⟨rfl, hbz⟩; replace T := T.call hbz; clear hbz; clear p0 p1 q0 q1 r0 r1; obtain ⟨⟨p0, p1⟩, ⟨q0, q1⟩, r0, r1⟩ := T.cells)
      | ((with_reducible refine (cmp_is K3.out _).mono ?_); rintro e wz ⟨rfl, hbz⟩; replace T := T.call hbz; clear hbz; clear p0 p1 q0 q1 r0 r1; obtain ⟨⟨p0, p1⟩, ⟨q0, q1⟩, r0, r1⟩ := T.cells))
  all_goals
    go_wp2_with fail
    refine (cmp_is K4.out _).mono ?_
    rintro e w5 ⟨rfl, hb5⟩
    replace T := T.call hb5
    clear p0 p1 q0 q1 r0 r1 hb5
    obtain ⟨⟨p0, p1⟩, ⟨q0, q1⟩, r0, r1⟩ := T.cells
    go_wp2_with fail
    go_ret
    exact ⟨rfl, T.below⟩
set_option maxRecDepth 100000 in
set_option maxHeartbeats 4000000 in
theorem order_m0a (a : Nat) (b : Int) (c : Nat) (d : Int) (g : Nat) (h : Int) (y z : Int) (w : World) (ha : a < 4294967296) (hc : c < 4294967296) 
    (h0 : w.cell? ⟨0, 0, none⟩ = some (.int .u32 167772160)) (h1 : w.cell? ⟨0, 1, none⟩ = some (.int .i64 8)) (k1 : cmpP a b c d = -1) (k2 : cmpP c d g h = y) (k3 : cmpP a b g h = z) (k4 : cmpP c d a b = 1) (hy : y ≤ 0) (hz : ¬ 0 < z) (k5 : withinB a b c d = false) (hne : ((a : Int) == c) = false) :
    Calls Tryd.prog 12 #[.agg #[.int .u32 a, .int .i64 b], .agg #[.int .u32 c, .int .i64 d], .agg #[.int .u32 g, .int .i64 h]] w fun e w' => e = .returned (.bool true) ∧ Below w.heap.size w w' := by
  have hl := World.block_lt_of_cell? w _ h0
  simp only at hl
  have K1 := Lib.hid k1
  have K2 := Lib.hid k2
  have K3 := Lib.hid k3
  have K4 := Lib.hid k4
  clear k1 k2 k3 k4
  have K5 := Lib.hid k5
  clear k5
  go_enter Tryd.func12, Tryd.ntmps12
  go_wp2_with fail
  refine (addrLives_true _ (by go_simp) (by go_simp)).mono ?_
  rintro e w1 ⟨rfl, hb1⟩
  have T : Three w a b c d g h w1.drew := (Three.start (by simpa using hb1)).drew
  have T1 : Three w a b c d g h w1 := (Three.start (by simpa using hb1))
  clear hb1
  obtain ⟨⟨p0, p1⟩, ⟨q0, q1⟩, r0, r1⟩ := T1.cells
  clear T1
  go_wp2_with fail
  go_region_held3 (fun w' => (w'.cell? ⟨w.heap.size, 0, none⟩ = some (.int .u32 a) ∧ w'.cell? ⟨w.heap.size, 1, none⟩ = some (.int .i64 b)) ∧ (w'.cell? ⟨w.heap.size + 1, 0, none⟩ = some (.int .u32 c) ∧ w'.cell? ⟨w.heap.size + 1, 1, none⟩ = some (.int .i64 d)) ∧ (w'.cell? ⟨w.heap.size + 2, 0, none⟩ = some (.int .u32 g) ∧ w'.cell? ⟨w.heap.size + 2, 1, none⟩ = some (.int .i64 h)))
    (first
      | go_keep
      | (go_split_ands; refine ⟨⟨?_, ?_⟩, ⟨?_, ?_⟩, ?_, ?_⟩ <;> assumption))
    (first
      | ((with_reducible refine (cmp_is K1.out _).mono ?_); rintro e wz ⟨rfl, hbz⟩; replace T := T.call hbz; clear hbz; clear p0 p1 q0 q1 r0 r1; obtain ⟨⟨p0, p1⟩, ⟨q0, q1⟩, r0, r1⟩ := T.cells)
      | ((with_reducible refine (cmp_is K2.out _).mono ?_); rintro e wz ⟨rfl, hbz⟩; replace T := T.call hbz; clear hbz; clear p0 p1 q0 q1 r0 r1; obtain ⟨⟨p0, p1⟩, ⟨q0, q1⟩, r0, r1⟩ := T.cells)
      | ((with_reducible refine (cmp_is K3.out _).mono ?_); rintro e wz ⟨rfl, hbz⟩; replace T := T.call hbz; clear hbz; clear p0 p1 q0 q1 r0 r1; obtain ⟨⟨p0, p1⟩, ⟨q0, q1⟩, r0, r1⟩ := T.cells))
  all_goals
    go_wp2_with fail
    refine (cmp_is K4.out _).mono ?_
    rintro e w5 ⟨rfl, hb5⟩
    replace T := T.call hb5
    clear p0 p1 q0 q1 r0 r1 hb5
    obtain ⟨⟨p0, p1⟩, ⟨q0, q1⟩, r0, r1⟩ := T.cells
    go_wp2_with fail
    refine (within_is K5.out _ ha hc).mono ?_
    rintro e w6 ⟨rfl, hb6⟩
    replace T := T.call hb6
    clear p0 p1 q0 q1 r0 r1 hb6
    go_wp2_with fail
    go_ret
    exact ⟨rfl, T.below⟩
set_option maxRecDepth 100000 in
set_option maxHeartbeats 4000000 in
theorem order_m1a (a : Nat) (b : Int) (c : Nat) (d : Int) (g : Nat) (h : Int) (y z : Int) (w : World) (ha : a < 4294967296) (hc : c < 4294967296) 
    (h0 : w.cell? ⟨0, 0, none⟩ = some (.int .u32 167772160)) (h1 : w.cell? ⟨0, 1, none⟩ = some (.int .i64 8)) (k1 : cmpP a b c d = -1) (k2 : cmpP c d g h = y) (k3 : cmpP a b g h = z) (k4 : cmpP c d a b = 1) (hy : ¬ y ≤ 0) (k5 : withinB a b c d = false) (hne : ((a : Int) == c) = false) :
    Calls Tryd.prog 12 #[.agg #[.int .u32 a, .int .i64 b], .agg #[.int .u32 c, .int .i64 d], .agg #[.int .u32 g, .int .i64 h]] w fun e w' => e = .returned (.bool true) ∧ Below w.heap.size w w' := by
  have hl := World.block_lt_of_cell? w _ h0
  simp only at hl
  have K1 := Lib.hid k1
  have K2 := Lib.hid k2
  have K3 := Lib.hid k3
  have K4 := Lib.hid k4
  clear k1 k2 k3 k4
  have K5 := Lib.hid k5
  clear k5
  go_enter Tryd.func12, Tryd.ntmps12
  go_wp2_with fail
  refine (addrLives_true _ (by go_simp) (by go_simp)).mono ?_
  rintro e w1 ⟨rfl, hb1⟩
  have T : Three w a b c d g h w1.drew := (Three.start (by simpa using hb1)).drew
  have T1 : Three w a b c d g h w1 := (Three.start (by simpa using hb1))
  clear hb1
  obtain ⟨⟨p0, p1⟩, ⟨q0, q1⟩, r0, r1⟩ := T1.cells
  clear T1
  go_wp2_with fail
  go_region_held3 (fun w' => (w'.cell? ⟨w.heap.size, 0, none⟩ = some (.int .u32 a) ∧ w'.cell? ⟨w.heap.size, 1, none⟩ = some (.int .i64 b)) ∧ (w'.cell? ⟨w.heap.size + 1, 0, none⟩ = some (.int .u32 c) ∧ w'.cell? ⟨w.heap.size + 1, 1, none⟩ = some (.int .i64 d)) ∧ (w'.cell? ⟨w.heap.size + 2, 0, none⟩ = some (.int .u32 g) ∧ w'.cell? ⟨w.heap.size + 2, 1, none⟩ = some (.int .i64 h)))
    (first
      | go_keep
      | (go_split_ands; refine ⟨⟨?_, ?_⟩, ⟨?_, ?_⟩, ?_, ?_⟩ <;> assumption))
    (first
      | ((with_reducible refine (cmp_is K1.out _).mono ?_); rintro e wz ⟨rfl, hbz⟩; replace T := T.call hbz; clear hbz; clear p0 p1 q0 q1 r0 r1; obtain ⟨⟨p0, p1⟩, ⟨q0, q1⟩, r0, r1⟩ := T.cells)
      | ((with_reducible refine (cmp_is K2.out _).mono ?_); rintro e wz ⟨rfl, hbz⟩; replace T := T.call hbz; clear hbz; clear p0 p1 q0 q1 r0 r1; obtain ⟨⟨p0, p1⟩, ⟨q0, q1⟩, r0, r1⟩ := T.cells)
      | ((with_reducible refine (cmp_is K3.out _).mono ?_); rintro e wz ⟨rfl, hbz⟩; replace T := T.call hbz; clear hbz; clear p0 p1 q0 q1 r0 r1; obtain ⟨⟨p0, p1⟩, ⟨q0, q1⟩, r0, r1⟩ := T.cells))
  all_goals
    go_wp2_with fail
    refine (cmp_is K4.out _).mono ?_
    rintro e w5 ⟨rfl, hb5⟩
    replace T := T.call hb5
    clear p0 p1 q0 q1 r0 r1 hb5
    obtain ⟨⟨p0, p1⟩, ⟨q0, q1⟩, r0, r1⟩ := T.cells
    go_wp2_with fail
    refine (within_is K5.out _ ha hc).mono ?_
    rintro e w6 ⟨rfl, hb6⟩
    replace T := T.call hb6
    clear p0 p1 q0 q1 r0 r1 hb6
    go_wp2_with fail
    go_ret
    exact ⟨rfl, T.below⟩
set_option maxRecDepth 100000 in
set_option maxHeartbeats 4000000 in
theorem order_p0a (a : Nat) (b : Int) (c : Nat) (d : Int) (g : Nat) (h : Int) (y z : Int) (w : World) (ha : a < 4294967296) (hc : c < 4294967296) 
    (h0 : w.cell? ⟨0, 0, none⟩ = some (.int .u32 167772160)) (h1 : w.cell? ⟨0, 1, none⟩ = some (.int .i64 8)) (k1 : cmpP a b c d = 1) (k2 : cmpP c d g h = y) (k3 : cmpP a b g h = z) (k4 : cmpP c d a b = -1) (k5 : withinB a b c d = false) (hne : ((a : Int) == c) = false) :
    Calls Tryd.prog 12 #[.agg #[.int .u32 a, .int .i64 b], .agg #[.int .u32 c, .int .i64 d], .agg #[.int .u32 g, .int .i64 h]] w fun e w' => e = .returned (.bool true) ∧ Below w.heap.size w w' := by
  have hl := World.block_lt_of_cell? w _ h0
  simp only at hl
  have K1 := Lib.hid k1
  have K2 := Lib.hid k2
  have K3 := Lib.hid k3
  have K4 := Lib.hid k4
  clear k1 k2 k3 k4
  have K5 := Lib.hid k5
  clear k5
  go_enter Tryd.func12, Tryd.ntmps12
  go_wp2_with fail
  refine (addrLives_true _ (by go_simp) (by go_simp)).mono ?_
  rintro e w1 ⟨rfl, hb1⟩
  have T : Three w a b c d g h w1.drew := (Three.start (by simpa using hb1)).drew
  have T1 : Three w a b c d g h w1 := (Three.start (by simpa using hb1))
  clear hb1
  obtain ⟨⟨p0, p1⟩, ⟨q0, q1⟩, r0, r1⟩ := T1.cells
  clear T1
  go_wp2_with fail
  go_region_held3 (fun w' => (w'.cell? ⟨w.heap.size, 0, none⟩ = some (.int .u32 a) ∧ w'.cell? ⟨w.heap.size, 1, none⟩ = some (.int .i64 b)) ∧ (w'.cell? ⟨w.heap.size + 1, 0, none⟩ = some (.int .u32 c) ∧ w'.cell? ⟨w.heap.size + 1, 1, none⟩ = some (.int .i64 d)) ∧ (w'.cell? ⟨w.heap.size + 2, 0, none⟩ = some (.int .u32 g) ∧ w'.cell? ⟨w.heap.size + 2, 1, none⟩ = some (.int .i64 h)))
    (first
      | go_keep
      | (go_split_ands; refine ⟨⟨?_, ?_⟩, ⟨?_, ?_⟩, ?_, ?_⟩ <;> assumption))
    (first
      | ((with_reducible refine (cmp_is K1.out _).mono ?_); rintro e wz ⟨rfl, hbz⟩; replace T := T.call hbz; clear hbz; clear p0 p1 q0 q1 r0 r1; obtain ⟨⟨p0, p1⟩, ⟨q0, q1⟩, r0, r1⟩ := T.cells)
      | ((with_reducible refine (cmp_is K2.out _).mono ?_); rintro e wz ⟨rfl, hbz⟩; replace T := T.call hbz; clear hbz; clear p0 p1 q0 q1 r0 r1; obtain ⟨⟨p0, p1⟩, ⟨q0, q1⟩, r0, r1⟩ := T.cells)
      | ((with_reducible refine (cmp_is K3.out _).mono ?_); rintro e wz ⟨rfl, hbz⟩; replace T := T.call hbz; clear hbz; clear p0 p1 q0 q1 r0 r1; obtain ⟨⟨p0, p1⟩, ⟨q0, q1⟩, r0, r1⟩ := T.cells))
  all_goals
    go_wp2_with fail
    refine (cmp_is K4.out _).mono ?_
    rintro e w5 ⟨rfl, hb5⟩
    replace T := T.call hb5
    clear p0 p1 q0 q1 r0 r1 hb5
    obtain ⟨⟨p0, p1⟩, ⟨q0, q1⟩, r0, r1⟩ := T.cells
    go_wp2_with fail
    refine (within_is K5.out _ ha hc).mono ?_
    rintro e w6 ⟨rfl, hb6⟩
    replace T := T.call hb6
    clear p0 p1 q0 q1 r0 r1 hb6
    go_wp2_with fail
    go_ret
    exact ⟨rfl, T.below⟩
set_option maxRecDepth 100000 in
set_option maxHeartbeats 4000000 in
theorem order_p1a (a : Nat) (b : Int) (c : Nat) (d : Int) (g : Nat) (h : Int) (y z : Int) (w : World) (ha : a < 4294967296) (hc : c < 4294967296) 
    (h0 : w.cell? ⟨0, 0, none⟩ = some (.int .u32 167772160)) (h1 : w.cell? ⟨0, 1, none⟩ = some (.int .i64 8)) (k1 : cmpP a b c d = 1) (k2 : cmpP c d g h = y) (k3 : cmpP a b g h = z) (k4 : cmpP c d a b = -1) (k5 : withinB a b c d = true) (hne : ((a : Int) == c) = false) :
    Calls Tryd.prog 12 #[.agg #[.int .u32 a, .int .i64 b], .agg #[.int .u32 c, .int .i64 d], .agg #[.int .u32 g, .int .i64 h]] w fun e w' => e = .returned (.bool true) ∧ Below w.heap.size w w' := by
  have hl := World.block_lt_of_cell? w _ h0
  simp only at hl
  have K1 := Lib.hid k1
  have K2 := Lib.hid k2
  have K3 := Lib.hid k3
  have K4 := Lib.hid k4
  clear k1 k2 k3 k4
  have K5 := Lib.hid k5
  clear k5
  go_enter Tryd.func12, Tryd.ntmps12
  go_wp2_with fail
  refine (addrLives_true _ (by go_simp) (by go_simp)).mono ?_
  rintro e w1 ⟨rfl, hb1⟩
  have T : Three w a b c d g h w1.drew := (Three.start (by simpa using hb1)).drew
  have T1 : Three w a b c d g h w1 := (Three.start (by simpa using hb1))
  clear hb1
  obtain ⟨⟨p0, p1⟩, ⟨q0, q1⟩, r0, r1⟩ := T1.cells
  clear T1
  go_wp2_with fail
  go_region_held3 (fun w' => (w'.cell? ⟨w.heap.size, 0, none⟩ = some (.int .u32 a) ∧ w'.cell? ⟨w.heap.size, 1, none⟩ = some (.int .i64 b)) ∧ (w'.cell? ⟨w.heap.size + 1, 0, none⟩ = some (.int .u32 c) ∧ w'.cell? ⟨w.heap.size + 1, 1, none⟩ = some (.int .i64 d)) ∧ (w'.cell? ⟨w.heap.size + 2, 0, none⟩ = some (.int .u32 g) ∧ w'.cell? ⟨w.heap.size + 2, 1, none⟩ = some (.int .i64 h)))
    (first
      | go_keep
      | (go_split_ands; refine ⟨⟨?_, ?_⟩, ⟨?_, ?_⟩, ?_, ?_⟩ <;> assumption))
    (first
      | ((with_reducible refine (cmp_is K1.out _).mono ?_); rintro e wz ⟨rfl, hbz⟩; replace T := T.call hbz; clear hbz; clear p0 p1 q0 q1 r0 r1; obtain ⟨⟨p0, p1⟩, ⟨q0, q1⟩, r0, r1⟩ := T.cells)
      | ((with_reducible refine (cmp_is K2.out _).mono ?_); rintro e wz ⟨rfl, hbz⟩; replace T := T.call hbz; clear hbz; clear p0 p1 q0 q1 r0 r1; obtain ⟨⟨p0, p1⟩, ⟨q0, q1⟩, r0, r1⟩ := T.cells)
      | ((with_reducible refine (cmp_is K3.out _).mono ?_); rintro e wz ⟨rfl, hbz⟩; replace T := T.call hbz; clear hbz; clear p0 p1 q0 q1 r0 r1; obtain ⟨⟨p0, p1⟩, ⟨q0, q1⟩, r0, r1⟩ := T.cells))
  all_goals
    go_wp2_with fail
    refine (cmp_is K4.out _).mono ?_
    rintro e w5 ⟨rfl, hb5⟩
    replace T := T.call hb5
    clear p0 p1 q0 q1 r0 r1 hb5
    obtain ⟨⟨p0, p1⟩, ⟨q0, q1⟩, r0, r1⟩ := T.cells
    go_wp2_with fail
    refine (within_is K5.out _ ha hc).mono ?_
    rintro e w6 ⟨rfl, hb6⟩
    replace T := T.call hb6
    clear p0 p1 q0 q1 r0 r1 hb6
    go_wp2_with fail
    go_ret
    exact ⟨rfl, T.below⟩
set_option maxRecDepth 100000 in
set_option maxHeartbeats 4000000 in
theorem order_m0b (a : Nat) (b : Int) (d : Int) (g : Nat) (h : Int) (y z : Int) (w : World) (ha : a < 4294967296) 
    (h0 : w.cell? ⟨0, 0, none⟩ = some (.int .u32 167772160)) (h1 : w.cell? ⟨0, 1, none⟩ = some (.int .i64 8)) (k1 : cmpP a b a d = -1) (k2 : cmpP a d g h = y) (k3 : cmpP a b g h = z) (k4 : cmpP a d a b = 1) (hy : y ≤ 0) (hz : ¬ 0 < z) (k5 : withinB a b a d = false) (hne : (b == d) = false) :
    Calls Tryd.prog 12 #[.agg #[.int .u32 a, .int .i64 b], .agg #[.int .u32 a, .int .i64 d], .agg #[.int .u32 g, .int .i64 h]] w fun e w' => e = .returned (.bool true) ∧ Below w.heap.size w w' := by
  have hl := World.block_lt_of_cell? w _ h0
  simp only at hl
  have K1 := Lib.hid k1
  have K2 := Lib.hid k2
  have K3 := Lib.hid k3
  have K4 := Lib.hid k4
  clear k1 k2 k3 k4
  have K5 := Lib.hid k5
  clear k5
  go_enter Tryd.func12, Tryd.ntmps12
  go_wp2_with fail
  refine (addrLives_true _ (by go_simp) (by go_simp)).mono ?_
  rintro e w1 ⟨rfl, hb1⟩
  have T : Three w a b a d g h w1.drew := (Three.start (by simpa using hb1)).drew
  have T1 : Three w a b a d g h w1 := (Three.start (by simpa using hb1))
  clear hb1
  obtain ⟨⟨p0, p1⟩, ⟨q0, q1⟩, r0, r1⟩ := T1.cells
  clear T1
  go_wp2_with fail
  go_region_held3 (fun w' => (w'.cell? ⟨w.heap.size, 0, none⟩ = some (.int .u32 a) ∧ w'.cell? ⟨w.heap.size, 1, none⟩ = some (.int .i64 b)) ∧ (w'.cell? ⟨w.heap.size + 1, 0, none⟩ = some (.int .u32 a) ∧ w'.cell? ⟨w.heap.size + 1, 1, none⟩ = some (.int .i64 d)) ∧ (w'.cell? ⟨w.heap.size + 2, 0, none⟩ = some (.int .u32 g) ∧ w'.cell? ⟨w.heap.size + 2, 1, none⟩ = some (.int .i64 h)))
    (first
      | go_keep
      | (go_split_ands; refine ⟨⟨?_, ?_⟩, ⟨?_, ?_⟩, ?_, ?_⟩ <;> assumption))
    (first
      | ((with_reducible refine (cmp_is K1.out _).mono ?_); rintro e wz ⟨rfl, hbz⟩; replace T := T.call hbz; clear hbz; clear p0 p1 q0 q1 r0 r1; obtain ⟨⟨p0, p1⟩, ⟨q0, q1⟩, r0, r1⟩ := T.cells)
      | ((with_reducible refine (cmp_is K2.out _).mono ?_); rintro e wz ⟨rfl, hbz⟩; replace T := T.call hbz; clear hbz; clear p0 p1 q0 q1 r0 r1; obtain ⟨⟨p0, p1⟩, ⟨q0, q1⟩, r0, r1⟩ := T.cells)
      | ((with_reducible refine (cmp_is K3.out _).mono ?_); rintro e wz ⟨rfl, hbz⟩; replace T := T.call hbz; clear hbz; clear p0 p1 q0 q1 r0 r1; obtain ⟨⟨p0, p1⟩, ⟨q0, q1⟩, r0, r1⟩ := T.cells))
  all_goals
    go_wp2_with fail
    refine (cmp_is K4.out _).mono ?_
    rintro e w5 ⟨rfl, hb5⟩
    replace T := T.call hb5
    clear p0 p1 q0 q1 r0 r1 hb5
    obtain ⟨⟨p0, p1⟩, ⟨q0, q1⟩, r0, r1⟩ := T.cells
    go_wp2_with fail
    refine (within_is K5.out _ ha ha).mono ?_
    rintro e w6 ⟨rfl, hb6⟩
    replace T := T.call hb6
    clear p0 p1 q0 q1 r0 r1 hb6
    go_wp2_with fail
    go_ret
    exact ⟨rfl, T.below⟩
set_option maxRecDepth 100000 in
set_option maxHeartbeats 4000000 in
theorem order_m1b (a : Nat) (b : Int) (d : Int) (g : Nat) (h : Int) (y z : Int) (w : World) (ha : a < 4294967296) 
    (h0 : w.cell? ⟨0, 0, none⟩ = some (.int .u32 167772160)) (h1 : w.cell? ⟨0, 1, none⟩ = some (.int .i64 8)) (k1 : cmpP a b a d = -1) (k2 : cmpP a d g h = y) (k3 : cmpP a b g h = z) (k4 : cmpP a d a b = 1) (hy : ¬ y ≤ 0) (k5 : withinB a b a d = false) (hne : (b == d) = false) :
    Calls Tryd.prog 12 #[.agg #[.int .u32 a, .int .i64 b], .agg #[.int .u32 a, .int .i64 d], .agg #[.int .u32 g, .int .i64 h]] w fun e w' => e = .returned (.bool true) ∧ Below w.heap.size w w' := by
  have hl := World.block_lt_of_cell? w _ h0
  simp only at hl
  have K1 := Lib.hid k1
  have K2 := Lib.hid k2
  have K3 := Lib.hid k3
  have K4 := Lib.hid k4
  clear k1 k2 k3 k4
  have K5 := Lib.hid k5
  clear k5
  go_enter Tryd.func12, Tryd.ntmps12
  go_wp2_with fail
  refine (addrLives_true _ (by go_simp) (by go_simp)).mono ?_
  rintro e w1 ⟨rfl, hb1⟩
  have T : Three w a b a d g h w1.drew := (Three.start (by simpa using hb1)).drew
  have T1 : Three w a b a d g h w1 := (Three.start (by simpa using hb1))
  clear hb1
  obtain ⟨⟨p0, p1⟩, ⟨q0, q1⟩, r0, r1⟩ := T1.cells
  clear T1
  go_wp2_with fail
  go_region_held3 (fun w' => (w'.cell? ⟨w.heap.size, 0, none⟩ = some (.int .u32 a) ∧ w'.cell? ⟨w.heap.size, 1, none⟩ = some (.int .i64 b)) ∧ (w'.cell? ⟨w.heap.size + 1, 0, none⟩ = some (.int .u32 a) ∧ w'.cell? ⟨w.heap.size + 1, 1, none⟩ = some (.int .i64 d)) ∧ (w'.cell? ⟨w.heap.size + 2, 0, none⟩ = some (.int .u32 g) ∧ w'.cell? ⟨w.heap.size + 2, 1, none⟩ = some (.int .i64 h)))
    (first
      | go_keep
      | (go_split_ands; refine ⟨⟨?_, ?_⟩, ⟨?_, ?_⟩, ?_, ?_⟩ <;> assumption))
    (first
      | ((with_reducible refine (cmp_is K1.out _).mono ?_); rintro e wz ⟨rfl, hbz⟩; replace T := T.call hbz; clear hbz; clear p0 p1 q0 q1 r0 r1; obtain ⟨⟨p0, p1⟩, ⟨q0, q1⟩, r0, r1⟩ := T.cells)
      | ((with_reducible refine (cmp_is K2.out _).mono ?_); rintro e wz ⟨rfl, hbz⟩; replace T := T.call hbz; clear hbz; clear p0 p1 q0 q1 r0 r1; obtain ⟨⟨p0, p1⟩, ⟨q0, q1⟩, r0, r1⟩ := T.cells)
      | ((with_reducible refine (cmp_is K3.out _).mono ?_); rintro e wz ⟨rfl, hbz⟩; replace T := T.call hbz; clear hbz; clear p0 p1 q0 q1 r0 r1; obtain ⟨⟨p0, p1⟩, ⟨q0, q1⟩, r0, r1⟩ := T.cells))
  all_goals
    go_wp2_with fail
    refine (cmp_is K4.out _).mono ?_
    rintro e w5 ⟨rfl, hb5⟩
    replace T := T.call hb5
    clear p0 p1 q0 q1 r0 r1 hb5
    obtain ⟨⟨p0, p1⟩, ⟨q0, q1⟩, r0, r1⟩ := T.cells
    go_wp2_with fail
    refine (within_is K5.out _ ha ha).mono ?_
    rintro e w6 ⟨rfl, hb6⟩
    replace T := T.call hb6
    clear p0 p1 q0 q1 r0 r1 hb6
    go_wp2_with fail
    go_ret
    exact ⟨rfl, T.below⟩
set_option maxRecDepth 100000 in
set_option maxHeartbeats 4000000 in
theorem order_p0b (a : Nat) (b : Int) (d : Int) (g : Nat) (h : Int) (y z : Int) (w : World) (ha : a < 4294967296) 
    (h0 : w.cell? ⟨0, 0, none⟩ = some (.int .u32 167772160)) (h1 : w.cell? ⟨0, 1, none⟩ = some (.int .i64 8)) (k1 : cmpP a b a d = 1) (k2 : cmpP a d g h = y) (k3 : cmpP a b g h = z) (k4 : cmpP a d a b = -1) (k5 : withinB a b a d = false) (hne : (b == d) = false) :
    Calls Tryd.prog 12 #[.agg #[.int .u32 a, .int .i64 b], .agg #[.int .u32 a, .int .i64 d], .agg #[.int .u32 g, .int .i64 h]] w fun e w' => e = .returned (.bool true) ∧ Below w.heap.size w w' := by
  have hl := World.block_lt_of_cell? w _ h0
  simp only at hl
  have K1 := Lib.hid k1
  have K2 := Lib.hid k2
  have K3 := Lib.hid k3
  have K4 := Lib.hid k4
  clear k1 k2 k3 k4
  have K5 := Lib.hid k5
  clear k5
  go_enter Tryd.func12, Tryd.ntmps12
  go_wp2_with fail
  refine (addrLives_true _ (by go_simp) (by go_simp)).mono ?_
  rintro e w1 ⟨rfl, hb1⟩
  have T : Three w a b a d g h w1.drew := (Three.start (by simpa using hb1)).drew
  have T1 : Three w a b a d g h w1 := (Three.start (by simpa using hb1))
  clear hb1
  obtain ⟨⟨p0, p1⟩, ⟨q0, q1⟩, r0, r1⟩ := T1.cells
  clear T1
  go_wp2_with fail
  go_region_held3 (fun w' => (w'.cell? ⟨w.heap.size, 0, none⟩ = some (.int .u32 a) ∧ w'.cell? ⟨w.heap.size, 1, none⟩ = some (.int .i64 b)) ∧ (w'.cell? ⟨w.heap.size + 1, 0, none⟩ = some (.int .u32 a) ∧ w'.cell? ⟨w.heap.size + 1, 1, none⟩ = some (.int .i64 d)) ∧ (w'.cell? ⟨w.heap.size + 2, 0, none⟩ = some (.int .u32 g) ∧ w'.cell? ⟨w.heap.size + 2, 1, none⟩ = some (.int .i64 h)))
    (first
      | go_keep
      | (go_split_ands; refine ⟨⟨?_, ?_⟩, ⟨?_, ?_⟩, ?_, ?_⟩ <;> assumption))
    (first
      | ((with_reducible refine (cmp_is K1.out _).mono ?_); rintro e wz ⟨rfl, hbz⟩; replace T := T.call hbz; clear hbz; clear p0 p1 q0 q1 r0 r1; obtain ⟨⟨p0, p1⟩, ⟨q0, q1⟩, r0, r1⟩ := T.cells)
      | ((with_reducible refine (cmp_is K2.out _).mono ?_); rintro e wz ⟨rfl, hbz⟩; replace T := T.call hbz; clear hbz; clear p0 p1 q0 q1 r0 r1; obtain ⟨⟨p0, p1⟩, ⟨q0, q1⟩, r0, r1⟩ := T.cells)
      | ((with_reducible refine (cmp_is K3.out _).mono ?_); rintro e wz ⟨rfl, hbz⟩; replace T := T.call hbz; clear hbz; clear p0 p1 q0 q1 r0 r1; obtain ⟨⟨p0, p1⟩, ⟨q0, q1⟩, r0, r1⟩ := T.cells))
  all_goals
    go_wp2_with fail
    refine (cmp_is K4.out _).mono ?_
    rintro e w5 ⟨rfl, hb5⟩
    replace T := T.call hb5
    clear p0 p1 q0 q1 r0 r1 hb5
    obtain ⟨⟨p0, p1⟩, ⟨q0, q1⟩, r0, r1⟩ := T.cells
    go_wp2_with fail
    refine (within_is K5.out _ ha ha).mono ?_
    rintro e w6 ⟨rfl, hb6⟩
    replace T := T.call hb6
    clear p0 p1 q0 q1 r0 r1 hb6
    go_wp2_with fail
    go_ret
    exact ⟨rfl, T.below⟩
set_option maxRecDepth 100000 in
set_option maxHeartbeats 4000000 in
theorem order_p1b (a : Nat) (b : Int) (d : Int) (g : Nat) (h : Int) (y z : Int) (w : World) (ha : a < 4294967296) 
    (h0 : w.cell? ⟨0, 0, none⟩ = some (.int .u32 167772160)) (h1 : w.cell? ⟨0, 1, none⟩ = some (.int .i64 8)) (k1 : cmpP a b a d = 1) (k2 : cmpP a d g h = y) (k3 : cmpP a b g h = z) (k4 : cmpP a d a b = -1) (k5 : withinB a b a d = true) (hne : (b == d) = false) :
    Calls Tryd.prog 12 #[.agg #[.int .u32 a, .int .i64 b], .agg #[.int .u32 a, .int .i64 d], .agg #[.int .u32 g, .int .i64 h]] w fun e w' => e = .returned (.bool true) ∧ Below w.heap.size w w' := by
  have hl := World.block_lt_of_cell? w _ h0
  simp only at hl
  have K1 := Lib.hid k1
  have K2 := Lib.hid k2
  have K3 := Lib.hid k3
  have K4 := Lib.hid k4
  clear k1 k2 k3 k4
  have K5 := Lib.hid k5
  clear k5
  go_enter Tryd.func12, Tryd.ntmps12
  go_wp2_with fail
  refine (addrLives_true _ (by go_simp) (by go_simp)).mono ?_
  rintro e w1 ⟨rfl, hb1⟩
  have T : Three w a b a d g h w1.drew := (Three.start (by simpa using hb1)).drew
  have T1 : Three w a b a d g h w1 := (Three.start (by simpa using hb1))
  clear hb1
  obtain ⟨⟨p0, p1⟩, ⟨q0, q1⟩, r0, r1⟩ := T1.cells
  clear T1
  go_wp2_with fail
  go_region_held3 (fun w' => (w'.cell? ⟨w.heap.size, 0, none⟩ = some (.int .u32 a) ∧ w'.cell? ⟨w.heap.size, 1, none⟩ = some (.int .i64 b)) ∧ (w'.cell? ⟨w.heap.size + 1, 0, none⟩ = some (.int .u32 a) ∧ w'.cell? ⟨w.heap.size + 1, 1, none⟩ = some (.int .i64 d)) ∧ (w'.cell? ⟨w.heap.size + 2, 0, none⟩ = some (.int .u32 g) ∧ w'.cell? ⟨w.heap.size + 2, 1, none⟩ = some (.int .i64 h)))
    (first
      | go_keep
      | (go_split_ands; refine ⟨⟨?_, ?_⟩, ⟨?_, ?_⟩, ?_, ?_⟩ <;> assumption))
    (first
      | ((with_reducible refine (cmp_is K1.out _).mono ?_); rintro e wz ⟨rfl, hbz⟩; replace T := T.call hbz; clear hbz; clear p0 p1 q0 q1 r0 r1; obtain ⟨⟨p0, p1⟩, ⟨q0, q1⟩, r0, r1⟩ := T.cells)
      | ((with_reducible refine (cmp_is K2.out _).mono ?_); rintro e wz ⟨rfl, hbz⟩; replace T := T.call hbz; clear hbz; clear p0 p1 q0 q1 r0 r1; obtain ⟨⟨p0, p1⟩, ⟨q0, q1⟩, r0, r1⟩ := T.cells)
      | ((with_reducible refine (cmp_is K3.out _).mono ?_); rintro e wz ⟨rfl, hbz⟩; replace T := T.call hbz; clear hbz; clear p0 p1 q0 q1 r0 r1; obtain ⟨⟨p0, p1⟩, ⟨q0, q1⟩, r0, r1⟩ := T.cells))
  all_goals
    go_wp2_with fail
    refine (cmp_is K4.out _).mono ?_
    rintro e w5 ⟨rfl, hb5⟩
    replace T := T.call hb5
    clear p0 p1 q0 q1 r0 r1 hb5
    obtain ⟨⟨p0, p1⟩, ⟨q0, q1⟩, r0, r1⟩ := T.cells
    go_wp2_with fail
    refine (within_is K5.out _ ha ha).mono ?_
    rintro e w6 ⟨rfl, hb6⟩
    replace T := T.call hb6
    clear p0 p1 q0 q1 r0 r1 hb6
    go_wp2_with fail
    go_ret
    exact ⟨rfl, T.below⟩
/-- The law's walk, whole. -/
theorem order_any (a : Nat) (b : Int) (c : Nat) (d : Int) (g : Nat) (h : Int) (w : World) (ha : a < 4294967296) (hc : c < 4294967296) (hg : g < 4294967296)
    (h0 : w.cell? ⟨0, 0, none⟩ = some (.int .u32 167772160)) (h1 : w.cell? ⟨0, 1, none⟩ = some (.int .i64 8)) :
    Calls Tryd.prog 12 #[.agg #[.int .u32 a, .int .i64 b], .agg #[.int .u32 c, .int .i64 d], .agg #[.int .u32 g, .int .i64 h]] w fun e w' => e = .returned (.bool true) ∧ Below w.heap.size w w' := by
  have hneg := cmpP_neg a b c d
  by_cases hs : a = c ∧ b = d
  · obtain ⟨rfl, rfl⟩ := hs
    have h0' : cmpP a b a b = 0 := cmpP_zero.2 ⟨rfl, rfl⟩
    by_cases hy : cmpP a b g h ≤ 0
    · exact order_z0 a b g h _ _ w ha h0 h1 h0' rfl rfl h0' hy (by omega)
    · exact order_z1 a b g h _ _ w ha h0 h1 h0' rfl rfl h0' hy
  · have htr := @cmpP_trans a c g b d h
    have hwi := @cmpP_within a c b d
    have hx : cmpP a b c d = -1 ∨ cmpP a b c d = 1 := by rcases cmpP_cases a b c d with k | k | k <;> omega
    by_cases hac : a = c
    · subst hac
      have hne : (b == d) = false := by rw [beq_eq_false_iff_ne]; exact fun e => hs ⟨rfl, e⟩
      rcases hx with hx | hx
      · have hw : withinB a b a d = false := by rw [Bool.eq_false_iff]; exact fun k => by have := hwi k hs; omega
        by_cases hy : cmpP a d g h ≤ 0
        · exact order_m0b a b d g h _ _ w ha h0 h1 hx rfl rfl (by omega) hy (by have := htr (by omega) hy; omega) hw hne
        · exact order_m1b a b d g h _ _ w ha h0 h1 hx rfl rfl (by omega) hy hw hne
      · cases hw : withinB a b a d
        · exact order_p0b a b d g h _ _ w ha h0 h1 hx rfl rfl (by omega) hw hne
        · exact order_p1b a b d g h _ _ w ha h0 h1 hx rfl rfl (by omega) hw hne
    · have hne : ((a : Int) == c) = false := by rw [beq_eq_false_iff_ne]; omega
      rcases hx with hx | hx
      · have hw : withinB a b c d = false := by rw [Bool.eq_false_iff]; exact fun k => by have := hwi k hs; omega
        by_cases hy : cmpP c d g h ≤ 0
        · exact order_m0a a b c d g h _ _ w ha hc h0 h1 hx rfl rfl (by omega) hy (by have := htr (by omega) hy; omega) hw hne
        · exact order_m1a a b c d g h _ _ w ha hc h0 h1 hx rfl rfl (by omega) hy hw hne
      · cases hw : withinB a b c d
        · exact order_p0a a b c d g h _ _ w ha hc h0 h1 hx rfl rfl (by omega) hw hne
        · exact order_p1a a b c d g h _ _ w ha hc h0 h1 hx rfl rfl (by omega) hw hne
end Go.Proofs.YtaknlphmplimhaaDoor
