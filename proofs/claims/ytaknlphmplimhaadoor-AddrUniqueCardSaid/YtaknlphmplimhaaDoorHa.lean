/- The walk of AddrHalves, which returns true; an address of 32 bits, a prefix by value; the world holds the variable ten. -/
import Derived.Test.YtaknlphmplimhaaDoorPx
import Derived.Test.YtaknlphmplimhaaDoorPa
import Derived.IntWalk
set_option linter.unusedVariables false
set_option linter.unusedSimpArgs false
namespace Go.Proofs.YtaknlphmplimhaaDoor
open Go.RowKit Go.Proofs
/-- A box of a prefix: block g of a world. -/
def Box (w : World) (g a : Nat) (b : Int) : Prop := w.heap[g]? = some (.cells #[.int .u32 a, .int .i64 b] 25 (0, 0))
theorem Box.lt {w : World} {g a : Nat} {b : Int} (h : Box w g a b) : g < w.heap.size := (Array.getElem?_eq_some_iff.1 h).1
theorem Box.cells {w : World} {g a : Nat} {b : Int} (h : Box w g a b) : w.cell? ⟨g, 0, none⟩ = some (.int .u32 a) ∧ w.cell? ⟨g, 1, none⟩ = some (.int .i64 b) :=
  ⟨cell_of_row w g 0 _ 25 (0, 0) h, cell_of_row w g 1 _ 25 (0, 0) h⟩
theorem Box.grow {w w' : World} {g a : Nat} {b : Int} (h : Box w g a b) (hb : Below w.heap.size w w') : Box w' g a b := (hb.block g h.lt).trans h
theorem has_is {a : Nat} {b : Int} {x : Nat} {X : Bool} (h : hasB a b x = X) (w : World) (ha : a < 4294967296) (hx : x < 4294967296) :
    Calls Tryd.prog 30 #[.agg #[.int .u32 a, .int .i64 b], .int .u32 x] w fun e w' => e = .returned (.bool X) ∧ Below w.heap.size w w' := h ▸ has_any a b x w ha hx
theorem within_is {a : Nat} {b : Int} {c : Nat} {d : Int} {X : Bool} (h : withinB a b c d = X) (w : World) (ha : a < 4294967296) (hc : c < 4294967296) :
    Calls Tryd.prog 55 #[.agg #[.int .u32 a, .int .i64 b], .agg #[.int .u32 c, .int .i64 d]] w fun e w' => e = .returned (.bool X) ∧ Below w.heap.size w w' := h ▸ within_any a b c d w ha hc
theorem high_eq (a b : Nat) (ha : a < 4294967296) (hc : chkE a b = 0) (hb : b < 32) : bits .or .u32 (a : Int) (IntKind.u32.wrap (2 ^ (31 - b))) = ((a + sz ((b : Int) + 1) : Nat) : Int) := by
  have e : sz ((b : Int) + 1) = 2 ^ (31 - b) := by unfold sz; rw [show (32 - ((b : Int) + 1)).toNat = 31 - b by omega]
  have hl : 2 ^ (31 - b) ≤ 2 ^ 31 := Nat.pow_le_pow_right (by decide) (by omega)
  have e2 : IntKind.u32.wrap (2 ^ (31 - b)) = ((2 ^ (31 - b) : Nat) : Int) := by
    rw [show ((2 : Int) ^ (31 - b)) = ((2 ^ (31 - b) : Nat) : Int) by rw [Int.natCast_pow]; rfl]
    generalize 2 ^ (31 - b) = n at hl
    have e : (n : Int) % 2 ^ 32 = n := Int.emod_eq_of_lt (by omega) (by omega)
    simp only [IntKind.wrap, IntKind.bits, IntKind.signed, e]
    simp
  rw [e2, u32_or_nat a _ ha (by omega), ← e, or_half ha hc (by omega)]
set_option maxRecDepth 100000 in
set_option maxHeartbeats 4000000 in
theorem halves_l (a b x h : Nat) (w : World) (ha : a < 4294967296) (hx : x < 4294967296) (hh : h < 4294967296) (hc : chkE a b = 0) (hb : b < 32) (he : a + sz ((b : Int) + 1) = h)
    (h0 : w.cell? ⟨0, 0, none⟩ = some (.int .u32 167772160)) (h1 : w.cell? ⟨0, 1, none⟩ = some (.int .i64 8))
    (k1 : hasB a ((b : Int) + 1) x = true) (k2 : hasB h ((b : Int) + 1) x = false) (k3 : hasB a b x = true) (k4 : withinB a ((b : Int) + 1) a b = true) (k5 : withinB h ((b : Int) + 1) a b = true) :
    Calls Tryd.prog 10 #[.agg #[.int .u32 a, .int .i64 b], .int .u32 x] w fun e w' => e = .returned (.bool true) ∧ Below w.heap.size w w' := by
  have hl := World.block_lt_of_cell? w _ h0
  simp only at hl
  have Hc := Lib.hid hc
  have hne : ((b : Int) == 32) = false := by rw [beq_eq_false_iff_ne]; omega
  have HE := Lib.hid (high_eq a b ha hc hb)
  rw [he] at HE
  have K1 := Lib.hid k1
  have K2 := Lib.hid k2
  have K3 := Lib.hid k3
  have K4 := Lib.hid k4
  have K5 := Lib.hid k5
  clear hc he k1 k2 k3 k4 k5
  go_enter Tryd.func10, Tryd.ntmps10
  go_wp2_with fail
  refine (addrLives_true _ (by go_simp) (by go_simp)).mono ?_
  rintro e w1 ⟨rfl, hb1⟩
  have B1 : Box w1 w.heap.size a b := (hb1.block _ (by simp)).trans (heap_alloc_new w _)
  have hB1 : Below w.heap.size w w1 := bthen ((Below.refl _ _).alloc (Nat.le_refl _) _) (by simp) hb1
  obtain ⟨p0, p1⟩ := B1.cells
  have hs1 := B1.lt
  clear hb1
  go_wp2_with fail
  refine (check_any a b _ ha).mono ?_
  rw [Hc.out]
  rintro e w2 ⟨rfl, hb2⟩
  have B2 := B1.grow hb2
  have hB2 := bthen hB1 hB1.size hb2
  clear p0 p1
  obtain ⟨p0, p1⟩ := B2.cells
  have hs2 := B2.lt
  clear B1 hB1 hb2 hs1
  go_wp2_with fail
  have hwd : IntKind.i64.wrap (31 - (b : Int)) = 31 - (b : Int) := IntWalk.i64_in _ (by omega)
  have hwr : IntKind.i64.wrap ((b : Int) + 1) = (b : Int) + 1 := IntWalk.i64_in _ (by omega)
  have h31 : 0 ≤ 31 - (b : Int) := by omega
  have hnn : ¬ (31 - (b : Int) < 0) := by omega
  go_region_held3 (fun w' => w'.cell? ⟨w.heap.size, 0, none⟩ = some (.int .u32 a) ∧ w'.cell? ⟨w.heap.size, 1, none⟩ = some (.int .i64 b))
    (first
      | go_keep
      | (go_split_ands; refine ⟨?_, ?_⟩ <;> assumption))
    (fail)
  all_goals
    rw [HE.out]
    have HB3 := Lib.hid (((hB2.alloc hB2.size (.cells #[.int .u32 a, .int .i64 ((b : Int) + 1)] 25)).alloc (by have := hB2.size; simp; omega) (.cells #[.int .u32 h, .int .i64 ((b : Int) + 1)] 25)).drew)
    have BL : Box (((w2.alloc (.cells #[.int .u32 a, .int .i64 ((b : Int) + 1)] 25)).alloc (.cells #[.int .u32 h, .int .i64 ((b : Int) + 1)] 25)).drew) w2.heap.size a ((b : Int) + 1) := (heap_alloc_old _ _ (by simp)).trans (heap_alloc_new w2 _)
    have BH : Box (((w2.alloc (.cells #[.int .u32 a, .int .i64 ((b : Int) + 1)] 25)).alloc (.cells #[.int .u32 h, .int .i64 ((b : Int) + 1)] 25)).drew) (w2.heap.size + 1) h ((b : Int) + 1) := by
      have := heap_alloc_new (w2.alloc (.cells #[.int .u32 a, .int .i64 ((b : Int) + 1)] 25)) (.cells #[.int .u32 h, .int .i64 ((b : Int) + 1)] 25)
      rw [show (w2.alloc (.cells #[.int .u32 a, .int .i64 ((b : Int) + 1)] 25)).heap.size = w2.heap.size + 1 by simp] at this
      exact this
    have BP : Box (((w2.alloc (.cells #[.int .u32 a, .int .i64 ((b : Int) + 1)] 25)).alloc (.cells #[.int .u32 h, .int .i64 ((b : Int) + 1)] 25)).drew) w.heap.size a b := (heap_alloc_old _ _ (by simp; omega)).trans ((heap_alloc_old _ _ hs2).trans B2)
    clear B2 hwd hwr h31 hnn p0 p1
    go_wp2_with fail
    generalize (((w2.alloc (.cells #[.int .u32 a, .int .i64 ((b : Int) + 1)] 25)).alloc (.cells #[.int .u32 h, .int .i64 ((b : Int) + 1)] 25)).drew) = w3 at HB3 BL BH BP ⊢
    obtain ⟨l0, l1⟩ := BL.cells
    obtain ⟨m0, m1⟩ := BH.cells
    go_region_held3 (fun w' => w'.cell? ⟨w2.heap.size, 0, none⟩ = some (.int .u32 a) ∧ w'.cell? ⟨w2.heap.size, 1, none⟩ = some (.int .i64 ((b : Int) + 1)) ∧ w'.cell? ⟨w2.heap.size + 1, 0, none⟩ = some (.int .u32 h) ∧ w'.cell? ⟨w2.heap.size + 1, 1, none⟩ = some (.int .i64 ((b : Int) + 1)))
      (first
        | go_keep
        | (go_split_ands; refine ⟨?_, ?_, ?_, ?_⟩ <;> assumption))
      (first
        | ((with_reducible refine (has_is K1.out _ ha hx).mono ?_); rintro e w4 ⟨rfl, hb4⟩
           have CP := BP.grow ⟨hb4.os, hb4.tape, hb4.output, hb4.size, hb4.block⟩
           have CL := BL.grow ⟨hb4.os, hb4.tape, hb4.output, hb4.size, hb4.block⟩
           have CH := BH.grow ⟨hb4.os, hb4.tape, hb4.output, hb4.size, hb4.block⟩
           have HB4 := Lib.hid (bthen HB3.out.drew HB3.out.size hb4)
           obtain ⟨l2, l3⟩ := CL.cells
           obtain ⟨m2, m3⟩ := CH.cells
           clear hb4)
        | ((with_reducible refine (has_is K2.out _ hh hx).mono ?_); rintro e w5 ⟨rfl, hb5⟩
           have DP := CP.grow hb5
           have DL := CL.grow hb5
           have DH := CH.grow hb5
           have HB5 := Lib.hid (bthen HB4.out HB4.out.size hb5)
           obtain ⟨l4, l5⟩ := DL.cells
           obtain ⟨m4, m5⟩ := DH.cells
           clear hb5))
    all_goals
      obtain ⟨p0, p1⟩ := DP.cells
      have hs5 := HB5.out.size
      clear BL BH BP CP CL CH l0 l1 l2 l3 m0 m1 m2 m3 HB3 HB4
      go_wp2_with fail
      refine (has_is K3.out _ ha hx).mono ?_
      rintro e w6 ⟨rfl, hb6⟩
      have EP := DP.grow hb6
      have EL := DL.grow hb6
      have EH := DH.grow hb6
      have HB6 := Lib.hid (bthen HB5.out hs5 hb6)
      clear p0 p1 l4 l5 m4 m5 DP DL DH hb6
      obtain ⟨p0, p1⟩ := EP.cells
      obtain ⟨l4, l5⟩ := EL.cells
      obtain ⟨m4, m5⟩ := EH.cells
      go_wp2_with fail
      refine (within_is K4.out _ ha ha).mono ?_
      rintro e w7 ⟨rfl, hb7⟩
      have FP := EP.grow hb7
      have FH := EH.grow hb7
      have HB7 := Lib.hid (bthen HB6.out HB6.out.size hb7)
      clear p0 p1 l4 l5 m4 m5 EP EL EH hb7
      obtain ⟨p0, p1⟩ := FP.cells
      obtain ⟨m4, m5⟩ := FH.cells
      go_wp2_with fail
      refine (within_is K5.out _ hh ha).mono ?_
      rintro e w8 ⟨rfl, hb8⟩
      have HB8 := Lib.hid (bthen HB7.out HB7.out.size hb8)
      go_wp2_with fail
      go_ret
      exact ⟨rfl, HB8.out⟩
set_option maxRecDepth 100000 in
set_option maxHeartbeats 4000000 in
theorem halves_r (a b x h : Nat) (w : World) (ha : a < 4294967296) (hx : x < 4294967296) (hh : h < 4294967296) (hc : chkE a b = 0) (hb : b < 32) (he : a + sz ((b : Int) + 1) = h)
    (h0 : w.cell? ⟨0, 0, none⟩ = some (.int .u32 167772160)) (h1 : w.cell? ⟨0, 1, none⟩ = some (.int .i64 8))
    (k1 : hasB a ((b : Int) + 1) x = false) (k2 : hasB h ((b : Int) + 1) x = true) (k3 : hasB a b x = true) (k4 : withinB a ((b : Int) + 1) a b = true) (k5 : withinB h ((b : Int) + 1) a b = true) :
    Calls Tryd.prog 10 #[.agg #[.int .u32 a, .int .i64 b], .int .u32 x] w fun e w' => e = .returned (.bool true) ∧ Below w.heap.size w w' := by
  have hl := World.block_lt_of_cell? w _ h0
  simp only at hl
  have Hc := Lib.hid hc
  have hne : ((b : Int) == 32) = false := by rw [beq_eq_false_iff_ne]; omega
  have HE := Lib.hid (high_eq a b ha hc hb)
  rw [he] at HE
  have K1 := Lib.hid k1
  have K2 := Lib.hid k2
  have K3 := Lib.hid k3
  have K4 := Lib.hid k4
  have K5 := Lib.hid k5
  clear hc he k1 k2 k3 k4 k5
  go_enter Tryd.func10, Tryd.ntmps10
  go_wp2_with fail
  refine (addrLives_true _ (by go_simp) (by go_simp)).mono ?_
  rintro e w1 ⟨rfl, hb1⟩
  have B1 : Box w1 w.heap.size a b := (hb1.block _ (by simp)).trans (heap_alloc_new w _)
  have hB1 : Below w.heap.size w w1 := bthen ((Below.refl _ _).alloc (Nat.le_refl _) _) (by simp) hb1
  obtain ⟨p0, p1⟩ := B1.cells
  have hs1 := B1.lt
  clear hb1
  go_wp2_with fail
  refine (check_any a b _ ha).mono ?_
  rw [Hc.out]
  rintro e w2 ⟨rfl, hb2⟩
  have B2 := B1.grow hb2
  have hB2 := bthen hB1 hB1.size hb2
  clear p0 p1
  obtain ⟨p0, p1⟩ := B2.cells
  have hs2 := B2.lt
  clear B1 hB1 hb2 hs1
  go_wp2_with fail
  have hwd : IntKind.i64.wrap (31 - (b : Int)) = 31 - (b : Int) := IntWalk.i64_in _ (by omega)
  have hwr : IntKind.i64.wrap ((b : Int) + 1) = (b : Int) + 1 := IntWalk.i64_in _ (by omega)
  have h31 : 0 ≤ 31 - (b : Int) := by omega
  have hnn : ¬ (31 - (b : Int) < 0) := by omega
  go_region_held3 (fun w' => w'.cell? ⟨w.heap.size, 0, none⟩ = some (.int .u32 a) ∧ w'.cell? ⟨w.heap.size, 1, none⟩ = some (.int .i64 b))
    (first
      | go_keep
      | (go_split_ands; refine ⟨?_, ?_⟩ <;> assumption))
    (fail)
  all_goals
    rw [HE.out]
    have HB3 := Lib.hid (((hB2.alloc hB2.size (.cells #[.int .u32 a, .int .i64 ((b : Int) + 1)] 25)).alloc (by have := hB2.size; simp; omega) (.cells #[.int .u32 h, .int .i64 ((b : Int) + 1)] 25)).drew)
    have BL : Box (((w2.alloc (.cells #[.int .u32 a, .int .i64 ((b : Int) + 1)] 25)).alloc (.cells #[.int .u32 h, .int .i64 ((b : Int) + 1)] 25)).drew) w2.heap.size a ((b : Int) + 1) := (heap_alloc_old _ _ (by simp)).trans (heap_alloc_new w2 _)
    have BH : Box (((w2.alloc (.cells #[.int .u32 a, .int .i64 ((b : Int) + 1)] 25)).alloc (.cells #[.int .u32 h, .int .i64 ((b : Int) + 1)] 25)).drew) (w2.heap.size + 1) h ((b : Int) + 1) := by
      have := heap_alloc_new (w2.alloc (.cells #[.int .u32 a, .int .i64 ((b : Int) + 1)] 25)) (.cells #[.int .u32 h, .int .i64 ((b : Int) + 1)] 25)
      rw [show (w2.alloc (.cells #[.int .u32 a, .int .i64 ((b : Int) + 1)] 25)).heap.size = w2.heap.size + 1 by simp] at this
      exact this
    have BP : Box (((w2.alloc (.cells #[.int .u32 a, .int .i64 ((b : Int) + 1)] 25)).alloc (.cells #[.int .u32 h, .int .i64 ((b : Int) + 1)] 25)).drew) w.heap.size a b := (heap_alloc_old _ _ (by simp; omega)).trans ((heap_alloc_old _ _ hs2).trans B2)
    clear B2 hwd hwr h31 hnn p0 p1
    go_wp2_with fail
    generalize (((w2.alloc (.cells #[.int .u32 a, .int .i64 ((b : Int) + 1)] 25)).alloc (.cells #[.int .u32 h, .int .i64 ((b : Int) + 1)] 25)).drew) = w3 at HB3 BL BH BP ⊢
    obtain ⟨l0, l1⟩ := BL.cells
    obtain ⟨m0, m1⟩ := BH.cells
    go_region_held3 (fun w' => w'.cell? ⟨w2.heap.size, 0, none⟩ = some (.int .u32 a) ∧ w'.cell? ⟨w2.heap.size, 1, none⟩ = some (.int .i64 ((b : Int) + 1)) ∧ w'.cell? ⟨w2.heap.size + 1, 0, none⟩ = some (.int .u32 h) ∧ w'.cell? ⟨w2.heap.size + 1, 1, none⟩ = some (.int .i64 ((b : Int) + 1)))
      (first
        | go_keep
        | (go_split_ands; refine ⟨?_, ?_, ?_, ?_⟩ <;> assumption))
      (first
        | ((with_reducible refine (has_is K1.out _ ha hx).mono ?_); rintro e w4 ⟨rfl, hb4⟩
           have CP := BP.grow ⟨hb4.os, hb4.tape, hb4.output, hb4.size, hb4.block⟩
           have CL := BL.grow ⟨hb4.os, hb4.tape, hb4.output, hb4.size, hb4.block⟩
           have CH := BH.grow ⟨hb4.os, hb4.tape, hb4.output, hb4.size, hb4.block⟩
           have HB4 := Lib.hid (bthen HB3.out.drew HB3.out.size hb4)
           obtain ⟨l2, l3⟩ := CL.cells
           obtain ⟨m2, m3⟩ := CH.cells
           clear hb4)
        | ((with_reducible refine (has_is K2.out _ hh hx).mono ?_); rintro e w5 ⟨rfl, hb5⟩
           have DP := CP.grow hb5
           have DL := CL.grow hb5
           have DH := CH.grow hb5
           have HB5 := Lib.hid (bthen HB4.out HB4.out.size hb5)
           obtain ⟨l4, l5⟩ := DL.cells
           obtain ⟨m4, m5⟩ := DH.cells
           clear hb5))
    all_goals
      obtain ⟨p0, p1⟩ := DP.cells
      have hs5 := HB5.out.size
      clear BL BH BP CP CL CH l0 l1 l2 l3 m0 m1 m2 m3 HB3 HB4
      go_wp2_with fail
      refine (has_is K3.out _ ha hx).mono ?_
      rintro e w6 ⟨rfl, hb6⟩
      have EP := DP.grow hb6
      have EL := DL.grow hb6
      have EH := DH.grow hb6
      have HB6 := Lib.hid (bthen HB5.out hs5 hb6)
      clear p0 p1 l4 l5 m4 m5 DP DL DH hb6
      obtain ⟨p0, p1⟩ := EP.cells
      obtain ⟨l4, l5⟩ := EL.cells
      obtain ⟨m4, m5⟩ := EH.cells
      go_wp2_with fail
      refine (within_is K4.out _ ha ha).mono ?_
      rintro e w7 ⟨rfl, hb7⟩
      have FP := EP.grow hb7
      have FH := EH.grow hb7
      have HB7 := Lib.hid (bthen HB6.out HB6.out.size hb7)
      clear p0 p1 l4 l5 m4 m5 EP EL EH hb7
      obtain ⟨p0, p1⟩ := FP.cells
      obtain ⟨m4, m5⟩ := FH.cells
      go_wp2_with fail
      refine (within_is K5.out _ hh ha).mono ?_
      rintro e w8 ⟨rfl, hb8⟩
      have HB8 := Lib.hid (bthen HB7.out HB7.out.size hb8)
      go_wp2_with fail
      go_ret
      exact ⟨rfl, HB8.out⟩
set_option maxRecDepth 100000 in
set_option maxHeartbeats 4000000 in
theorem halves_n (a b x h : Nat) (w : World) (ha : a < 4294967296) (hx : x < 4294967296) (hh : h < 4294967296) (hc : chkE a b = 0) (hb : b < 32) (he : a + sz ((b : Int) + 1) = h)
    (h0 : w.cell? ⟨0, 0, none⟩ = some (.int .u32 167772160)) (h1 : w.cell? ⟨0, 1, none⟩ = some (.int .i64 8))
    (k1 : hasB a ((b : Int) + 1) x = false) (k2 : hasB h ((b : Int) + 1) x = false) (k3 : hasB a b x = false) (k4 : withinB a ((b : Int) + 1) a b = true) (k5 : withinB h ((b : Int) + 1) a b = true) :
    Calls Tryd.prog 10 #[.agg #[.int .u32 a, .int .i64 b], .int .u32 x] w fun e w' => e = .returned (.bool true) ∧ Below w.heap.size w w' := by
  have hl := World.block_lt_of_cell? w _ h0
  simp only at hl
  have Hc := Lib.hid hc
  have hne : ((b : Int) == 32) = false := by rw [beq_eq_false_iff_ne]; omega
  have HE := Lib.hid (high_eq a b ha hc hb)
  rw [he] at HE
  have K1 := Lib.hid k1
  have K2 := Lib.hid k2
  have K3 := Lib.hid k3
  have K4 := Lib.hid k4
  have K5 := Lib.hid k5
  clear hc he k1 k2 k3 k4 k5
  go_enter Tryd.func10, Tryd.ntmps10
  go_wp2_with fail
  refine (addrLives_true _ (by go_simp) (by go_simp)).mono ?_
  rintro e w1 ⟨rfl, hb1⟩
  have B1 : Box w1 w.heap.size a b := (hb1.block _ (by simp)).trans (heap_alloc_new w _)
  have hB1 : Below w.heap.size w w1 := bthen ((Below.refl _ _).alloc (Nat.le_refl _) _) (by simp) hb1
  obtain ⟨p0, p1⟩ := B1.cells
  have hs1 := B1.lt
  clear hb1
  go_wp2_with fail
  refine (check_any a b _ ha).mono ?_
  rw [Hc.out]
  rintro e w2 ⟨rfl, hb2⟩
  have B2 := B1.grow hb2
  have hB2 := bthen hB1 hB1.size hb2
  clear p0 p1
  obtain ⟨p0, p1⟩ := B2.cells
  have hs2 := B2.lt
  clear B1 hB1 hb2 hs1
  go_wp2_with fail
  have hwd : IntKind.i64.wrap (31 - (b : Int)) = 31 - (b : Int) := IntWalk.i64_in _ (by omega)
  have hwr : IntKind.i64.wrap ((b : Int) + 1) = (b : Int) + 1 := IntWalk.i64_in _ (by omega)
  have h31 : 0 ≤ 31 - (b : Int) := by omega
  have hnn : ¬ (31 - (b : Int) < 0) := by omega
  go_region_held3 (fun w' => w'.cell? ⟨w.heap.size, 0, none⟩ = some (.int .u32 a) ∧ w'.cell? ⟨w.heap.size, 1, none⟩ = some (.int .i64 b))
    (first
      | go_keep
      | (go_split_ands; refine ⟨?_, ?_⟩ <;> assumption))
    (fail)
  all_goals
    rw [HE.out]
    have HB3 := Lib.hid (((hB2.alloc hB2.size (.cells #[.int .u32 a, .int .i64 ((b : Int) + 1)] 25)).alloc (by have := hB2.size; simp; omega) (.cells #[.int .u32 h, .int .i64 ((b : Int) + 1)] 25)).drew)
    have BL : Box (((w2.alloc (.cells #[.int .u32 a, .int .i64 ((b : Int) + 1)] 25)).alloc (.cells #[.int .u32 h, .int .i64 ((b : Int) + 1)] 25)).drew) w2.heap.size a ((b : Int) + 1) := (heap_alloc_old _ _ (by simp)).trans (heap_alloc_new w2 _)
    have BH : Box (((w2.alloc (.cells #[.int .u32 a, .int .i64 ((b : Int) + 1)] 25)).alloc (.cells #[.int .u32 h, .int .i64 ((b : Int) + 1)] 25)).drew) (w2.heap.size + 1) h ((b : Int) + 1) := by
      have := heap_alloc_new (w2.alloc (.cells #[.int .u32 a, .int .i64 ((b : Int) + 1)] 25)) (.cells #[.int .u32 h, .int .i64 ((b : Int) + 1)] 25)
      rw [show (w2.alloc (.cells #[.int .u32 a, .int .i64 ((b : Int) + 1)] 25)).heap.size = w2.heap.size + 1 by simp] at this
      exact this
    have BP : Box (((w2.alloc (.cells #[.int .u32 a, .int .i64 ((b : Int) + 1)] 25)).alloc (.cells #[.int .u32 h, .int .i64 ((b : Int) + 1)] 25)).drew) w.heap.size a b := (heap_alloc_old _ _ (by simp; omega)).trans ((heap_alloc_old _ _ hs2).trans B2)
    clear B2 hwd hwr h31 hnn p0 p1
    go_wp2_with fail
    generalize (((w2.alloc (.cells #[.int .u32 a, .int .i64 ((b : Int) + 1)] 25)).alloc (.cells #[.int .u32 h, .int .i64 ((b : Int) + 1)] 25)).drew) = w3 at HB3 BL BH BP ⊢
    obtain ⟨l0, l1⟩ := BL.cells
    obtain ⟨m0, m1⟩ := BH.cells
    go_region_held3 (fun w' => w'.cell? ⟨w2.heap.size, 0, none⟩ = some (.int .u32 a) ∧ w'.cell? ⟨w2.heap.size, 1, none⟩ = some (.int .i64 ((b : Int) + 1)) ∧ w'.cell? ⟨w2.heap.size + 1, 0, none⟩ = some (.int .u32 h) ∧ w'.cell? ⟨w2.heap.size + 1, 1, none⟩ = some (.int .i64 ((b : Int) + 1)))
      (first
        | go_keep
        | (go_split_ands; refine ⟨?_, ?_, ?_, ?_⟩ <;> assumption))
      (first
        | ((with_reducible refine (has_is K1.out _ ha hx).mono ?_); rintro e w4 ⟨rfl, hb4⟩
           have CP := BP.grow ⟨hb4.os, hb4.tape, hb4.output, hb4.size, hb4.block⟩
           have CL := BL.grow ⟨hb4.os, hb4.tape, hb4.output, hb4.size, hb4.block⟩
           have CH := BH.grow ⟨hb4.os, hb4.tape, hb4.output, hb4.size, hb4.block⟩
           have HB4 := Lib.hid (bthen HB3.out.drew HB3.out.size hb4)
           obtain ⟨l2, l3⟩ := CL.cells
           obtain ⟨m2, m3⟩ := CH.cells
           clear hb4)
        | ((with_reducible refine (has_is K2.out _ hh hx).mono ?_); rintro e w5 ⟨rfl, hb5⟩
           have DP := CP.grow hb5
           have DL := CL.grow hb5
           have DH := CH.grow hb5
           have HB5 := Lib.hid (bthen HB4.out HB4.out.size hb5)
           obtain ⟨l4, l5⟩ := DL.cells
           obtain ⟨m4, m5⟩ := DH.cells
           clear hb5))
    all_goals
      obtain ⟨p0, p1⟩ := DP.cells
      have hs5 := HB5.out.size
      clear BL BH BP CP CL CH l0 l1 l2 l3 m0 m1 m2 m3 HB3 HB4
      go_wp2_with fail
      refine (has_is K3.out _ ha hx).mono ?_
      rintro e w6 ⟨rfl, hb6⟩
      have EP := DP.grow hb6
      have EL := DL.grow hb6
      have EH := DH.grow hb6
      have HB6 := Lib.hid (bthen HB5.out hs5 hb6)
      clear p0 p1 l4 l5 m4 m5 DP DL DH hb6
      obtain ⟨p0, p1⟩ := EP.cells
      obtain ⟨l4, l5⟩ := EL.cells
      obtain ⟨m4, m5⟩ := EH.cells
      go_wp2_with fail
      refine (within_is K4.out _ ha ha).mono ?_
      rintro e w7 ⟨rfl, hb7⟩
      have FP := EP.grow hb7
      have FH := EH.grow hb7
      have HB7 := Lib.hid (bthen HB6.out HB6.out.size hb7)
      clear p0 p1 l4 l5 m4 m5 EP EL EH hb7
      obtain ⟨p0, p1⟩ := FP.cells
      obtain ⟨m4, m5⟩ := FH.cells
      go_wp2_with fail
      refine (within_is K5.out _ hh ha).mono ?_
      rintro e w8 ⟨rfl, hb8⟩
      have HB8 := Lib.hid (bthen HB7.out HB7.out.size hb8)
      go_wp2_with fail
      go_ret
      exact ⟨rfl, HB8.out⟩
set_option maxHeartbeats 400000 in
theorem halves_bad (a : Nat) (b : Int) (x : Nat) (w : World) (ha : a < 4294967296) (hc : chkE a b ≠ 0) (h0 : w.cell? ⟨0, 0, none⟩ = some (.int .u32 167772160)) (h1 : w.cell? ⟨0, 1, none⟩ = some (.int .i64 8)) :
    Calls Tryd.prog 10 #[.agg #[.int .u32 a, .int .i64 b], .int .u32 x] w fun e w' => e = .returned (.bool true) ∧ Below w.heap.size w w' := by
  have hl := World.block_lt_of_cell? w _ h0
  simp only at hl
  have Hd : (chkE a b != 0) = true := by simpa using hc
  clear hc
  go_enter Tryd.func10, Tryd.ntmps10
  go_wp2_with fail
  refine (addrLives_true _ (by go_simp) (by go_simp)).mono ?_
  rintro e w1 ⟨rfl, hb1⟩
  have B1 : Box w1 w.heap.size a b := (hb1.block _ (by simp)).trans (heap_alloc_new w _)
  have hB1 : Below w.heap.size w w1 := bthen ((Below.refl _ _).alloc (Nat.le_refl _) _) (by simp) hb1
  obtain ⟨p0, p1⟩ := B1.cells
  clear hb1
  go_wp2_with fail
  refine (check_any a b _ ha).mono ?_
  rintro e w2 ⟨rfl, hb2⟩
  go_wp2_with fail
  go_ret
  exact ⟨rfl, bthen hB1 hB1.size hb2⟩
set_option maxHeartbeats 400000 in
theorem halves_32 (a : Nat) (x : Nat) (w : World) (ha : a < 4294967296) (hc : chkE a 32 = 0) (h0 : w.cell? ⟨0, 0, none⟩ = some (.int .u32 167772160)) (h1 : w.cell? ⟨0, 1, none⟩ = some (.int .i64 8)) :
    Calls Tryd.prog 10 #[.agg #[.int .u32 a, .int .i64 32], .int .u32 x] w fun e w' => e = .returned (.bool true) ∧ Below w.heap.size w w' := by
  have hl := World.block_lt_of_cell? w _ h0
  simp only at hl
  have Hc := Lib.hid hc
  clear hc
  go_enter Tryd.func10, Tryd.ntmps10
  go_wp2_with fail
  refine (addrLives_true _ (by go_simp) (by go_simp)).mono ?_
  rintro e w1 ⟨rfl, hb1⟩
  have B1 : Box w1 w.heap.size a 32 := (hb1.block _ (by simp)).trans (heap_alloc_new w _)
  have hB1 : Below w.heap.size w w1 := bthen ((Below.refl _ _).alloc (Nat.le_refl _) _) (by simp) hb1
  obtain ⟨p0, p1⟩ := B1.cells
  clear hb1
  go_wp2_with fail
  refine (check_any a 32 _ ha).mono ?_
  rw [Hc.out]
  rintro e w2 ⟨rfl, hb2⟩
  have B2 := B1.grow hb2
  clear p0 p1
  obtain ⟨p0, p1⟩ := B2.cells
  go_wp2_with fail
  go_ret
  exact ⟨rfl, bthen hB1 hB1.size hb2⟩
/-- The law's walk, whole. -/
theorem halves_any (a : Nat) (b : Int) (x : Nat) (w : World) (ha : a < 4294967296) (hx : x < 4294967296) (h0 : w.cell? ⟨0, 0, none⟩ = some (.int .u32 167772160)) (h1 : w.cell? ⟨0, 1, none⟩ = some (.int .i64 8)) :
    Calls Tryd.prog 10 #[.agg #[.int .u32 a, .int .i64 b], .int .u32 x] w fun e w' => e = .returned (.bool true) ∧ Below w.heap.size w w' := by
  by_cases hc : chkE a b = 0
  · obtain ⟨b0, b1, _⟩ := chkE_zero.1 hc
    by_cases hb : b = 32
    · subst hb
      exact halves_32 a x w ha hc h0 h1
    · obtain ⟨b, rfl⟩ := Int.eq_ofNat_of_zero_le b0
      have hb' : b < 32 := by omega
      have hp := halves_plain (x := x) hc (by omega : (b : Int) < 32)
      have hh := right_lt ha hc (by omega : (b : Int) < 32)
      have hz := sz_half (b := (b : Int)) (by omega)
      have hq := sz_pos ((b : Int) + 1)
      simp only [Bool.and_eq_true] at hp
      obtain ⟨⟨⟨q1, q2⟩, q3⟩, q4⟩ := hp
      generalize k1 : hasB a ((b : Int) + 1) x = X1 at q1 q2
      generalize k2 : hasB (a + sz ((b : Int) + 1)) ((b : Int) + 1) x = X2 at q1 q2
      generalize k3 : hasB a b x = X3 at q2
      cases X1 <;> cases X2 <;> cases X3 <;> simp at q1 q2
      · exact halves_n a b x _ w ha hx (by omega) hc hb' rfl h0 h1 k1 k2 k3 q3 q4
      · exact halves_r a b x _ w ha hx (by omega) hc hb' rfl h0 h1 k1 k2 k3 q3 q4
      · exact halves_l a b x _ w ha hx (by omega) hc hb' rfl h0 h1 k1 k2 k3 q3 q4
  · exact halves_bad a b x w ha hc h0 h1
end Go.Proofs.YtaknlphmplimhaaDoor
