/- The walk of PktBack, which returns true; addresses of 32 bits. -/
import Derived.Test.YtnhanjjkmjpmlaaHy
set_option linter.unusedVariables false
set_option linter.unusedSimpArgs false
namespace Go.Proofs.Ytnhanjjkmjpmlaa.Pk
open Go.RowKit Go.Proofs.Ytnhanjjkmjpmlaa.PPktBack Go.Proofs.YtnhanjjkmjpmlaaW.PrintWords Go.Proofs.YtnhanjjkmjpmlaaW.PrintLast
attribute [local go_sem high] eqA24
set_option maxRecDepth 100000 in
set_option maxHeartbeats 2000000 in
theorem back_err (w : World) (x0 x1 x2 x3 x4 x5 : Int) (x6 x7 : Bool) (x8 bd : ByteArray) (ht : patchbaykeep2_bare.f x0 x1 x2 x3 x4 x5 x6 x7 x8 40 = some (x0, x1, x2, x3, x4, x5, x6, x7, bd)) (r : Int) (hr : (r != 0) = true) (hE : pkt_Encode.f 80 x0 x1 x2 x3 x4 x5 x6 x7 bd = some (⟨#[]⟩, r)) (hC : pkt_Check.f 80 x0 x1 x2 x3 x4 x5 x6 x7 bd = some r) :
    Calls Try.prog 3 #[.agg #[.int .u32 x0, .int .u32 x1, .int .i64 x2, .int .i64 x3, .int .i64 x4, .int .i64 x5, .bool x6, .bool x7, .string x8]] w (Says true w) := by
  have HT := Lib.hid ht
  have HE := Lib.hid hE
  have HC := Lib.hid hC
  clear ht hE hC
  go_enter Try.func3, Try.ntmps3
  go_upto_region 1 with (fail)
  have HR0 := Lib.hid (heap_alloc_new w (.cells #[.int .u32 x0, .int .u32 x1, .int .i64 x2, .int .i64 x3, .int .i64 x4, .int .i64 x5, .bool x6, .bool x7, .string x8] 24))
  have HB0 := Lib.hid ((Below.refl w.heap.size w).alloc (Nat.le_refl _) (.cells #[.int .u32 x0, .int .u32 x1, .int .i64 x2, .int .i64 x3, .int .i64 x4, .int .i64 x5, .bool x6, .bool x7, .string x8] 24))
  have HS0 := Lib.hid (show w.heap.size < (w.alloc (.cells #[.int .u32 x0, .int .u32 x1, .int .i64 x2, .int .i64 x3, .int .i64 x4, .int .i64 x5, .bool x6, .bool x7, .string x8] 24)).heap.size by simp)
  generalize w.alloc (.cells #[.int .u32 x0, .int .u32 x1, .int .i64 x2, .int .i64 x3, .int .i64 x4, .int .i64 x5, .bool x6, .bool x7, .string x8] 24) = W0 at HR0 HB0 HS0 ⊢
  go_wp2_with fail
  refine (patchbaykeep2_pktLives.calls 80 true _ (lives 80 (by omega))).mono ?_
  rintro e w1 ⟨rfl, hb1⟩
  have HR1 := Lib.hid ((hb1.block _ HS0.out).trans HR0.out)
  have HB1 := Lib.hid (HB0.out.trans (hb1.mono (Nat.le_of_lt HS0.out)))
  have hs1 : w.heap.size < w1.heap.size := Nat.lt_of_lt_of_le HS0.out hb1.size
  clear hb1 HR0 HB0 HS0
  have hr1 := HR1.out
  have dc0 : w1.cell? ⟨w.heap.size, 0, none⟩ = some (.int .u32 x0) := cell_of_row w1 w.heap.size 0 _ 24 (0, 0) hr1
  have df0 : w1.frozen? ⟨w.heap.size, 0, none⟩ = false := frozen_of_row hr1 0
  have dc1 : w1.cell? ⟨w.heap.size, 1, none⟩ = some (.int .u32 x1) := cell_of_row w1 w.heap.size 1 _ 24 (0, 0) hr1
  have df1 : w1.frozen? ⟨w.heap.size, 1, none⟩ = false := frozen_of_row hr1 1
  have dc2 : w1.cell? ⟨w.heap.size, 2, none⟩ = some (.int .i64 x2) := cell_of_row w1 w.heap.size 2 _ 24 (0, 0) hr1
  have df2 : w1.frozen? ⟨w.heap.size, 2, none⟩ = false := frozen_of_row hr1 2
  have dc3 : w1.cell? ⟨w.heap.size, 3, none⟩ = some (.int .i64 x3) := cell_of_row w1 w.heap.size 3 _ 24 (0, 0) hr1
  have df3 : w1.frozen? ⟨w.heap.size, 3, none⟩ = false := frozen_of_row hr1 3
  have dc4 : w1.cell? ⟨w.heap.size, 4, none⟩ = some (.int .i64 x4) := cell_of_row w1 w.heap.size 4 _ 24 (0, 0) hr1
  have df4 : w1.frozen? ⟨w.heap.size, 4, none⟩ = false := frozen_of_row hr1 4
  have dc5 : w1.cell? ⟨w.heap.size, 5, none⟩ = some (.int .i64 x5) := cell_of_row w1 w.heap.size 5 _ 24 (0, 0) hr1
  have df5 : w1.frozen? ⟨w.heap.size, 5, none⟩ = false := frozen_of_row hr1 5
  have dc6 : w1.cell? ⟨w.heap.size, 6, none⟩ = some (.bool x6) := cell_of_row w1 w.heap.size 6 _ 24 (0, 0) hr1
  have df6 : w1.frozen? ⟨w.heap.size, 6, none⟩ = false := frozen_of_row hr1 6
  have dc7 : w1.cell? ⟨w.heap.size, 7, none⟩ = some (.bool x7) := cell_of_row w1 w.heap.size 7 _ 24 (0, 0) hr1
  have df7 : w1.frozen? ⟨w.heap.size, 7, none⟩ = false := frozen_of_row hr1 7
  have dc8 : w1.cell? ⟨w.heap.size, 8, none⟩ = some (.string x8) := cell_of_row w1 w.heap.size 8 _ 24 (0, 0) hr1
  have df8 : w1.frozen? ⟨w.heap.size, 8, none⟩ = false := frozen_of_row hr1 8
  clear hr1
  go_wp2_with fail
  refine (patchbaykeep2_bare.calls x0 x1 x2 x3 x4 x5 x6 x7 x8 40 x0 x1 x2 x3 x4 x5 x6 x7 bd _ HT.out).mono ?_
  rintro e w2 ⟨rfl, hb2⟩
  have HR2 := Lib.hid ((hb2.block _ hs1).trans HR1.out)
  have HB2 := Lib.hid (HB1.out.trans (hb2.mono (Nat.le_of_lt hs1)))
  have hs2 : w.heap.size < w2.heap.size := Nat.lt_of_lt_of_le hs1 hb2.size
  clear hb2 HR1 HB1 HT
  clear dc0 df0 dc1 df1 dc2 df2 dc3 df3 dc4 df4 dc5 df5 dc6 df6 dc7 df7 dc8 df8
  have hr2 := HR2.out
  have dc0 : w2.cell? ⟨w.heap.size, 0, none⟩ = some (.int .u32 x0) := cell_of_row w2 w.heap.size 0 _ 24 (0, 0) hr2
  have df0 : w2.frozen? ⟨w.heap.size, 0, none⟩ = false := frozen_of_row hr2 0
  have dc1 : w2.cell? ⟨w.heap.size, 1, none⟩ = some (.int .u32 x1) := cell_of_row w2 w.heap.size 1 _ 24 (0, 0) hr2
  have df1 : w2.frozen? ⟨w.heap.size, 1, none⟩ = false := frozen_of_row hr2 1
  have dc2 : w2.cell? ⟨w.heap.size, 2, none⟩ = some (.int .i64 x2) := cell_of_row w2 w.heap.size 2 _ 24 (0, 0) hr2
  have df2 : w2.frozen? ⟨w.heap.size, 2, none⟩ = false := frozen_of_row hr2 2
  have dc3 : w2.cell? ⟨w.heap.size, 3, none⟩ = some (.int .i64 x3) := cell_of_row w2 w.heap.size 3 _ 24 (0, 0) hr2
  have df3 : w2.frozen? ⟨w.heap.size, 3, none⟩ = false := frozen_of_row hr2 3
  have dc4 : w2.cell? ⟨w.heap.size, 4, none⟩ = some (.int .i64 x4) := cell_of_row w2 w.heap.size 4 _ 24 (0, 0) hr2
  have df4 : w2.frozen? ⟨w.heap.size, 4, none⟩ = false := frozen_of_row hr2 4
  have dc5 : w2.cell? ⟨w.heap.size, 5, none⟩ = some (.int .i64 x5) := cell_of_row w2 w.heap.size 5 _ 24 (0, 0) hr2
  have df5 : w2.frozen? ⟨w.heap.size, 5, none⟩ = false := frozen_of_row hr2 5
  have dc6 : w2.cell? ⟨w.heap.size, 6, none⟩ = some (.bool x6) := cell_of_row w2 w.heap.size 6 _ 24 (0, 0) hr2
  have df6 : w2.frozen? ⟨w.heap.size, 6, none⟩ = false := frozen_of_row hr2 6
  have dc7 : w2.cell? ⟨w.heap.size, 7, none⟩ = some (.bool x7) := cell_of_row w2 w.heap.size 7 _ 24 (0, 0) hr2
  have df7 : w2.frozen? ⟨w.heap.size, 7, none⟩ = false := frozen_of_row hr2 7
  have dc8 : w2.cell? ⟨w.heap.size, 8, none⟩ = some (.string x8) := cell_of_row w2 w.heap.size 8 _ 24 (0, 0) hr2
  have df8 : w2.frozen? ⟨w.heap.size, 8, none⟩ = false := frozen_of_row hr2 8
  clear hr2
  go_upto_region 4 with (fail)
  have HR3 := Lib.hid (nine_row (.int .u32 x0) (.int .u32 x1) (.int .i64 x2) (.int .i64 x3) (.int .i64 x4) (.int .i64 x5) (.bool x6) (.bool x7) (.string x8) (.int .u32 x0) (.int .u32 x1) (.int .i64 x2) (.int .i64 x3) (.int .i64 x4) (.int .i64 x5) (.bool x6) (.bool x7) (.string bd) HR2.out)
  have HB3 := Lib.hid (nine_below (.int .u32 x0) (.int .u32 x1) (.int .i64 x2) (.int .i64 x3) (.int .i64 x4) (.int .i64 x5) (.bool x6) (.bool x7) (.string bd) HB2.out (Nat.le_refl _))
  generalize World.setCell _ ⟨w.heap.size, 8, none⟩ _ = w3 at HR3 HB3 ⊢
  have hr3 := HR3.out
  have hs3 : w.heap.size < w3.heap.size := (Array.getElem?_eq_some_iff.1 hr3).1
  clear HR2 HB2 hs1 hs2
  clear dc0 df0 dc1 df1 dc2 df2 dc3 df3 dc4 df4 dc5 df5 dc6 df6 dc7 df7 dc8 df8
  have dc0 : w3.cell? ⟨w.heap.size, 0, none⟩ = some (.int .u32 x0) := cell_of_row w3 w.heap.size 0 _ 24 (0, 0) hr3
  have df0 : w3.frozen? ⟨w.heap.size, 0, none⟩ = false := frozen_of_row hr3 0
  have dc1 : w3.cell? ⟨w.heap.size, 1, none⟩ = some (.int .u32 x1) := cell_of_row w3 w.heap.size 1 _ 24 (0, 0) hr3
  have df1 : w3.frozen? ⟨w.heap.size, 1, none⟩ = false := frozen_of_row hr3 1
  have dc2 : w3.cell? ⟨w.heap.size, 2, none⟩ = some (.int .i64 x2) := cell_of_row w3 w.heap.size 2 _ 24 (0, 0) hr3
  have df2 : w3.frozen? ⟨w.heap.size, 2, none⟩ = false := frozen_of_row hr3 2
  have dc3 : w3.cell? ⟨w.heap.size, 3, none⟩ = some (.int .i64 x3) := cell_of_row w3 w.heap.size 3 _ 24 (0, 0) hr3
  have df3 : w3.frozen? ⟨w.heap.size, 3, none⟩ = false := frozen_of_row hr3 3
  have dc4 : w3.cell? ⟨w.heap.size, 4, none⟩ = some (.int .i64 x4) := cell_of_row w3 w.heap.size 4 _ 24 (0, 0) hr3
  have df4 : w3.frozen? ⟨w.heap.size, 4, none⟩ = false := frozen_of_row hr3 4
  have dc5 : w3.cell? ⟨w.heap.size, 5, none⟩ = some (.int .i64 x5) := cell_of_row w3 w.heap.size 5 _ 24 (0, 0) hr3
  have df5 : w3.frozen? ⟨w.heap.size, 5, none⟩ = false := frozen_of_row hr3 5
  have dc6 : w3.cell? ⟨w.heap.size, 6, none⟩ = some (.bool x6) := cell_of_row w3 w.heap.size 6 _ 24 (0, 0) hr3
  have df6 : w3.frozen? ⟨w.heap.size, 6, none⟩ = false := frozen_of_row hr3 6
  have dc7 : w3.cell? ⟨w.heap.size, 7, none⟩ = some (.bool x7) := cell_of_row w3 w.heap.size 7 _ 24 (0, 0) hr3
  have df7 : w3.frozen? ⟨w.heap.size, 7, none⟩ = false := frozen_of_row hr3 7
  have dc8 : w3.cell? ⟨w.heap.size, 8, none⟩ = some (.string bd) := cell_of_row w3 w.heap.size 8 _ 24 (0, 0) hr3
  have df8 : w3.frozen? ⟨w.heap.size, 8, none⟩ = false := frozen_of_row hr3 8
  clear hr3
  go_wp2_with fail
  refine (pkt_Encode.calls 80 x0 x1 x2 x3 x4 x5 x6 x7 bd _ _ _ HE.out).mono ?_
  rintro e w4 ⟨rfl, hb4⟩
  have HR4 := Lib.hid ((hb4.block _ hs3).trans HR3.out)
  have HB4 := Lib.hid (HB3.out.trans (hb4.mono (Nat.le_of_lt hs3)))
  have hs4 : w.heap.size < w4.heap.size := Nat.lt_of_lt_of_le hs3 hb4.size
  clear hb4 HR3 HB3 HE hs3
  clear dc0 df0 dc1 df1 dc2 df2 dc3 df3 dc4 df4 dc5 df5 dc6 df6 dc7 df7 dc8 df8
  have hr4 := HR4.out
  have dc0 : w4.cell? ⟨w.heap.size, 0, none⟩ = some (.int .u32 x0) := cell_of_row w4 w.heap.size 0 _ 24 (0, 0) hr4
  have df0 : w4.frozen? ⟨w.heap.size, 0, none⟩ = false := frozen_of_row hr4 0
  have dc1 : w4.cell? ⟨w.heap.size, 1, none⟩ = some (.int .u32 x1) := cell_of_row w4 w.heap.size 1 _ 24 (0, 0) hr4
  have df1 : w4.frozen? ⟨w.heap.size, 1, none⟩ = false := frozen_of_row hr4 1
  have dc2 : w4.cell? ⟨w.heap.size, 2, none⟩ = some (.int .i64 x2) := cell_of_row w4 w.heap.size 2 _ 24 (0, 0) hr4
  have df2 : w4.frozen? ⟨w.heap.size, 2, none⟩ = false := frozen_of_row hr4 2
  have dc3 : w4.cell? ⟨w.heap.size, 3, none⟩ = some (.int .i64 x3) := cell_of_row w4 w.heap.size 3 _ 24 (0, 0) hr4
  have df3 : w4.frozen? ⟨w.heap.size, 3, none⟩ = false := frozen_of_row hr4 3
  have dc4 : w4.cell? ⟨w.heap.size, 4, none⟩ = some (.int .i64 x4) := cell_of_row w4 w.heap.size 4 _ 24 (0, 0) hr4
  have df4 : w4.frozen? ⟨w.heap.size, 4, none⟩ = false := frozen_of_row hr4 4
  have dc5 : w4.cell? ⟨w.heap.size, 5, none⟩ = some (.int .i64 x5) := cell_of_row w4 w.heap.size 5 _ 24 (0, 0) hr4
  have df5 : w4.frozen? ⟨w.heap.size, 5, none⟩ = false := frozen_of_row hr4 5
  have dc6 : w4.cell? ⟨w.heap.size, 6, none⟩ = some (.bool x6) := cell_of_row w4 w.heap.size 6 _ 24 (0, 0) hr4
  have df6 : w4.frozen? ⟨w.heap.size, 6, none⟩ = false := frozen_of_row hr4 6
  have dc7 : w4.cell? ⟨w.heap.size, 7, none⟩ = some (.bool x7) := cell_of_row w4 w.heap.size 7 _ 24 (0, 0) hr4
  have df7 : w4.frozen? ⟨w.heap.size, 7, none⟩ = false := frozen_of_row hr4 7
  have dc8 : w4.cell? ⟨w.heap.size, 8, none⟩ = some (.string bd) := cell_of_row w4 w.heap.size 8 _ 24 (0, 0) hr4
  have df8 : w4.frozen? ⟨w.heap.size, 8, none⟩ = false := frozen_of_row hr4 8
  clear hr4
  go_wp2_with fail
  refine (pkt_Check.calls 80 x0 x1 x2 x3 x4 x5 x6 x7 bd _ _ HC.out).mono ?_
  rintro e w5 ⟨rfl, hb5⟩
  have HB5 := Lib.hid (HB4.out.trans (hb5.mono (Nat.le_of_lt hs4)))
  clear hb5
  go_wp2_with fail
  go_ret
  exact ⟨rfl, HB5.out⟩
set_option maxRecDepth 100000 in
set_option maxHeartbeats 2000000 in
theorem back_ok (w : World) (x0 x1 x2 x3 x4 x5 : Int) (x6 x7 : Bool) (x8 bd : ByteArray) (ht : patchbaykeep2_bare.f x0 x1 x2 x3 x4 x5 x6 x7 x8 40 = some (x0, x1, x2, x3, x4, x5, x6, x7, bd)) (s : ByteArray) (hE : pkt_Encode.f 80 x0 x1 x2 x3 x4 x5 x6 x7 bd = some (s, 0))
    (hD : ∀ w, Calls Try.prog 9 #[.string s] w fun e' w' => e' = .returned (.tuple #[.agg #[.int .u32 x0, .int .u32 x1, .int .i64 x2, .int .i64 x3, .int .i64 x4, .int .i64 x5, .bool x6, .bool x7, .string bd], .int .i64 0]) ∧ Below w.heap.size w w') :
    Calls Try.prog 3 #[.agg #[.int .u32 x0, .int .u32 x1, .int .i64 x2, .int .i64 x3, .int .i64 x4, .int .i64 x5, .bool x6, .bool x7, .string x8]] w (Says true w) := by
  have HT := Lib.hid ht
  have HE := Lib.hid hE
  have HD := Lib.hid hD
  clear ht hE hD
  go_enter Try.func3, Try.ntmps3
  go_upto_region 1 with (fail)
  have HR0 := Lib.hid (heap_alloc_new w (.cells #[.int .u32 x0, .int .u32 x1, .int .i64 x2, .int .i64 x3, .int .i64 x4, .int .i64 x5, .bool x6, .bool x7, .string x8] 24))
  have HB0 := Lib.hid ((Below.refl w.heap.size w).alloc (Nat.le_refl _) (.cells #[.int .u32 x0, .int .u32 x1, .int .i64 x2, .int .i64 x3, .int .i64 x4, .int .i64 x5, .bool x6, .bool x7, .string x8] 24))
  have HS0 := Lib.hid (show w.heap.size < (w.alloc (.cells #[.int .u32 x0, .int .u32 x1, .int .i64 x2, .int .i64 x3, .int .i64 x4, .int .i64 x5, .bool x6, .bool x7, .string x8] 24)).heap.size by simp)
  generalize w.alloc (.cells #[.int .u32 x0, .int .u32 x1, .int .i64 x2, .int .i64 x3, .int .i64 x4, .int .i64 x5, .bool x6, .bool x7, .string x8] 24) = W0 at HR0 HB0 HS0 ⊢
  go_wp2_with fail
  refine (patchbaykeep2_pktLives.calls 80 true _ (lives 80 (by omega))).mono ?_
  rintro e w1 ⟨rfl, hb1⟩
  have HR1 := Lib.hid ((hb1.block _ HS0.out).trans HR0.out)
  have HB1 := Lib.hid (HB0.out.trans (hb1.mono (Nat.le_of_lt HS0.out)))
  have hs1 : w.heap.size < w1.heap.size := Nat.lt_of_lt_of_le HS0.out hb1.size
  clear hb1 HR0 HB0 HS0
  have hr1 := HR1.out
  have dc0 : w1.cell? ⟨w.heap.size, 0, none⟩ = some (.int .u32 x0) := cell_of_row w1 w.heap.size 0 _ 24 (0, 0) hr1
  have df0 : w1.frozen? ⟨w.heap.size, 0, none⟩ = false := frozen_of_row hr1 0
  have dc1 : w1.cell? ⟨w.heap.size, 1, none⟩ = some (.int .u32 x1) := cell_of_row w1 w.heap.size 1 _ 24 (0, 0) hr1
  have df1 : w1.frozen? ⟨w.heap.size, 1, none⟩ = false := frozen_of_row hr1 1
  have dc2 : w1.cell? ⟨w.heap.size, 2, none⟩ = some (.int .i64 x2) := cell_of_row w1 w.heap.size 2 _ 24 (0, 0) hr1
  have df2 : w1.frozen? ⟨w.heap.size, 2, none⟩ = false := frozen_of_row hr1 2
  have dc3 : w1.cell? ⟨w.heap.size, 3, none⟩ = some (.int .i64 x3) := cell_of_row w1 w.heap.size 3 _ 24 (0, 0) hr1
  have df3 : w1.frozen? ⟨w.heap.size, 3, none⟩ = false := frozen_of_row hr1 3
  have dc4 : w1.cell? ⟨w.heap.size, 4, none⟩ = some (.int .i64 x4) := cell_of_row w1 w.heap.size 4 _ 24 (0, 0) hr1
  have df4 : w1.frozen? ⟨w.heap.size, 4, none⟩ = false := frozen_of_row hr1 4
  have dc5 : w1.cell? ⟨w.heap.size, 5, none⟩ = some (.int .i64 x5) := cell_of_row w1 w.heap.size 5 _ 24 (0, 0) hr1
  have df5 : w1.frozen? ⟨w.heap.size, 5, none⟩ = false := frozen_of_row hr1 5
  have dc6 : w1.cell? ⟨w.heap.size, 6, none⟩ = some (.bool x6) := cell_of_row w1 w.heap.size 6 _ 24 (0, 0) hr1
  have df6 : w1.frozen? ⟨w.heap.size, 6, none⟩ = false := frozen_of_row hr1 6
  have dc7 : w1.cell? ⟨w.heap.size, 7, none⟩ = some (.bool x7) := cell_of_row w1 w.heap.size 7 _ 24 (0, 0) hr1
  have df7 : w1.frozen? ⟨w.heap.size, 7, none⟩ = false := frozen_of_row hr1 7
  have dc8 : w1.cell? ⟨w.heap.size, 8, none⟩ = some (.string x8) := cell_of_row w1 w.heap.size 8 _ 24 (0, 0) hr1
  have df8 : w1.frozen? ⟨w.heap.size, 8, none⟩ = false := frozen_of_row hr1 8
  clear hr1
  go_wp2_with fail
  refine (patchbaykeep2_bare.calls x0 x1 x2 x3 x4 x5 x6 x7 x8 40 x0 x1 x2 x3 x4 x5 x6 x7 bd _ HT.out).mono ?_
  rintro e w2 ⟨rfl, hb2⟩
  have HR2 := Lib.hid ((hb2.block _ hs1).trans HR1.out)
  have HB2 := Lib.hid (HB1.out.trans (hb2.mono (Nat.le_of_lt hs1)))
  have hs2 : w.heap.size < w2.heap.size := Nat.lt_of_lt_of_le hs1 hb2.size
  clear hb2 HR1 HB1 HT
  clear dc0 df0 dc1 df1 dc2 df2 dc3 df3 dc4 df4 dc5 df5 dc6 df6 dc7 df7 dc8 df8
  have hr2 := HR2.out
  have dc0 : w2.cell? ⟨w.heap.size, 0, none⟩ = some (.int .u32 x0) := cell_of_row w2 w.heap.size 0 _ 24 (0, 0) hr2
  have df0 : w2.frozen? ⟨w.heap.size, 0, none⟩ = false := frozen_of_row hr2 0
  have dc1 : w2.cell? ⟨w.heap.size, 1, none⟩ = some (.int .u32 x1) := cell_of_row w2 w.heap.size 1 _ 24 (0, 0) hr2
  have df1 : w2.frozen? ⟨w.heap.size, 1, none⟩ = false := frozen_of_row hr2 1
  have dc2 : w2.cell? ⟨w.heap.size, 2, none⟩ = some (.int .i64 x2) := cell_of_row w2 w.heap.size 2 _ 24 (0, 0) hr2
  have df2 : w2.frozen? ⟨w.heap.size, 2, none⟩ = false := frozen_of_row hr2 2
  have dc3 : w2.cell? ⟨w.heap.size, 3, none⟩ = some (.int .i64 x3) := cell_of_row w2 w.heap.size 3 _ 24 (0, 0) hr2
  have df3 : w2.frozen? ⟨w.heap.size, 3, none⟩ = false := frozen_of_row hr2 3
  have dc4 : w2.cell? ⟨w.heap.size, 4, none⟩ = some (.int .i64 x4) := cell_of_row w2 w.heap.size 4 _ 24 (0, 0) hr2
  have df4 : w2.frozen? ⟨w.heap.size, 4, none⟩ = false := frozen_of_row hr2 4
  have dc5 : w2.cell? ⟨w.heap.size, 5, none⟩ = some (.int .i64 x5) := cell_of_row w2 w.heap.size 5 _ 24 (0, 0) hr2
  have df5 : w2.frozen? ⟨w.heap.size, 5, none⟩ = false := frozen_of_row hr2 5
  have dc6 : w2.cell? ⟨w.heap.size, 6, none⟩ = some (.bool x6) := cell_of_row w2 w.heap.size 6 _ 24 (0, 0) hr2
  have df6 : w2.frozen? ⟨w.heap.size, 6, none⟩ = false := frozen_of_row hr2 6
  have dc7 : w2.cell? ⟨w.heap.size, 7, none⟩ = some (.bool x7) := cell_of_row w2 w.heap.size 7 _ 24 (0, 0) hr2
  have df7 : w2.frozen? ⟨w.heap.size, 7, none⟩ = false := frozen_of_row hr2 7
  have dc8 : w2.cell? ⟨w.heap.size, 8, none⟩ = some (.string x8) := cell_of_row w2 w.heap.size 8 _ 24 (0, 0) hr2
  have df8 : w2.frozen? ⟨w.heap.size, 8, none⟩ = false := frozen_of_row hr2 8
  clear hr2
  go_upto_region 4 with (fail)
  have HR3 := Lib.hid (nine_row (.int .u32 x0) (.int .u32 x1) (.int .i64 x2) (.int .i64 x3) (.int .i64 x4) (.int .i64 x5) (.bool x6) (.bool x7) (.string x8) (.int .u32 x0) (.int .u32 x1) (.int .i64 x2) (.int .i64 x3) (.int .i64 x4) (.int .i64 x5) (.bool x6) (.bool x7) (.string bd) HR2.out)
  have HB3 := Lib.hid (nine_below (.int .u32 x0) (.int .u32 x1) (.int .i64 x2) (.int .i64 x3) (.int .i64 x4) (.int .i64 x5) (.bool x6) (.bool x7) (.string bd) HB2.out (Nat.le_refl _))
  generalize World.setCell _ ⟨w.heap.size, 8, none⟩ _ = w3 at HR3 HB3 ⊢
  have hr3 := HR3.out
  have hs3 : w.heap.size < w3.heap.size := (Array.getElem?_eq_some_iff.1 hr3).1
  clear HR2 HB2 hs1 hs2
  clear dc0 df0 dc1 df1 dc2 df2 dc3 df3 dc4 df4 dc5 df5 dc6 df6 dc7 df7 dc8 df8
  have dc0 : w3.cell? ⟨w.heap.size, 0, none⟩ = some (.int .u32 x0) := cell_of_row w3 w.heap.size 0 _ 24 (0, 0) hr3
  have df0 : w3.frozen? ⟨w.heap.size, 0, none⟩ = false := frozen_of_row hr3 0
  have dc1 : w3.cell? ⟨w.heap.size, 1, none⟩ = some (.int .u32 x1) := cell_of_row w3 w.heap.size 1 _ 24 (0, 0) hr3
  have df1 : w3.frozen? ⟨w.heap.size, 1, none⟩ = false := frozen_of_row hr3 1
  have dc2 : w3.cell? ⟨w.heap.size, 2, none⟩ = some (.int .i64 x2) := cell_of_row w3 w.heap.size 2 _ 24 (0, 0) hr3
  have df2 : w3.frozen? ⟨w.heap.size, 2, none⟩ = false := frozen_of_row hr3 2
  have dc3 : w3.cell? ⟨w.heap.size, 3, none⟩ = some (.int .i64 x3) := cell_of_row w3 w.heap.size 3 _ 24 (0, 0) hr3
  have df3 : w3.frozen? ⟨w.heap.size, 3, none⟩ = false := frozen_of_row hr3 3
  have dc4 : w3.cell? ⟨w.heap.size, 4, none⟩ = some (.int .i64 x4) := cell_of_row w3 w.heap.size 4 _ 24 (0, 0) hr3
  have df4 : w3.frozen? ⟨w.heap.size, 4, none⟩ = false := frozen_of_row hr3 4
  have dc5 : w3.cell? ⟨w.heap.size, 5, none⟩ = some (.int .i64 x5) := cell_of_row w3 w.heap.size 5 _ 24 (0, 0) hr3
  have df5 : w3.frozen? ⟨w.heap.size, 5, none⟩ = false := frozen_of_row hr3 5
  have dc6 : w3.cell? ⟨w.heap.size, 6, none⟩ = some (.bool x6) := cell_of_row w3 w.heap.size 6 _ 24 (0, 0) hr3
  have df6 : w3.frozen? ⟨w.heap.size, 6, none⟩ = false := frozen_of_row hr3 6
  have dc7 : w3.cell? ⟨w.heap.size, 7, none⟩ = some (.bool x7) := cell_of_row w3 w.heap.size 7 _ 24 (0, 0) hr3
  have df7 : w3.frozen? ⟨w.heap.size, 7, none⟩ = false := frozen_of_row hr3 7
  have dc8 : w3.cell? ⟨w.heap.size, 8, none⟩ = some (.string bd) := cell_of_row w3 w.heap.size 8 _ 24 (0, 0) hr3
  have df8 : w3.frozen? ⟨w.heap.size, 8, none⟩ = false := frozen_of_row hr3 8
  clear hr3
  go_wp2_with fail
  refine (pkt_Encode.calls 80 x0 x1 x2 x3 x4 x5 x6 x7 bd _ _ _ HE.out).mono ?_
  rintro e w4 ⟨rfl, hb4⟩
  have HR4 := Lib.hid ((hb4.block _ hs3).trans HR3.out)
  have HB4 := Lib.hid (HB3.out.trans (hb4.mono (Nat.le_of_lt hs3)))
  have hs4 : w.heap.size < w4.heap.size := Nat.lt_of_lt_of_le hs3 hb4.size
  clear hb4 HR3 HB3 HE hs3
  clear dc0 df0 dc1 df1 dc2 df2 dc3 df3 dc4 df4 dc5 df5 dc6 df6 dc7 df7 dc8 df8
  have hr4 := HR4.out
  have dc0 : w4.cell? ⟨w.heap.size, 0, none⟩ = some (.int .u32 x0) := cell_of_row w4 w.heap.size 0 _ 24 (0, 0) hr4
  have df0 : w4.frozen? ⟨w.heap.size, 0, none⟩ = false := frozen_of_row hr4 0
  have dc1 : w4.cell? ⟨w.heap.size, 1, none⟩ = some (.int .u32 x1) := cell_of_row w4 w.heap.size 1 _ 24 (0, 0) hr4
  have df1 : w4.frozen? ⟨w.heap.size, 1, none⟩ = false := frozen_of_row hr4 1
  have dc2 : w4.cell? ⟨w.heap.size, 2, none⟩ = some (.int .i64 x2) := cell_of_row w4 w.heap.size 2 _ 24 (0, 0) hr4
  have df2 : w4.frozen? ⟨w.heap.size, 2, none⟩ = false := frozen_of_row hr4 2
  have dc3 : w4.cell? ⟨w.heap.size, 3, none⟩ = some (.int .i64 x3) := cell_of_row w4 w.heap.size 3 _ 24 (0, 0) hr4
  have df3 : w4.frozen? ⟨w.heap.size, 3, none⟩ = false := frozen_of_row hr4 3
  have dc4 : w4.cell? ⟨w.heap.size, 4, none⟩ = some (.int .i64 x4) := cell_of_row w4 w.heap.size 4 _ 24 (0, 0) hr4
  have df4 : w4.frozen? ⟨w.heap.size, 4, none⟩ = false := frozen_of_row hr4 4
  have dc5 : w4.cell? ⟨w.heap.size, 5, none⟩ = some (.int .i64 x5) := cell_of_row w4 w.heap.size 5 _ 24 (0, 0) hr4
  have df5 : w4.frozen? ⟨w.heap.size, 5, none⟩ = false := frozen_of_row hr4 5
  have dc6 : w4.cell? ⟨w.heap.size, 6, none⟩ = some (.bool x6) := cell_of_row w4 w.heap.size 6 _ 24 (0, 0) hr4
  have df6 : w4.frozen? ⟨w.heap.size, 6, none⟩ = false := frozen_of_row hr4 6
  have dc7 : w4.cell? ⟨w.heap.size, 7, none⟩ = some (.bool x7) := cell_of_row w4 w.heap.size 7 _ 24 (0, 0) hr4
  have df7 : w4.frozen? ⟨w.heap.size, 7, none⟩ = false := frozen_of_row hr4 7
  have dc8 : w4.cell? ⟨w.heap.size, 8, none⟩ = some (.string bd) := cell_of_row w4 w.heap.size 8 _ 24 (0, 0) hr4
  have df8 : w4.frozen? ⟨w.heap.size, 8, none⟩ = false := frozen_of_row hr4 8
  clear hr4
  go_wp2_with fail
  refine (HD.out _).mono ?_
  rintro e w5 ⟨rfl, hb5⟩
  have HR5 := Lib.hid ((hb5.block _ hs4).trans HR4.out)
  have HB5 := Lib.hid (HB4.out.trans (hb5.mono (Nat.le_of_lt hs4)))
  have hs5 : w.heap.size < w5.heap.size := Nat.lt_of_lt_of_le hs4 hb5.size
  clear hb5 HR4 HB4 HD hs4
  clear dc0 df0 dc1 df1 dc2 df2 dc3 df3 dc4 df4 dc5 df5 dc6 df6 dc7 df7 dc8 df8
  go_upto_region 8 with (fail)
  have HB6 := Lib.hid (HB5.out.alloc (Nat.le_of_lt hs5) (.cells #[.int .u32 x0, .int .u32 x1, .int .i64 x2, .int .i64 x3, .int .i64 x4, .int .i64 x5, .bool x6, .bool x7, .string bd] 24))
  have HR6 := Lib.hid ((heap_alloc_old w5 (.cells #[.int .u32 x0, .int .u32 x1, .int .i64 x2, .int .i64 x3, .int .i64 x4, .int .i64 x5, .bool x6, .bool x7, .string bd] 24) hs5).trans HR5.out)
  have hr6 := heap_alloc_new w5 (.cells #[.int .u32 x0, .int .u32 x1, .int .i64 x2, .int .i64 x3, .int .i64 x4, .int .i64 x5, .bool x6, .bool x7, .string bd] 24)
  generalize w5.alloc (.cells #[.int .u32 x0, .int .u32 x1, .int .i64 x2, .int .i64 x3, .int .i64 x4, .int .i64 x5, .bool x6, .bool x7, .string bd] 24) = V at HB6 HR6 hr6 ⊢
  generalize w5.heap.size = g at hr6 hs5 ⊢
  have hv := HR6.out
  have dc0 : V.cell? ⟨g, 0, none⟩ = some (.int .u32 x0) := cell_of_row V g 0 _ 24 (0, 0) hr6
  have df0 : V.frozen? ⟨g, 0, none⟩ = false := frozen_of_row hr6 0
  have dc1 : V.cell? ⟨g, 1, none⟩ = some (.int .u32 x1) := cell_of_row V g 1 _ 24 (0, 0) hr6
  have df1 : V.frozen? ⟨g, 1, none⟩ = false := frozen_of_row hr6 1
  have dc2 : V.cell? ⟨g, 2, none⟩ = some (.int .i64 x2) := cell_of_row V g 2 _ 24 (0, 0) hr6
  have df2 : V.frozen? ⟨g, 2, none⟩ = false := frozen_of_row hr6 2
  have dc3 : V.cell? ⟨g, 3, none⟩ = some (.int .i64 x3) := cell_of_row V g 3 _ 24 (0, 0) hr6
  have df3 : V.frozen? ⟨g, 3, none⟩ = false := frozen_of_row hr6 3
  have dc4 : V.cell? ⟨g, 4, none⟩ = some (.int .i64 x4) := cell_of_row V g 4 _ 24 (0, 0) hr6
  have df4 : V.frozen? ⟨g, 4, none⟩ = false := frozen_of_row hr6 4
  have dc5 : V.cell? ⟨g, 5, none⟩ = some (.int .i64 x5) := cell_of_row V g 5 _ 24 (0, 0) hr6
  have df5 : V.frozen? ⟨g, 5, none⟩ = false := frozen_of_row hr6 5
  have dc6 : V.cell? ⟨g, 6, none⟩ = some (.bool x6) := cell_of_row V g 6 _ 24 (0, 0) hr6
  have df6 : V.frozen? ⟨g, 6, none⟩ = false := frozen_of_row hr6 6
  have dc7 : V.cell? ⟨g, 7, none⟩ = some (.bool x7) := cell_of_row V g 7 _ 24 (0, 0) hr6
  have df7 : V.frozen? ⟨g, 7, none⟩ = false := frozen_of_row hr6 7
  have dc8 : V.cell? ⟨g, 8, none⟩ = some (.string bd) := cell_of_row V g 8 _ 24 (0, 0) hr6
  have df8 : V.frozen? ⟨g, 8, none⟩ = false := frozen_of_row hr6 8
  have zc0 : V.cell? ⟨w.heap.size, 0, none⟩ = some (.int .u32 x0) := cell_of_row V w.heap.size 0 _ 24 (0, 0) hv
  have zf0 : V.frozen? ⟨w.heap.size, 0, none⟩ = false := frozen_of_row hv 0
  have zc1 : V.cell? ⟨w.heap.size, 1, none⟩ = some (.int .u32 x1) := cell_of_row V w.heap.size 1 _ 24 (0, 0) hv
  have zf1 : V.frozen? ⟨w.heap.size, 1, none⟩ = false := frozen_of_row hv 1
  have zc2 : V.cell? ⟨w.heap.size, 2, none⟩ = some (.int .i64 x2) := cell_of_row V w.heap.size 2 _ 24 (0, 0) hv
  have zf2 : V.frozen? ⟨w.heap.size, 2, none⟩ = false := frozen_of_row hv 2
  have zc3 : V.cell? ⟨w.heap.size, 3, none⟩ = some (.int .i64 x3) := cell_of_row V w.heap.size 3 _ 24 (0, 0) hv
  have zf3 : V.frozen? ⟨w.heap.size, 3, none⟩ = false := frozen_of_row hv 3
  have zc4 : V.cell? ⟨w.heap.size, 4, none⟩ = some (.int .i64 x4) := cell_of_row V w.heap.size 4 _ 24 (0, 0) hv
  have zf4 : V.frozen? ⟨w.heap.size, 4, none⟩ = false := frozen_of_row hv 4
  have zc5 : V.cell? ⟨w.heap.size, 5, none⟩ = some (.int .i64 x5) := cell_of_row V w.heap.size 5 _ 24 (0, 0) hv
  have zf5 : V.frozen? ⟨w.heap.size, 5, none⟩ = false := frozen_of_row hv 5
  have zc6 : V.cell? ⟨w.heap.size, 6, none⟩ = some (.bool x6) := cell_of_row V w.heap.size 6 _ 24 (0, 0) hv
  have zf6 : V.frozen? ⟨w.heap.size, 6, none⟩ = false := frozen_of_row hv 6
  have zc7 : V.cell? ⟨w.heap.size, 7, none⟩ = some (.bool x7) := cell_of_row V w.heap.size 7 _ 24 (0, 0) hv
  have zf7 : V.frozen? ⟨w.heap.size, 7, none⟩ = false := frozen_of_row hv 7
  have zc8 : V.cell? ⟨w.heap.size, 8, none⟩ = some (.string bd) := cell_of_row V w.heap.size 8 _ 24 (0, 0) hv
  have zf8 : V.frozen? ⟨w.heap.size, 8, none⟩ = false := frozen_of_row hv 8
  clear hr6 hv HB5 HR5
  go_wp2_with fail
  go_ret
  exact ⟨rfl, HB6.out⟩
/-- The bytes of a header. -/
def hbytes (l : List Int) : List UInt8 := l.map (fun n => UInt8.ofNat n.toNat)
def hfun (src dst proto ttl id off : Int) (more whole : Bool) (n sum : Int) : Fin 20 → UInt8 := fun i => (hbytes (hdr src dst proto ttl id off more whole n sum)).get (i.cast (by simp [hbytes, hdr]))
theorem u8N (x : Int) (h0 : 0 ≤ x) (h1 : x < 256) : ((UInt8.ofNat x.toNat).toNat : Int) = x := by
  rw [UInt8.toNat_ofNat']; omega
theorem whole_mk (src dst proto ttl id off : Int) (more whole : Bool) (n sum : Int) (body : ByteArray) :
    strOfNums (hdr src dst proto ttl id off more whole n sum) ++ body = mk (hfun src dst proto ttl id off more whole n sum) body.data.toList := by
  apply mk_ext
  rw [ByteArray.data_append, Array.toList_append, strOfNums_data]
  simp [mk, ofFn20]
  rfl
theorem zeroed_hdr (src dst proto ttl id off : Int) (more whole : Bool) (n sum : Int) :
    zeroed (hfun src dst proto ttl id off more whole n sum) = strOfNums (hdr src dst proto ttl id off more whole n 0) := by
  apply mk_ext
  rw [strOfNums_data]
  rfl
theorem read_back {src dst proto ttl id off : Int} {more whole : Bool} {body : ByteArray} (hb : body.size ≤ 40) (s0 : 0 ≤ src) (s1 : src < 4294967296) (d0 : 0 ≤ dst) (d1 : dst < 4294967296)
    (hc : chk proto ttl id off more whole body = 0) (v : Int) (v0 : 0 ≤ v) (v1 : v ≤ 65535) (b : Fin 20 → UInt8) (hbb : b = hfun src dst proto ttl id off more whole (20 + body.size) v) :
    ¬ headBad b ∧ n2 b 10 11 = v ∧ n2 b 2 3 = 20 + body.data.toList.length ∧
      n4 b 12 13 14 15 = src ∧ n4 b 16 17 18 19 = dst ∧ N b 9 = proto ∧ N b 8 = ttl ∧ n2 b 4 5 = id ∧ n2 b 6 7 % 8192 * 8 = off ∧ (n2 b 6 7 / 8192 % 2 * 8192 != 0) = more ∧ (n2 b 6 7 / 16384 % 2 * 16384 != 0) = whole := by
  obtain ⟨p0, p1, t0, t1, i0, i1, o0, o1, o8⟩ := chk_ranges hc
  have hl : body.data.toList.length = body.size := by rw [Array.length_toList]; rfl
  have hf : 0 ≤ flagsOf off more whole ∧ flagsOf off more whole ≤ 32767 := by
    unfold flagsOf; cases more <;> cases whole <;> simp <;> omega
  have e : ∀ (i : Fin 20) (x : Int), 0 ≤ x → x < 256 → b i = UInt8.ofNat x.toNat → N b i = x := fun i x h0 h1 h => by unfold N; rw [h]; exact u8N x h0 h1
  have e0 := e 0 69 (by omega) (by omega) (by subst hbb; rfl)
  have e1 := e 1 0 (by omega) (by omega) (by subst hbb; rfl)
  have e2 := e 2 ((20 + body.size : Int) / 256 % 256) (by omega) (by omega) (by subst hbb; rfl)
  have e3 := e 3 ((20 + body.size : Int) % 256) (by omega) (by omega) (by subst hbb; rfl)
  have e4 := e 4 (id / 256 % 256) (by omega) (by omega) (by subst hbb; rfl)
  have e5 := e 5 (id % 256) (by omega) (by omega) (by subst hbb; rfl)
  have e6 := e 6 (flagsOf off more whole / 256 % 256) (by omega) (by omega) (by subst hbb; rfl)
  have e7 := e 7 (flagsOf off more whole % 256) (by omega) (by omega) (by subst hbb; rfl)
  have e8 := e 8 (ttl % 256) (by omega) (by omega) (by subst hbb; rfl)
  have e9 := e 9 (proto % 256) (by omega) (by omega) (by subst hbb; rfl)
  have e10 := e 10 (v / 256 % 256) (by omega) (by omega) (by subst hbb; rfl)
  have e11 := e 11 (v % 256) (by omega) (by omega) (by subst hbb; rfl)
  have e12 := e 12 (src / 16777216 % 256) (by omega) (by omega) (by subst hbb; rfl)
  have e13 := e 13 (src / 65536 % 256) (by omega) (by omega) (by subst hbb; rfl)
  have e14 := e 14 (src / 256 % 256) (by omega) (by omega) (by subst hbb; rfl)
  have e15 := e 15 (src % 256) (by omega) (by omega) (by subst hbb; rfl)
  have e16 := e 16 (dst / 16777216 % 256) (by omega) (by omega) (by subst hbb; rfl)
  have e17 := e 17 (dst / 65536 % 256) (by omega) (by omega) (by subst hbb; rfl)
  have e18 := e 18 (dst / 256 % 256) (by omega) (by omega) (by subst hbb; rfl)
  have e19 := e 19 (dst % 256) (by omega) (by omega) (by subst hbb; rfl)
  have hfl : n2 b 6 7 = flagsOf off more whole := by unfold n2; rw [e6, e7]; omega
  have hn : n2 b 2 3 = 20 + body.size := by unfold n2; rw [e2, e3]; omega
  refine ⟨?_, by unfold n2; rw [e10, e11]; omega, by rw [hn, hl], by unfold n4; rw [e12, e13, e14, e15]; omega, by unfold n4; rw [e16, e17, e18, e19]; omega, by rw [e9]; omega, by rw [e8]; omega, by unfold n2; rw [e4, e5]; omega, ?_, ?_, ?_⟩
  · unfold headBad
    rw [e0, e1, hn, hfl, e8]
    omega
  · rw [hfl]; unfold flagsOf; cases more <;> cases whole <;> simp <;> omega
  · rw [hfl]; unfold flagsOf; cases more <;> cases whole <;> simp <;> omega
  · rw [hfl]; unfold flagsOf; cases more <;> cases whole <;> simp <;> omega
theorem back_any (w : World) (x0 x1 x2 x3 x4 x5 : Int) (x6 x7 : Bool) (x8 : ByteArray) (s0 : 0 ≤ x0) (s1 : x0 < 4294967296) (d0 : 0 ≤ x1) (d1 : x1 < 4294967296) :
    Calls Try.prog 3 #[.agg #[.int .u32 x0, .int .u32 x1, .int .i64 x2, .int .i64 x3, .int .i64 x4, .int .i64 x5, .bool x6, .bool x7, .string x8]] w (Says true w) := by
  obtain ⟨bd, hb, hl⟩ := begin_ok x8
  have ht : patchbaykeep2_bare.f x0 x1 x2 x3 x4 x5 x6 x7 x8 40 = some (x0, x1, x2, x3, x4, x5, x6, x7, bd) := by
    unfold patchbaykeep2_bare.f
    rw [hb]; rfl
  by_cases hc : chk x2 x3 x4 x5 x6 x7 bd = 0
  · obtain ⟨v, v0, v1, hv⟩ := sum_ok (strOfNums (hdr x0 x1 x2 x3 x4 x5 x6 x7 (20 + bd.size) 0)) (by rw [strOfNums_size]; simp [hdr])
    have hE := encode_ok 80 (by omega) x0 x1 x2 x3 x4 x5 x6 x7 bd (by omega) s0 s1 d0 d1 hc v (hv 80 (by omega))
    rw [whole_mk] at hE
    obtain ⟨r1, r2, r3, r4, r5, r6, r7, r8, r9, ra, rb⟩ := read_back hl s0 s1 d0 d1 hc v v0 v1 _ rfl
    have hrest : (⟨bd.data.toList.toArray⟩ : ByteArray) = bd := by cases bd; simp
    have hsz : bd.data.toList.length = bd.size := by rw [Array.length_toList]; rfl
    obtain ⟨_, _, _, _, d5⟩ := decode_mk (hfun x0 x1 x2 x3 x4 x5 x6 x7 (20 + bd.size) v) bd.data.toList (by omega) v (by rw [zeroed_hdr]; exact hv 80 (by omega))
    have hD := d5 r1 r2 r3 (by unfold chkR; rw [r6, r7, r8, r9, ra, rb, hrest]; exact hc)
    unfold DecOk pktOf at hD
    rw [r4, r5, r6, r7, r8, r9, ra, rb, hrest] at hD
    exact back_ok w x0 x1 x2 x3 x4 x5 x6 x7 x8 bd ht _ hE hD
  · exact back_err w x0 x1 x2 x3 x4 x5 x6 x7 x8 bd ht _ (bne_iff_ne.2 hc) (encode_bad 80 (by omega) _ _ _ _ _ _ _ _ _ (by omega) hc) (check_ok 80 (by omega) _ _ _ _ _ _ _ _ _ (by omega))
end Go.Proofs.Ytnhanjjkmjpmlaa.Pk
