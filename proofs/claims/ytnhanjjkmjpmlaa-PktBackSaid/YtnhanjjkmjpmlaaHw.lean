/- The walk of pkt.Decode by hand, over Head's contract: an error, another length, a bad packet, a good one. -/
import Derived.Test.YtnhanjjkmjpmlaaHv
import Derived.Laws.Rows
set_option linter.unusedVariables false
set_option linter.unusedSimpArgs false
namespace Go.Proofs.Ytnhanjjkmjpmlaa.Pk
open Go.RowKit Go.Proofs.Ytnhanjjkmjpmlaa.PPktBack Go.Proofs.YtnhanjjkmjpmlaaW.PrintWords Go.Proofs.YtnhanjjkmjpmlaaW.PrintLast
def zero2 (b : Int) : Ending := .returned (.tuple #[.agg #[.int .u32 0, .int .u32 0, .int .i64 0, .int .i64 0, .int .i64 0, .int .i64 0, .bool false, .bool false, .string ⟨#[]⟩], .int .i64 b])
theorem heap_setCell_same {w : World} {g : Nat} {cs : Array Value} {t : TypeId} (h : w.heap[g]? = some (.cells cs t (0, 0))) (i : Nat) (u : Value) : (w.setCell ⟨g, i, none⟩ u).heap[g]? = some (.cells (cs.setIfInBounds i u) t (0, 0)) := by
  simp [World.setCell, Array.getElem?_modify, h]
theorem frozen_of_row {w : World} {g : Nat} {cs : Array Value} {t : TypeId} (h : w.heap[g]? = some (.cells cs t (0, 0))) (o : Nat) : w.frozen? ⟨g, o, none⟩ = false := by simp [World.frozen?, h]
theorem nine_row {W : World} {g : Nat} (c0 c1 c2 c3 c4 c5 c6 c7 c8 a0 a1 a2 a3 a4 a5 a6 a7 a8 : Value) (h : W.heap[g]? = some (.cells #[c0, c1, c2, c3, c4, c5, c6, c7, c8] 24 (0, 0))) : (World.setCell (World.setCell (World.setCell (World.setCell (World.setCell (World.setCell (World.setCell (World.setCell (World.setCell W ⟨g, 0, none⟩ (a0)) ⟨g, 1, none⟩ (a1)) ⟨g, 2, none⟩ (a2)) ⟨g, 3, none⟩ (a3)) ⟨g, 4, none⟩ (a4)) ⟨g, 5, none⟩ (a5)) ⟨g, 6, none⟩ (a6)) ⟨g, 7, none⟩ (a7)) ⟨g, 8, none⟩ (a8)).heap[g]? = some (.cells #[a0, a1, a2, a3, a4, a5, a6, a7, a8] 24 (0, 0)) := by
  have h := heap_setCell_same h 0 a0
  have h := heap_setCell_same h 1 a1
  have h := heap_setCell_same h 2 a2
  have h := heap_setCell_same h 3 a3
  have h := heap_setCell_same h 4 a4
  have h := heap_setCell_same h 5 a5
  have h := heap_setCell_same h 6 a6
  have h := heap_setCell_same h 7 a7
  have h := heap_setCell_same h 8 a8
  simpa using h
theorem nine_below {B : Nat} {w W : World} {g : Nat} (a0 a1 a2 a3 a4 a5 a6 a7 a8 : Value) (h : Below B w W) (hg : B ≤ g) : Below B w (World.setCell (World.setCell (World.setCell (World.setCell (World.setCell (World.setCell (World.setCell (World.setCell (World.setCell W ⟨g, 0, none⟩ (a0)) ⟨g, 1, none⟩ (a1)) ⟨g, 2, none⟩ (a2)) ⟨g, 3, none⟩ (a3)) ⟨g, 4, none⟩ (a4)) ⟨g, 5, none⟩ (a5)) ⟨g, 6, none⟩ (a6)) ⟨g, 7, none⟩ (a7)) ⟨g, 8, none⟩ (a8)) := by
  exact (((((((((h.setCell hg _).setCell hg _).setCell hg _).setCell hg _).setCell hg _).setCell hg _).setCell hg _).setCell hg _).setCell hg _)
theorem res9 (tmps : Array Value) (WF : World) (g : Nat) (x0 x1 x2 x3 x4 x5 : Int) (x6 x7 : Bool) (x8 : ByteArray) (ht : tmps.getD 2 undef = .pointer (some ⟨g, 0, none⟩))
    (h : WF.heap[g]? = some (.cells #[.int .u32 x0, .int .u32 x1, .int .i64 x2, .int .i64 x3, .int .i64 x4, .int .i64 x5, .bool x6, .bool x7, .string x8] 24 (0, 0))) :
    (results Try.f9 tmps).run Try.prog WF = .ok (.tuple #[.agg #[.int .u32 x0, .int .u32 x1, .int .i64 x2, .int .i64 x3, .int .i64 x4, .int .i64 x5, .bool x6, .bool x7, .string x8], tmps.getD 3 undef]) WF := by
  have h0 := cell_of_row WF g 0 _ 24 (0, 0) h
  have h1 := cell_of_row WF g 1 _ 24 (0, 0) h
  have h2 := cell_of_row WF g 2 _ 24 (0, 0) h
  have h3 := cell_of_row WF g 3 _ 24 (0, 0) h
  have h4 := cell_of_row WF g 4 _ 24 (0, 0) h
  have h5 := cell_of_row WF g 5 _ 24 (0, 0) h
  have h6 := cell_of_row WF g 6 _ 24 (0, 0) h
  have h7 := cell_of_row WF g 7 _ 24 (0, 0) h
  have h8 := cell_of_row WF g 8 _ 24 (0, 0) h
  simp only [Array.getD_eq_getD_getElem?] at ht
  simp [results, Try.results9, ht, asAddr, loadVar, go_sem, h0, h1, h2, h3, h4, h5, h6, h7, h8, Try.isAgg24, Try.sizeOf24]
theorem dec_end (tmps : Array Value) (w WF : World) (g : Nat) (b : Int) (x0 x1 x2 x3 x4 x5 : Int) (x6 x7 : Bool) (x8 : ByteArray) (ht : tmps.getD 2 undef = .pointer (some ⟨g, 0, none⟩)) (ht3 : tmps.getD 3 undef = .int .i64 b)
    (h : WF.heap[g]? = some (.cells #[.int .u32 x0, .int .u32 x1, .int .i64 x2, .int .i64 x3, .int .i64 x4, .int .i64 x5, .bool x6, .bool x7, .string x8] 24 (0, 0))) (hb : Below w.heap.size w WF) :
    bodyPost Try.prog Try.f9 (fun e w' => e = .returned (.tuple #[.agg #[.int .u32 x0, .int .u32 x1, .int .i64 x2, .int .i64 x3, .int .i64 x4, .int .i64 x5, .bool x6, .bool x7, .string x8], .int .i64 b]) ∧ Below w.heap.size w w') Exit.ret { tmps := tmps, defers := [] } WF := by
  have hr := res9 tmps WF g _ _ _ _ _ _ _ _ _ ht h
  rw [ht3] at hr
  exact bodyPost_ret hr rfl ⟨rfl, hb⟩
set_option maxRecDepth 100000 in
set_option maxHeartbeats 2000000 in
theorem decode_err (s : ByteArray) (w : World) (b : Int) (hb : (b != 0) = true) (hH : ∀ w, Calls Try.prog 13 #[.string s] w fun e w' => e = .returned (.tuple #[.agg #[.int .u32 0, .int .u32 0, .int .i64 0, .int .i64 0, .int .i64 0, .int .i64 0, .bool false, .bool false, .string ⟨#[]⟩], .int .i64 0, .int .i64 b]) ∧ Below w.heap.size w w') :
    Calls Try.prog 9 #[.string s] w fun e w' => e = zero2 b ∧ Below w.heap.size w w' := by
  have HH := Lib.hid hH
  clear hH
  go_enter Try.func9, Try.ntmps9
  go_wp2_with fail
  refine (HH.out _).mono ?_
  rintro e w1 ⟨rfl, hb1⟩
  have HB1 := Lib.hid hb1
  have hz : w.heap.size < w1.heap.size := by have := hb1.size; simp at this; omega
  have HB := Lib.hid (show Below w.heap.size w w1 from ((Below.refl _ _).alloc (Nat.le_refl _) _).trans (hb1.mono (by simp)))
  clear hb1
  go_upto_region 2 with (fail)
  have HV1 := Lib.hid (heap_alloc_new w1 (.cells #[.int .u32 0, .int .u32 0, .int .i64 0, .int .i64 0, .int .i64 0, .int .i64 0, .bool false, .bool false, .string ⟨#[]⟩] 24))
  have HL1 := Lib.hid ((Below.refl w1.heap.size w1).alloc (Nat.le_refl _) (.cells #[.int .u32 0, .int .u32 0, .int .i64 0, .int .i64 0, .int .i64 0, .int .i64 0, .bool false, .bool false, .string ⟨#[]⟩] 24))
  generalize w1.alloc (.cells #[.int .u32 0, .int .u32 0, .int .i64 0, .int .i64 0, .int .i64 0, .int .i64 0, .bool false, .bool false, .string ⟨#[]⟩] 24) = V at HV1 HL1 ⊢
  have hr1 : V.heap[w1.heap.size]? = some (.cells #[.int .u32 0, .int .u32 0, .int .i64 0, .int .i64 0, .int .i64 0, .int .i64 0, .bool false, .bool false, .string ⟨#[]⟩] 24 (0, 0)) := HV1.out
  have hr0 : V.heap[w.heap.size]? = some (.cells #[.int .u32 0, .int .u32 0, .int .i64 0, .int .i64 0, .int .i64 0, .int .i64 0, .bool false, .bool false, .string ⟨#[]⟩] 24 (0, 0)) := (HL1.out.block _ hz).trans ((HB1.out.block _ (by simp)).trans (heap_alloc_new w _))
  have hzV : w1.heap.size < V.heap.size := (Array.getElem?_eq_some_iff.1 hr1).1
  have HBV := Lib.hid (HB.out.trans (HL1.out.mono (Nat.le_of_lt hz)))
  have dc0 : V.cell? ⟨w1.heap.size, 0, none⟩ = some (.int .u32 0) := cell_of_row V w1.heap.size 0 _ 24 (0, 0) hr1
  have df0 : V.frozen? ⟨w1.heap.size, 0, none⟩ = false := frozen_of_row hr1 0
  have dc1 : V.cell? ⟨w1.heap.size, 1, none⟩ = some (.int .u32 0) := cell_of_row V w1.heap.size 1 _ 24 (0, 0) hr1
  have df1 : V.frozen? ⟨w1.heap.size, 1, none⟩ = false := frozen_of_row hr1 1
  have dc2 : V.cell? ⟨w1.heap.size, 2, none⟩ = some (.int .i64 0) := cell_of_row V w1.heap.size 2 _ 24 (0, 0) hr1
  have df2 : V.frozen? ⟨w1.heap.size, 2, none⟩ = false := frozen_of_row hr1 2
  have dc3 : V.cell? ⟨w1.heap.size, 3, none⟩ = some (.int .i64 0) := cell_of_row V w1.heap.size 3 _ 24 (0, 0) hr1
  have df3 : V.frozen? ⟨w1.heap.size, 3, none⟩ = false := frozen_of_row hr1 3
  have dc4 : V.cell? ⟨w1.heap.size, 4, none⟩ = some (.int .i64 0) := cell_of_row V w1.heap.size 4 _ 24 (0, 0) hr1
  have df4 : V.frozen? ⟨w1.heap.size, 4, none⟩ = false := frozen_of_row hr1 4
  have dc5 : V.cell? ⟨w1.heap.size, 5, none⟩ = some (.int .i64 0) := cell_of_row V w1.heap.size 5 _ 24 (0, 0) hr1
  have df5 : V.frozen? ⟨w1.heap.size, 5, none⟩ = false := frozen_of_row hr1 5
  have dc6 : V.cell? ⟨w1.heap.size, 6, none⟩ = some (.bool false) := cell_of_row V w1.heap.size 6 _ 24 (0, 0) hr1
  have df6 : V.frozen? ⟨w1.heap.size, 6, none⟩ = false := frozen_of_row hr1 6
  have dc7 : V.cell? ⟨w1.heap.size, 7, none⟩ = some (.bool false) := cell_of_row V w1.heap.size 7 _ 24 (0, 0) hr1
  have df7 : V.frozen? ⟨w1.heap.size, 7, none⟩ = false := frozen_of_row hr1 7
  have dc8 : V.cell? ⟨w1.heap.size, 8, none⟩ = some (.string ⟨#[]⟩) := cell_of_row V w1.heap.size 8 _ 24 (0, 0) hr1
  have df8 : V.frozen? ⟨w1.heap.size, 8, none⟩ = false := frozen_of_row hr1 8
  have zc0 : V.cell? ⟨w.heap.size, 0, none⟩ = some (.int .u32 0) := cell_of_row V w.heap.size 0 _ 24 (0, 0) hr0
  have zf0 : V.frozen? ⟨w.heap.size, 0, none⟩ = false := frozen_of_row hr0 0
  have zc1 : V.cell? ⟨w.heap.size, 1, none⟩ = some (.int .u32 0) := cell_of_row V w.heap.size 1 _ 24 (0, 0) hr0
  have zf1 : V.frozen? ⟨w.heap.size, 1, none⟩ = false := frozen_of_row hr0 1
  have zc2 : V.cell? ⟨w.heap.size, 2, none⟩ = some (.int .i64 0) := cell_of_row V w.heap.size 2 _ 24 (0, 0) hr0
  have zf2 : V.frozen? ⟨w.heap.size, 2, none⟩ = false := frozen_of_row hr0 2
  have zc3 : V.cell? ⟨w.heap.size, 3, none⟩ = some (.int .i64 0) := cell_of_row V w.heap.size 3 _ 24 (0, 0) hr0
  have zf3 : V.frozen? ⟨w.heap.size, 3, none⟩ = false := frozen_of_row hr0 3
  have zc4 : V.cell? ⟨w.heap.size, 4, none⟩ = some (.int .i64 0) := cell_of_row V w.heap.size 4 _ 24 (0, 0) hr0
  have zf4 : V.frozen? ⟨w.heap.size, 4, none⟩ = false := frozen_of_row hr0 4
  have zc5 : V.cell? ⟨w.heap.size, 5, none⟩ = some (.int .i64 0) := cell_of_row V w.heap.size 5 _ 24 (0, 0) hr0
  have zf5 : V.frozen? ⟨w.heap.size, 5, none⟩ = false := frozen_of_row hr0 5
  have zc6 : V.cell? ⟨w.heap.size, 6, none⟩ = some (.bool false) := cell_of_row V w.heap.size 6 _ 24 (0, 0) hr0
  have zf6 : V.frozen? ⟨w.heap.size, 6, none⟩ = false := frozen_of_row hr0 6
  have zc7 : V.cell? ⟨w.heap.size, 7, none⟩ = some (.bool false) := cell_of_row V w.heap.size 7 _ 24 (0, 0) hr0
  have zf7 : V.frozen? ⟨w.heap.size, 7, none⟩ = false := frozen_of_row hr0 7
  have zc8 : V.cell? ⟨w.heap.size, 8, none⟩ = some (.string ⟨#[]⟩) := cell_of_row V w.heap.size 8 _ 24 (0, 0) hr0
  have zf8 : V.frozen? ⟨w.heap.size, 8, none⟩ = false := frozen_of_row hr0 8
  have HR0 := Lib.hid hr0
  have HR1 := Lib.hid hr1
  clear HV1 HL1 HB1 hr0 hr1
  generalize w1.heap.size = g1 at *
  go_wp2_with fail
  refine dec_end _ w _ w.heap.size b 0 0 0 0 0 0 false false ⟨#[]⟩ ?_ ?_ (nine_row (.int .u32 0) (.int .u32 0) (.int .i64 0) (.int .i64 0) (.int .i64 0) (.int .i64 0) (.bool false) (.bool false) (.string ⟨#[]⟩) (.int .u32 0) (.int .u32 0) (.int .i64 0) (.int .i64 0) (.int .i64 0) (.int .i64 0) (.bool false) (.bool false) (.string ⟨#[]⟩) HR0.out) (nine_below (.int .u32 0) (.int .u32 0) (.int .i64 0) (.int .i64 0) (.int .i64 0) (.int .i64 0) (.bool false) (.bool false) (.string ⟨#[]⟩) HBV.out (Nat.le_refl _))
  · rfl
  · rfl
set_option maxRecDepth 100000 in
set_option maxHeartbeats 2000000 in
theorem decode_short (s : ByteArray) (w : World) (n x0 x1 x2 x3 x4 x5 : Int) (x6 x7 : Bool) (hn : (s.size : Int) < n) (hH : ∀ w, Calls Try.prog 13 #[.string s] w fun e w' => e = .returned (.tuple #[.agg #[.int .u32 x0, .int .u32 x1, .int .i64 x2, .int .i64 x3, .int .i64 x4, .int .i64 x5, .bool x6, .bool x7, .string ⟨#[]⟩], .int .i64 n, .int .i64 0]) ∧ Below w.heap.size w w') :
    Calls Try.prog 9 #[.string s] w fun e w' => e = zero2 9 ∧ Below w.heap.size w w' := by
  have HH := Lib.hid hH
  clear hH
  go_enter Try.func9, Try.ntmps9
  go_wp2_with fail
  refine (HH.out _).mono ?_
  rintro e w1 ⟨rfl, hb1⟩
  have HB1 := Lib.hid hb1
  have hz : w.heap.size < w1.heap.size := by have := hb1.size; simp at this; omega
  have HB := Lib.hid (show Below w.heap.size w w1 from ((Below.refl _ _).alloc (Nat.le_refl _) _).trans (hb1.mono (by simp)))
  clear hb1
  go_upto_region 2 with (fail)
  have HV1 := Lib.hid (heap_alloc_new w1 (.cells #[.int .u32 x0, .int .u32 x1, .int .i64 x2, .int .i64 x3, .int .i64 x4, .int .i64 x5, .bool x6, .bool x7, .string ⟨#[]⟩] 24))
  have HL1 := Lib.hid ((Below.refl w1.heap.size w1).alloc (Nat.le_refl _) (.cells #[.int .u32 x0, .int .u32 x1, .int .i64 x2, .int .i64 x3, .int .i64 x4, .int .i64 x5, .bool x6, .bool x7, .string ⟨#[]⟩] 24))
  generalize w1.alloc (.cells #[.int .u32 x0, .int .u32 x1, .int .i64 x2, .int .i64 x3, .int .i64 x4, .int .i64 x5, .bool x6, .bool x7, .string ⟨#[]⟩] 24) = V at HV1 HL1 ⊢
  have hr1 : V.heap[w1.heap.size]? = some (.cells #[.int .u32 x0, .int .u32 x1, .int .i64 x2, .int .i64 x3, .int .i64 x4, .int .i64 x5, .bool x6, .bool x7, .string ⟨#[]⟩] 24 (0, 0)) := HV1.out
  have hr0 : V.heap[w.heap.size]? = some (.cells #[.int .u32 0, .int .u32 0, .int .i64 0, .int .i64 0, .int .i64 0, .int .i64 0, .bool false, .bool false, .string ⟨#[]⟩] 24 (0, 0)) := (HL1.out.block _ hz).trans ((HB1.out.block _ (by simp)).trans (heap_alloc_new w _))
  have hzV : w1.heap.size < V.heap.size := (Array.getElem?_eq_some_iff.1 hr1).1
  have HBV := Lib.hid (HB.out.trans (HL1.out.mono (Nat.le_of_lt hz)))
  have dc0 : V.cell? ⟨w1.heap.size, 0, none⟩ = some (.int .u32 x0) := cell_of_row V w1.heap.size 0 _ 24 (0, 0) hr1
  have df0 : V.frozen? ⟨w1.heap.size, 0, none⟩ = false := frozen_of_row hr1 0
  have dc1 : V.cell? ⟨w1.heap.size, 1, none⟩ = some (.int .u32 x1) := cell_of_row V w1.heap.size 1 _ 24 (0, 0) hr1
  have df1 : V.frozen? ⟨w1.heap.size, 1, none⟩ = false := frozen_of_row hr1 1
  have dc2 : V.cell? ⟨w1.heap.size, 2, none⟩ = some (.int .i64 x2) := cell_of_row V w1.heap.size 2 _ 24 (0, 0) hr1
  have df2 : V.frozen? ⟨w1.heap.size, 2, none⟩ = false := frozen_of_row hr1 2
  have dc3 : V.cell? ⟨w1.heap.size, 3, none⟩ = some (.int .i64 x3) := cell_of_row V w1.heap.size 3 _ 24 (0, 0) hr1
  have df3 : V.frozen? ⟨w1.heap.size, 3, none⟩ = false := frozen_of_row hr1 3
  have dc4 : V.cell? ⟨w1.heap.size, 4, none⟩ = some (.int .i64 x4) := cell_of_row V w1.heap.size 4 _ 24 (0, 0) hr1
  have df4 : V.frozen? ⟨w1.heap.size, 4, none⟩ = false := frozen_of_row hr1 4
  have dc5 : V.cell? ⟨w1.heap.size, 5, none⟩ = some (.int .i64 x5) := cell_of_row V w1.heap.size 5 _ 24 (0, 0) hr1
  have df5 : V.frozen? ⟨w1.heap.size, 5, none⟩ = false := frozen_of_row hr1 5
  have dc6 : V.cell? ⟨w1.heap.size, 6, none⟩ = some (.bool x6) := cell_of_row V w1.heap.size 6 _ 24 (0, 0) hr1
  have df6 : V.frozen? ⟨w1.heap.size, 6, none⟩ = false := frozen_of_row hr1 6
  have dc7 : V.cell? ⟨w1.heap.size, 7, none⟩ = some (.bool x7) := cell_of_row V w1.heap.size 7 _ 24 (0, 0) hr1
  have df7 : V.frozen? ⟨w1.heap.size, 7, none⟩ = false := frozen_of_row hr1 7
  have dc8 : V.cell? ⟨w1.heap.size, 8, none⟩ = some (.string ⟨#[]⟩) := cell_of_row V w1.heap.size 8 _ 24 (0, 0) hr1
  have df8 : V.frozen? ⟨w1.heap.size, 8, none⟩ = false := frozen_of_row hr1 8
  have zc0 : V.cell? ⟨w.heap.size, 0, none⟩ = some (.int .u32 0) := cell_of_row V w.heap.size 0 _ 24 (0, 0) hr0
  have zf0 : V.frozen? ⟨w.heap.size, 0, none⟩ = false := frozen_of_row hr0 0
  have zc1 : V.cell? ⟨w.heap.size, 1, none⟩ = some (.int .u32 0) := cell_of_row V w.heap.size 1 _ 24 (0, 0) hr0
  have zf1 : V.frozen? ⟨w.heap.size, 1, none⟩ = false := frozen_of_row hr0 1
  have zc2 : V.cell? ⟨w.heap.size, 2, none⟩ = some (.int .i64 0) := cell_of_row V w.heap.size 2 _ 24 (0, 0) hr0
  have zf2 : V.frozen? ⟨w.heap.size, 2, none⟩ = false := frozen_of_row hr0 2
  have zc3 : V.cell? ⟨w.heap.size, 3, none⟩ = some (.int .i64 0) := cell_of_row V w.heap.size 3 _ 24 (0, 0) hr0
  have zf3 : V.frozen? ⟨w.heap.size, 3, none⟩ = false := frozen_of_row hr0 3
  have zc4 : V.cell? ⟨w.heap.size, 4, none⟩ = some (.int .i64 0) := cell_of_row V w.heap.size 4 _ 24 (0, 0) hr0
  have zf4 : V.frozen? ⟨w.heap.size, 4, none⟩ = false := frozen_of_row hr0 4
  have zc5 : V.cell? ⟨w.heap.size, 5, none⟩ = some (.int .i64 0) := cell_of_row V w.heap.size 5 _ 24 (0, 0) hr0
  have zf5 : V.frozen? ⟨w.heap.size, 5, none⟩ = false := frozen_of_row hr0 5
  have zc6 : V.cell? ⟨w.heap.size, 6, none⟩ = some (.bool false) := cell_of_row V w.heap.size 6 _ 24 (0, 0) hr0
  have zf6 : V.frozen? ⟨w.heap.size, 6, none⟩ = false := frozen_of_row hr0 6
  have zc7 : V.cell? ⟨w.heap.size, 7, none⟩ = some (.bool false) := cell_of_row V w.heap.size 7 _ 24 (0, 0) hr0
  have zf7 : V.frozen? ⟨w.heap.size, 7, none⟩ = false := frozen_of_row hr0 7
  have zc8 : V.cell? ⟨w.heap.size, 8, none⟩ = some (.string ⟨#[]⟩) := cell_of_row V w.heap.size 8 _ 24 (0, 0) hr0
  have zf8 : V.frozen? ⟨w.heap.size, 8, none⟩ = false := frozen_of_row hr0 8
  have HR0 := Lib.hid hr0
  have HR1 := Lib.hid hr1
  clear HV1 HL1 HB1 hr0 hr1
  generalize w1.heap.size = g1 at *
  go_wp2_with fail
  refine dec_end _ w _ w.heap.size 9 0 0 0 0 0 0 false false ⟨#[]⟩ ?_ ?_ (nine_row (.int .u32 0) (.int .u32 0) (.int .i64 0) (.int .i64 0) (.int .i64 0) (.int .i64 0) (.bool false) (.bool false) (.string ⟨#[]⟩) (.int .u32 0) (.int .u32 0) (.int .i64 0) (.int .i64 0) (.int .i64 0) (.int .i64 0) (.bool false) (.bool false) (.string ⟨#[]⟩) HR0.out) (nine_below (.int .u32 0) (.int .u32 0) (.int .i64 0) (.int .i64 0) (.int .i64 0) (.int .i64 0) (.bool false) (.bool false) (.string ⟨#[]⟩) HBV.out (Nat.le_refl _))
  · rfl
  · rfl
set_option maxRecDepth 100000 in
set_option maxHeartbeats 2000000 in
theorem decode_long (s : ByteArray) (w : World) (n x0 x1 x2 x3 x4 x5 : Int) (x6 x7 : Bool) (hn : n < (s.size : Int)) (hH : ∀ w, Calls Try.prog 13 #[.string s] w fun e w' => e = .returned (.tuple #[.agg #[.int .u32 x0, .int .u32 x1, .int .i64 x2, .int .i64 x3, .int .i64 x4, .int .i64 x5, .bool x6, .bool x7, .string ⟨#[]⟩], .int .i64 n, .int .i64 0]) ∧ Below w.heap.size w w') :
    Calls Try.prog 9 #[.string s] w fun e w' => e = zero2 3 ∧ Below w.heap.size w w' := by
  have hm : ¬ ((s.size : Int) < n) := by omega
  have HH := Lib.hid hH
  clear hH
  go_enter Try.func9, Try.ntmps9
  go_wp2_with fail
  refine (HH.out _).mono ?_
  rintro e w1 ⟨rfl, hb1⟩
  have HB1 := Lib.hid hb1
  have hz : w.heap.size < w1.heap.size := by have := hb1.size; simp at this; omega
  have HB := Lib.hid (show Below w.heap.size w w1 from ((Below.refl _ _).alloc (Nat.le_refl _) _).trans (hb1.mono (by simp)))
  clear hb1
  go_upto_region 2 with (fail)
  have HV1 := Lib.hid (heap_alloc_new w1 (.cells #[.int .u32 x0, .int .u32 x1, .int .i64 x2, .int .i64 x3, .int .i64 x4, .int .i64 x5, .bool x6, .bool x7, .string ⟨#[]⟩] 24))
  have HL1 := Lib.hid ((Below.refl w1.heap.size w1).alloc (Nat.le_refl _) (.cells #[.int .u32 x0, .int .u32 x1, .int .i64 x2, .int .i64 x3, .int .i64 x4, .int .i64 x5, .bool x6, .bool x7, .string ⟨#[]⟩] 24))
  generalize w1.alloc (.cells #[.int .u32 x0, .int .u32 x1, .int .i64 x2, .int .i64 x3, .int .i64 x4, .int .i64 x5, .bool x6, .bool x7, .string ⟨#[]⟩] 24) = V at HV1 HL1 ⊢
  have hr1 : V.heap[w1.heap.size]? = some (.cells #[.int .u32 x0, .int .u32 x1, .int .i64 x2, .int .i64 x3, .int .i64 x4, .int .i64 x5, .bool x6, .bool x7, .string ⟨#[]⟩] 24 (0, 0)) := HV1.out
  have hr0 : V.heap[w.heap.size]? = some (.cells #[.int .u32 0, .int .u32 0, .int .i64 0, .int .i64 0, .int .i64 0, .int .i64 0, .bool false, .bool false, .string ⟨#[]⟩] 24 (0, 0)) := (HL1.out.block _ hz).trans ((HB1.out.block _ (by simp)).trans (heap_alloc_new w _))
  have hzV : w1.heap.size < V.heap.size := (Array.getElem?_eq_some_iff.1 hr1).1
  have HBV := Lib.hid (HB.out.trans (HL1.out.mono (Nat.le_of_lt hz)))
  have dc0 : V.cell? ⟨w1.heap.size, 0, none⟩ = some (.int .u32 x0) := cell_of_row V w1.heap.size 0 _ 24 (0, 0) hr1
  have df0 : V.frozen? ⟨w1.heap.size, 0, none⟩ = false := frozen_of_row hr1 0
  have dc1 : V.cell? ⟨w1.heap.size, 1, none⟩ = some (.int .u32 x1) := cell_of_row V w1.heap.size 1 _ 24 (0, 0) hr1
  have df1 : V.frozen? ⟨w1.heap.size, 1, none⟩ = false := frozen_of_row hr1 1
  have dc2 : V.cell? ⟨w1.heap.size, 2, none⟩ = some (.int .i64 x2) := cell_of_row V w1.heap.size 2 _ 24 (0, 0) hr1
  have df2 : V.frozen? ⟨w1.heap.size, 2, none⟩ = false := frozen_of_row hr1 2
  have dc3 : V.cell? ⟨w1.heap.size, 3, none⟩ = some (.int .i64 x3) := cell_of_row V w1.heap.size 3 _ 24 (0, 0) hr1
  have df3 : V.frozen? ⟨w1.heap.size, 3, none⟩ = false := frozen_of_row hr1 3
  have dc4 : V.cell? ⟨w1.heap.size, 4, none⟩ = some (.int .i64 x4) := cell_of_row V w1.heap.size 4 _ 24 (0, 0) hr1
  have df4 : V.frozen? ⟨w1.heap.size, 4, none⟩ = false := frozen_of_row hr1 4
  have dc5 : V.cell? ⟨w1.heap.size, 5, none⟩ = some (.int .i64 x5) := cell_of_row V w1.heap.size 5 _ 24 (0, 0) hr1
  have df5 : V.frozen? ⟨w1.heap.size, 5, none⟩ = false := frozen_of_row hr1 5
  have dc6 : V.cell? ⟨w1.heap.size, 6, none⟩ = some (.bool x6) := cell_of_row V w1.heap.size 6 _ 24 (0, 0) hr1
  have df6 : V.frozen? ⟨w1.heap.size, 6, none⟩ = false := frozen_of_row hr1 6
  have dc7 : V.cell? ⟨w1.heap.size, 7, none⟩ = some (.bool x7) := cell_of_row V w1.heap.size 7 _ 24 (0, 0) hr1
  have df7 : V.frozen? ⟨w1.heap.size, 7, none⟩ = false := frozen_of_row hr1 7
  have dc8 : V.cell? ⟨w1.heap.size, 8, none⟩ = some (.string ⟨#[]⟩) := cell_of_row V w1.heap.size 8 _ 24 (0, 0) hr1
  have df8 : V.frozen? ⟨w1.heap.size, 8, none⟩ = false := frozen_of_row hr1 8
  have zc0 : V.cell? ⟨w.heap.size, 0, none⟩ = some (.int .u32 0) := cell_of_row V w.heap.size 0 _ 24 (0, 0) hr0
  have zf0 : V.frozen? ⟨w.heap.size, 0, none⟩ = false := frozen_of_row hr0 0
  have zc1 : V.cell? ⟨w.heap.size, 1, none⟩ = some (.int .u32 0) := cell_of_row V w.heap.size 1 _ 24 (0, 0) hr0
  have zf1 : V.frozen? ⟨w.heap.size, 1, none⟩ = false := frozen_of_row hr0 1
  have zc2 : V.cell? ⟨w.heap.size, 2, none⟩ = some (.int .i64 0) := cell_of_row V w.heap.size 2 _ 24 (0, 0) hr0
  have zf2 : V.frozen? ⟨w.heap.size, 2, none⟩ = false := frozen_of_row hr0 2
  have zc3 : V.cell? ⟨w.heap.size, 3, none⟩ = some (.int .i64 0) := cell_of_row V w.heap.size 3 _ 24 (0, 0) hr0
  have zf3 : V.frozen? ⟨w.heap.size, 3, none⟩ = false := frozen_of_row hr0 3
  have zc4 : V.cell? ⟨w.heap.size, 4, none⟩ = some (.int .i64 0) := cell_of_row V w.heap.size 4 _ 24 (0, 0) hr0
  have zf4 : V.frozen? ⟨w.heap.size, 4, none⟩ = false := frozen_of_row hr0 4
  have zc5 : V.cell? ⟨w.heap.size, 5, none⟩ = some (.int .i64 0) := cell_of_row V w.heap.size 5 _ 24 (0, 0) hr0
  have zf5 : V.frozen? ⟨w.heap.size, 5, none⟩ = false := frozen_of_row hr0 5
  have zc6 : V.cell? ⟨w.heap.size, 6, none⟩ = some (.bool false) := cell_of_row V w.heap.size 6 _ 24 (0, 0) hr0
  have zf6 : V.frozen? ⟨w.heap.size, 6, none⟩ = false := frozen_of_row hr0 6
  have zc7 : V.cell? ⟨w.heap.size, 7, none⟩ = some (.bool false) := cell_of_row V w.heap.size 7 _ 24 (0, 0) hr0
  have zf7 : V.frozen? ⟨w.heap.size, 7, none⟩ = false := frozen_of_row hr0 7
  have zc8 : V.cell? ⟨w.heap.size, 8, none⟩ = some (.string ⟨#[]⟩) := cell_of_row V w.heap.size 8 _ 24 (0, 0) hr0
  have zf8 : V.frozen? ⟨w.heap.size, 8, none⟩ = false := frozen_of_row hr0 8
  have HR0 := Lib.hid hr0
  have HR1 := Lib.hid hr1
  clear HV1 HL1 HB1 hr0 hr1
  generalize w1.heap.size = g1 at *
  go_wp2_with fail
  refine dec_end _ w _ w.heap.size 3 0 0 0 0 0 0 false false ⟨#[]⟩ ?_ ?_ (nine_row (.int .u32 0) (.int .u32 0) (.int .i64 0) (.int .i64 0) (.int .i64 0) (.int .i64 0) (.bool false) (.bool false) (.string ⟨#[]⟩) (.int .u32 0) (.int .u32 0) (.int .i64 0) (.int .i64 0) (.int .i64 0) (.int .i64 0) (.bool false) (.bool false) (.string ⟨#[]⟩) HR0.out) (nine_below (.int .u32 0) (.int .u32 0) (.int .i64 0) (.int .i64 0) (.int .i64 0) (.int .i64 0) (.bool false) (.bool false) (.string ⟨#[]⟩) HBV.out (Nat.le_refl _))
  · rfl
  · rfl
set_option maxRecDepth 100000 in
set_option maxHeartbeats 2000000 in
theorem decode_bad (s : ByteArray) (w : World) (n x0 x1 x2 x3 x4 x5 : Int) (x6 x7 : Bool) (hn : n = (s.size : Int)) (h20 : 20 ≤ s.size) (h1000 : s.size ≤ 1000) (r : Int) (hr : (r != 0) = true) (bd : ByteArray) (hbd : s.extract 20 s.size = bd) (hc : pkt_Check.f 10 x0 x1 x2 x3 x4 x5 x6 x7 bd = some r) (hH : ∀ w, Calls Try.prog 13 #[.string s] w fun e w' => e = .returned (.tuple #[.agg #[.int .u32 x0, .int .u32 x1, .int .i64 x2, .int .i64 x3, .int .i64 x4, .int .i64 x5, .bool x6, .bool x7, .string ⟨#[]⟩], .int .i64 n, .int .i64 0]) ∧ Below w.heap.size w w') :
    Calls Try.prog 9 #[.string s] w fun e w' => e = zero2 r ∧ Below w.heap.size w w' := by
  have HC := Lib.hid hc
  clear hc
  have HBD := Lib.hid hbd
  clear hbd
  have hm : ¬ ((s.size : Int) < n) := by omega
  have hm2 : ¬ (n < (s.size : Int)) := by omega
  clear hn
  have HH := Lib.hid hH
  clear hH
  go_enter Try.func9, Try.ntmps9
  go_wp2_with fail
  refine (HH.out _).mono ?_
  rintro e w1 ⟨rfl, hb1⟩
  have HB1 := Lib.hid hb1
  have hz : w.heap.size < w1.heap.size := by have := hb1.size; simp at this; omega
  have HB := Lib.hid (show Below w.heap.size w w1 from ((Below.refl _ _).alloc (Nat.le_refl _) _).trans (hb1.mono (by simp)))
  clear hb1
  go_upto_region 2 with (fail)
  have HV1 := Lib.hid (heap_alloc_new w1 (.cells #[.int .u32 x0, .int .u32 x1, .int .i64 x2, .int .i64 x3, .int .i64 x4, .int .i64 x5, .bool x6, .bool x7, .string ⟨#[]⟩] 24))
  have HL1 := Lib.hid ((Below.refl w1.heap.size w1).alloc (Nat.le_refl _) (.cells #[.int .u32 x0, .int .u32 x1, .int .i64 x2, .int .i64 x3, .int .i64 x4, .int .i64 x5, .bool x6, .bool x7, .string ⟨#[]⟩] 24))
  generalize w1.alloc (.cells #[.int .u32 x0, .int .u32 x1, .int .i64 x2, .int .i64 x3, .int .i64 x4, .int .i64 x5, .bool x6, .bool x7, .string ⟨#[]⟩] 24) = V at HV1 HL1 ⊢
  have hr1 : V.heap[w1.heap.size]? = some (.cells #[.int .u32 x0, .int .u32 x1, .int .i64 x2, .int .i64 x3, .int .i64 x4, .int .i64 x5, .bool x6, .bool x7, .string ⟨#[]⟩] 24 (0, 0)) := HV1.out
  have hr0 : V.heap[w.heap.size]? = some (.cells #[.int .u32 0, .int .u32 0, .int .i64 0, .int .i64 0, .int .i64 0, .int .i64 0, .bool false, .bool false, .string ⟨#[]⟩] 24 (0, 0)) := (HL1.out.block _ hz).trans ((HB1.out.block _ (by simp)).trans (heap_alloc_new w _))
  have hzV : w1.heap.size < V.heap.size := (Array.getElem?_eq_some_iff.1 hr1).1
  have HBV := Lib.hid (HB.out.trans (HL1.out.mono (Nat.le_of_lt hz)))
  have dc0 : V.cell? ⟨w1.heap.size, 0, none⟩ = some (.int .u32 x0) := cell_of_row V w1.heap.size 0 _ 24 (0, 0) hr1
  have df0 : V.frozen? ⟨w1.heap.size, 0, none⟩ = false := frozen_of_row hr1 0
  have dc1 : V.cell? ⟨w1.heap.size, 1, none⟩ = some (.int .u32 x1) := cell_of_row V w1.heap.size 1 _ 24 (0, 0) hr1
  have df1 : V.frozen? ⟨w1.heap.size, 1, none⟩ = false := frozen_of_row hr1 1
  have dc2 : V.cell? ⟨w1.heap.size, 2, none⟩ = some (.int .i64 x2) := cell_of_row V w1.heap.size 2 _ 24 (0, 0) hr1
  have df2 : V.frozen? ⟨w1.heap.size, 2, none⟩ = false := frozen_of_row hr1 2
  have dc3 : V.cell? ⟨w1.heap.size, 3, none⟩ = some (.int .i64 x3) := cell_of_row V w1.heap.size 3 _ 24 (0, 0) hr1
  have df3 : V.frozen? ⟨w1.heap.size, 3, none⟩ = false := frozen_of_row hr1 3
  have dc4 : V.cell? ⟨w1.heap.size, 4, none⟩ = some (.int .i64 x4) := cell_of_row V w1.heap.size 4 _ 24 (0, 0) hr1
  have df4 : V.frozen? ⟨w1.heap.size, 4, none⟩ = false := frozen_of_row hr1 4
  have dc5 : V.cell? ⟨w1.heap.size, 5, none⟩ = some (.int .i64 x5) := cell_of_row V w1.heap.size 5 _ 24 (0, 0) hr1
  have df5 : V.frozen? ⟨w1.heap.size, 5, none⟩ = false := frozen_of_row hr1 5
  have dc6 : V.cell? ⟨w1.heap.size, 6, none⟩ = some (.bool x6) := cell_of_row V w1.heap.size 6 _ 24 (0, 0) hr1
  have df6 : V.frozen? ⟨w1.heap.size, 6, none⟩ = false := frozen_of_row hr1 6
  have dc7 : V.cell? ⟨w1.heap.size, 7, none⟩ = some (.bool x7) := cell_of_row V w1.heap.size 7 _ 24 (0, 0) hr1
  have df7 : V.frozen? ⟨w1.heap.size, 7, none⟩ = false := frozen_of_row hr1 7
  have dc8 : V.cell? ⟨w1.heap.size, 8, none⟩ = some (.string ⟨#[]⟩) := cell_of_row V w1.heap.size 8 _ 24 (0, 0) hr1
  have df8 : V.frozen? ⟨w1.heap.size, 8, none⟩ = false := frozen_of_row hr1 8
  have zc0 : V.cell? ⟨w.heap.size, 0, none⟩ = some (.int .u32 0) := cell_of_row V w.heap.size 0 _ 24 (0, 0) hr0
  have zf0 : V.frozen? ⟨w.heap.size, 0, none⟩ = false := frozen_of_row hr0 0
  have zc1 : V.cell? ⟨w.heap.size, 1, none⟩ = some (.int .u32 0) := cell_of_row V w.heap.size 1 _ 24 (0, 0) hr0
  have zf1 : V.frozen? ⟨w.heap.size, 1, none⟩ = false := frozen_of_row hr0 1
  have zc2 : V.cell? ⟨w.heap.size, 2, none⟩ = some (.int .i64 0) := cell_of_row V w.heap.size 2 _ 24 (0, 0) hr0
  have zf2 : V.frozen? ⟨w.heap.size, 2, none⟩ = false := frozen_of_row hr0 2
  have zc3 : V.cell? ⟨w.heap.size, 3, none⟩ = some (.int .i64 0) := cell_of_row V w.heap.size 3 _ 24 (0, 0) hr0
  have zf3 : V.frozen? ⟨w.heap.size, 3, none⟩ = false := frozen_of_row hr0 3
  have zc4 : V.cell? ⟨w.heap.size, 4, none⟩ = some (.int .i64 0) := cell_of_row V w.heap.size 4 _ 24 (0, 0) hr0
  have zf4 : V.frozen? ⟨w.heap.size, 4, none⟩ = false := frozen_of_row hr0 4
  have zc5 : V.cell? ⟨w.heap.size, 5, none⟩ = some (.int .i64 0) := cell_of_row V w.heap.size 5 _ 24 (0, 0) hr0
  have zf5 : V.frozen? ⟨w.heap.size, 5, none⟩ = false := frozen_of_row hr0 5
  have zc6 : V.cell? ⟨w.heap.size, 6, none⟩ = some (.bool false) := cell_of_row V w.heap.size 6 _ 24 (0, 0) hr0
  have zf6 : V.frozen? ⟨w.heap.size, 6, none⟩ = false := frozen_of_row hr0 6
  have zc7 : V.cell? ⟨w.heap.size, 7, none⟩ = some (.bool false) := cell_of_row V w.heap.size 7 _ 24 (0, 0) hr0
  have zf7 : V.frozen? ⟨w.heap.size, 7, none⟩ = false := frozen_of_row hr0 7
  have zc8 : V.cell? ⟨w.heap.size, 8, none⟩ = some (.string ⟨#[]⟩) := cell_of_row V w.heap.size 8 _ 24 (0, 0) hr0
  have zf8 : V.frozen? ⟨w.heap.size, 8, none⟩ = false := frozen_of_row hr0 8
  have HR0 := Lib.hid hr0
  have HR1 := Lib.hid hr1
  clear HV1 HL1 HB1 hr0 hr1
  generalize w1.heap.size = g1 at *
  go_upto_region 9 with (fail)
  have HV2 := Lib.hid (show (V.setCell ⟨g1, 8, none⟩ (.string (s.extract 20 s.size))).heap[g1]? = some (.cells #[.int .u32 x0, .int .u32 x1, .int .i64 x2, .int .i64 x3, .int .i64 x4, .int .i64 x5, .bool x6, .bool x7, .string (s.extract 20 s.size)] 24 (0, 0)) from by
    rw [heap_setCell_same HR1.out]; simp)
  have HV0 := Lib.hid (show (V.setCell ⟨g1, 8, none⟩ (.string (s.extract 20 s.size))).heap[w.heap.size]? = some (.cells #[.int .u32 0, .int .u32 0, .int .i64 0, .int .i64 0, .int .i64 0, .int .i64 0, .bool false, .bool false, .string ⟨#[]⟩] 24 (0, 0)) from (Below.heap_setCell _ _ _ _ (Nat.ne_of_lt hz)).trans HR0.out)
  have HB2 := Lib.hid (HBV.out.setCell (p := ⟨g1, 8, none⟩) (Nat.le_of_lt hz) (.string (s.extract 20 s.size)))
  clear dc0 df0 dc1 df1 dc2 df2 dc3 df3 dc4 df4 dc5 df5 dc6 df6 dc7 df7 dc8 df8 zc0 zf0 zc1 zf1 zc2 zf2 zc3 zf3 zc4 zf4 zc5 zf5 zc6 zf6 zc7 zf7 zc8 zf8
  clear HR0 HR1 HBV hzV
  generalize V.setCell ⟨g1, 8, none⟩ (.string (s.extract 20 s.size)) = V2 at HV2 HV0 HB2 ⊢
  generalize hbd2 : s.extract 20 s.size = bd2 at HV2 ⊢
  obtain rfl : bd = bd2 := HBD.out.symm.trans hbd2
  clear HBD hbd2
  have hv2 := HV2.out
  have dc0 : V2.cell? ⟨g1, 0, none⟩ = some (.int .u32 x0) := cell_of_row V2 g1 0 _ 24 (0, 0) hv2
  have df0 : V2.frozen? ⟨g1, 0, none⟩ = false := frozen_of_row hv2 0
  have dc1 : V2.cell? ⟨g1, 1, none⟩ = some (.int .u32 x1) := cell_of_row V2 g1 1 _ 24 (0, 0) hv2
  have df1 : V2.frozen? ⟨g1, 1, none⟩ = false := frozen_of_row hv2 1
  have dc2 : V2.cell? ⟨g1, 2, none⟩ = some (.int .i64 x2) := cell_of_row V2 g1 2 _ 24 (0, 0) hv2
  have df2 : V2.frozen? ⟨g1, 2, none⟩ = false := frozen_of_row hv2 2
  have dc3 : V2.cell? ⟨g1, 3, none⟩ = some (.int .i64 x3) := cell_of_row V2 g1 3 _ 24 (0, 0) hv2
  have df3 : V2.frozen? ⟨g1, 3, none⟩ = false := frozen_of_row hv2 3
  have dc4 : V2.cell? ⟨g1, 4, none⟩ = some (.int .i64 x4) := cell_of_row V2 g1 4 _ 24 (0, 0) hv2
  have df4 : V2.frozen? ⟨g1, 4, none⟩ = false := frozen_of_row hv2 4
  have dc5 : V2.cell? ⟨g1, 5, none⟩ = some (.int .i64 x5) := cell_of_row V2 g1 5 _ 24 (0, 0) hv2
  have df5 : V2.frozen? ⟨g1, 5, none⟩ = false := frozen_of_row hv2 5
  have dc6 : V2.cell? ⟨g1, 6, none⟩ = some (.bool x6) := cell_of_row V2 g1 6 _ 24 (0, 0) hv2
  have df6 : V2.frozen? ⟨g1, 6, none⟩ = false := frozen_of_row hv2 6
  have dc7 : V2.cell? ⟨g1, 7, none⟩ = some (.bool x7) := cell_of_row V2 g1 7 _ 24 (0, 0) hv2
  have df7 : V2.frozen? ⟨g1, 7, none⟩ = false := frozen_of_row hv2 7
  have dc8 : V2.cell? ⟨g1, 8, none⟩ = some (.string bd) := cell_of_row V2 g1 8 _ 24 (0, 0) hv2
  have df8 : V2.frozen? ⟨g1, 8, none⟩ = false := frozen_of_row hv2 8
  have hg2 : g1 < V2.heap.size := (Array.getElem?_eq_some_iff.1 hv2).1
  clear hv2
  go_wp2_with fail
  refine (pkt_Check.calls 10 x0 x1 x2 x3 x4 x5 x6 x7 bd _ _ HC.out).mono ?_
  rintro e w3 ⟨rfl, hb3⟩
  have HV23 := Lib.hid ((hb3.block _ hg2).trans HV2.out)
  have HV03 := Lib.hid ((hb3.block _ (Nat.lt_trans hz hg2)).trans HV0.out)
  have HB3 := Lib.hid (HB2.out.trans (hb3.mono (Nat.le_of_lt (Nat.lt_trans hz hg2))))
  have hg3 : g1 < w3.heap.size := Nat.lt_of_lt_of_le hg2 hb3.size
  clear hb3 HV2 HV0 HB2 hg2 
  clear dc0 df0 dc1 df1 dc2 df2 dc3 df3 dc4 df4 dc5 df5 dc6 df6 dc7 df7 dc8 df8
  have hv2 := HV23.out
  have hv0 := HV03.out
  have dc0 : w3.cell? ⟨g1, 0, none⟩ = some (.int .u32 x0) := cell_of_row w3 g1 0 _ 24 (0, 0) hv2
  have df0 : w3.frozen? ⟨g1, 0, none⟩ = false := frozen_of_row hv2 0
  have dc1 : w3.cell? ⟨g1, 1, none⟩ = some (.int .u32 x1) := cell_of_row w3 g1 1 _ 24 (0, 0) hv2
  have df1 : w3.frozen? ⟨g1, 1, none⟩ = false := frozen_of_row hv2 1
  have dc2 : w3.cell? ⟨g1, 2, none⟩ = some (.int .i64 x2) := cell_of_row w3 g1 2 _ 24 (0, 0) hv2
  have df2 : w3.frozen? ⟨g1, 2, none⟩ = false := frozen_of_row hv2 2
  have dc3 : w3.cell? ⟨g1, 3, none⟩ = some (.int .i64 x3) := cell_of_row w3 g1 3 _ 24 (0, 0) hv2
  have df3 : w3.frozen? ⟨g1, 3, none⟩ = false := frozen_of_row hv2 3
  have dc4 : w3.cell? ⟨g1, 4, none⟩ = some (.int .i64 x4) := cell_of_row w3 g1 4 _ 24 (0, 0) hv2
  have df4 : w3.frozen? ⟨g1, 4, none⟩ = false := frozen_of_row hv2 4
  have dc5 : w3.cell? ⟨g1, 5, none⟩ = some (.int .i64 x5) := cell_of_row w3 g1 5 _ 24 (0, 0) hv2
  have df5 : w3.frozen? ⟨g1, 5, none⟩ = false := frozen_of_row hv2 5
  have dc6 : w3.cell? ⟨g1, 6, none⟩ = some (.bool x6) := cell_of_row w3 g1 6 _ 24 (0, 0) hv2
  have df6 : w3.frozen? ⟨g1, 6, none⟩ = false := frozen_of_row hv2 6
  have dc7 : w3.cell? ⟨g1, 7, none⟩ = some (.bool x7) := cell_of_row w3 g1 7 _ 24 (0, 0) hv2
  have df7 : w3.frozen? ⟨g1, 7, none⟩ = false := frozen_of_row hv2 7
  have dc8 : w3.cell? ⟨g1, 8, none⟩ = some (.string bd) := cell_of_row w3 g1 8 _ 24 (0, 0) hv2
  have df8 : w3.frozen? ⟨g1, 8, none⟩ = false := frozen_of_row hv2 8
  have zc0 : w3.cell? ⟨w.heap.size, 0, none⟩ = some (.int .u32 0) := cell_of_row w3 w.heap.size 0 _ 24 (0, 0) hv0
  have zf0 : w3.frozen? ⟨w.heap.size, 0, none⟩ = false := frozen_of_row hv0 0
  have zc1 : w3.cell? ⟨w.heap.size, 1, none⟩ = some (.int .u32 0) := cell_of_row w3 w.heap.size 1 _ 24 (0, 0) hv0
  have zf1 : w3.frozen? ⟨w.heap.size, 1, none⟩ = false := frozen_of_row hv0 1
  have zc2 : w3.cell? ⟨w.heap.size, 2, none⟩ = some (.int .i64 0) := cell_of_row w3 w.heap.size 2 _ 24 (0, 0) hv0
  have zf2 : w3.frozen? ⟨w.heap.size, 2, none⟩ = false := frozen_of_row hv0 2
  have zc3 : w3.cell? ⟨w.heap.size, 3, none⟩ = some (.int .i64 0) := cell_of_row w3 w.heap.size 3 _ 24 (0, 0) hv0
  have zf3 : w3.frozen? ⟨w.heap.size, 3, none⟩ = false := frozen_of_row hv0 3
  have zc4 : w3.cell? ⟨w.heap.size, 4, none⟩ = some (.int .i64 0) := cell_of_row w3 w.heap.size 4 _ 24 (0, 0) hv0
  have zf4 : w3.frozen? ⟨w.heap.size, 4, none⟩ = false := frozen_of_row hv0 4
  have zc5 : w3.cell? ⟨w.heap.size, 5, none⟩ = some (.int .i64 0) := cell_of_row w3 w.heap.size 5 _ 24 (0, 0) hv0
  have zf5 : w3.frozen? ⟨w.heap.size, 5, none⟩ = false := frozen_of_row hv0 5
  have zc6 : w3.cell? ⟨w.heap.size, 6, none⟩ = some (.bool false) := cell_of_row w3 w.heap.size 6 _ 24 (0, 0) hv0
  have zf6 : w3.frozen? ⟨w.heap.size, 6, none⟩ = false := frozen_of_row hv0 6
  have zc7 : w3.cell? ⟨w.heap.size, 7, none⟩ = some (.bool false) := cell_of_row w3 w.heap.size 7 _ 24 (0, 0) hv0
  have zf7 : w3.frozen? ⟨w.heap.size, 7, none⟩ = false := frozen_of_row hv0 7
  have zc8 : w3.cell? ⟨w.heap.size, 8, none⟩ = some (.string ⟨#[]⟩) := cell_of_row w3 w.heap.size 8 _ 24 (0, 0) hv0
  have zf8 : w3.frozen? ⟨w.heap.size, 8, none⟩ = false := frozen_of_row hv0 8
  clear hv2 hv0
  have HR0 := Lib.hid HV03.out
  have HBV := Lib.hid HB3.out
  clear HV03 HB3
  go_wp2_with fail
  refine dec_end _ w _ w.heap.size r 0 0 0 0 0 0 false false ⟨#[]⟩ ?_ ?_ (nine_row (.int .u32 0) (.int .u32 0) (.int .i64 0) (.int .i64 0) (.int .i64 0) (.int .i64 0) (.bool false) (.bool false) (.string ⟨#[]⟩) (.int .u32 0) (.int .u32 0) (.int .i64 0) (.int .i64 0) (.int .i64 0) (.int .i64 0) (.bool false) (.bool false) (.string ⟨#[]⟩) HR0.out) (nine_below (.int .u32 0) (.int .u32 0) (.int .i64 0) (.int .i64 0) (.int .i64 0) (.int .i64 0) (.bool false) (.bool false) (.string ⟨#[]⟩) HBV.out (Nat.le_refl _))
  · rfl
  · rfl
set_option maxRecDepth 100000 in
set_option maxHeartbeats 2000000 in
theorem decode_good (s : ByteArray) (w : World) (n x0 x1 x2 x3 x4 x5 : Int) (x6 x7 : Bool) (hn : n = (s.size : Int)) (h20 : 20 ≤ s.size) (h1000 : s.size ≤ 1000) (bd : ByteArray) (hbd : s.extract 20 s.size = bd) (hc : pkt_Check.f 10 x0 x1 x2 x3 x4 x5 x6 x7 bd = some 0) (hH : ∀ w, Calls Try.prog 13 #[.string s] w fun e w' => e = .returned (.tuple #[.agg #[.int .u32 x0, .int .u32 x1, .int .i64 x2, .int .i64 x3, .int .i64 x4, .int .i64 x5, .bool x6, .bool x7, .string ⟨#[]⟩], .int .i64 n, .int .i64 0]) ∧ Below w.heap.size w w') :
    Calls Try.prog 9 #[.string s] w fun e w' => e = .returned (.tuple #[.agg #[.int .u32 x0, .int .u32 x1, .int .i64 x2, .int .i64 x3, .int .i64 x4, .int .i64 x5, .bool x6, .bool x7, .string bd], .int .i64 0]) ∧ Below w.heap.size w w' := by
  have HC := Lib.hid hc
  clear hc
  have HBD := Lib.hid hbd
  clear hbd
  have hm : ¬ ((s.size : Int) < n) := by omega
  have hm2 : ¬ (n < (s.size : Int)) := by omega
  clear hn
  have HH := Lib.hid hH
  clear hH
  go_enter Try.func9, Try.ntmps9
  go_wp2_with fail
  refine (HH.out _).mono ?_
  rintro e w1 ⟨rfl, hb1⟩
  have HB1 := Lib.hid hb1
  have hz : w.heap.size < w1.heap.size := by have := hb1.size; simp at this; omega
  have HB := Lib.hid (show Below w.heap.size w w1 from ((Below.refl _ _).alloc (Nat.le_refl _) _).trans (hb1.mono (by simp)))
  clear hb1
  go_upto_region 2 with (fail)
  have HV1 := Lib.hid (heap_alloc_new w1 (.cells #[.int .u32 x0, .int .u32 x1, .int .i64 x2, .int .i64 x3, .int .i64 x4, .int .i64 x5, .bool x6, .bool x7, .string ⟨#[]⟩] 24))
  have HL1 := Lib.hid ((Below.refl w1.heap.size w1).alloc (Nat.le_refl _) (.cells #[.int .u32 x0, .int .u32 x1, .int .i64 x2, .int .i64 x3, .int .i64 x4, .int .i64 x5, .bool x6, .bool x7, .string ⟨#[]⟩] 24))
  generalize w1.alloc (.cells #[.int .u32 x0, .int .u32 x1, .int .i64 x2, .int .i64 x3, .int .i64 x4, .int .i64 x5, .bool x6, .bool x7, .string ⟨#[]⟩] 24) = V at HV1 HL1 ⊢
  have hr1 : V.heap[w1.heap.size]? = some (.cells #[.int .u32 x0, .int .u32 x1, .int .i64 x2, .int .i64 x3, .int .i64 x4, .int .i64 x5, .bool x6, .bool x7, .string ⟨#[]⟩] 24 (0, 0)) := HV1.out
  have hr0 : V.heap[w.heap.size]? = some (.cells #[.int .u32 0, .int .u32 0, .int .i64 0, .int .i64 0, .int .i64 0, .int .i64 0, .bool false, .bool false, .string ⟨#[]⟩] 24 (0, 0)) := (HL1.out.block _ hz).trans ((HB1.out.block _ (by simp)).trans (heap_alloc_new w _))
  have hzV : w1.heap.size < V.heap.size := (Array.getElem?_eq_some_iff.1 hr1).1
  have HBV := Lib.hid (HB.out.trans (HL1.out.mono (Nat.le_of_lt hz)))
  have dc0 : V.cell? ⟨w1.heap.size, 0, none⟩ = some (.int .u32 x0) := cell_of_row V w1.heap.size 0 _ 24 (0, 0) hr1
  have df0 : V.frozen? ⟨w1.heap.size, 0, none⟩ = false := frozen_of_row hr1 0
  have dc1 : V.cell? ⟨w1.heap.size, 1, none⟩ = some (.int .u32 x1) := cell_of_row V w1.heap.size 1 _ 24 (0, 0) hr1
  have df1 : V.frozen? ⟨w1.heap.size, 1, none⟩ = false := frozen_of_row hr1 1
  have dc2 : V.cell? ⟨w1.heap.size, 2, none⟩ = some (.int .i64 x2) := cell_of_row V w1.heap.size 2 _ 24 (0, 0) hr1
  have df2 : V.frozen? ⟨w1.heap.size, 2, none⟩ = false := frozen_of_row hr1 2
  have dc3 : V.cell? ⟨w1.heap.size, 3, none⟩ = some (.int .i64 x3) := cell_of_row V w1.heap.size 3 _ 24 (0, 0) hr1
  have df3 : V.frozen? ⟨w1.heap.size, 3, none⟩ = false := frozen_of_row hr1 3
  have dc4 : V.cell? ⟨w1.heap.size, 4, none⟩ = some (.int .i64 x4) := cell_of_row V w1.heap.size 4 _ 24 (0, 0) hr1
  have df4 : V.frozen? ⟨w1.heap.size, 4, none⟩ = false := frozen_of_row hr1 4
  have dc5 : V.cell? ⟨w1.heap.size, 5, none⟩ = some (.int .i64 x5) := cell_of_row V w1.heap.size 5 _ 24 (0, 0) hr1
  have df5 : V.frozen? ⟨w1.heap.size, 5, none⟩ = false := frozen_of_row hr1 5
  have dc6 : V.cell? ⟨w1.heap.size, 6, none⟩ = some (.bool x6) := cell_of_row V w1.heap.size 6 _ 24 (0, 0) hr1
  have df6 : V.frozen? ⟨w1.heap.size, 6, none⟩ = false := frozen_of_row hr1 6
  have dc7 : V.cell? ⟨w1.heap.size, 7, none⟩ = some (.bool x7) := cell_of_row V w1.heap.size 7 _ 24 (0, 0) hr1
  have df7 : V.frozen? ⟨w1.heap.size, 7, none⟩ = false := frozen_of_row hr1 7
  have dc8 : V.cell? ⟨w1.heap.size, 8, none⟩ = some (.string ⟨#[]⟩) := cell_of_row V w1.heap.size 8 _ 24 (0, 0) hr1
  have df8 : V.frozen? ⟨w1.heap.size, 8, none⟩ = false := frozen_of_row hr1 8
  have zc0 : V.cell? ⟨w.heap.size, 0, none⟩ = some (.int .u32 0) := cell_of_row V w.heap.size 0 _ 24 (0, 0) hr0
  have zf0 : V.frozen? ⟨w.heap.size, 0, none⟩ = false := frozen_of_row hr0 0
  have zc1 : V.cell? ⟨w.heap.size, 1, none⟩ = some (.int .u32 0) := cell_of_row V w.heap.size 1 _ 24 (0, 0) hr0
  have zf1 : V.frozen? ⟨w.heap.size, 1, none⟩ = false := frozen_of_row hr0 1
  have zc2 : V.cell? ⟨w.heap.size, 2, none⟩ = some (.int .i64 0) := cell_of_row V w.heap.size 2 _ 24 (0, 0) hr0
  have zf2 : V.frozen? ⟨w.heap.size, 2, none⟩ = false := frozen_of_row hr0 2
  have zc3 : V.cell? ⟨w.heap.size, 3, none⟩ = some (.int .i64 0) := cell_of_row V w.heap.size 3 _ 24 (0, 0) hr0
  have zf3 : V.frozen? ⟨w.heap.size, 3, none⟩ = false := frozen_of_row hr0 3
  have zc4 : V.cell? ⟨w.heap.size, 4, none⟩ = some (.int .i64 0) := cell_of_row V w.heap.size 4 _ 24 (0, 0) hr0
  have zf4 : V.frozen? ⟨w.heap.size, 4, none⟩ = false := frozen_of_row hr0 4
  have zc5 : V.cell? ⟨w.heap.size, 5, none⟩ = some (.int .i64 0) := cell_of_row V w.heap.size 5 _ 24 (0, 0) hr0
  have zf5 : V.frozen? ⟨w.heap.size, 5, none⟩ = false := frozen_of_row hr0 5
  have zc6 : V.cell? ⟨w.heap.size, 6, none⟩ = some (.bool false) := cell_of_row V w.heap.size 6 _ 24 (0, 0) hr0
  have zf6 : V.frozen? ⟨w.heap.size, 6, none⟩ = false := frozen_of_row hr0 6
  have zc7 : V.cell? ⟨w.heap.size, 7, none⟩ = some (.bool false) := cell_of_row V w.heap.size 7 _ 24 (0, 0) hr0
  have zf7 : V.frozen? ⟨w.heap.size, 7, none⟩ = false := frozen_of_row hr0 7
  have zc8 : V.cell? ⟨w.heap.size, 8, none⟩ = some (.string ⟨#[]⟩) := cell_of_row V w.heap.size 8 _ 24 (0, 0) hr0
  have zf8 : V.frozen? ⟨w.heap.size, 8, none⟩ = false := frozen_of_row hr0 8
  have HR0 := Lib.hid hr0
  have HR1 := Lib.hid hr1
  clear HV1 HL1 HB1 hr0 hr1
  generalize w1.heap.size = g1 at *
  go_upto_region 9 with (fail)
  have HV2 := Lib.hid (show (V.setCell ⟨g1, 8, none⟩ (.string (s.extract 20 s.size))).heap[g1]? = some (.cells #[.int .u32 x0, .int .u32 x1, .int .i64 x2, .int .i64 x3, .int .i64 x4, .int .i64 x5, .bool x6, .bool x7, .string (s.extract 20 s.size)] 24 (0, 0)) from by
    rw [heap_setCell_same HR1.out]; simp)
  have HV0 := Lib.hid (show (V.setCell ⟨g1, 8, none⟩ (.string (s.extract 20 s.size))).heap[w.heap.size]? = some (.cells #[.int .u32 0, .int .u32 0, .int .i64 0, .int .i64 0, .int .i64 0, .int .i64 0, .bool false, .bool false, .string ⟨#[]⟩] 24 (0, 0)) from (Below.heap_setCell _ _ _ _ (Nat.ne_of_lt hz)).trans HR0.out)
  have HB2 := Lib.hid (HBV.out.setCell (p := ⟨g1, 8, none⟩) (Nat.le_of_lt hz) (.string (s.extract 20 s.size)))
  clear dc0 df0 dc1 df1 dc2 df2 dc3 df3 dc4 df4 dc5 df5 dc6 df6 dc7 df7 dc8 df8 zc0 zf0 zc1 zf1 zc2 zf2 zc3 zf3 zc4 zf4 zc5 zf5 zc6 zf6 zc7 zf7 zc8 zf8
  clear HR0 HR1 HBV hzV
  generalize V.setCell ⟨g1, 8, none⟩ (.string (s.extract 20 s.size)) = V2 at HV2 HV0 HB2 ⊢
  generalize hbd2 : s.extract 20 s.size = bd2 at HV2 ⊢
  obtain rfl : bd = bd2 := HBD.out.symm.trans hbd2
  clear HBD hbd2
  have hv2 := HV2.out
  have dc0 : V2.cell? ⟨g1, 0, none⟩ = some (.int .u32 x0) := cell_of_row V2 g1 0 _ 24 (0, 0) hv2
  have df0 : V2.frozen? ⟨g1, 0, none⟩ = false := frozen_of_row hv2 0
  have dc1 : V2.cell? ⟨g1, 1, none⟩ = some (.int .u32 x1) := cell_of_row V2 g1 1 _ 24 (0, 0) hv2
  have df1 : V2.frozen? ⟨g1, 1, none⟩ = false := frozen_of_row hv2 1
  have dc2 : V2.cell? ⟨g1, 2, none⟩ = some (.int .i64 x2) := cell_of_row V2 g1 2 _ 24 (0, 0) hv2
  have df2 : V2.frozen? ⟨g1, 2, none⟩ = false := frozen_of_row hv2 2
  have dc3 : V2.cell? ⟨g1, 3, none⟩ = some (.int .i64 x3) := cell_of_row V2 g1 3 _ 24 (0, 0) hv2
  have df3 : V2.frozen? ⟨g1, 3, none⟩ = false := frozen_of_row hv2 3
  have dc4 : V2.cell? ⟨g1, 4, none⟩ = some (.int .i64 x4) := cell_of_row V2 g1 4 _ 24 (0, 0) hv2
  have df4 : V2.frozen? ⟨g1, 4, none⟩ = false := frozen_of_row hv2 4
  have dc5 : V2.cell? ⟨g1, 5, none⟩ = some (.int .i64 x5) := cell_of_row V2 g1 5 _ 24 (0, 0) hv2
  have df5 : V2.frozen? ⟨g1, 5, none⟩ = false := frozen_of_row hv2 5
  have dc6 : V2.cell? ⟨g1, 6, none⟩ = some (.bool x6) := cell_of_row V2 g1 6 _ 24 (0, 0) hv2
  have df6 : V2.frozen? ⟨g1, 6, none⟩ = false := frozen_of_row hv2 6
  have dc7 : V2.cell? ⟨g1, 7, none⟩ = some (.bool x7) := cell_of_row V2 g1 7 _ 24 (0, 0) hv2
  have df7 : V2.frozen? ⟨g1, 7, none⟩ = false := frozen_of_row hv2 7
  have dc8 : V2.cell? ⟨g1, 8, none⟩ = some (.string bd) := cell_of_row V2 g1 8 _ 24 (0, 0) hv2
  have df8 : V2.frozen? ⟨g1, 8, none⟩ = false := frozen_of_row hv2 8
  have hg2 : g1 < V2.heap.size := (Array.getElem?_eq_some_iff.1 hv2).1
  clear hv2
  go_wp2_with fail
  refine (pkt_Check.calls 10 x0 x1 x2 x3 x4 x5 x6 x7 bd _ _ HC.out).mono ?_
  rintro e w3 ⟨rfl, hb3⟩
  have HV23 := Lib.hid ((hb3.block _ hg2).trans HV2.out)
  have HV03 := Lib.hid ((hb3.block _ (Nat.lt_trans hz hg2)).trans HV0.out)
  have HB3 := Lib.hid (HB2.out.trans (hb3.mono (Nat.le_of_lt (Nat.lt_trans hz hg2))))
  have hg3 : g1 < w3.heap.size := Nat.lt_of_lt_of_le hg2 hb3.size
  clear hb3 HV2 HV0 HB2 hg2 
  clear dc0 df0 dc1 df1 dc2 df2 dc3 df3 dc4 df4 dc5 df5 dc6 df6 dc7 df7 dc8 df8
  have hv2 := HV23.out
  have hv0 := HV03.out
  have dc0 : w3.cell? ⟨g1, 0, none⟩ = some (.int .u32 x0) := cell_of_row w3 g1 0 _ 24 (0, 0) hv2
  have df0 : w3.frozen? ⟨g1, 0, none⟩ = false := frozen_of_row hv2 0
  have dc1 : w3.cell? ⟨g1, 1, none⟩ = some (.int .u32 x1) := cell_of_row w3 g1 1 _ 24 (0, 0) hv2
  have df1 : w3.frozen? ⟨g1, 1, none⟩ = false := frozen_of_row hv2 1
  have dc2 : w3.cell? ⟨g1, 2, none⟩ = some (.int .i64 x2) := cell_of_row w3 g1 2 _ 24 (0, 0) hv2
  have df2 : w3.frozen? ⟨g1, 2, none⟩ = false := frozen_of_row hv2 2
  have dc3 : w3.cell? ⟨g1, 3, none⟩ = some (.int .i64 x3) := cell_of_row w3 g1 3 _ 24 (0, 0) hv2
  have df3 : w3.frozen? ⟨g1, 3, none⟩ = false := frozen_of_row hv2 3
  have dc4 : w3.cell? ⟨g1, 4, none⟩ = some (.int .i64 x4) := cell_of_row w3 g1 4 _ 24 (0, 0) hv2
  have df4 : w3.frozen? ⟨g1, 4, none⟩ = false := frozen_of_row hv2 4
  have dc5 : w3.cell? ⟨g1, 5, none⟩ = some (.int .i64 x5) := cell_of_row w3 g1 5 _ 24 (0, 0) hv2
  have df5 : w3.frozen? ⟨g1, 5, none⟩ = false := frozen_of_row hv2 5
  have dc6 : w3.cell? ⟨g1, 6, none⟩ = some (.bool x6) := cell_of_row w3 g1 6 _ 24 (0, 0) hv2
  have df6 : w3.frozen? ⟨g1, 6, none⟩ = false := frozen_of_row hv2 6
  have dc7 : w3.cell? ⟨g1, 7, none⟩ = some (.bool x7) := cell_of_row w3 g1 7 _ 24 (0, 0) hv2
  have df7 : w3.frozen? ⟨g1, 7, none⟩ = false := frozen_of_row hv2 7
  have dc8 : w3.cell? ⟨g1, 8, none⟩ = some (.string bd) := cell_of_row w3 g1 8 _ 24 (0, 0) hv2
  have df8 : w3.frozen? ⟨g1, 8, none⟩ = false := frozen_of_row hv2 8
  have zc0 : w3.cell? ⟨w.heap.size, 0, none⟩ = some (.int .u32 0) := cell_of_row w3 w.heap.size 0 _ 24 (0, 0) hv0
  have zf0 : w3.frozen? ⟨w.heap.size, 0, none⟩ = false := frozen_of_row hv0 0
  have zc1 : w3.cell? ⟨w.heap.size, 1, none⟩ = some (.int .u32 0) := cell_of_row w3 w.heap.size 1 _ 24 (0, 0) hv0
  have zf1 : w3.frozen? ⟨w.heap.size, 1, none⟩ = false := frozen_of_row hv0 1
  have zc2 : w3.cell? ⟨w.heap.size, 2, none⟩ = some (.int .i64 0) := cell_of_row w3 w.heap.size 2 _ 24 (0, 0) hv0
  have zf2 : w3.frozen? ⟨w.heap.size, 2, none⟩ = false := frozen_of_row hv0 2
  have zc3 : w3.cell? ⟨w.heap.size, 3, none⟩ = some (.int .i64 0) := cell_of_row w3 w.heap.size 3 _ 24 (0, 0) hv0
  have zf3 : w3.frozen? ⟨w.heap.size, 3, none⟩ = false := frozen_of_row hv0 3
  have zc4 : w3.cell? ⟨w.heap.size, 4, none⟩ = some (.int .i64 0) := cell_of_row w3 w.heap.size 4 _ 24 (0, 0) hv0
  have zf4 : w3.frozen? ⟨w.heap.size, 4, none⟩ = false := frozen_of_row hv0 4
  have zc5 : w3.cell? ⟨w.heap.size, 5, none⟩ = some (.int .i64 0) := cell_of_row w3 w.heap.size 5 _ 24 (0, 0) hv0
  have zf5 : w3.frozen? ⟨w.heap.size, 5, none⟩ = false := frozen_of_row hv0 5
  have zc6 : w3.cell? ⟨w.heap.size, 6, none⟩ = some (.bool false) := cell_of_row w3 w.heap.size 6 _ 24 (0, 0) hv0
  have zf6 : w3.frozen? ⟨w.heap.size, 6, none⟩ = false := frozen_of_row hv0 6
  have zc7 : w3.cell? ⟨w.heap.size, 7, none⟩ = some (.bool false) := cell_of_row w3 w.heap.size 7 _ 24 (0, 0) hv0
  have zf7 : w3.frozen? ⟨w.heap.size, 7, none⟩ = false := frozen_of_row hv0 7
  have zc8 : w3.cell? ⟨w.heap.size, 8, none⟩ = some (.string ⟨#[]⟩) := cell_of_row w3 w.heap.size 8 _ 24 (0, 0) hv0
  have zf8 : w3.frozen? ⟨w.heap.size, 8, none⟩ = false := frozen_of_row hv0 8
  clear hv2 hv0
  have HR0 := Lib.hid HV03.out
  have HBV := Lib.hid HB3.out
  clear HV03 HB3
  go_wp2_with fail
  refine dec_end _ w _ w.heap.size 0 x0 x1 x2 x3 x4 x5 x6 x7 bd ?_ ?_ (nine_row (.int .u32 0) (.int .u32 0) (.int .i64 0) (.int .i64 0) (.int .i64 0) (.int .i64 0) (.bool false) (.bool false) (.string ⟨#[]⟩) (.int .u32 x0) (.int .u32 x1) (.int .i64 x2) (.int .i64 x3) (.int .i64 x4) (.int .i64 x5) (.bool x6) (.bool x7) (.string bd) HR0.out) (nine_below (.int .u32 x0) (.int .u32 x1) (.int .i64 x2) (.int .i64 x3) (.int .i64 x4) (.int .i64 x5) (.bool x6) (.bool x7) (.string bd) HBV.out (Nat.le_refl _))
  · rfl
  · rfl
end Go.Proofs.Ytnhanjjkmjpmlaa.Pk
