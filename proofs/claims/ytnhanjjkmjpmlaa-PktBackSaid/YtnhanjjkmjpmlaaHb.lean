/- The walk of pkt.Head by hand at a bad form and a bad sum; a string of at most 1000 bytes. -/
import Derived.Test.YtnhanjjkmjpmlaaHw
set_option linter.unusedVariables false
set_option linter.unusedSimpArgs false
namespace Go.Proofs.Ytnhanjjkmjpmlaa.Pk
open Go.RowKit Go.Proofs.Ytnhanjjkmjpmlaa.PPktBack Go.Proofs.YtnhanjjkmjpmlaaW.PrintWords Go.Proofs.YtnhanjjkmjpmlaaW.PrintLast
theorem hd_end (tmps : Array Value) (w WF : World) (g : Nat) (n b : Int) (x0 x1 x2 x3 x4 x5 : Int) (x6 x7 : Bool) (x8 : ByteArray) (ht : tmps.getD 2 undef = .pointer (some ⟨g, 0, none⟩)) (ht3 : tmps.getD 3 undef = .int .i64 n) (ht4 : tmps.getD 4 undef = .int .i64 b)
    (h : WF.heap[g]? = some (.cells #[.int .u32 x0, .int .u32 x1, .int .i64 x2, .int .i64 x3, .int .i64 x4, .int .i64 x5, .bool x6, .bool x7, .string x8] 24 (0, 0))) (hb : Below w.heap.size w WF) :
    bodyPost Try.prog Try.f13 (fun e w' => e = .returned (.tuple #[.agg #[.int .u32 x0, .int .u32 x1, .int .i64 x2, .int .i64 x3, .int .i64 x4, .int .i64 x5, .bool x6, .bool x7, .string x8], .int .i64 n, .int .i64 b]) ∧ Below w.heap.size w w') Exit.ret { tmps := tmps, defers := [] } WF := by
  have hr := res13 tmps WF g _ _ _ _ _ _ _ _ _ ht (cell_of_row WF g 0 _ 24 (0, 0) h) (cell_of_row WF g 1 _ 24 (0, 0) h) (cell_of_row WF g 2 _ 24 (0, 0) h) (cell_of_row WF g 3 _ 24 (0, 0) h) (cell_of_row WF g 4 _ 24 (0, 0) h) (cell_of_row WF g 5 _ 24 (0, 0) h) (cell_of_row WF g 6 _ 24 (0, 0) h) (cell_of_row WF g 7 _ 24 (0, 0) h) (cell_of_row WF g 8 _ 24 (0, 0) h)
  rw [ht3, ht4] at hr
  exact bodyPost_ret hr rfl ⟨rfl, hb⟩
set_option maxRecDepth 100000 in
set_option maxHeartbeats 2000000 in
theorem head_bad0 (s : ByteArray) (w : World) (h : 20 ≤ s.size) (h2 : s.size ≤ 1000) (t0 : (bt s 0 != 69) = true) :
    Calls Try.prog 13 #[.string s] w fun e w' => e = zeros 3 ∧ Below w.heap.size w w' := by
  have hn : ¬ ((s.size : Int) < 20) := by omega
  have b0 := b_at s 0 (by omega)
  have b1 := b_at s 1 (by omega)
  have b8 := b_at s 8 (by omega)
  have r6 := gv_range s 6 2
  have r2 := gv_range s 2 2
  go_enter Try.func13, Try.ntmps13
  go_wp2_with fail
  refine (get02 s _ h).mono ?_
  rintro e w1 ⟨rfl, rfl⟩
  go_wp2_with fail
  refine (get06 s _ h).mono ?_
  rintro e w1 ⟨rfl, rfl⟩
  go_wp2_with fail
  exact bodyPost_ret (v := .tuple #[.agg #[.int .u32 0, .int .u32 0, .int .i64 0, .int .i64 0, .int .i64 0, .int .i64 0, .bool false, .bool false, .string ⟨#[]⟩], .int .i64 0, .int .i64 3]) (by simp [results, Try.results13, go_sem]) rfl ⟨rfl, (Below.refl _ _).alloc (Nat.le_refl _) _⟩
set_option maxRecDepth 100000 in
set_option maxHeartbeats 2000000 in
theorem head_bad1 (s : ByteArray) (w : World) (h : 20 ≤ s.size) (h2 : s.size ≤ 1000) (t0 : (bt s 0 != 69) = false) (t1 : (bt s 1 != 0) = true) :
    Calls Try.prog 13 #[.string s] w fun e w' => e = zeros 3 ∧ Below w.heap.size w w' := by
  have hn : ¬ ((s.size : Int) < 20) := by omega
  have b0 := b_at s 0 (by omega)
  have b1 := b_at s 1 (by omega)
  have b8 := b_at s 8 (by omega)
  have r6 := gv_range s 6 2
  have r2 := gv_range s 2 2
  go_enter Try.func13, Try.ntmps13
  go_wp2_with fail
  refine (get02 s _ h).mono ?_
  rintro e w1 ⟨rfl, rfl⟩
  go_wp2_with fail
  refine (get06 s _ h).mono ?_
  rintro e w1 ⟨rfl, rfl⟩
  go_wp2_with fail
  exact bodyPost_ret (v := .tuple #[.agg #[.int .u32 0, .int .u32 0, .int .i64 0, .int .i64 0, .int .i64 0, .int .i64 0, .bool false, .bool false, .string ⟨#[]⟩], .int .i64 0, .int .i64 3]) (by simp [results, Try.results13, go_sem]) rfl ⟨rfl, (Below.refl _ _).alloc (Nat.le_refl _) _⟩
set_option maxRecDepth 100000 in
set_option maxHeartbeats 2000000 in
theorem head_bad2 (s : ByteArray) (w : World) (h : 20 ≤ s.size) (h2 : s.size ≤ 1000) (t0 : (bt s 0 != 69) = false) (t1 : (bt s 1 != 0) = false) (t2 : gv s 2 2 < 20) :
    Calls Try.prog 13 #[.string s] w fun e w' => e = zeros 3 ∧ Below w.heap.size w w' := by
  have hn : ¬ ((s.size : Int) < 20) := by omega
  have b0 := b_at s 0 (by omega)
  have b1 := b_at s 1 (by omega)
  have b8 := b_at s 8 (by omega)
  have r6 := gv_range s 6 2
  have r2 := gv_range s 2 2
  go_enter Try.func13, Try.ntmps13
  go_wp2_with fail
  refine (get02 s _ h).mono ?_
  rintro e w1 ⟨rfl, rfl⟩
  go_wp2_with fail
  refine (get06 s _ h).mono ?_
  rintro e w1 ⟨rfl, rfl⟩
  go_wp2_with fail
  exact bodyPost_ret (v := .tuple #[.agg #[.int .u32 0, .int .u32 0, .int .i64 0, .int .i64 0, .int .i64 0, .int .i64 0, .bool false, .bool false, .string ⟨#[]⟩], .int .i64 0, .int .i64 3]) (by simp [results, Try.results13, go_sem]) rfl ⟨rfl, (Below.refl _ _).alloc (Nat.le_refl _) _⟩
set_option maxRecDepth 100000 in
set_option maxHeartbeats 2000000 in
theorem head_bad3 (s : ByteArray) (w : World) (h : 20 ≤ s.size) (h2 : s.size ≤ 1000) (t0 : (bt s 0 != 69) = false) (t1 : (bt s 1 != 0) = false) (t2 : ¬ gv s 2 2 < 20) (t3 : (bits .and .i64 (gv s 6 2) 32768 != 0) = true) :
    Calls Try.prog 13 #[.string s] w fun e w' => e = zeros 3 ∧ Below w.heap.size w w' := by
  have hn : ¬ ((s.size : Int) < 20) := by omega
  have b0 := b_at s 0 (by omega)
  have b1 := b_at s 1 (by omega)
  have b8 := b_at s 8 (by omega)
  have r6 := gv_range s 6 2
  have r2 := gv_range s 2 2
  go_enter Try.func13, Try.ntmps13
  go_wp2_with fail
  refine (get02 s _ h).mono ?_
  rintro e w1 ⟨rfl, rfl⟩
  go_wp2_with fail
  refine (get06 s _ h).mono ?_
  rintro e w1 ⟨rfl, rfl⟩
  go_wp2_with fail
  exact bodyPost_ret (v := .tuple #[.agg #[.int .u32 0, .int .u32 0, .int .i64 0, .int .i64 0, .int .i64 0, .int .i64 0, .bool false, .bool false, .string ⟨#[]⟩], .int .i64 0, .int .i64 3]) (by simp [results, Try.results13, go_sem]) rfl ⟨rfl, (Below.refl _ _).alloc (Nat.le_refl _) _⟩
set_option maxRecDepth 100000 in
set_option maxHeartbeats 2000000 in
theorem head_bad4 (s : ByteArray) (w : World) (h : 20 ≤ s.size) (h2 : s.size ≤ 1000) (t0 : (bt s 0 != 69) = false) (t1 : (bt s 1 != 0) = false) (t2 : ¬ gv s 2 2 < 20) (t3 : (bits .and .i64 (gv s 6 2) 32768 != 0) = false) (t4 : (bt s 8 == 0) = true) :
    Calls Try.prog 13 #[.string s] w fun e w' => e = zeros 3 ∧ Below w.heap.size w w' := by
  have hn : ¬ ((s.size : Int) < 20) := by omega
  have b0 := b_at s 0 (by omega)
  have b1 := b_at s 1 (by omega)
  have b8 := b_at s 8 (by omega)
  have r6 := gv_range s 6 2
  have r2 := gv_range s 2 2
  go_enter Try.func13, Try.ntmps13
  go_wp2_with fail
  refine (get02 s _ h).mono ?_
  rintro e w1 ⟨rfl, rfl⟩
  go_wp2_with fail
  refine (get06 s _ h).mono ?_
  rintro e w1 ⟨rfl, rfl⟩
  go_wp2_with fail
  exact bodyPost_ret (v := .tuple #[.agg #[.int .u32 0, .int .u32 0, .int .i64 0, .int .i64 0, .int .i64 0, .int .i64 0, .bool false, .bool false, .string ⟨#[]⟩], .int .i64 0, .int .i64 3]) (by simp [results, Try.results13, go_sem]) rfl ⟨rfl, (Below.refl _ _).alloc (Nat.le_refl _) _⟩
set_option maxRecDepth 100000 in
set_option maxHeartbeats 2000000 in
theorem head_sum (s : ByteArray) (w : World) (h : 20 ≤ s.size) (h2 : s.size ≤ 1000) (t0 : (bt s 0 != 69) = false) (t1 : (bt s 1 != 0) = false) (t2 : ¬ gv s 2 2 < 20) (t3 : (bits .and .i64 (gv s 6 2) 32768 != 0) = false) (t4 : (bt s 8 == 0) = false) (v : Int) (hv : pkt_Sum.f 80 (zstr s) = some v) (t5 : (gv s 10 2 != v) = true) :
    Calls Try.prog 13 #[.string s] w fun e w' => e = zeros 8 ∧ Below w.heap.size w w' := by
  have Hv := Lib.hid hv
  clear hv
  have hn : ¬ ((s.size : Int) < 20) := by omega
  have b0 := b_at s 0 (by omega)
  have b1 := b_at s 1 (by omega)
  have b8 := b_at s 8 (by omega)
  have r6 := gv_range s 6 2
  have r2 := gv_range s 2 2
  go_enter Try.func13, Try.ntmps13
  go_wp2_with fail
  refine (get02 s _ h).mono ?_
  rintro e w1 ⟨rfl, rfl⟩
  go_wp2_with fail
  refine (get06 s _ h).mono ?_
  rintro e w1 ⟨rfl, rfl⟩
  go_wp2_with fail
  have m10 : ¬ (9223372036854775807 < min 10 s.size + 2) := by omega
  have m20 : ¬ (9223372036854775807 < min 10 s.size + 2 + (min 20 s.size - 12)) := by omega
  go_quiet (first | exact Calls.quiet_of_same (get10 s _ h) | exact quiet_from (pkt_Sum.calls 80 _ _ _ Hv.out))
  generalize hW : (w.alloc (Obj.cells #[.int .u32 0, .int .u32 0, .int .i64 0, .int .i64 0, .int .i64 0, .int .i64 0, .bool false, .bool false, .string ⟨#[]⟩] 24)).drewN nq = W
  have hrow : W.heap[w.heap.size]? = some (Obj.cells #[.int .u32 0, .int .u32 0, .int .i64 0, .int .i64 0, .int .i64 0, .int .i64 0, .bool false, .bool false, .string ⟨#[]⟩] 24 (0, 0)) := by
    rw [← hW]
    exact heap_alloc_new w _
  have hlW : w.heap.size < W.heap.size := (Array.getElem?_eq_some_iff.1 hrow).1
  have HBV := Lib.hid (show Below w.heap.size w W by rw [← hW]; exact pw_below_drewN ((Below.refl _ _).alloc (Nat.le_refl _) _) _)
  have zc0 : W.cell? ⟨w.heap.size, 0, none⟩ = some (.int .u32 0) := cell_of_row W w.heap.size 0 _ 24 (0, 0) hrow
  have zf0 : W.frozen? ⟨w.heap.size, 0, none⟩ = false := frozen_of_row hrow 0
  have zc1 : W.cell? ⟨w.heap.size, 1, none⟩ = some (.int .u32 0) := cell_of_row W w.heap.size 1 _ 24 (0, 0) hrow
  have zf1 : W.frozen? ⟨w.heap.size, 1, none⟩ = false := frozen_of_row hrow 1
  have zc2 : W.cell? ⟨w.heap.size, 2, none⟩ = some (.int .i64 0) := cell_of_row W w.heap.size 2 _ 24 (0, 0) hrow
  have zf2 : W.frozen? ⟨w.heap.size, 2, none⟩ = false := frozen_of_row hrow 2
  have zc3 : W.cell? ⟨w.heap.size, 3, none⟩ = some (.int .i64 0) := cell_of_row W w.heap.size 3 _ 24 (0, 0) hrow
  have zf3 : W.frozen? ⟨w.heap.size, 3, none⟩ = false := frozen_of_row hrow 3
  have zc4 : W.cell? ⟨w.heap.size, 4, none⟩ = some (.int .i64 0) := cell_of_row W w.heap.size 4 _ 24 (0, 0) hrow
  have zf4 : W.frozen? ⟨w.heap.size, 4, none⟩ = false := frozen_of_row hrow 4
  have zc5 : W.cell? ⟨w.heap.size, 5, none⟩ = some (.int .i64 0) := cell_of_row W w.heap.size 5 _ 24 (0, 0) hrow
  have zf5 : W.frozen? ⟨w.heap.size, 5, none⟩ = false := frozen_of_row hrow 5
  have zc6 : W.cell? ⟨w.heap.size, 6, none⟩ = some (.bool false) := cell_of_row W w.heap.size 6 _ 24 (0, 0) hrow
  have zf6 : W.frozen? ⟨w.heap.size, 6, none⟩ = false := frozen_of_row hrow 6
  have zc7 : W.cell? ⟨w.heap.size, 7, none⟩ = some (.bool false) := cell_of_row W w.heap.size 7 _ 24 (0, 0) hrow
  have zf7 : W.frozen? ⟨w.heap.size, 7, none⟩ = false := frozen_of_row hrow 7
  have zc8 : W.cell? ⟨w.heap.size, 8, none⟩ = some (.string ⟨#[]⟩) := cell_of_row W w.heap.size 8 _ 24 (0, 0) hrow
  have zf8 : W.frozen? ⟨w.heap.size, 8, none⟩ = false := frozen_of_row hrow 8
  have HR0 := Lib.hid hrow
  clear hW hrow
  go_wp2_with fail
  refine hd_end _ w _ w.heap.size 0 8 0 0 0 0 0 0 false false ⟨#[]⟩ ?_ ?_ ?_ (nine_row (.int .u32 0) (.int .u32 0) (.int .i64 0) (.int .i64 0) (.int .i64 0) (.int .i64 0) (.bool false) (.bool false) (.string ⟨#[]⟩) (.int .u32 0) (.int .u32 0) (.int .i64 0) (.int .i64 0) (.int .i64 0) (.int .i64 0) (.bool false) (.bool false) (.string ⟨#[]⟩) HR0.out) (nine_below (.int .u32 0) (.int .u32 0) (.int .i64 0) (.int .i64 0) (.int .i64 0) (.int .i64 0) (.bool false) (.bool false) (.string ⟨#[]⟩) HBV.out (Nat.le_refl _))
  · rfl
  · rfl
  · rfl
end Go.Proofs.Ytnhanjjkmjpmlaa.Pk
