/- The walks of ParsePrefix and of begin. -/
import Derived.Test.YtaknlphmplimhaaDoorPq
import Derived.Test.YtaknlphmplimhaaDoorHa
set_option linter.unusedVariables false
set_option linter.unusedSimpArgs false
namespace Go.Proofs.YtaknlphmplimhaaDoor
open Go.RowKit Go.Proofs
theorem parse_is {s : ByteArray} {a : Nat} {e : Nat} (h : parR s.data.toList = (a, e)) (m : Int) (w : World) (hs : s.size < 4294967281) (hm : w.cell? ⟨2, 0, none⟩ = some (.int .i64 m)) :
    Calls Tryd.prog 68 #[.string s] w fun e' w' => e' = .returned (.tuple #[.int .u32 a, .int .i64 (e : Nat)]) ∧ Below w.heap.size w w' := by
  have := parse_any s m w hs hm
  rw [h] at this; exact this
theorem number_is {s : ByteArray} {X : Bool} (h : numB s.data.toList = X) (w : World) :
    Calls Tryd.prog 103 #[.string s] w fun e w' => e = .returned (.tuple #[.int .i64 (numV s.data.toList : Nat), .bool X]) ∧ Below w.heap.size w w' := by
  rw [← h]; exact number_any s w
theorem below_drewN {B : Nat} {a w : World} (h : Below B a w) (n : Nat) : Below B a (w.drewN n) := by
  refine h.trans ⟨rfl, rfl, rfl, ?_, fun k _ => rfl⟩
  exact Nat.le_refl _
theorem results_cell25 {fn : Func} {t u : Tmp} (h : fn.results = #[.cell t 25, .tmp u]) (tmps : Array Value) (w : World) (g : Nat) (x : Int) (y : Int) (ht : tmps.getD t undef = .pointer (some ⟨g, 0, none⟩))
    (h0 : w.cell? ⟨g, 0, none⟩ = some (.int .u32 x)) (h1 : w.cell? ⟨g, 1, none⟩ = some (.int .i64 y)) :
    (results fn tmps).run Tryd.prog w = .ok (.tuple #[.agg #[.int .u32 x, .int .i64 y], tmps.getD u undef]) w := by
  simp only [Array.getD_eq_getD_getElem?] at ht
  simp [results, h, ht, asAddr, loadVar, go_sem, h0, h1, Tryd.isAgg25, Tryd.sizeOf25]
/-- What ParsePrefix does with the parts u, v of a text: its own facts about them. -/
structure PpCalls (s : ByteArray) (m : Int) (w : World) (fo : Bool) (a e1 n : Nat) (ok : Bool) : Prop where
  run : ∃ u v : ByteArray, (∀ W, Below w.heap.size w W → Calls Tryd.prog 106 #[.string s, .string ⟨#[47]⟩] W fun e w' => e = .returned (.tuple #[.string u, .string v, .bool fo]) ∧ ∃ k, w' = W.drewN k) ∧
    (∀ W, Below w.heap.size w W → Calls Tryd.prog 68 #[.string u] W fun e w' => e = .returned (.tuple #[.int .u32 a, .int .i64 (e1 : Nat)]) ∧ Below W.heap.size W w') ∧
    (∀ W, Calls Tryd.prog 103 #[.string v] W fun e w' => e = .returned (.tuple #[.int .i64 (n : Nat), .bool ok]) ∧ Below W.heap.size W w')
theorem ppCalls_of (s : ByteArray) (u v : List UInt8) (fo : Bool) (m : Int) (w : World) (hs : s.size < 4294967281) (hm : w.cell? ⟨2, 0, none⟩ = some (.int .i64 m))
    (hc : Lib.cut s.data.toList [47] = (u, v, fo)) (hul : u.length ≤ s.size) : PpCalls s m w fo (parR u).1 (parR u).2 (numV v) (numB v) := by
  have hml := World.block_lt_of_cell? w _ hm
  simp only at hml
  have hM : ∀ W, Below w.heap.size w W → W.cell? ⟨2, 0, none⟩ = some (.int .i64 m) := fun W hW => by rw [hW.cell (p := ⟨2, 0, none⟩) hml]; exact hm
  refine ⟨⟨u.toArray⟩, ⟨v.toArray⟩, fun W hW => ?_, fun W hW => ?_, fun W => ?_⟩
  · have := cut_m s ⟨#[47]⟩ m W hs (hM W hW)
    rw [show (⟨#[47]⟩ : ByteArray).data.toList = [47] from rfl, hc] at this
    exact this
  · have hsz : (⟨u.toArray⟩ : ByteArray).size < 4294967281 := by
      have : (⟨u.toArray⟩ : ByteArray).size = u.length := by simp [ByteArray.size]
      omega
    have := parse_any ⟨u.toArray⟩ m W hsz (hM W hW)
    exact this
  · exact number_any ⟨v.toArray⟩ W
set_option maxRecDepth 100000 in
set_option maxHeartbeats 2000000 in
theorem pp_good (s : ByteArray) (a b : Nat) (m : Int) (w : World) (hP : PpCalls s m w true a 0 b true) (ha : a < 4294967296) (h4 : b ≤ 32) (h5 : chkE a b = 0) :
    Calls Tryd.prog 71 #[.string s] w fun e w' => e = .returned (.tuple #[.agg #[.int .u32 a, .int .i64 (b : Nat)], .int .i64 0]) ∧ Below w.heap.size w w' := by
  obtain ⟨u, v, hcut, hpar, hnum⟩ := hP
  have HCUT := Lib.hid hcut
  have HPAR := Lib.hid hpar
  have HNUM := Lib.hid hnum
  have H5 := Lib.hid h5
  have hb32 : ((b : Int) ≤ 32) := by omega
  clear hcut hpar hnum h5
  go_enter Tryd.func71, Tryd.ntmps71
  go_wp2_with fail
  refine (HCUT.out _ ((Below.refl _ _).alloc (Nat.le_refl _) _)).mono ?_
  rintro e w1 ⟨rfl, n, hw1⟩
  have hB1 : Below w.heap.size w w1 := by rw [hw1]; exact below_drewN ((Below.refl _ _).alloc (Nat.le_refl _) _) n
  have B1 : Box w1 w.heap.size 0 0 := by rw [hw1]; exact heap_alloc_new w _
  have HB1 := Lib.hid hB1
  have HX1 := Lib.hid B1
  clear hw1 hB1 B1
  go_wp2_with fail
  refine (HPAR.out _ HB1.out).mono ?_
  rintro e w2 ⟨rfl, hb2⟩
  have HX2 := Lib.hid (HX1.out.grow hb2)
  have HB2 := Lib.hid (bthen HB1.out HB1.out.size hb2)
  clear hb2
  go_wp2_with fail
  refine (HNUM.out _).mono ?_
  rintro e w3 ⟨rfl, hb3⟩
  have HX3 := Lib.hid (HX2.out.grow hb3)
  have HB3 := Lib.hid (bthen HB2.out HB2.out.size hb3)
  clear hb3
  have hs3 := HX3.out.lt
  go_wp2_with fail
  refine (check_any a b _ ha).mono ?_
  rw [H5.out]
  rintro e w4 ⟨rfl, hb4⟩
  have hB4 : Below w3.heap.size w3 w4 := bthen ((Below.refl _ _).alloc (Nat.le_refl _) _) (by simp) hb4
  have X0 : Box w4 w.heap.size 0 0 := HX3.out.grow hB4
  have X1 : Box w4 w3.heap.size a b := (hb4.block _ (by simp)).trans (heap_alloc_new w3 _)
  have HB4 := Lib.hid (bthen HB3.out HB3.out.size hB4)
  clear hb4 hB4
  obtain ⟨q0, q1⟩ := X1.cells
  obtain ⟨p0, p1⟩ := X0.cells
  have f0 : w4.frozen? ⟨w.heap.size, 0, none⟩ = false := by simp [World.frozen?, show w4.heap[w.heap.size]? = _ from X0]
  have f1 : w4.frozen? ⟨w.heap.size, 1, none⟩ = false := by simp [World.frozen?, show w4.heap[w.heap.size]? = _ from X0]
  have hs4 := X0.lt
  clear X0 X1
  go_wp2_with fail
  try simp only [Exit.inBlock, Exit.then]
  refine bodyPost_ret (results_cell25 rfl _ _ w.heap.size a b rfl (by go_simp) (by go_simp)) rfl ?_
  exact ⟨rfl, (HB4.out.setCell (Nat.le_refl _) _).setCell (Nat.le_refl _) _⟩
/-! bad -/
set_option maxRecDepth 100000 in
set_option maxHeartbeats 2000000 in
theorem pp_bad1 (s : ByteArray) (a b e1 : Nat) (ok : Bool) (m : Int) (w : World) (hP : PpCalls s m w false a e1 b ok) (ha : a < 4294967296) :
    Calls Tryd.prog 71 #[.string s] w fun e w' => (∃ err : Int, err ≠ 0 ∧ e = .returned (.tuple #[.agg #[.int .u32 0, .int .i64 0], .int .i64 err])) ∧ Below w.heap.size w w' := by
  obtain ⟨u, v, hcut, hpar, hnum⟩ := hP
  have HCUT := Lib.hid hcut
  have HPAR := Lib.hid hpar
  have HNUM := Lib.hid hnum
  clear hcut hpar hnum
  go_enter Tryd.func71, Tryd.ntmps71
  go_wp2_with fail
  refine (HCUT.out _ ((Below.refl _ _).alloc (Nat.le_refl _) _)).mono ?_
  rintro e w1 ⟨rfl, n, hw1⟩
  have hB1 : Below w.heap.size w w1 := by rw [hw1]; exact below_drewN ((Below.refl _ _).alloc (Nat.le_refl _) _) n
  have B1 : Box w1 w.heap.size 0 0 := by rw [hw1]; exact heap_alloc_new w _
  have HB1 := Lib.hid hB1
  have HX1 := Lib.hid B1
  clear hw1 hB1 B1
  go_wp2_with fail
  refine (HPAR.out _ HB1.out).mono ?_
  rintro e w2 ⟨rfl, hb2⟩
  have HX2 := Lib.hid (HX1.out.grow hb2)
  have HB2 := Lib.hid (bthen HB1.out HB1.out.size hb2)
  clear hb2
  go_wp2_with fail
  refine (HNUM.out _).mono ?_
  rintro e w3 ⟨rfl, hb3⟩
  have HX3 := Lib.hid (HX2.out.grow hb3)
  have HB3 := Lib.hid (bthen HB2.out HB2.out.size hb3)
  clear hb3
  have hs3 := HX3.out.lt
  have X0 : Box w3 w.heap.size 0 0 := HX3.out
  have HB4 := Lib.hid HB3.out
  obtain ⟨p0, p1⟩ := X0.cells
  have f0 : w3.frozen? ⟨w.heap.size, 0, none⟩ = false := by simp [World.frozen?, show w3.heap[w.heap.size]? = _ from X0]
  have f1 : w3.frozen? ⟨w.heap.size, 1, none⟩ = false := by simp [World.frozen?, show w3.heap[w.heap.size]? = _ from X0]
  have hs4 := X0.lt
  clear X0
  go_wp2_with fail
  try simp only [Exit.inBlock, Exit.then]
  refine bodyPost_ret (results_cell25 rfl _ _ w.heap.size 0 0 rfl (by go_simp) (by go_simp)) rfl ?_
  exact ⟨⟨_, by decide, rfl⟩, (HB4.out.setCell (Nat.le_refl _) _).setCell (Nat.le_refl _) _⟩
set_option maxRecDepth 100000 in
set_option maxHeartbeats 2000000 in
theorem pp_bad2 (s : ByteArray) (a b e1 : Nat) (m : Int) (w : World) (hP : PpCalls s m w true a e1 b false) (ha : a < 4294967296) :
    Calls Tryd.prog 71 #[.string s] w fun e w' => (∃ err : Int, err ≠ 0 ∧ e = .returned (.tuple #[.agg #[.int .u32 0, .int .i64 0], .int .i64 err])) ∧ Below w.heap.size w w' := by
  obtain ⟨u, v, hcut, hpar, hnum⟩ := hP
  have HCUT := Lib.hid hcut
  have HPAR := Lib.hid hpar
  have HNUM := Lib.hid hnum
  clear hcut hpar hnum
  go_enter Tryd.func71, Tryd.ntmps71
  go_wp2_with fail
  refine (HCUT.out _ ((Below.refl _ _).alloc (Nat.le_refl _) _)).mono ?_
  rintro e w1 ⟨rfl, n, hw1⟩
  have hB1 : Below w.heap.size w w1 := by rw [hw1]; exact below_drewN ((Below.refl _ _).alloc (Nat.le_refl _) _) n
  have B1 : Box w1 w.heap.size 0 0 := by rw [hw1]; exact heap_alloc_new w _
  have HB1 := Lib.hid hB1
  have HX1 := Lib.hid B1
  clear hw1 hB1 B1
  go_wp2_with fail
  refine (HPAR.out _ HB1.out).mono ?_
  rintro e w2 ⟨rfl, hb2⟩
  have HX2 := Lib.hid (HX1.out.grow hb2)
  have HB2 := Lib.hid (bthen HB1.out HB1.out.size hb2)
  clear hb2
  go_wp2_with fail
  refine (HNUM.out _).mono ?_
  rintro e w3 ⟨rfl, hb3⟩
  have HX3 := Lib.hid (HX2.out.grow hb3)
  have HB3 := Lib.hid (bthen HB2.out HB2.out.size hb3)
  clear hb3
  have hs3 := HX3.out.lt
  have X0 : Box w3 w.heap.size 0 0 := HX3.out
  have HB4 := Lib.hid HB3.out
  obtain ⟨p0, p1⟩ := X0.cells
  have f0 : w3.frozen? ⟨w.heap.size, 0, none⟩ = false := by simp [World.frozen?, show w3.heap[w.heap.size]? = _ from X0]
  have f1 : w3.frozen? ⟨w.heap.size, 1, none⟩ = false := by simp [World.frozen?, show w3.heap[w.heap.size]? = _ from X0]
  have hs4 := X0.lt
  clear X0
  go_wp2_with fail
  try simp only [Exit.inBlock, Exit.then]
  refine bodyPost_ret (results_cell25 rfl _ _ w.heap.size 0 0 rfl (by go_simp) (by go_simp)) rfl ?_
  exact ⟨⟨_, by decide, rfl⟩, (HB4.out.setCell (Nat.le_refl _) _).setCell (Nat.le_refl _) _⟩
set_option maxRecDepth 100000 in
set_option maxHeartbeats 2000000 in
theorem pp_bad3 (s : ByteArray) (a b : Nat) (m : Int) (w : World) (hP : PpCalls s m w true a 11 b true) (ha : a < 4294967296) :
    Calls Tryd.prog 71 #[.string s] w fun e w' => (∃ err : Int, err ≠ 0 ∧ e = .returned (.tuple #[.agg #[.int .u32 0, .int .i64 0], .int .i64 err])) ∧ Below w.heap.size w w' := by
  obtain ⟨u, v, hcut, hpar, hnum⟩ := hP
  have HCUT := Lib.hid hcut
  have HPAR := Lib.hid hpar
  have HNUM := Lib.hid hnum
  clear hcut hpar hnum
  go_enter Tryd.func71, Tryd.ntmps71
  go_wp2_with fail
  refine (HCUT.out _ ((Below.refl _ _).alloc (Nat.le_refl _) _)).mono ?_
  rintro e w1 ⟨rfl, n, hw1⟩
  have hB1 : Below w.heap.size w w1 := by rw [hw1]; exact below_drewN ((Below.refl _ _).alloc (Nat.le_refl _) _) n
  have B1 : Box w1 w.heap.size 0 0 := by rw [hw1]; exact heap_alloc_new w _
  have HB1 := Lib.hid hB1
  have HX1 := Lib.hid B1
  clear hw1 hB1 B1
  go_wp2_with fail
  refine (HPAR.out _ HB1.out).mono ?_
  rintro e w2 ⟨rfl, hb2⟩
  have HX2 := Lib.hid (HX1.out.grow hb2)
  have HB2 := Lib.hid (bthen HB1.out HB1.out.size hb2)
  clear hb2
  go_wp2_with fail
  refine (HNUM.out _).mono ?_
  rintro e w3 ⟨rfl, hb3⟩
  have HX3 := Lib.hid (HX2.out.grow hb3)
  have HB3 := Lib.hid (bthen HB2.out HB2.out.size hb3)
  clear hb3
  have hs3 := HX3.out.lt
  have X0 : Box w3 w.heap.size 0 0 := HX3.out
  have HB4 := Lib.hid HB3.out
  obtain ⟨p0, p1⟩ := X0.cells
  have f0 : w3.frozen? ⟨w.heap.size, 0, none⟩ = false := by simp [World.frozen?, show w3.heap[w.heap.size]? = _ from X0]
  have f1 : w3.frozen? ⟨w.heap.size, 1, none⟩ = false := by simp [World.frozen?, show w3.heap[w.heap.size]? = _ from X0]
  have hs4 := X0.lt
  clear X0
  go_wp2_with fail
  try simp only [Exit.inBlock, Exit.then]
  refine bodyPost_ret (results_cell25 rfl _ _ w.heap.size 0 0 rfl (by go_simp) (by go_simp)) rfl ?_
  exact ⟨⟨_, by decide, rfl⟩, (HB4.out.setCell (Nat.le_refl _) _).setCell (Nat.le_refl _) _⟩
set_option maxRecDepth 100000 in
set_option maxHeartbeats 2000000 in
theorem pp_bad4 (s : ByteArray) (a b : Nat) (m : Int) (w : World) (hP : PpCalls s m w true a 10 b true) (ha : a < 4294967296) :
    Calls Tryd.prog 71 #[.string s] w fun e w' => (∃ err : Int, err ≠ 0 ∧ e = .returned (.tuple #[.agg #[.int .u32 0, .int .i64 0], .int .i64 err])) ∧ Below w.heap.size w w' := by
  obtain ⟨u, v, hcut, hpar, hnum⟩ := hP
  have HCUT := Lib.hid hcut
  have HPAR := Lib.hid hpar
  have HNUM := Lib.hid hnum
  clear hcut hpar hnum
  go_enter Tryd.func71, Tryd.ntmps71
  go_wp2_with fail
  refine (HCUT.out _ ((Below.refl _ _).alloc (Nat.le_refl _) _)).mono ?_
  rintro e w1 ⟨rfl, n, hw1⟩
  have hB1 : Below w.heap.size w w1 := by rw [hw1]; exact below_drewN ((Below.refl _ _).alloc (Nat.le_refl _) _) n
  have B1 : Box w1 w.heap.size 0 0 := by rw [hw1]; exact heap_alloc_new w _
  have HB1 := Lib.hid hB1
  have HX1 := Lib.hid B1
  clear hw1 hB1 B1
  go_wp2_with fail
  refine (HPAR.out _ HB1.out).mono ?_
  rintro e w2 ⟨rfl, hb2⟩
  have HX2 := Lib.hid (HX1.out.grow hb2)
  have HB2 := Lib.hid (bthen HB1.out HB1.out.size hb2)
  clear hb2
  go_wp2_with fail
  refine (HNUM.out _).mono ?_
  rintro e w3 ⟨rfl, hb3⟩
  have HX3 := Lib.hid (HX2.out.grow hb3)
  have HB3 := Lib.hid (bthen HB2.out HB2.out.size hb3)
  clear hb3
  have hs3 := HX3.out.lt
  have X0 : Box w3 w.heap.size 0 0 := HX3.out
  have HB4 := Lib.hid HB3.out
  obtain ⟨p0, p1⟩ := X0.cells
  have f0 : w3.frozen? ⟨w.heap.size, 0, none⟩ = false := by simp [World.frozen?, show w3.heap[w.heap.size]? = _ from X0]
  have f1 : w3.frozen? ⟨w.heap.size, 1, none⟩ = false := by simp [World.frozen?, show w3.heap[w.heap.size]? = _ from X0]
  have hs4 := X0.lt
  clear X0
  go_wp2_with fail
  try simp only [Exit.inBlock, Exit.then]
  refine bodyPost_ret (results_cell25 rfl _ _ w.heap.size 0 0 rfl (by go_simp) (by go_simp)) rfl ?_
  exact ⟨⟨_, by decide, rfl⟩, (HB4.out.setCell (Nat.le_refl _) _).setCell (Nat.le_refl _) _⟩
set_option maxRecDepth 100000 in
set_option maxHeartbeats 2000000 in
theorem pp_bad5 (s : ByteArray) (a b : Nat) (m : Int) (w : World) (hP : PpCalls s m w true a 0 b true) (ha : a < 4294967296) (h4 : 32 < b) :
    Calls Tryd.prog 71 #[.string s] w fun e w' => (∃ err : Int, err ≠ 0 ∧ e = .returned (.tuple #[.agg #[.int .u32 0, .int .i64 0], .int .i64 err])) ∧ Below w.heap.size w w' := by
  obtain ⟨u, v, hcut, hpar, hnum⟩ := hP
  have HCUT := Lib.hid hcut
  have HPAR := Lib.hid hpar
  have HNUM := Lib.hid hnum
  have hb32 : (32 : Int) < (b : Int) := by omega
  clear hcut hpar hnum
  go_enter Tryd.func71, Tryd.ntmps71
  go_wp2_with fail
  refine (HCUT.out _ ((Below.refl _ _).alloc (Nat.le_refl _) _)).mono ?_
  rintro e w1 ⟨rfl, n, hw1⟩
  have hB1 : Below w.heap.size w w1 := by rw [hw1]; exact below_drewN ((Below.refl _ _).alloc (Nat.le_refl _) _) n
  have B1 : Box w1 w.heap.size 0 0 := by rw [hw1]; exact heap_alloc_new w _
  have HB1 := Lib.hid hB1
  have HX1 := Lib.hid B1
  clear hw1 hB1 B1
  go_wp2_with fail
  refine (HPAR.out _ HB1.out).mono ?_
  rintro e w2 ⟨rfl, hb2⟩
  have HX2 := Lib.hid (HX1.out.grow hb2)
  have HB2 := Lib.hid (bthen HB1.out HB1.out.size hb2)
  clear hb2
  go_wp2_with fail
  refine (HNUM.out _).mono ?_
  rintro e w3 ⟨rfl, hb3⟩
  have HX3 := Lib.hid (HX2.out.grow hb3)
  have HB3 := Lib.hid (bthen HB2.out HB2.out.size hb3)
  clear hb3
  have hs3 := HX3.out.lt
  have X0 : Box w3 w.heap.size 0 0 := HX3.out
  have HB4 := Lib.hid HB3.out
  obtain ⟨p0, p1⟩ := X0.cells
  have f0 : w3.frozen? ⟨w.heap.size, 0, none⟩ = false := by simp [World.frozen?, show w3.heap[w.heap.size]? = _ from X0]
  have f1 : w3.frozen? ⟨w.heap.size, 1, none⟩ = false := by simp [World.frozen?, show w3.heap[w.heap.size]? = _ from X0]
  have hs4 := X0.lt
  clear X0
  go_wp2_with fail
  try simp only [Exit.inBlock, Exit.then]
  refine bodyPost_ret (results_cell25 rfl _ _ w.heap.size 0 0 rfl (by go_simp) (by go_simp)) rfl ?_
  exact ⟨⟨_, by decide, rfl⟩, (HB4.out.setCell (Nat.le_refl _) _).setCell (Nat.le_refl _) _⟩
set_option maxRecDepth 100000 in
set_option maxHeartbeats 2000000 in
theorem pp_bad6 (s : ByteArray) (a b : Nat) (m : Int) (w : World) (hP : PpCalls s m w true a 0 b true) (ha : a < 4294967296) (h4 : b ≤ 32) (h5 : chkE a b ≠ 0) :
    Calls Tryd.prog 71 #[.string s] w fun e w' => (∃ err : Int, err ≠ 0 ∧ e = .returned (.tuple #[.agg #[.int .u32 0, .int .i64 0], .int .i64 err])) ∧ Below w.heap.size w w' := by
  obtain ⟨u, v, hcut, hpar, hnum⟩ := hP
  have HCUT := Lib.hid hcut
  have HPAR := Lib.hid hpar
  have HNUM := Lib.hid hnum
  have hb32 : (b : Int) ≤ 32 := by omega
  have HC := Lib.hid h5
  have hne : (chkE a b != 0) = true := by simpa using h5
  clear h5
  clear hcut hpar hnum
  go_enter Tryd.func71, Tryd.ntmps71
  go_wp2_with fail
  refine (HCUT.out _ ((Below.refl _ _).alloc (Nat.le_refl _) _)).mono ?_
  rintro e w1 ⟨rfl, n, hw1⟩
  have hB1 : Below w.heap.size w w1 := by rw [hw1]; exact below_drewN ((Below.refl _ _).alloc (Nat.le_refl _) _) n
  have B1 : Box w1 w.heap.size 0 0 := by rw [hw1]; exact heap_alloc_new w _
  have HB1 := Lib.hid hB1
  have HX1 := Lib.hid B1
  clear hw1 hB1 B1
  go_wp2_with fail
  refine (HPAR.out _ HB1.out).mono ?_
  rintro e w2 ⟨rfl, hb2⟩
  have HX2 := Lib.hid (HX1.out.grow hb2)
  have HB2 := Lib.hid (bthen HB1.out HB1.out.size hb2)
  clear hb2
  go_wp2_with fail
  refine (HNUM.out _).mono ?_
  rintro e w3 ⟨rfl, hb3⟩
  have HX3 := Lib.hid (HX2.out.grow hb3)
  have HB3 := Lib.hid (bthen HB2.out HB2.out.size hb3)
  clear hb3
  have hs3 := HX3.out.lt
  go_wp2_with fail
  refine (check_any a b _ ha).mono ?_
  rintro e w4 ⟨rfl, hb4⟩
  have hB4 : Below w3.heap.size w3 w4 := bthen ((Below.refl _ _).alloc (Nat.le_refl _) _) (by simp) hb4
  have X0 : Box w4 w.heap.size 0 0 := HX3.out.grow hB4
  have HB4 := Lib.hid (bthen HB3.out HB3.out.size hB4)
  clear hb4 hB4
  obtain ⟨p0, p1⟩ := X0.cells
  have f0 : w4.frozen? ⟨w.heap.size, 0, none⟩ = false := by simp [World.frozen?, show w4.heap[w.heap.size]? = _ from X0]
  have f1 : w4.frozen? ⟨w.heap.size, 1, none⟩ = false := by simp [World.frozen?, show w4.heap[w.heap.size]? = _ from X0]
  have hs4 := X0.lt
  clear X0
  go_wp2_with fail
  try simp only [Exit.inBlock, Exit.then]
  refine bodyPost_ret (results_cell25 rfl _ _ w.heap.size 0 0 rfl (by go_simp) (by go_simp)) rfl ?_
  exact ⟨⟨_, HC.out, rfl⟩, (HB4.out.setCell (Nat.le_refl _) _).setCell (Nat.le_refl _) _⟩
end Go.Proofs.YtaknlphmplimhaaDoor
