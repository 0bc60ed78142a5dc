import Derived.Test.YtnhanjjkmjpmlaaHa
import Derived.Handy
set_option linter.unusedVariables false
set_option linter.unusedSimpArgs false
namespace Go.Proofs.Ytnhanjjkmjpmlaa.Pk
open Go.RowKit Go.Proofs.Ytnhanjjkmjpmlaa.PPktBack Go.Proofs.YtnhanjjkmjpmlaaW.PrintWords Go.Proofs.YtnhanjjkmjpmlaaW.PrintLast
theorem res13 (tmps : Array Value) (WF : World) (g : Nat) (x0 : Int) (x1 : Int) (x2 : Int) (x3 : Int) (x4 : Int) (x5 : Int) (x6 : Bool) (x7 : Bool) (x8 : ByteArray) (ht : tmps.getD 2 undef = .pointer (some ⟨g, 0, none⟩))
    (h0 : WF.cell? ⟨g, 0, none⟩ = some (.int .u32 x0))
    (h1 : WF.cell? ⟨g, 1, none⟩ = some (.int .u32 x1))
    (h2 : WF.cell? ⟨g, 2, none⟩ = some (.int .i64 x2))
    (h3 : WF.cell? ⟨g, 3, none⟩ = some (.int .i64 x3))
    (h4 : WF.cell? ⟨g, 4, none⟩ = some (.int .i64 x4))
    (h5 : WF.cell? ⟨g, 5, none⟩ = some (.int .i64 x5))
    (h6 : WF.cell? ⟨g, 6, none⟩ = some (.bool x6))
    (h7 : WF.cell? ⟨g, 7, none⟩ = some (.bool x7))
    (h8 : WF.cell? ⟨g, 8, none⟩ = some (.string x8)) :
    (results Try.f13 tmps).run Try.prog WF = .ok (.tuple #[.agg #[.int .u32 x0, .int .u32 x1, .int .i64 x2, .int .i64 x3, .int .i64 x4, .int .i64 x5, .bool x6, .bool x7, .string x8], tmps.getD 3 undef, tmps.getD 4 undef]) WF := by
  simp only [Array.getD_eq_getD_getElem?] at ht
  simp [results, Try.results13, ht, asAddr, loadVar, go_sem, h0, h1, h2, h3, h4, h5, h6, h7, h8, Try.isAgg24, Try.sizeOf24]
theorem cells9 (W : World) (g : Nat) (a0 a1 a2 a3 a4 a5 a6 a7 a8 : Value) (hl : g < W.heap.size) (hc0 : (W.cell? ⟨g, 0, none⟩).isSome) (hc1 : (W.cell? ⟨g, 1, none⟩).isSome) (hc2 : (W.cell? ⟨g, 2, none⟩).isSome) (hc3 : (W.cell? ⟨g, 3, none⟩).isSome) (hc4 : (W.cell? ⟨g, 4, none⟩).isSome) (hc5 : (W.cell? ⟨g, 5, none⟩).isSome) (hc6 : (W.cell? ⟨g, 6, none⟩).isSome) (hc7 : (W.cell? ⟨g, 7, none⟩).isSome) (hc8 : (W.cell? ⟨g, 8, none⟩).isSome) :
    (World.setCell (World.setCell (World.setCell (World.setCell (World.setCell (World.setCell (World.setCell (World.setCell (World.setCell W ⟨g, 0, none⟩ a0) ⟨g, 1, none⟩ a1) ⟨g, 2, none⟩ a2) ⟨g, 3, none⟩ a3) ⟨g, 4, none⟩ a4) ⟨g, 5, none⟩ a5) ⟨g, 6, none⟩ a6) ⟨g, 7, none⟩ a7) ⟨g, 8, none⟩ a8).cell? ⟨g, 0, none⟩ = some a0 ∧ (World.setCell (World.setCell (World.setCell (World.setCell (World.setCell (World.setCell (World.setCell (World.setCell (World.setCell W ⟨g, 0, none⟩ a0) ⟨g, 1, none⟩ a1) ⟨g, 2, none⟩ a2) ⟨g, 3, none⟩ a3) ⟨g, 4, none⟩ a4) ⟨g, 5, none⟩ a5) ⟨g, 6, none⟩ a6) ⟨g, 7, none⟩ a7) ⟨g, 8, none⟩ a8).cell? ⟨g, 1, none⟩ = some a1 ∧ (World.setCell (World.setCell (World.setCell (World.setCell (World.setCell (World.setCell (World.setCell (World.setCell (World.setCell W ⟨g, 0, none⟩ a0) ⟨g, 1, none⟩ a1) ⟨g, 2, none⟩ a2) ⟨g, 3, none⟩ a3) ⟨g, 4, none⟩ a4) ⟨g, 5, none⟩ a5) ⟨g, 6, none⟩ a6) ⟨g, 7, none⟩ a7) ⟨g, 8, none⟩ a8).cell? ⟨g, 2, none⟩ = some a2 ∧ (World.setCell (World.setCell (World.setCell (World.setCell (World.setCell (World.setCell (World.setCell (World.setCell (World.setCell W ⟨g, 0, none⟩ a0) ⟨g, 1, none⟩ a1) ⟨g, 2, none⟩ a2) ⟨g, 3, none⟩ a3) ⟨g, 4, none⟩ a4) ⟨g, 5, none⟩ a5) ⟨g, 6, none⟩ a6) ⟨g, 7, none⟩ a7) ⟨g, 8, none⟩ a8).cell? ⟨g, 3, none⟩ = some a3 ∧ (World.setCell (World.setCell (World.setCell (World.setCell (World.setCell (World.setCell (World.setCell (World.setCell (World.setCell W ⟨g, 0, none⟩ a0) ⟨g, 1, none⟩ a1) ⟨g, 2, none⟩ a2) ⟨g, 3, none⟩ a3) ⟨g, 4, none⟩ a4) ⟨g, 5, none⟩ a5) ⟨g, 6, none⟩ a6) ⟨g, 7, none⟩ a7) ⟨g, 8, none⟩ a8).cell? ⟨g, 4, none⟩ = some a4 ∧ (World.setCell (World.setCell (World.setCell (World.setCell (World.setCell (World.setCell (World.setCell (World.setCell (World.setCell W ⟨g, 0, none⟩ a0) ⟨g, 1, none⟩ a1) ⟨g, 2, none⟩ a2) ⟨g, 3, none⟩ a3) ⟨g, 4, none⟩ a4) ⟨g, 5, none⟩ a5) ⟨g, 6, none⟩ a6) ⟨g, 7, none⟩ a7) ⟨g, 8, none⟩ a8).cell? ⟨g, 5, none⟩ = some a5 ∧ (World.setCell (World.setCell (World.setCell (World.setCell (World.setCell (World.setCell (World.setCell (World.setCell (World.setCell W ⟨g, 0, none⟩ a0) ⟨g, 1, none⟩ a1) ⟨g, 2, none⟩ a2) ⟨g, 3, none⟩ a3) ⟨g, 4, none⟩ a4) ⟨g, 5, none⟩ a5) ⟨g, 6, none⟩ a6) ⟨g, 7, none⟩ a7) ⟨g, 8, none⟩ a8).cell? ⟨g, 6, none⟩ = some a6 ∧ (World.setCell (World.setCell (World.setCell (World.setCell (World.setCell (World.setCell (World.setCell (World.setCell (World.setCell W ⟨g, 0, none⟩ a0) ⟨g, 1, none⟩ a1) ⟨g, 2, none⟩ a2) ⟨g, 3, none⟩ a3) ⟨g, 4, none⟩ a4) ⟨g, 5, none⟩ a5) ⟨g, 6, none⟩ a6) ⟨g, 7, none⟩ a7) ⟨g, 8, none⟩ a8).cell? ⟨g, 7, none⟩ = some a7 ∧ (World.setCell (World.setCell (World.setCell (World.setCell (World.setCell (World.setCell (World.setCell (World.setCell (World.setCell W ⟨g, 0, none⟩ a0) ⟨g, 1, none⟩ a1) ⟨g, 2, none⟩ a2) ⟨g, 3, none⟩ a3) ⟨g, 4, none⟩ a4) ⟨g, 5, none⟩ a5) ⟨g, 6, none⟩ a6) ⟨g, 7, none⟩ a7) ⟨g, 8, none⟩ a8).cell? ⟨g, 8, none⟩ = some a8 := by
  obtain ⟨z0, hc0⟩ := Option.isSome_iff_exists.1 hc0
  obtain ⟨z1, hc1⟩ := Option.isSome_iff_exists.1 hc1
  obtain ⟨z2, hc2⟩ := Option.isSome_iff_exists.1 hc2
  obtain ⟨z3, hc3⟩ := Option.isSome_iff_exists.1 hc3
  obtain ⟨z4, hc4⟩ := Option.isSome_iff_exists.1 hc4
  obtain ⟨z5, hc5⟩ := Option.isSome_iff_exists.1 hc5
  obtain ⟨z6, hc6⟩ := Option.isSome_iff_exists.1 hc6
  obtain ⟨z7, hc7⟩ := Option.isSome_iff_exists.1 hc7
  obtain ⟨z8, hc8⟩ := Option.isSome_iff_exists.1 hc8
  refine ⟨?_, ?_, ?_, ?_, ?_, ?_, ?_, ?_, ?_⟩ <;> go_simp
theorem head_end2 (s : ByteArray) (w W : World) (tmps : Array Value) (v04 vn y0 y1 y2 y3 y5 : Int) (y6 y7 : Bool) (ht : tmps.getD 2 undef = .pointer (some ⟨w.heap.size, 0, none⟩)) (ht3 : tmps.getD 3 undef = .int .i64 vn) (ht4 : tmps.getD 4 undef = .int .i64 0)
    (hl : w.heap.size < W.heap.size) (hc0 : (W.cell? ⟨w.heap.size, 0, none⟩).isSome) (hc1 : (W.cell? ⟨w.heap.size, 1, none⟩).isSome) (hc2 : (W.cell? ⟨w.heap.size, 2, none⟩).isSome) (hc3 : (W.cell? ⟨w.heap.size, 3, none⟩).isSome) (hc4 : (W.cell? ⟨w.heap.size, 4, none⟩).isSome) (hc5 : (W.cell? ⟨w.heap.size, 5, none⟩).isSome) (hc6 : (W.cell? ⟨w.heap.size, 6, none⟩).isSome) (hc7 : (W.cell? ⟨w.heap.size, 7, none⟩).isSome) (hc8 : (W.cell? ⟨w.heap.size, 8, none⟩).isSome)
    (hE : HeadIs s (.returned (.tuple #[.agg #[(.int .u32 y0), (.int .u32 y1), (.int .i64 y2), (.int .i64 y3), (.int .i64 v04), (.int .i64 y5), (.bool y6), (.bool y7), (.string ⟨#[]⟩)], .int .i64 vn, .int .i64 0]))) (hb : Below w.heap.size w W) :
    bodyPost Try.prog Try.f13 (fun e w' => HeadIs s e ∧ Below w.heap.size w w') Exit.ret { tmps := tmps, defers := [] } (World.setCell (World.setCell (World.setCell (World.setCell (World.setCell (World.setCell (World.setCell (World.setCell (World.setCell W ⟨w.heap.size, 0, none⟩ (.int .u32 y0)) ⟨w.heap.size, 1, none⟩ (.int .u32 y1)) ⟨w.heap.size, 2, none⟩ (.int .i64 y2)) ⟨w.heap.size, 3, none⟩ (.int .i64 y3)) ⟨w.heap.size, 4, none⟩ (.int .i64 v04)) ⟨w.heap.size, 5, none⟩ (.int .i64 y5)) ⟨w.heap.size, 6, none⟩ (.bool y6)) ⟨w.heap.size, 7, none⟩ (.bool y7)) ⟨w.heap.size, 8, none⟩ (.string ⟨#[]⟩)) := by
  obtain ⟨r0, r1, r2, r3, r4, r5, r6, r7, r8⟩ := cells9 W w.heap.size (.int .u32 y0) (.int .u32 y1) (.int .i64 y2) (.int .i64 y3) (.int .i64 v04) (.int .i64 y5) (.bool y6) (.bool y7) (.string ⟨#[]⟩) hl hc0 hc1 hc2 hc3 hc4 hc5 hc6 hc7 hc8
  have hr := res13 tmps _ w.heap.size _ _ _ _ _ _ _ _ _ ht r0 r1 r2 r3 r4 r5 r6 r7 r8
  rw [ht3, ht4] at hr
  refine bodyPost_ret hr rfl ⟨hE, ?_⟩
  exact (((((((((hb.setCell (Nat.le_refl _) _).setCell (Nat.le_refl _) _).setCell (Nat.le_refl _) _).setCell (Nat.le_refl _) _).setCell (Nat.le_refl _) _).setCell (Nat.le_refl _) _).setCell (Nat.le_refl _) _).setCell (Nat.le_refl _) _).setCell (Nat.le_refl _) _)
end Go.Proofs.Ytnhanjjkmjpmlaa.Pk
