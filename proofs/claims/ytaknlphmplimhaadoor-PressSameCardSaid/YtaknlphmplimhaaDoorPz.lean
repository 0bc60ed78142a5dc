/- The walk of pressLives, which returns true; the world holds the variable ten. -/
import Derived.Test.YtaknlphmplimhaaDoorPy
set_option linter.unusedVariables false
set_option linter.unusedSimpArgs false
namespace Go.Proofs.YtaknlphmplimhaaDoor
open Go.RowKit Go.Proofs
def two : List En := [⟨167772160, 8, 0⟩, ⟨184549376, 8, 0⟩]
theorem two_second : (bOf (two.take 1)).get (path 184549376 8) = none := by kernel_rfl
theorem two_new : ∀ i (h : i < two.length), (bOf (two.take i)).get (path two[i].a two[i].b.toNat) = none := by
  intro i h
  match i, h with
  | 0, _ => rfl
  | 1, _ => exact two_second
theorem two_ok : ∀ e, e ∈ two → chkE e.a e.b = 0 := by
  intro e he
  simp only [two, List.mem_cons, List.not_mem_nil, or_false] at he
  rcases he with rfl | rfl <;> decide
theorem two_shp : (bOf two).shp.length = 3 := by kernel_rfl
set_option maxHeartbeats 1000000 in
theorem pressLives_true (w : World) (h0 : w.cell? ⟨0, 0, none⟩ = some (.int .u32 167772160)) (h1 : w.cell? ⟨0, 1, none⟩ = some (.int .i64 8)) :
    Calls Tryd.prog 41 #[] w fun e w' => e = .returned (.bool true) ∧ Below w.heap.size w w' := by
  have hl := World.block_lt_of_cell? w _ h0
  simp only at hl
  go_enter Tryd.func41, Tryd.ntmps41
  go_wp2_with fail
  have hR : ReadsE (w.alloc (.cells #[.int .u32 167772160, .int .i64 8, .int .i64 0, .int .u32 184549376, .int .i64 8, .int .i64 0] 36)) (some ⟨w.heap.size, 0, none⟩) 2 two := by
    refine ⟨rfl, by decide, fun _ => ⟨w.heap.size, 0, rfl, by simp, fun i hi => ?_⟩, ?_⟩
    · match i, hi with
      | 0, _ => refine ⟨?_, ?_, ?_⟩ <;> simp [two]
      | 1, _ => refine ⟨?_, ?_, ?_⟩ <;> simp [two]
    · intro e he
      simp only [two, List.mem_cons, List.not_mem_nil, or_false] at he
      rcases he with rfl | rfl <;> decide
  refine (of_any _ 2 2 two _ hR (by decide) (by decide) two_ok two_new).mono ?_
  rintro e w2 ⟨tb, t, rfl, hT, hbt, hB, _⟩
  have hlen : (prefs t).length = 3 := by rw [prefs_len, hbt]; exact two_shp
  have HT := Lib.hid hT
  have HB := Lib.hid (show Below w.heap.size w w2 from ((Below.refl _ _).alloc (Nat.le_refl _) _).trans (hB.mono (by simp)))
  have HN := Lib.hid (fun W (h : PR W tb 2 t) => nodes_any tb t 2 W h (by rw [hlen]; decide))
  rw [hlen] at HN
  clear hR hT hbt hB hlen
  go_wp2_with fail
  refine (HN.out _ HT.out).mono ?_
  rintro e w3 ⟨rfl, hb3⟩
  have HB3 := Lib.hid (bthen HB.out HB.out.size hb3)
  clear hb3
  go_wp2_with fail
  go_ret
  exact ⟨rfl, HB3.out⟩
end Go.Proofs.YtaknlphmplimhaaDoor
