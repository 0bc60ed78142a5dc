/- Openings of arguments: a prefix by value, a slice of entries; and what the list of variables gives of ten. -/
import Derived.Test.YtaknlphmplimhaaDoorCards
import Derived.Test.YtaknlphmplimhaaDoorTie
import Derived.Test.YtaknlphmplimhaaDoorTh
import Derived.WalkKit
import Derived.ProofKit
import Derived.OpenShut
import Derived.Lib.SmallJoins
import Derived.Deep.Slices
import Derived.Deep.DeepHandedRow
import Derived.Lib.LaidTab
set_option linter.unusedVariables false
set_option linter.unusedSimpArgs false
namespace Go.Proofs.YtaknlphmplimhaaDoor
open Go.ChangeShapes Go.WideShapes Go.ChangeAt Go.RowKit Go.Joins Go.Proofs

theorem ownT : ownKnob Tryd.prog.godebug = none := by kernel_rfl
theorem gTen : Tryd.prog.globalNamed "patchbay/patchbaykeep2.ten" = some 0 := by kernel_rfl
theorem gTenType : (Tryd.prog.globals[0]?).map (·.type) = some 25 := by kernel_rfl
theorem cells25 : Tryd.prog.cellsOf 25 = 2 := by kernel_rfl
theorem cells36 : Tryd.prog.cellsOf 36 = 3 := by kernel_rfl
theorem cells23 : Tryd.prog.cellsOf 23 = 1 := by kernel_rfl
theorem cells3 : Tryd.prog.cellsOf 3 = 1 := by kernel_rfl
/-- What the list gives: the variable ten holds 10.0.0.0/8. -/
theorem ten_of_vars {W : World} {rest : List (String × DataW Unit)} (h : laidMet Tryd.prog (("patchbay/patchbaykeep2.ten", Rows.laid_patchbay_patchbaykeep2_ten) :: rest) W) :
    W.cell? ⟨0, 0, none⟩ = some (.int .u32 167772160) ∧ W.cell? ⟨0, 1, none⟩ = some (.int .i64 8) := by
  obtain ⟨ps, ⟨g', t', cs, fuel, p, q, hg', ht', hvar, hd, _, _⟩, _⟩ := h
  obtain rfl := Option.some.inj (gTen.symm.trans hg')
  obtain rfl := Option.some.inj (gTenType.symm.trans ht')
  obtain ⟨y0, y1, n, hx, hl, h0, h1⟩ := trod_struct2 Tryd.underlying25 hd
  obtain ⟨a, e0, rfl, wa⟩ := DataW.trod_int Tryd.underlying23 h0
  obtain ⟨b, e1, rfl, wb⟩ := DataW.trod_int Tryd.underlying3 h1
  rw [cells25] at hl
  simp only [cells23, cells3] at e0 e1
  match hcs : cs.toList, hl with
  | [x, y], _ =>
    rw [hcs] at e0 e1
    simp only [List.drop_zero, List.take_succ_cons, List.take_zero, List.cons.injEq, and_true, List.drop_succ_cons] at e0 e1
    subst e0 e1
    simp only [Rows.laid_patchbay_patchbaykeep2_ten, Prod.mk.injEq, DataW.agg.injEq, List.cons.injEq, DataW.lit.injEq, Lit.int.injEq, true_and, and_true] at hx
    obtain ⟨⟨rfl, rfl⟩, _⟩ := hx
    have hc : cs = #[.int .u32 167772160, .int .i64 8] := by cases cs; simpa using hcs
    subst hc
    exact ⟨by have := World.var?_cell gTen hvar 0; simpa using this, by have := World.var?_cell gTen hvar 1; simpa using this⟩

set_option maxRecDepth 100000 in
/-- A prefix by value, opened. -/
theorem open_prefix {H : Type} {enc : TypeId × Value → H} {w : World} {base : Nat} {spare : Nat → Bool} {held : Bool} {r : Reach} {b0 : Nat} {v : Value} {d : DataW H} {p : List MemPlace}
    (hv : Value.okWide Tryd.prog w r b0 25 v) (h : DataW.Trod enc Tryd.prog w base spare held 25 v d p) :
    ∃ (a : Nat) (b : Int), v = .agg #[.int .u32 a, .int .i64 b] ∧ a < 4294967296 ∧ (Lit.int .i64 b).wf = true := by
  obtain ⟨c0, c1, y0, y1, m, rfl, rfl, rfl, hy0, hy1⟩ := open_agg2 Tryd.underlying25 (by kernel_rfl) cells25 hv h
  obtain ⟨a, e0, rfl, wa⟩ := DataW.trod_int Tryd.underlying23 hy0
  obtain ⟨b, e1, rfl, wb⟩ := DataW.trod_int Tryd.underlying3 hy1
  simp at e0 e1
  subst e0 e1
  obtain ⟨h0, h1⟩ := bounds_u32 wa
  obtain ⟨n, rfl⟩ := Int.eq_ofNat_of_zero_le h0
  exact ⟨n, b, rfl, by omega, wb⟩
instance : Inhabited En := ⟨⟨0, 0, 0⟩⟩
set_option maxRecDepth 100000 in
/-- A slice of entries, opened: the world holds its entries. -/
theorem open_entries {H : Type} {enc : TypeId × Value → H} {w : World} {v : Value} {d : DataW H} {p : List MemPlace} {b0 : Nat} {r : Reach}
    (hv : Value.okWide Tryd.prog w r b0 22 v) (h : DataW.Trod enc Tryd.prog w 0 (fun _ => true) true 22 v d p) :
    ∃ A n c es, v = .slice A n c ∧ n ≤ c ∧ ReadsE w A n es := by
  obtain ⟨a0, len, cap, rfl⟩ := okWide_slice Tryd.underlying22 hv
  obtain ⟨fuel, hf⟩ := h
  rcases Go.Deep.open_slice Tryd.underlying22 hf with ⟨hcs, hx⟩ | ⟨a, len', cap', m, n, D, Pl, hcs, hb, hl, hm, hmm, hx, hel⟩
  · have : a0 = none ∧ len = 0 ∧ cap = 0 := by simpa [Value.cells] using hcs
    obtain ⟨rfl, rfl, rfl⟩ := this
    exact ⟨none, 0, 0, [], rfl, by omega, ⟨rfl, by omega, fun h => absurd h (by omega), by simp⟩⟩
  · have : a0 = some a ∧ len = len' ∧ cap = cap' := by simpa [Value.cells] using hcs
    obtain ⟨rfl, rfl, rfl⟩ := this
    simp only [if_true] at hmm
    subst hmm
    rw [cells36] at hel
    rcases Nat.eq_zero_or_pos len with h0 | hpos
    · subst h0
      exact ⟨some a, 0, m, [], rfl, by omega, ⟨rfl, by omega, fun h => absurd h (by omega), by simp⟩⟩
    obtain ⟨blk, off, spot⟩ := a
    have each : ∀ i, i < len → ∃ e : En, e.a < 4294967296 ∧ w.cell? ((⟨blk, off, spot⟩ : Addr).add (i * 3)) = some (.int .u32 e.a) ∧ w.cell? (((⟨blk, off, spot⟩ : Addr).add (i * 3)).add 1) = some (.int .i64 e.b) ∧ w.cell? (((⟨blk, off, spot⟩ : Addr).add (i * 3)).add 2) = some (.int .i64 e.v) := by
      intro i hi
      obtain ⟨cs', h1, h2⟩ := hel i (by omega)
      obtain ⟨_, hlen, hc⟩ := World.cells?_some h1
      obtain ⟨y0, y1, k, _, _, q0, q1⟩ := trod_struct2 Tryd.underlying36 h2
      obtain ⟨z0, z1, k', _, _, r0, r1⟩ := trod_struct2 Tryd.underlying25 q0
      obtain ⟨x, e0, _, wx⟩ := DataW.trod_int Tryd.underlying23 r0
      obtain ⟨y, e1, _, wy⟩ := DataW.trod_int Tryd.underlying3 r1
      obtain ⟨z, e2, _, wz⟩ := DataW.trod_int Tryd.underlying3 q1
      simp only [cells23, cells3, cells25] at e0 e1 e2
      match cs', hlen with
      | [c0, c1, c2], _ =>
        simp at e0 e1 e2
        subst e0 e1 e2
        obtain ⟨b0', b1'⟩ := bounds_u32 wx
        obtain ⟨x, rfl⟩ := Int.eq_ofNat_of_zero_le b0'
        refine ⟨⟨x, y, z⟩, (show x < 4294967296 by omega), ?_, ?_, ?_⟩
        · have := hc 0 (by omega)
          rw [Go.Deep.add_add] at this
          simpa using this
        · simpa using hc 1 (by omega)
        · simpa using hc 2 (by omega)
    have hspot : spot = none := by
      obtain ⟨e, _, h0', _⟩ := each 0 hpos
      simpa [Addr.add] using World.cell?_spot h0'
    subst hspot
    obtain ⟨f, hf'⟩ := Go.Deep.choose_lt each
    refine ⟨some ⟨blk, off, none⟩, len, m, (List.range len).map f, rfl, hl, ⟨by simp, by unfold maxLen at hm; omega, fun _ => ⟨blk, off, rfl, ?_, ?_⟩, ?_⟩⟩
    · obtain ⟨_, h1, _⟩ := hf' 0 hpos
      have := World.block_lt_of_cell? w _ h1
      simpa [Addr.add] using this
    · intro i hi
      have hi' : i < len := by simpa using hi
      obtain ⟨_, h1, h2, h3⟩ := hf' i hi'
      rw [Go.Deep.add_add, Go.WideShapes.add_plain] at h2 h3
      rw [Go.WideShapes.add_plain] at h1
      simp only [List.getElem_map, List.getElem_range]
      exact ⟨h1, by rw [Nat.add_assoc]; exact h2, by rw [Nat.add_assoc]; exact h3⟩
    · intro e he
      obtain ⟨i, hi, rfl⟩ := List.mem_map.1 he
      exact (hf' i (List.mem_range.1 hi)).1
end Go.Proofs.YtaknlphmplimhaaDoor
