/- Opening of an argument that is a slice of prefixes. -/
import Derived.Test.YtaknlphmplimhaaDoorOp
import Derived.Test.YtaknlphmplimhaaDoorSp
set_option linter.unusedVariables false
set_option linter.unusedSimpArgs false
namespace Go.Proofs.YtaknlphmplimhaaDoor
open Go.ChangeShapes Go.WideShapes Go.ChangeAt Go.RowKit Go.Joins Go.Proofs
set_option maxRecDepth 100000 in
/-- A slice of prefixes, opened: the world holds its prefixes. -/
theorem open_prefixes {H : Type} {enc : TypeId × Value → H} {w : World} {v : Value} {d : DataW H} {p : List MemPlace} {b0 : Nat} {r : Reach}
    (hv : Value.okWide Tryd.prog w r b0 60 v) (h : DataW.Trod enc Tryd.prog w 0 (fun _ => true) true 60 v d p) :
    ∃ A n c es, v = .slice A n c ∧ n ≤ c ∧ ReadsP w A n es := by
  obtain ⟨a0, len, cap, rfl⟩ := okWide_slice Tryd.underlying60 hv
  obtain ⟨fuel, hf⟩ := h
  rcases Go.Deep.open_slice Tryd.underlying60 hf with ⟨hcs, hx⟩ | ⟨a, len', cap', m, n, D, Pl, hcs, hb, hl, hm, hmm, hx, hel⟩
  · have : a0 = none ∧ len = 0 ∧ cap = 0 := by simpa [Value.cells] using hcs
    obtain ⟨rfl, rfl, rfl⟩ := this
    exact ⟨none, 0, 0, [], rfl, by omega, ⟨rfl, by omega, fun h => absurd h (by omega), by simp⟩⟩
  · have : a0 = some a ∧ len = len' ∧ cap = cap' := by simpa [Value.cells] using hcs
    obtain ⟨rfl, rfl, rfl⟩ := this
    simp only [if_true] at hmm
    subst hmm
    rw [cells25] at hel
    rcases Nat.eq_zero_or_pos len with h0 | hpos
    · subst h0
      exact ⟨some a, 0, m, [], rfl, by omega, ⟨rfl, by omega, fun h => absurd h (by omega), by simp⟩⟩
    obtain ⟨blk, off, spot⟩ := a
    have each : ∀ i, i < len → ∃ e : Pf, e.a < 4294967296 ∧ w.cell? ((⟨blk, off, spot⟩ : Addr).add (i * 2)) = some (.int .u32 e.a) ∧ w.cell? (((⟨blk, off, spot⟩ : Addr).add (i * 2)).add 1) = some (.int .i64 e.b) := by
      intro i hi
      obtain ⟨cs', h1, h2⟩ := hel i (by omega)
      obtain ⟨_, hlen, hc⟩ := World.cells?_some h1
      obtain ⟨z0, z1, k', _, _, r0, r1⟩ := trod_struct2 Tryd.underlying25 h2
      obtain ⟨x, e0, _, wx⟩ := DataW.trod_int Tryd.underlying23 r0
      obtain ⟨y, e1, _, wy⟩ := DataW.trod_int Tryd.underlying3 r1
      simp only [cells23, cells3] at e0 e1
      match cs', hlen with
      | [c0, c1], _ =>
        simp at e0 e1
        subst e0 e1
        obtain ⟨b0', b1'⟩ := bounds_u32 wx
        obtain ⟨x, rfl⟩ := Int.eq_ofNat_of_zero_le b0'
        refine ⟨⟨x, y⟩, (show x < 4294967296 by omega), ?_, ?_⟩
        · have := hc 0 (by omega)
          rw [Go.Deep.add_add] at this
          simpa using this
        · simpa using hc 1 (by omega)
    have hspot : spot = none := by
      obtain ⟨e, _, h0', _⟩ := each 0 hpos
      simpa [Addr.add] using World.cell?_spot h0'
    subst hspot
    obtain ⟨f, hf'⟩ := Go.Deep.choose_lt each
    refine ⟨some ⟨blk, off, none⟩, len, m, (List.range len).map f, rfl, hl, ⟨by simp, by unfold maxLen at hm; omega, fun _ => ⟨blk, off, rfl, ?_, ?_⟩, ?_⟩⟩
    · obtain ⟨_, h1, _⟩ := hf' 0 hpos
      have := World.block_lt_of_cell? w _ h1
      simpa [Addr.add] using this
    · intro i hi
      have hi' : i < len := by simpa using hi
      obtain ⟨_, h1, h2⟩ := hf' i hi'
      rw [Go.Deep.add_add, Go.WideShapes.add_plain] at h2
      rw [Go.WideShapes.add_plain] at h1
      simp only [List.getElem_map, List.getElem_range]
      exact ⟨h1, by rw [Nat.add_assoc]; exact h2⟩
    · intro e he
      obtain ⟨i, hi, rfl⟩ := List.mem_map.1 he
      exact (hf' i (List.mem_range.1 hi)).1
end Go.Proofs.YtaknlphmplimhaaDoor
