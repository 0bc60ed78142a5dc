/- The walks of (*press.node).shape, (*press.Press).Shape and Nodes: the nodes' prefixes in order; a compressed table that the world holds. -/
import Derived.Test.YtaknlphmplimhaaDoorSp
import Derived.Test.YtaknlphmplimhaaDoorPu
import Derived.Test.YtaknlphmplimhaaDoorLi
set_option linter.unusedVariables false
set_option linter.unusedSimpArgs false
namespace Go.Proofs.YtaknlphmplimhaaDoor
open Go.RowKit Go.Proofs
/-- The nodes' prefixes, in order. -/
def prefs : PT → List Pf
  | .nil => []
  | .node _ a d l r _ _ => ⟨a, d⟩ :: (prefs l ++ prefs r)
def ShapePost (base : Nat) (w : World) (ov : Value) (es : List Pf) (e : Ending) (w' : World) : Prop :=
  ∃ ov', e = .returned ov' ∧ RowP base w' ov' es ∧ w.grownBy w' ov.ownBlock ∧ ∀ j, ov'.ownBlock = some j → w.heap.size ≤ j ∨ ov.ownBlock = some j
theorem RepP.grownBy {w w' : World} {t : PT} {row : Option Nat} (h : RepP w t) (hg : w.grownBy w' row) (hd : ∀ x ∈ t.dom, some x ≠ row) : RepP w' t := h.keep fun b hb => hg.block b (h.lt b hb) (hd b hb)
set_option maxRecDepth 100000 in
set_option maxHeartbeats 3200000 in
theorem shape_any (base : Nat) : ∀ (t : PT) (w : World) (ov : Value) (es : List Pf), RepP w t → (∀ x ∈ t.dom, x < base) → base ≤ w.heap.size → RowP base w ov es → es.length + (prefs t).length ≤ 1000000 →
    Calls Tryd.prog 91 #[.pointer t.addr, ov] w (ShapePost base w ov (es ++ prefs t)) := by
  intro t
  induction t with
  | nil =>
    intro w ov es hr hd hb hown hlen
    have HO := Lib.hid hown
    clear hown
    simp only [PT.addr]
    go_enter Tryd.func91, Tryd.ntmps91
    go_wp2_with fail
    go_ret
    refine ⟨ov, rfl, ?_, World.grownBy.refl _ _, fun j hj => .inr hj⟩
    simp only [prefs, List.append_nil]
    exact HO.out
  | node g a d l r v h ihl ihr =>
    intro w ov es hr hdm hb hown hlen
    obtain ⟨i0, hi0, hz0, hz1, hz2⟩ := info_parts info25
    obtain ⟨c0, c1, c2, c3, c4, c5⟩ := cell_nodeP hr
    have hgl := World.block_lt_of_cell? w _ c0
    simp only at hgl
    have hgb : g < base := hdm g (by simp [PT.dom])
    have HO := Lib.hid hown
    have HR := Lib.hid hr
    have HL := Lib.hid hlen
    have HD := Lib.hid hdm
    have HIL := Lib.hid ihl
    have HIR := Lib.hid ihr
    have hn : es.length + 1 ≤ maxLen := by simp only [maxLen]; omega
    have hbt : (es.length + 1) * 16 ≤ 140737488355328 := by omega
    have ag : ov.ownBlock ≠ some g := fun h => by have := (hown.lt g h).1; omega
    clear hown hr hlen hdm ihl ihr
    simp only [PT.addr]
    go_enter Tryd.func91, Tryd.ntmps91
    go_wp2_with fail
    go_region_held3 (fun w' => w'.cell? ⟨g, 0, none⟩ = some (.int .u32 a) ∧ w'.cell? ⟨g, 1, none⟩ = some (.int .i64 d) ∧ w'.cell? ⟨g, 2, none⟩ = some l.ptr ∧ w'.cell? ⟨g, 3, none⟩ = some r.ptr)
      (first
        | (go_split_ands
           refine ⟨?_, ?_, ?_, ?_⟩ <;> first | assumption | (rw [hgrow.cell_far _ (by simp; omega) (Ne.symm ag)]; assumption) | go_keep))
      (first
        | ((refine step_append_lies _ (by rfl) _ _ _ (by rfl) base 25 i0 _ 2 16 Tryd.underlying60 hi0 hz0 hz1 hz2 rfl (by omega) ov es.length (es.flatMap cell2) (by rfl) ((World.ownsRow.alloc HO.out _).drew) ⟨w.heap.size, 0, none⟩ 1 1 [.int .u32 a, .int .i64 d] (by rfl) (by rfl) (World.news_of_block (cs := #[.int .u32 a, .int .i64 d]) (t := 25) (fr := (0, 0)) (heap_alloc_new w _)) (by simp [Value.oneCell']) (by omega) hn hbt (by simp; omega) (w.heap.size + 1) (by simp) ?_); intro gg cap w2 hown2 hgrow hat hlt
           have hg2 : w.grownBy w2 ov.ownBlock := (Lib.Hx.grownBy_drew (World.grownBy_alloc w _ _)).trans hgrow
           have p0 : w2.cell? ⟨g, 0, none⟩ = some (.int .u32 a) := (hg2.cell_far ⟨g, 0, none⟩ hgl (Ne.symm ag)).trans c0
           have p1 : w2.cell? ⟨g, 1, none⟩ = some (.int .i64 d) := (hg2.cell_far ⟨g, 1, none⟩ hgl (Ne.symm ag)).trans c1
           have p2 : w2.cell? ⟨g, 2, none⟩ = some l.ptr := (hg2.cell_far ⟨g, 2, none⟩ hgl (Ne.symm ag)).trans c2
           have p3 : w2.cell? ⟨g, 3, none⟩ = some r.ptr := (hg2.cell_far ⟨g, 3, none⟩ hgl (Ne.symm ag)).trans c3
           have HG2 := Lib.hid hg2
           have hrow2 : RowP base w2 (.slice (some ⟨gg, 0, none⟩) (es.length + 1) cap) (es ++ [⟨a, d⟩]) := by
             unfold RowP
             rw [List.length_append, List.flatMap_append]
             exact hown2
           have HROW2 := Lib.hid hrow2
           have hggn : gg ≠ g := fun e => by
             subst e
             rcases hat with h1 | h1
             · exact ag h1
             · omega
           have ag2 : (Value.slice (some ⟨gg, 0, none⟩) (es.length + 1) cap).ownBlock ≠ some g := fun h => hggn (by simpa [Value.ownBlock] using h)
           have A2 := Lib.hid (show ∀ j, (Value.slice (some ⟨gg, 0, none⟩) (es.length + 1) cap).ownBlock = some j → w.heap.size ≤ j ∨ ov.ownBlock = some j from fun j hj => by
             obtain rfl : gg = j := by simpa [Value.ownBlock] using hj
             rcases hat with h1 | h1
             · exact .inr h1
             · exact .inl (by omega))
           have HRL2 := Lib.hid (RepP.grownBy HR.out.2.1 hg2 (fun x hx h => by have := (HO.out.lt x h.symm).1; have := HD.out x (by simp [PT.dom, hx]); omega))
           have HRR2 := Lib.hid (RepP.grownBy HR.out.2.2 hg2 (fun x hx h => by have := (HO.out.lt x h.symm).1; have := HD.out x (by simp [PT.dom, hx]); omega))
           have IHL := Lib.hid (HIL.out w2 (.slice (some ⟨gg, 0, none⟩) (es.length + 1) cap) (es ++ [⟨a, d⟩]) HRL2.out (fun x hx => HD.out x (by simp [PT.dom, hx])) (Nat.le_trans hb hg2.size) hrow2 (by have := HL.out; simp only [prefs, List.length_cons, List.length_append, List.length_nil] at this ⊢; omega))
           have hsz2 : w.heap.size ≤ w2.heap.size := hg2.size
           clear hown2 hrow2 hg2 hat hlt)
        | ((with_reducible refine IHL.out.mono ?_); rintro e w3 ⟨ov3, rfl, hrow3, hg3, hat3⟩
           have q0 : w3.cell? ⟨g, 0, none⟩ = some (.int .u32 a) := (hg3.cell_far ⟨g, 0, none⟩ (by simp; omega) (Ne.symm ag2)).trans p0
           have q1 : w3.cell? ⟨g, 1, none⟩ = some (.int .i64 d) := (hg3.cell_far ⟨g, 1, none⟩ (by simp; omega) (Ne.symm ag2)).trans p1
           have q2 : w3.cell? ⟨g, 2, none⟩ = some l.ptr := (hg3.cell_far ⟨g, 2, none⟩ (by simp; omega) (Ne.symm ag2)).trans p2
           have q3 : w3.cell? ⟨g, 3, none⟩ = some r.ptr := (hg3.cell_far ⟨g, 3, none⟩ (by simp; omega) (Ne.symm ag2)).trans p3
           have ag3 : ov3.ownBlock ≠ some g := fun h => by
             rcases hat3 g h with h1 | h1
             · omega
             · exact ag2 h1
           have HG3 := Lib.hid (grown_step HG2.out hg3 A2.out)
           have A3 := Lib.hid (show ∀ j, ov3.ownBlock = some j → w.heap.size ≤ j ∨ ov.ownBlock = some j from fun j hj => by
             rcases hat3 j hj with h | h
             · exact .inl (Nat.le_trans hsz2 h)
             · exact A2.out j h)
           have HRR3 := Lib.hid (RepP.grownBy HRR2.out hg3 (fun x hx h => by have := (HROW2.out.lt x h.symm).1; have := HD.out x (by simp [PT.dom, hx]); omega))
           have IHR := Lib.hid (HIR.out w3 ov3 ((es ++ [⟨a, d⟩]) ++ prefs l) HRR3.out (fun x hx => HD.out x (by simp [PT.dom, hx])) (Nat.le_trans hb HG3.out.size) hrow3 (by have := HL.out; simp only [prefs, List.length_cons, List.length_append, List.length_nil] at this ⊢; omega))
           have hsz3 : w.heap.size ≤ w3.heap.size := HG3.out.size
           clear hrow3 hg3 hat3)
        | ((with_reducible refine IHR.out.mono ?_); rintro e w4 ⟨ov4, rfl, hrow4, hg4, hat4⟩
           have r0 : w4.cell? ⟨g, 0, none⟩ = some (.int .u32 a) := (hg4.cell_far ⟨g, 0, none⟩ (by simp; omega) (Ne.symm ag3)).trans q0
           have r1 : w4.cell? ⟨g, 1, none⟩ = some (.int .i64 d) := (hg4.cell_far ⟨g, 1, none⟩ (by simp; omega) (Ne.symm ag3)).trans q1
           have r2 : w4.cell? ⟨g, 2, none⟩ = some l.ptr := (hg4.cell_far ⟨g, 2, none⟩ (by simp; omega) (Ne.symm ag3)).trans q2
           have r3 : w4.cell? ⟨g, 3, none⟩ = some r.ptr := (hg4.cell_far ⟨g, 3, none⟩ (by simp; omega) (Ne.symm ag3)).trans q3
           have HG4 := Lib.hid (grown_step HG3.out hg4 A3.out)
           have A4 := Lib.hid (show ∀ j, ov4.ownBlock = some j → w.heap.size ≤ j ∨ ov.ownBlock = some j from fun j hj => by
             rcases hat4 j hj with h | h
             · exact .inl (Nat.le_trans hsz3 h)
             · exact A3.out j h)
           have HROW4 := Lib.hid hrow4
           clear hrow4 hg4 hat4)
        | fail)
    all_goals
      go_wp2_with fail
      go_ret
      refine ⟨ov4, rfl, ?_, HG4.out, A4.out⟩
      rw [show es ++ prefs (.node g a d l r v h) = ((es ++ [⟨a, d⟩]) ++ prefs l) ++ prefs r by simp [prefs]]
      exact HROW4.out
end Go.Proofs.YtaknlphmplimhaaDoor
