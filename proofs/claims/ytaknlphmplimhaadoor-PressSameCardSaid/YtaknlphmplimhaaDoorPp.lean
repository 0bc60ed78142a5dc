/- The walk of (*press.node).without: a subtrie without an entry that it has; a subtrie that the world holds. -/
import Derived.Test.YtaknlphmplimhaaDoorPo
set_option linter.unusedVariables false
set_option linter.unusedSimpArgs false
namespace Go.Proofs.YtaknlphmplimhaaDoor
open Go.RowKit Go.Proofs
attribute [local go_sem high] eqA25
def WithoutPost (t : PT) (x : List Bool) (w : World) (e : Ending) (w' : World) : Prop :=
  ∃ t' : PT, e = .returned (.pointer t'.addr) ∧ RepP w' t' ∧ t'.bt = BT.del t.bt x ∧ t'.dom.Sublist t.dom ∧ Kp t.dom w w'
def isNilP : PT → Bool
  | .nil => true
  | .node .. => false
/-- What is left of a node. -/
def fixP (g a d : Nat) (l r : PT) (v : Int) (h : Bool) : PT := if h then .node g a d l r v h else match l, r with | .nil, r => r | l, .nil => l | l, r => .node g a d l r v h
theorem fixP_bt (g a d : Nat) (l r : PT) (v : Int) (h : Bool) : (fixP g a d l r v h).bt = BT.fix (path a d) l.bt r.bt (if h then some v else none) := by
  cases h <;> cases l <;> cases r <;> rfl
theorem fixP_dom (g a d : Nat) (l r : PT) (v : Int) (h : Bool) : (fixP g a d l r v h).dom.Sublist (PT.dom (.node g a d l r v h)) := by
  cases h
  · cases l with
    | nil => cases r <;> simp [fixP, PT.dom]
    | node => cases r <;> simp [fixP, PT.dom]
  · exact List.Sublist.refl _
theorem fixP_rep {w : World} {g a d : Nat} {l r : PT} {v : Int} {h : Bool} (hr : RepP w (.node g a d l r v h)) : RepP w (fixP g a d l r v h) := by
  cases h
  · cases l with
    | nil => cases r <;> first | exact hr.2.2 | trivial
    | node => cases r <;> first | exact hr.2.1 | exact hr
  · exact hr
set_option maxHeartbeats 8000000 in
set_option maxRecDepth 100000 in
theorem withoutP_node (a b : Nat) (g na nd : Nat) (l r : PT) (v0 : Int) (h : Bool) (w : World) (hV : Val a b) (hr : RepP w (.node g na nd l r v0 h)) (hn : (PT.dom (.node g na nd l r v0 h)).Nodup) (hg0 : (PT.bt (.node g na nd l r v0 h)).get (path a b) ≠ none)
    (ihl : ∀ W, RepP W l → l.dom.Nodup → l.bt.get (path a b) ≠ none → Calls Tryd.prog 93 #[.pointer l.addr, .agg #[.int .u32 a, .int .i64 b]] W (WithoutPost l (path a b) W))
    (ihr : ∀ W, RepP W r → r.dom.Nodup → r.bt.get (path a b) ≠ none → Calls Tryd.prog 93 #[.pointer r.addr, .agg #[.int .u32 a, .int .i64 b]] W (WithoutPost r (path a b) W)) :
    Calls Tryd.prog 93 #[.pointer (some ⟨g, 0, none⟩), .agg #[.int .u32 a, .int .i64 b]] w (WithoutPost (.node g na nd l r v0 h) (path a b) w) := by
  have IHL := Lib.hid ihl
  have IHR := Lib.hid ihr
  have HR := Lib.hid hr
  have HN := Lib.hid hn
  have HV := Lib.hid hV
  have HVN := Lib.hid hr.1.1
  have hg := hr.lt g (by simp [PT.dom])
  have HG0 := Lib.hid hg0
  have HB0 := Lib.hid ((Below.refl w.heap.size w).alloc (Nat.le_refl _) (.cells #[.int .u32 a, .int .i64 b] 25))
  have HX0 := Lib.hid (heap_alloc_new w (.cells #[.int .u32 a, .int .i64 b] 25))
  clear hr hn hV ihl ihr hg0
  go_enter Tryd.func93, Tryd.ntmps93
  go_upto_region 1 with (fail)
  have HRX := Lib.hid (HR.out.grow HB0.out)
  generalize w.alloc (.cells #[.int .u32 a, .int .i64 b] 25) = wc at HB0 HX0 HRX ⊢
  have HBX := HB0
  have b0 : wc.cell? ⟨w.heap.size, 0, none⟩ = some (.int .u32 a) := cell_of_row _ w.heap.size 0 _ 25 (0, 0) HX0.out
  have b1 : wc.cell? ⟨w.heap.size, 1, none⟩ = some (.int .i64 b) := cell_of_row _ w.heap.size 1 _ 25 (0, 0) HX0.out
  obtain ⟨c0, c1, c2, c3, c4, c5⟩ := cell_nodeP HRX.out
  have hgl := HRX.out.lt g (by simp [PT.dom])
  have hbl := (Array.getElem?_eq_some_iff.1 HX0.out).1
  have f2 := frozenP HRX.out 2
  have f3 := frozenP HRX.out 3
  have f4 := frozenP HRX.out 4
  have f5 := frozenP HRX.out 5
  by_cases e1 : na = a ∧ nd = b
  · obtain ⟨rfl, rfl⟩ := e1
    go_wp2_with fail
    go_quiet (fail)
    go_upto_region 5 with (fail)
    have hrz := (HRX.out.same (w' := wc.drewN nq) rfl).put HN.out 0 false
    have hkz : Kp (PT.dom (.node g na nd l r v0 h)) w (((wc.drewN nq).setCell ⟨g, 4, none⟩ (.int .i64 0)).setCell ⟨g, 5, none⟩ (.bool false)) :=
      (((Kp.of_below HBX.out).drewN nq).setCell (p := ⟨g, 4, none⟩) (.inl (by simp [PT.dom])) _).setCell (p := ⟨g, 5, none⟩) (.inl (by simp [PT.dom])) _
    have HRZ := Lib.hid hrz
    have HKZ := Lib.hid hkz
    clear hrz hkz c0 c1 c2 c3 c4 c5 b0 b1 f2 f3 f4 f5
    generalize ((wc.drewN nq).setCell ⟨g, 4, none⟩ (.int .i64 0)).setCell ⟨g, 5, none⟩ (.bool false) = wz at HRZ HKZ ⊢
    have hrz := HRZ.out
    obtain ⟨c0, c1, c2, c3, c4, c5⟩ := cell_nodeP hrz
    have HF := Lib.hid (fixP_rep hrz)
    have HFB := Lib.hid (show (fixP g na nd l r 0 false).bt = BT.del (PT.bt (.node g na nd l r v0 h)) (path na nd) by
      rw [fixP_bt, show PT.bt (.node g na nd l r v0 h) = .node (path na nd) l.bt r.bt (if h then some v0 else none) from rfl, BT.del, if_pos rfl]
      rfl)
    have HFD := Lib.hid (show (fixP g na nd l r 0 false).dom.Sublist (PT.dom (.node g na nd l r v0 h)) from (fixP_dom _ _ _ _ _ _ _).trans (List.Sublist.refl _))
    clear hrz
    cases l <;> cases r
    all_goals
      simp only [PT.ptr, PT.addr] at c2 c3
      go_wp2_with fail
      go_ret
      exact ⟨_, rfl, HF.out, HFB.out, HFD.out, HKZ.out⟩
  · have HE := Lib.hid e1
    have hne : (((na : Int) == (a : Int)) && ((nd : Int) == (b : Int))) = false := by
      rw [Bool.eq_false_iff]
      intro k
      rw [Bool.and_eq_true, beq_iff_eq, beq_iff_eq] at k
      exact e1 ⟨by omega, by omega⟩
    have hne2 : ¬ ((na : Int) = (a : Int) ∧ (nd : Int) = (b : Int)) := fun k => e1 ⟨by omega, by omega⟩
    have hpn : path na nd ≠ path a b := fun k => e1 (path_same HVN.out HV.out k)
    have hp : path na nd <+: path a b := by
      by_cases hh : path na nd <+: path a b
      · exact hh
      · exact absurd (BT.get_none hh) HG0.out
    have hlt : nd < b := by
      have hl := hp.length_le
      rw [path_length, path_length] at hl
      rcases Nat.eq_or_lt_of_le hl with h1 | h1
      · exact absurd (hp.eq_of_length (by rw [path_length, path_length]; exact h1)) hpn
      · exact h1
    have hso := sideOf_path (p := path na nd) (a := a) (d := b) (by rw [path_length]; exact hlt)
    rw [path_length] at hso
    have hb32 := HV.out.2.1
    have ha := HV.out.1
    have hd31 : nd ≤ 31 := by omega
    have hget : (if sideOf (path na nd) (path a b) then r.bt.get (path a b) else l.bt.get (path a b)) ≠ none := by
      have := HG0.out
      rw [show PT.bt (.node g na nd l r v0 h) = .node (path na nd) l.bt r.bt (if h then some v0 else none) from rfl, BT.get, if_neg (Ne.symm hpn), if_pos hp] at this
      exact this
    have HNE := Lib.hid hpn
    clear e1 hp hpn
    go_wp2_with fail
    go_quiet (fail)
    go_wp2_with fail
    cases hbit : bitB a nd
    · rw [hbit] at hso
      rw [hso] at hget
      have HSO := Lib.hid hso
      have Hb := Lib.hid hbit
      have HG := Lib.hid (show l.bt.get (path a b) ≠ none from hget)
      clear hso hbit hget
      refine (side_f g nd a _ ha hd31 (by simpa using c1) Hb.out).mono ?_
      rintro e w1 ⟨rfl, rfl⟩
      go_wp2_with fail
      go_region_with (go_at_call 93; (refine (IHL.out _ ?_ ?_ HG.out).mono ?_); exact (HRX.out.2.1).keep fun _ _ => rfl; exact (nodP HN.out).2.1; rintro e w2 ⟨t2, rfl, q1, q2, q3, q5⟩; have hgb : w2.heap[g]? = some (.cells (cellsP na nd l.ptr r.ptr v0 h) 129 (0, 0)) := (q5.block g hgl (nodP HN.out).1.1).trans HRX.out.1.2; have d2 : w2.cell? ⟨g, 2, none⟩ = some l.ptr := cell_of_row w2 g 2 _ 129 (0, 0) hgb; have e2 : w2.frozen? ⟨g, 2, none⟩ = false := frozen_of_row hgb 2; have hg2 : g < w2.heap.size := (Array.getElem?_eq_some_iff.1 hgb).1; have Q1 := Lib.hid q1; have Q2 := Lib.hid q2; have Q3 := Lib.hid q3; have Q5 := Lib.hid q5; clear hgb q1 q2 q3 q5)
      all_goals
        have CL := Lib.hid (with_close_l (w := w) (W := wc.drewN _) (HRX.out.same (w' := wc.drewN _) rfl) HN.out (below_drewN HBX.out _) Q1.out ((nodP HN.out).2.1.sublist Q3.out) (fun y hy => .inl (Q3.out.subset hy)) Q5.out)
        generalize w2.setCell ⟨g, 2, none⟩ (.pointer t2.addr) = wz at CL ⊢
        clear c0 c1 c2 c3 c4 c5 d2 e2
        have hrz := CL.out.1
        obtain ⟨c0, c1, c2, c3, c4, c5⟩ := cell_nodeP hrz
        have HF := Lib.hid (fixP_rep hrz)
        have HFB := Lib.hid (show (fixP g na nd t2 r v0 h).bt = BT.del (PT.bt (.node g na nd l r v0 h)) (path a b) by
          rw [fixP_bt, show PT.bt (.node g na nd l r v0 h) = .node (path na nd) l.bt r.bt (if h then some v0 else none) from rfl, BT.del, if_neg HNE.out, HSO.out, Q2.out]
          rfl)
        have HFD := Lib.hid (show (fixP g na nd t2 r v0 h).dom.Sublist (PT.dom (.node g na nd l r v0 h)) from (fixP_dom _ _ _ _ _ _ _).trans (by simp only [PT.dom]; exact (Q3.out.append (List.Sublist.refl _)).cons_cons g))
        clear hrz
        cases h
        · cases t2 <;> cases r
          all_goals
            simp only [PT.ptr, PT.addr] at c2 c3
            go_wp2_with fail
            go_ret
            exact ⟨_, rfl, HF.out, HFB.out, HFD.out, CL.out.2.2.2⟩
        · go_wp2_with fail
          go_ret
          exact ⟨_, rfl, HF.out, HFB.out, HFD.out, CL.out.2.2.2⟩
    · rw [hbit] at hso
      rw [hso] at hget
      have HSO := Lib.hid hso
      have Hb := Lib.hid hbit
      have HG := Lib.hid (show r.bt.get (path a b) ≠ none from hget)
      clear hso hbit hget
      refine (side_t g nd a _ ha hd31 (by simpa using c1) Hb.out).mono ?_
      rintro e w1 ⟨rfl, rfl⟩
      go_wp2_with fail
      go_region_with (go_at_call 93; (refine (IHR.out _ ?_ ?_ HG.out).mono ?_); exact (HRX.out.2.2).keep fun _ _ => rfl; exact (nodP HN.out).2.2.1; rintro e w2 ⟨t2, rfl, q1, q2, q3, q5⟩; have hgb : w2.heap[g]? = some (.cells (cellsP na nd l.ptr r.ptr v0 h) 129 (0, 0)) := (q5.block g hgl (nodP HN.out).1.2).trans HRX.out.1.2; have d2 : w2.cell? ⟨g, 3, none⟩ = some r.ptr := cell_of_row w2 g 3 _ 129 (0, 0) hgb; have e2 : w2.frozen? ⟨g, 3, none⟩ = false := frozen_of_row hgb 3; have hg2 : g < w2.heap.size := (Array.getElem?_eq_some_iff.1 hgb).1; have Q1 := Lib.hid q1; have Q2 := Lib.hid q2; have Q3 := Lib.hid q3; have Q5 := Lib.hid q5; clear hgb q1 q2 q3 q5)
      all_goals
        have CL := Lib.hid (with_close_r (w := w) (W := wc.drewN _) (HRX.out.same (w' := wc.drewN _) rfl) HN.out (below_drewN HBX.out _) Q1.out ((nodP HN.out).2.2.1.sublist Q3.out) (fun y hy => .inl (Q3.out.subset hy)) Q5.out)
        generalize w2.setCell ⟨g, 3, none⟩ (.pointer t2.addr) = wz at CL ⊢
        clear c0 c1 c2 c3 c4 c5 d2 e2
        have hrz := CL.out.1
        obtain ⟨c0, c1, c2, c3, c4, c5⟩ := cell_nodeP hrz
        have HF := Lib.hid (fixP_rep hrz)
        have HFB := Lib.hid (show (fixP g na nd l t2 v0 h).bt = BT.del (PT.bt (.node g na nd l r v0 h)) (path a b) by
          rw [fixP_bt, show PT.bt (.node g na nd l r v0 h) = .node (path na nd) l.bt r.bt (if h then some v0 else none) from rfl, BT.del, if_neg HNE.out, HSO.out, Q2.out]
          rfl)
        have HFD := Lib.hid (show (fixP g na nd l t2 v0 h).dom.Sublist (PT.dom (.node g na nd l r v0 h)) from (fixP_dom _ _ _ _ _ _ _).trans (by simp only [PT.dom]; exact ((List.Sublist.refl _).append Q3.out).cons_cons g))
        clear hrz
        cases h
        · cases t2 <;> cases l
          all_goals
            simp only [PT.ptr, PT.addr] at c2 c3
            go_wp2_with fail
            go_ret
            exact ⟨_, rfl, HF.out, HFB.out, HFD.out, CL.out.2.2.2⟩
        · go_wp2_with fail
          go_ret
          exact ⟨_, rfl, HF.out, HFB.out, HFD.out, CL.out.2.2.2⟩
theorem withoutP_any (a b : Nat) (hV : Val a b) : ∀ (t : PT) (w : World), RepP w t → t.dom.Nodup → t.bt.get (path a b) ≠ none → Calls Tryd.prog 93 #[.pointer t.addr, .agg #[.int .u32 a, .int .i64 b]] w (WithoutPost t (path a b) w) := by
  intro t
  induction t with
  | nil => exact fun w _ _ h => absurd rfl h
  | node g na nd l r v0 h ihl ihr => exact fun w hr hn hg => withoutP_node a b g na nd l r v0 h w hV hr hn hg ihl ihr
end Go.Proofs.YtaknlphmplimhaaDoor
